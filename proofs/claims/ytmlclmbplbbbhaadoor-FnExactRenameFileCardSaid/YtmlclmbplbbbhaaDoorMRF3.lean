/- Part 3 of the walks and words that RF uses. No conditions of its own. -/
import Derived.Deep.LoopGhost
import Derived.Deep.QuietTactic
import Derived.BigQuiet
import Derived.Test.YtmlclmbplbbbhaaDoorMRF2

section
/- impl.rename: a file gets another name. No conditions of its own. -/
set_option linter.unusedVariables false
set_option linter.unusedSimpArgs false
namespace Go.Proofs.YtmlclmbplbbbhaaDoor.P
open Go Go.RowKit Go.Proofs.YtmlclmbplbbbhaaDoorW.PrintWords Go.Proofs.YtmlclmbplbbbhaaDoorW.PrintLast Go.Proofs.YtmlclmbplbbbhaaDoorW.PrintMore
def tabN11 : Bool × List (List Nat × List Nat) := (true, [([], []), ([0], [0]), ([1], [1]), ([2], [2]), ([], []), ([], []), ([3, 4, 0, 1, 2, 3, 4, 5], [3, 4]), ([6, 5, 0, 1, 2, 3, 4, 5], [5, 6])])
def bitN11 : List Nat := [0, 1, 3, 7, 0, 0, 63, 127]
theorem tabN11_ok : rtab .any (opsOf Tryd.f63 11) = tabN11 := by kernel_rfl
theorem bitN11_ok : waitsOk tabN11.2 bitN11 = true := by kernel_rfl
def tabN12 : Bool × List (List Nat × List Nat) := (true, [([], []), ([], []), ([1], [1]), ([2], [2]), ([3], [3]), ([], []), ([], []), ([6], [6]), ([4, 5, 7], [4, 5, 7]), ([0, 0, 1, 2, 3, 4, 5, 6, 7, 8], [0]), ([9, 0, 1, 2, 3, 4, 5, 6, 7, 8], [9]), ([10, 8, 8, 0, 1, 2, 3, 4, 5, 6, 7, 8], [8, 10])])
def bitN12 : List Nat := [0, 0, 2, 6, 14, 0, 0, 64, 254, 511, 1023, 2047]
theorem tabN12_ok : rtab .any (opsOf Tryd.f63 12) = tabN12 := by kernel_rfl
theorem bitN12_ok : waitsOk tabN12.2 bitN12 = true := by kernel_rfl
/-- File n is written anew as a whole: the new one leads to blocks that none of the others lead to. -/
theorem elem_put {W : World} {base g m c n : Nat} {P okx : Nat → Prop} {l : List S53} {x : S53} {A1 : Option Addr} {n1 c1 : Nat} (h : Kd.S k53 53 W base P (.slice (some ⟨g, 0, none⟩) m c) l) (hn : n < l.length)
    (hx : k53.M W base okx x [.string x.f0, .slice A1 n1 c1, .int .i64 x.f2]) (hap : ∀ k, okx k → ¬ P k) :
    Kd.S k53 53 (((W.setCell ⟨g, n * 3, none⟩ (.string x.f0)).setCell ⟨g, n * 3 + 1, none⟩ (.slice A1 n1 c1)).setCell ⟨g, n * 3 + 2, none⟩ (.int .i64 x.f2)) base (fun k => P k ∨ okx k) (.slice (some ⟨g, 0, none⟩) m c) (l.set n x) := by
  have hm := (Kd.S_reads' h).1
  have hg : P g := Kd.S_ok h g rfl
  have h1 : Kd.S k53 53 W base (fun k => (P k ∨ okx k) ∧ ¬ okx k) (.slice (some ⟨g, 0, none⟩) m c) l := Kd.S_mono h (fun k hk => ⟨.inl hk, fun h2 => hap k h2 hk⟩)
  obtain ⟨oki, cs, hcl, hM, hcc, hfr, hoki, hH⟩ := Kd.S_elem h1 ⟨ByteArray.empty, [], 0⟩ (n : Int) (by omega) (by omega)
  have hH2 := Kd.H_more (okg := okx) hH (fun k hk => .inr hk)
  have hsz : k53.sz = 3 := rfl
  obtain ⟨hH3, _⟩ := Kd.H_seg hH2 (by omega) (by omega) (seg := [.string x.f0, .slice A1 n1 c1, .int .i64 x.f2]) (j := 0) (by show 0 + 3 ≤ 3; omega) (fun q hq => by
    rcases List.mem_cons.1 hq with rfl | hq
    · rfl
    rcases List.mem_cons.1 hq with rfl | hq
    · rfl
    rw [List.mem_singleton.1 hq]; rfl)
  have e : cs.take 0 ++ [Value.string x.f0, .slice A1 n1 c1, .int .i64 x.f2] ++ cs.drop (0 + [Value.string x.f0, .slice A1 n1 c1, .int .i64 x.f2].length) = [.string x.f0, .slice A1 n1 c1, .int .i64 x.f2] := by
    rw [List.take_zero, List.nil_append, List.drop_of_length_le (by rw [hcl, hsz]; simp), List.append_nil]
  rw [e] at hH3
  have hH4 : Kd.H k53 53 (((W.setCell ⟨g, n * 3, none⟩ (.string x.f0)).setCell ⟨g, n * 3 + 1, none⟩ (.slice A1 n1 c1)).setCell ⟨g, n * 3 + 2, none⟩ (.int .i64 x.f2)) base (fun k => P k ∨ okx k) (.slice (some ⟨g, 0, none⟩) m c) l (n : Int) (fun k => oki k ∨ okx k) [.string x.f0, .slice A1 n1 c1, .int .i64 x.f2] := hH3
  have hfar : ∀ k, okx k → k ≠ g := fun k hk he => hap k hk (he ▸ hg)
  have hb := Kd.H_back hH4 (x' := x) (Kd.M_far (Kd.M_far (Kd.M_far hx hfar _) hfar _) hfar _) (fun k hk => .inr hk)
  rw [Int.toNat_natCast] at hb
  exact hb
theorem Kept.only {w W W' : World} {b : Nat} {S : Nat → Prop} (h : Kept w W S) (ho : Only W W' b) (hs : S b ∨ w.heap.size ≤ b) : Kept w W' S :=
  ⟨by rw [ho.2.2.2.1]; exact h.1, fun j hj hn => (ho.2.2.2.2 j (fun he => by rcases hs with h1 | h1; exact hn (he ▸ h1); omega)).trans (h.2 j hj hn)⟩
def impl_Files_rename.f (k : Nat) (q : Int) (l : List S53) (a1 a2 : ByteArray) : Option (Int × Int × List S53) :=
  (impl_Files_find.f k q l a1).bind fun t => if t.2 = true then (if a1.toList = a2.toList then some (0, q, l) else (if 0 ≤ t.1 ∧ t.1 < (l.length : Int) then ((impl_Files_find.f k q (l.eraseIdx t.1.toNat) a2).bind fun u =>
    if u.2 = true then (if 0 ≤ u.1 ∧ u.1 < ((l.eraseIdx t.1.toNat).length : Int) then some (0, q, (l.eraseIdx t.1.toNat).set u.1.toNat ⟨a2, (rd_T53 l t.1).f1, (rd_T53 l t.1).f2⟩) else none)
    else (if (0 ≤ u.1 ∧ u.1 ≤ ((l.eraseIdx t.1.toNat).length : Int)) ∧ l.length ≤ 1000000000 then some (0, q, (l.eraseIdx t.1.toNat).take u.1.toNat ++ [⟨a2, (rd_T53 l t.1).f1, (rd_T53 l t.1).f2⟩] ++ (l.eraseIdx t.1.toNat).drop u.1.toNat) else none)) else none)) else some (2, q, l)
set_option maxHeartbeats 4000000 in
set_option maxRecDepth 100000 in
theorem impl_Files_rename.none_ (k b : Nat) (q : Int) (l : List S53) (a1 a2 : ByteArray) (i : Int) (t : Bool) (e1 : impl_Files_find.f k q l a1 = some (i, t)) (ht : t = false ∨ (t = true ∧ a1.toList = a2.toList)) (w0 w : World) (hB : Below w0.heap.size w0 w) (P : Nat → Prop) (hF : FilesAt w w0.heap.size P b q l) :
    Calls Tryd.prog 63 #[.pointer (some ⟨b, 0, none⟩), .string a1, .string a2] w (FilesPost w0 w P b (if t = true then 0 else 2) q l) := by
  have hu := Tryd.underlying29
  have E1 := aM e1
  have HF := aM hF
  have HB := aM hB
  obtain ⟨v, hbox, hs, hP, hwb⟩ := hF
  obtain ⟨A, c, rfl, hlc, hC⟩ := Kd.S_reads hs
  have HC := aM hC
  have HL := aM hlc
  have hz := cellsZ2 hbox
  clear hP hC hlc hs hB e1 hbox hwb
  rcases ht with rfl | ⟨rfl, he⟩
  · go_enter Tryd.func63, Tryd.ntmps63
    go_wp2_with (first | ((with_reducible refine gate_callee (f := 71) rfl ?_); refine gL 17 Tryd.func71 #[.agg #[.int .i64 q, .slice A l.length c], .string a1] ?_; (with_reducible refine (impl_Files_find.calls k q _ _ l a1 i false _ HC.out HL.out E1.out).mono ?_); rintro e w1 ⟨rfl, hb⟩; refine ⟨_, rfl, ?_⟩; have HW := aM (HF.out.after hb); have HB' := aM (below_after HB.out hb); have HK := aM (Kept.below (Kept.refl w (fun k => k = b ∨ P k)) hb); clear hz hb))
    go_ret
    exact ⟨rfl, ⟨P, HW.out⟩, HB'.out, HK.out⟩
  · have hq : decide (a1.toList = a2.toList) = true := decide_eq_true he
    go_enter Tryd.func63, Tryd.ntmps63
    go_wp2_with (first | ((with_reducible refine gate_callee (f := 71) rfl ?_); refine gL 17 Tryd.func71 #[.agg #[.int .i64 q, .slice A l.length c], .string a1] ?_; (with_reducible refine (impl_Files_find.calls k q _ _ l a1 i true _ HC.out HL.out E1.out).mono ?_); rintro e w1 ⟨rfl, hb⟩; refine ⟨_, rfl, ?_⟩; have HW := aM (HF.out.after hb); have HB' := aM (below_after HB.out hb); have HK := aM (Kept.below (Kept.refl w (fun k => k = b ∨ P k)) hb); clear hz hb))
    go_ret
    exact ⟨rfl, ⟨P, HW.out⟩, HB'.out, HK.out⟩
set_option maxHeartbeats 4000000 in
set_option maxRecDepth 100000 in
theorem impl_Files_rename.moved_ (k b : Nat) (q : Int) (l : List S53) (a1 a2 : ByteArray) (n : Nat) (e1 : impl_Files_find.f k q l a1 = some ((n : Int), true)) (hne : a1.toList ≠ a2.toList) (hn : n < l.length) (j : Nat) (u : Bool) (e2 : impl_Files_find.f k q (l.eraseIdx n) a2 = some ((j : Int), u)) (hju : (u = true ∧ j < (l.eraseIdx n).length) ∨ (u = false ∧ j ≤ (l.eraseIdx n).length ∧ l.length ≤ 1000000000))
    (w0 w : World) (hB : Below w0.heap.size w0 w) (P : Nat → Prop) (hF : FilesAt w w0.heap.size P b q l) :
    Calls Tryd.prog 63 #[.pointer (some ⟨b, 0, none⟩), .string a1, .string a2] w (FilesPost w0 w P b 0 q (if u = true then (l.eraseIdx n).set j ⟨a2, (rd_T53 l (n : Int)).f1, (rd_T53 l (n : Int)).f2⟩ else (l.eraseIdx n).take j ++ [⟨a2, (rd_T53 l (n : Int)).f1, (rd_T53 l (n : Int)).f2⟩] ++ (l.eraseIdx n).drop j)) := by
  have hu := Tryd.underlying29
  have hu2 := Tryd.underlying53
  have E1 := aM e1
  have E2 := aM e2
  have HB := aM hB
  have HN := aM hn
  have HJU := aM hju
  clear hju
  obtain ⟨v, hbox, hs, hP, hwb⟩ := hF
  obtain ⟨A, m, c, rfl⟩ := S_form3 hs
  have hm : m = l.length := (Kd.S_reads' hs).1
  subst hm
  rcases S_shape hs with ⟨_, hl0, _, _⟩ | ⟨g, rfl⟩
  · omega
  have HL := aM (Kd.S_reads' hs).2.1
  have HC := aM (Kd.S_reads' hs).2.2
  have hcap := S_cap hs
  have hw := wrap_ix hn (by have := HL.out; omega)
  have HX := aM hbox
  have HP := aM hP
  have HWB := aM hwb
  have HS := aM hs
  have hz := cellsZ2 hbox
  have hq : (a1.toList == a2.toList) = false := beq_eq_false_iff_ne.2 hne
  have hn0 : (0 : Int) ≤ (n : Int) := Int.natCast_nonneg n
  have hnl : (n : Int) < (l.length : Int) := by omega
  clear hs hP hwb hbox hB e1 e2 hne hcap
  go_enter Tryd.func63, Tryd.ntmps63
  go_upto_region 6 with (first | ((with_reducible refine gate_callee (f := 71) rfl ?_); refine gL 17 Tryd.func71 #[.agg #[.int .i64 q, .slice (some ⟨g, 0, none⟩) l.length c], .string a1] ?_; (with_reducible refine (impl_Files_find.calls k q _ _ l a1 n true _ HC.out HL.out E1.out).mono ?_); rintro e w1 ⟨rfl, hb⟩; refine ⟨_, rfl, ?_⟩; replace HX := aM (blk_below HX.out hb); replace HS := aM (Kd.S_below HS.out hb); have HB1 := aM (below_after HB.out hb); have HK := aM (Kept.below (Kept.refl w (fun k => k = b ∨ P k)) hb); clear hz hb))
  obtain ⟨oki, A1, c1, hM, hoki, hc0, hc1, hc2, hdel⟩ := delF_keep (Kd.S_mono (Kd.S_bound HS.out) (ok' := fun k => P k ∧ k < w1.heap.size) (fun k hk => ⟨hk.1, hk.2.2.1⟩)) HN.out HB1.out.size
  have HM := aM hM
  have HOK := aM hoki
  have HDEL := aM hdel
  have hz := cellsZ2 HX.out
  clear hM hoki hdel
  go_upto_region 7 with (first | ((with_reducible refine gate_dst (N := 9) rfl ?_); refine bX 9 53 #[.string (⟨#[]⟩ : ByteArray), .slice none 0 0, .int .i64 0] ?_; intro bx hg wx hbox hb; have XX := aM hbox; have BX := aM hb; have GX := aM (show w1.heap.size = bx from hg.symm); clear hg hb hbox hz; have hc0' := (BX.out.cell (World.block_lt_of_cell? _ _ hc0)).trans hc0; have hc1' := (BX.out.cell (World.block_lt_of_cell? _ _ hc1)).trans hc1; have hc2' := (BX.out.cell (World.block_lt_of_cell? _ _ hc2)).trans hc2; have hzx := cellsZ3 XX.out))
  have BR := aM (below_set (j := 2) (v := .int .i64 (rd_T53 l (n : Int)).f2) (below_set (j := 1) (v := .slice A1 (rd_T53 l (n : Int)).f1.length c1) (below_set (j := 0) (v := .string (rd_T53 l (n : Int)).f0) BX.out (Nat.le_of_eq GX.out)) (Nat.le_of_eq GX.out)) (Nat.le_of_eq GX.out))
  have Y3 := aM (show (((wx.setCell ⟨bx, 0, none⟩ (.string (rd_T53 l (n : Int)).f0)).setCell ⟨bx, 1, none⟩ (.slice A1 (rd_T53 l (n : Int)).f1.length c1)).setCell ⟨bx, 2, none⟩ (.int .i64 (rd_T53 l (n : Int)).f2)).heap[bx]? = some (.cells #[.string (rd_T53 l (n : Int)).f0, .slice A1 (rd_T53 l (n : Int)).f1.length c1, .int .i64 (rd_T53 l (n : Int)).f2] 53 (0, 0)) from blk_set (blk_set (blk_set XX.out 0 _) 1 _) 2 _)
  clear hc0 hc1 hc2 hc0' hc1' hc2' hzx XX BX
  generalize ((wx.setCell ⟨bx, 0, none⟩ (.string (rd_T53 l (n : Int)).f0)).setCell ⟨bx, 1, none⟩ (.slice A1 (rd_T53 l (n : Int)).f1.length c1)).setCell ⟨bx, 2, none⟩ (.int .i64 (rd_T53 l (n : Int)).f2) = w3 at Y3 BR ⊢
  have X3 := aM (blk_below HX.out BR.out)
  have B3 := aM (below_after HB1.out BR.out)
  have K3 := aM (Kept.below HK.out BR.out)
  have M3 := aM (Kd.M_below HM.out BR.out)
  have HX0 := aM HX.out
  have HG := aM (Kd.S_ok HS.out g rfl)
  have HGB := aM (Kd.S_base HS.out g rfl)
  have HNE := aM (show b ≠ g from fun he => HP.out (he ▸ HG.out))
  have hz := cellsZ2 X3.out
  have hn := HN.out
  go_upto_region 8 with (first | ((with_reducible refine gate_callee (f := 75) rfl ?_); refine gL 40 Tryd.func75 #[.slice (some ⟨g, 0, none⟩) l.length c, .int .i64 n, .int .i64 ((n : Int) + 1)] ?_; (with_reducible refine (HDEL.out w3 BR.out).mono ?_); rintro e w4 ⟨v1, rfl, hs4, hg4, hv4⟩; refine ⟨_, rfl, ?_⟩; obtain ⟨A4, c4, rfl⟩ := Kd.S_slice hs4; have X4 := aM ((hg4.block b (box_lt X3.out) (fun he => HNE.out (by injection he))).trans X3.out); have S4 := aM hs4; have G4 := aM hg4; clear hz hs4 hg4; have hz := cellsZ2 X4.out))
  have hbg : bx ≠ g := by
    have h1 := GX.out
    have h2 := box_lt X3.out
    have h3 := Kd.S_lt HS.out g rfl
    omega
  have hbb : bx ≠ b := by
    have h1 := GX.out
    have h2 := box_lt HX.out
    omega
  have B4 := aM (pw_below_grown B3.out _ B3.out.size G4.out (fun k hk => by injection hk with hk; exact hk ▸ HGB.out))
  have K4 := aM (Kept.grown K3.out G4.out (fun k hk => by injection hk with hk; exact .inl (.inr (hk ▸ HG.out))))
  have Y4 := aM ((G4.out.block bx (box_lt Y3.out) (fun he => hbg (by injection he))).trans Y3.out)
  have M4 := aM (Kd.M_grown M3.out G4.out (fun k hk he => (HOK.out k hk).2 (by injection he)))
  have X5 := aM (blk_set X4.out 1 (.slice A4 (l.eraseIdx n).length c4))
  have S5 := aM (Kd.S_far (p := ⟨b, 1, none⟩) S4.out (fun k hk he => HP.out (by rw [← show k = b from he]; exact hk.1.1)) (.slice A4 (l.eraseIdx n).length c4))
  have M5 := aM (Kd.M_far (p := ⟨b, 1, none⟩) M4.out (fun k hk he => HP.out (by rw [← show k = b from he]; exact (HOK.out k hk).1.1)) (.slice A4 (l.eraseIdx n).length c4))
  have Y5 := aM ((Below.heap_setCell w4 ⟨b, 1, none⟩ (.slice A4 (l.eraseIdx n).length c4) bx hbb).trans Y4.out)
  have B5 := aM (below_set (j := 1) (v := .slice A4 (l.eraseIdx n).length c4) B4.out HWB.out)
  have K5 := aM (Kept.set (i := 1) (u := .slice A4 (l.eraseIdx n).length c4) K4.out (.inl (.inl rfl)))
  generalize w4.setCell ⟨b, 1, none⟩ (.slice A4 (l.eraseIdx n).length c4) = w5 at X5 S5 M5 Y5 B5 K5 ⊢
  clear hz X3 B3 K3 M3 Y3 X4 S4 B4 K4 M4 Y4 G4 HX HS
  have hzx := cellsZ3 Y5.out
  go_upto_region 9 with fail
  have HWX := aM (show w0.heap.size ≤ bx by have := GX.out; have := HB1.out.size; omega)
  have HWX2 := aM (show w.heap.size ≤ bx by have := GX.out; have := HK.out.1; omega)
  have Y6 := aM (show (w5.setCell ⟨bx, 0, none⟩ (.string a2)).heap[bx]? = some (.cells #[.string a2, .slice A1 (rd_T53 l (n : Int)).f1.length c1, .int .i64 (rd_T53 l (n : Int)).f2] 53 (0, 0)) from blk_set Y5.out 0 _)
  have X6 := aM ((Below.heap_setCell w5 ⟨bx, 0, none⟩ (.string a2) b (Ne.symm hbb)).trans X5.out)
  have S6 := aM (Kd.S_far (p := ⟨bx, 0, none⟩) S5.out (fun k hk he => by have h1 := GX.out; have h2 := hk.1.2; have h3 : k = bx := he; omega) (.string a2))
  have M6 := aM (Kd.M_far (p := ⟨bx, 0, none⟩) M5.out (fun k hk he => by have h1 := GX.out; have h2 := (HOK.out k hk).1.2; have h3 : k = bx := he; omega) (.string a2))
  have B6 := aM (below_set (j := 0) (v := .string a2) B5.out HWX.out)
  have K6 := aM (Kept.set (i := 0) (u := .string a2) K5.out (.inr HWX2.out))
  generalize w5.setCell ⟨bx, 0, none⟩ (.string a2) = w6 at X6 S6 M6 Y6 B6 K6 ⊢
  clear hzx X5 S5 M5 Y5 B5 K5
  have M7 := aM (show k53.M w6 w0.heap.size oki (⟨a2, (rd_T53 l (n : Int)).f1, (rd_T53 l (n : Int)).f2⟩ : S53) [.string a2, .slice A1 (rd_T53 l (n : Int)).f1.length c1, .int .i64 (rd_T53 l (n : Int)).f2] from by
    obtain ⟨v1, he, hR⟩ := k53_openM M6.out
    have he2 := (List.cons.inj (List.cons.inj he).2).1
    exact k53_mkM _ _ _ (⟨a2, (rd_T53 l (n : Int)).f1, (rd_T53 l (n : Int)).f2⟩ : S53) (he2 ▸ hR))
  clear M6
  have HC6 := aM (Kd.S_reads' S6.out).2.2
  have HL6 := aM (Kd.S_reads' S6.out).2.1
  have hz := cellsZ2 X6.out
  have HAP := aM (show ∀ k, oki k → ¬ ((P k ∧ k < w1.heap.size) ∧ ¬ oki k) from fun k hk h2 => h2.2 hk)
  have HPB := aM (show ∀ k, ((P k ∧ k < w1.heap.size) ∧ ¬ oki k) → k ≠ b from fun k hk he => HP.out (he ▸ hk.1.1))
  rcases HJU.out with ⟨rfl, hj⟩ | ⟨rfl, hj, hbig⟩
  · have HJ := aM hj
    clear hj HJU
    rcases S_shape S6.out with ⟨_, hl0, _, _⟩ | ⟨g4, rfl⟩
    · have := HJ.out; omega
    have HG4 := aM (Kd.S_ok S6.out g4 rfl)
    have HGB4 := aM (Kd.S_base S6.out g4 rfl)
    go_upto_region 11 with (first | ((with_reducible refine gate_callee (f := 71) rfl ?_); refine gL 50 Tryd.func71 #[.agg #[.int .i64 q, .slice (some ⟨g4, 0, none⟩) (l.eraseIdx n).length c4], .string a2] ?_; (with_reducible refine (impl_Files_find.calls k q _ _ (l.eraseIdx n) a2 j true _ HC6.out HL6.out E2.out).mono ?_); rintro e w7 ⟨rfl, hb⟩; refine ⟨_, rfl, ?_⟩; replace X6 := aM (blk_below X6.out hb); replace Y6 := aM (blk_below Y6.out hb); replace S6 := aM (Kd.S_below S6.out hb); replace M7 := aM (Kd.M_below M7.out hb); replace B6 := aM (below_after B6.out hb); replace K6 := aM (Kept.below K6.out hb); clear hz hb))
    (try simp only [Act.put, List.setIfInBounds_toArray, List.set_cons_zero, List.set_cons_succ])
    replace X6 := aM (blk_drew X6.out)
    replace Y6 := aM (blk_drew Y6.out)
    replace S6 := aM (Kd.S_drew S6.out)
    replace M7 := aM (Kd.M_below M7.out (below_drew (Below.refl _ _)))
    replace B6 := aM (below_drew1 B6.out)
    replace K6 := aM (Kept.below K6.out (below_drew (Below.refl _ _)))
    obtain ⟨oke, Ae, ce, _, _, hc0, hc1, hc2, hfr, _⟩ := elem_out S6.out HJ.out
    have hf0 := hfr 0
    have hf1 := hfr 1
    have hf2 := hfr 2
    rw [Nat.add_zero] at hf0
    have hj := HJ.out
    have hj0 : (0 : Int) ≤ (j : Int) := Int.natCast_nonneg j
    have hj1 : (j : Int) < ((l.eraseIdx n).length : Int) := by omega
    have dj1 : decide ((j : Int) < ((l.eraseIdx n).length : Int)) = true := decide_eq_true hj1
    refine sA 8 tabN11_ok bitN11_ok (fun w' => w'.cell? ⟨b, 1, none⟩ = some (.slice (some ⟨g4, 0, none⟩) (l.eraseIdx n).length c4) ∧ w'.cell? ⟨bx, 0, none⟩ = some (.string a2) ∧ w'.cell? ⟨bx, 1, none⟩ = some (.slice A1 (rd_T53 l (n : Int)).f1.length c1) ∧ w'.cell? ⟨bx, 2, none⟩ = some (.int .i64 (rd_T53 l (n : Int)).f2)) [7] (hS := ⟨(blk_cell X6.out 1).trans rfl, (blk_cell Y6.out 0).trans rfl, (blk_cell Y6.out 1).trans rfl, (blk_cell Y6.out 2).trans rfl⟩) (fun hHeld HT_ HW_ => ?_)
    generalize w7.drew = w8 at X6 Y6 S6 M7 B6 K6 hc0 hc1 hc2 hf0 hf1 hf2 hHeld ⊢
    refine pA 0 54 HT_ ?_; refine pA 1 55 HT_ ?_; refine pA 2 56 HT_ ?_; refine tA 3 57 HT_ HW_ hHeld ?_; refine pA 4 58 HT_ ?_; refine tA 5 59 HT_ HW_ hHeld ?_; refine pA 6 60 HT_ ?_
    refine last_ (i := 7) (N := none) #[true, true, true, true, true, true, true, true] rfl rfl (one_of HT_.out (by kernel_rfl)) (by decide) (fun K hK => ?_)
    refine skip_ (w1 := ((w8.setCell ⟨g4, j * 3, none⟩ (.string a2)).setCell ⟨g4, j * 3 + 1, none⟩ (.slice A1 (rd_T53 l (n : Int)).f1.length c1)).setCell ⟨g4, j * 3 + 2, none⟩ (.int .i64 (rd_T53 l (n : Int)).f2)) (by rfl) rfl ?_ ?_
    · clear hHeld
      go_simp
    refine hK.out _ _ ?_
    clear hK K
    refine done_ (done_of HT_.out (by kernel_rfl)) ?_
    have HO := aM (show Only w8 (((w8.setCell ⟨g4, j * 3, none⟩ (.string a2)).setCell ⟨g4, j * 3 + 1, none⟩ (.slice A1 (rd_T53 l (n : Int)).f1.length c1)).setCell ⟨g4, j * 3 + 2, none⟩ (.int .i64 (rd_T53 l (n : Int)).f2)) g4 from by repeat (first | (with_reducible apply Only.set) | exact Only.refl _ _))
    have S9 := aM (elem_put (x := ⟨a2, (rd_T53 l (n : Int)).f1, (rd_T53 l (n : Int)).f2⟩) S6.out hj M7.out HAP.out)
    generalize ((w8.setCell ⟨g4, j * 3, none⟩ (.string a2)).setCell ⟨g4, j * 3 + 1, none⟩ (.slice A1 (rd_T53 l (n : Int)).f1.length c1)).setCell ⟨g4, j * 3 + 2, none⟩ (.int .i64 (rd_T53 l (n : Int)).f2) = w9 at HO S9 ⊢
    go_wp2
    go_ret
    have hgb : b ≠ g4 := fun he => HP.out (he ▸ HG4.out.1.1)
    exact ⟨rfl, ⟨_, _, (HO.out.2.2.2.2 b hgb).trans X6.out, S9.out, fun hk => by rcases hk with hk | hk; exact HPB.out b hk rfl; exact HP.out (HOK.out b hk).1.1, HWB.out⟩, below_only B6.out HGB4.out HO.out, Kept.only K6.out HO.out (.inl (.inr HG4.out.1.1))⟩
  · have HJ := aM hj
    have HBG := aM hbig
    clear hj HJU hbig
    go_upto_region 12 with (first | ((with_reducible refine gate_callee (f := 71) rfl ?_); refine gL 50 Tryd.func71 #[.agg #[.int .i64 q, .slice A4 (l.eraseIdx n).length c4], .string a2] ?_; (with_reducible refine (impl_Files_find.calls k q _ _ (l.eraseIdx n) a2 j false _ HC6.out HL6.out E2.out).mono ?_); rintro e w7 ⟨rfl, hb⟩; refine ⟨_, rfl, ?_⟩; replace X6 := aM (blk_below X6.out hb); replace Y6 := aM (blk_below Y6.out hb); replace S6 := aM (Kd.S_below S6.out hb); replace M7 := aM (Kd.M_below M7.out hb); replace B6 := aM (below_after B6.out hb); replace K6 := aM (Kept.below K6.out hb); clear hz hb))
    (try simp only [Act.put, List.setIfInBounds_toArray, List.set_cons_zero, List.set_cons_succ])
    replace X6 := aM (blk_drew X6.out)
    replace Y6 := aM (blk_drew Y6.out)
    replace S6 := aM (Kd.S_drew S6.out)
    replace M7 := aM (Kd.M_below M7.out (below_drew (Below.refl _ _)))
    replace B6 := aM (below_drew1 B6.out)
    replace K6 := aM (Kept.below K6.out (below_drew (Below.refl _ _)))
    refine sA 12 tabN12_ok bitN12_ok (fun w' => w'.cell? ⟨b, 1, none⟩ = some (.slice A4 (l.eraseIdx n).length c4) ∧ w'.cell? ⟨bx, 0, none⟩ = some (.string a2) ∧ w'.cell? ⟨bx, 1, none⟩ = some (.slice A1 (rd_T53 l (n : Int)).f1.length c1) ∧ w'.cell? ⟨bx, 2, none⟩ = some (.int .i64 (rd_T53 l (n : Int)).f2)) [11] (hS := ⟨(blk_cell X6.out 1).trans rfl, (blk_cell Y6.out 0).trans rfl, (blk_cell Y6.out 1).trans rfl, (blk_cell Y6.out 2).trans rfl⟩) (fun hHeld HT_ HW_ => ?_)
    generalize w7.drew = w8 at X6 Y6 S6 M7 B6 K6 hHeld ⊢
    refine pA 0 61 HT_ ?_; refine pA 1 62 HT_ ?_; refine pA 2 63 HT_ ?_; refine pA 3 64 HT_ ?_; refine tA 4 65 HT_ HW_ hHeld ?_; refine pA 5 66 HT_ ?_; refine tA 6 67 HT_ HW_ hHeld ?_
    refine oA 7 68 HT_ (fun K hK => ?_)
    have H18 := aM (show w1.heap.size ≤ w8.heap.size by have h1 := box_lt Y6.out; have h2 := GX.out; omega)
    refine Kd.S_lit1_step k53 (w0 := w0) w0.heap.size 53 rfl (N := 68) rfl (xs := [(⟨a2, (rd_T53 l (n : Int)).f1, (rd_T53 l (n : Int)).f2⟩ : S53)]) (inner := [.string a2, .slice A1 (rd_T53 l (n : Int)).f1.length c1, .int .i64 (rd_T53 l (n : Int)).f2]) (ok := fun k => oki k ∨ w8.heap.size ≤ k) (okp := oki) ?hrun (Reps.c3 M7.out (Reps.none _ _)) (fun _ h => .inl h) (.inr (Nat.le_refl _)) B6.out B6.out.size (by simp) ?_ B6.out.size
    case hrun => clear hHeld; first | (go_simp; done) | (go_simp; rfl)
    intro v9 w9 hs9 hb9 hg9 hat9
    have hb : Below w8.heap.size w8 w9 := pw_below_grown (Below.refl _ _) _ (Nat.le_refl _) hg9 (fun k hk => by cases hk)
    obtain ⟨A9, c9, rfl⟩ := Kd.S_slice hs9
    have U9 := aM hs9
    replace X6 := aM (blk_below X6.out hb)
    replace Y6 := aM (blk_below Y6.out hb)
    replace S6 := aM (Kd.S_below S6.out hb)
    replace K6 := aM (Kept.below K6.out hb)
    have B9 := aM hb9
    have H89 := aM hb.size
    clear hs9 hb9 hg9 hat9 hb M7 B6
    refine hK.out _ _ ⟨(blk_cell X6.out 1).trans rfl, (blk_cell Y6.out 0).trans rfl, (blk_cell Y6.out 1).trans rfl, (blk_cell Y6.out 2).trans rfl⟩ (fun hHeld => ?_)
    clear hK K
    refine nA 68 ?_
    refine oA 8 69 HT_ (fun K hK => ?_)
    refine goes_ Tryd.func88 (by kernel_rfl) rfl #[.slice A4 (l.eraseIdx n).length c4, .int .i64 j, .slice A9 1 c9] (by rfl) rfl rfl zee81 ?_
    refine (insF_row j S6.out U9.out (fun k hk hk2 => by rcases hk2 with hk2 | hk2; exact HAP.out k hk2 hk; have h1 := hk.1.2; have h2 := H18.out; omega) HJ.out B9.out.size (by have h1 := HBG.out; have h2 := List.length_eraseIdx_le l n; omega)).mono ?_
    rintro e w10 ⟨v10, rfl, hs10, hg10⟩
    refine ⟨_, rfl, ?_⟩
    obtain ⟨A10, n10, c10, rfl⟩ := S_form3 hs10
    have hno := Kd.S_ok S6.out
    have X10 := aM ((hg10.block b (box_lt X6.out) (fun he => HPB.out b (hno b he.symm) rfl)).trans X6.out)
    have Y10 := aM ((hg10.block bx (box_lt Y6.out) (fun he => by have h1 := (hno bx he.symm).1.2; have h2 := GX.out; omega)).trans Y6.out)
    simp only [List.append_assoc, List.cons_append, List.nil_append] at hs10
    have S10 := aM hs10
    have K10 := aM (Kept.grown K6.out hg10 (fun k hk => .inl (.inr (hno k hk).1.1)))
    have B10 := aM (pw_below_grown B9.out _ B9.out.size hg10 (Kd.S_base S6.out))
    clear hs10 hg10 hno
    refine hK.out _ _ ⟨(blk_cell X10.out 1).trans rfl, (blk_cell Y10.out 0).trans rfl, (blk_cell Y10.out 1).trans rfl, (blk_cell Y10.out 2).trans rfl⟩ (fun hHeld => ?_)
    clear hK K
    refine nA 69 ?_; refine pA 9 70 HT_ ?_; refine pA 10 71 HT_ ?_
    have hz := cellsZ2 X10.out
    refine last_ (i := 11) (N := none) #[true, true, true, true, true, true, true, true, true, true, true, true] rfl rfl (one_of HT_.out (by kernel_rfl)) (by decide) (fun K hK => ?_)
    refine skip_ (w1 := w10.setCell ⟨b, 1, none⟩ (.slice A10 n10 c10)) (by rfl) rfl ?_ ?_
    · clear hHeld
      go_simp
    refine hK.out _ _ ?_
    clear hK K hz
    refine done_ (done_of HT_.out (by kernel_rfl)) ?_
    go_wp2
    go_ret
    exact ⟨rfl, ⟨_, FilesAt.put X10.out HWB.out S10.out (fun hk => by
      rcases hk with hk | (hk | hk) | hk
      · exact HPB.out b hk rfl
      · exact HP.out (HOK.out b hk).1.1
      · have h1 := box_lt HX0.out; have h2 := H18.out; omega
      · have h1 := box_lt HX0.out; have h2 := H18.out; have h3 := H89.out; omega)⟩, below_set B10.out HWB.out, Kept.set K10.out (.inl (.inl rfl))⟩
theorem impl_Files_rename.does (k b : Nat) (q : Int) (l : List S53) (a1 a2 : ByteArray) (r1 r2 : Int) (r3 : List S53) (w0 w : World) (hB : Below w0.heap.size w0 w) (P : Nat → Prop) (hF : FilesAt w w0.heap.size P b q l) (h : impl_Files_rename.f k q l a1 a2 = some (r1, r2, r3)) :
    Calls Tryd.prog 63 #[.pointer (some ⟨b, 0, none⟩), .string a1, .string a2] w (FilesPost w0 w P b r1 r2 r3) := by
  obtain ⟨⟨i, t⟩, e1, h⟩ := Option.bind_eq_some_iff.1 h
  cases t with
  | false =>
    simp only [Bool.false_eq_true, if_false, Option.some.injEq, Prod.mk.injEq] at h
    obtain ⟨rfl, rfl, rfl⟩ := h
    exact impl_Files_rename.none_ k b q l a1 a2 i false e1 (.inl rfl) w0 w hB P hF
  | true =>
    simp only [if_true] at h
    by_cases he : a1.toList = a2.toList
    · rw [if_pos he] at h
      simp only [Option.some.injEq, Prod.mk.injEq] at h
      obtain ⟨rfl, rfl, rfl⟩ := h
      exact impl_Files_rename.none_ k b q l a1 a2 i true e1 (.inr ⟨rfl, he⟩) w0 w hB P hF
    · rw [if_neg he] at h
      obtain ⟨⟨hi0, hi1⟩, h⟩ := ifS h
      obtain ⟨⟨j, u⟩, e2, h⟩ := Option.bind_eq_some_iff.1 h
      obtain ⟨n, rfl⟩ := Int.eq_ofNat_of_zero_le hi0
      rw [Int.toNat_natCast] at e2 h
      dsimp only at h
      have key := fun (hj0 : 0 ≤ j) hh => impl_Files_rename.moved_ k b q l a1 a2 n e1 he (by omega) j.toNat u (by rw [e2, Int.toNat_of_nonneg hj0]) hh w0 w hB P hF
      cases u with
      | true =>
        simp only [if_true] at h
        obtain ⟨⟨hj0, hj1⟩, h⟩ := ifS h
        simp only [Option.some.injEq, Prod.mk.injEq] at h
        obtain ⟨rfl, rfl, rfl⟩ := h
        have h2 := key hj0 (.inl ⟨rfl, by omega⟩)
        rw [if_pos rfl] at h2
        exact h2
      | false =>
        simp only [Bool.false_eq_true, if_false] at h
        obtain ⟨⟨⟨hj0, hj1⟩, hbig⟩, h⟩ := ifS h
        simp only [Option.some.injEq, Prod.mk.injEq] at h
        obtain ⟨rfl, rfl, rfl⟩ := h
        have h2 := key hj0 (.inr ⟨rfl, by omega, hbig⟩)
        rw [if_neg (by decide)] at h2
        exact h2
end Go.Proofs.YtmlclmbplbbbhaaDoor.P
end

section
/- impl.RenameFile, over impl.changed. No conditions of its own. -/
set_option linter.unusedVariables false
set_option linter.unusedSimpArgs false
namespace Go.Proofs.YtmlclmbplbbbhaaDoor.P
open Go Go.RowKit Go.Proofs.YtmlclmbplbbbhaaDoorW.PrintWords Go.Proofs.YtmlclmbplbbbhaaDoorW.PrintLast Go.Proofs.YtmlclmbplbbbhaaDoorW.PrintMore
set_option maxHeartbeats 4000000 in
set_option maxRecDepth 100000 in
theorem impl_RenameFile_1.does (k b p0 p1 : Nat) (q : Int) (l : List S53) (a1 : ByteArray) (a2 : ByteArray) (r1 r2 : Int) (r3 : List S53) (w0 w : World) (hB : Below w0.heap.size w0 w) (P : Nat → Prop) (hF : FilesAt w w0.heap.size P b q l) (hp0 : w.heap[p0]? = some (.cells #[.string a1] 9 (0, 0))) (hp1 : w.heap[p1]? = some (.cells #[.string a2] 9 (0, 0))) (h : impl_Files_rename.f k q l a1 a2 = some (r1, r2, r3)) :
    Calls Tryd.prog 62 #[.pointer (some ⟨b, 0, none⟩), .pointer (some ⟨p0, 0, none⟩), .pointer (some ⟨p1, 0, none⟩)] w (FilesPost w0 w P b r1 r2 r3) := by
  have hz0 := cellsZ1 hp0
  have hz1 := cellsZ1 hp1
  go_enter Tryd.func62, Tryd.ntmps62
  go_wp2_with (go_at_call 63; (with_reducible refine (impl_Files_rename.does k b q l a1 a2 r1 r2 r3 w0 _ hB P hF h).mono ?_); rintro e w1 ⟨he, hr⟩; subst he)
  go_ret
  exact ⟨rfl, hr⟩
def impl_RenameFile.f (k : Nat) (q : Int) (l : List S53) (a1 : ByteArray) (a2 : ByteArray) : Option (Int × List S53 × Int) := impl_changed.g k q l [a1, a2] (fun q1 l1 => impl_Files_rename.f k q1 l1 a1 a2)
set_option maxHeartbeats 4000000 in
set_option maxRecDepth 100000 in
theorem impl_RenameFile.calls (k : Nat) (a0_0 : Int) (A0_1 : Option Addr) (c0_1 : Nat) (l0_1 : List (S53)) (a1 : ByteArray) (a2 : ByteArray) (r1 : Int) (r2 : List (S53)) (r3 : Int) (w : World) (hr0_1 : Kd.C k53 w A0_1 l0_1.length l0_1) (hc0_1 : l0_1.length ≤ c0_1) (h : impl_RenameFile.f k a0_0 l0_1 a1 a2 = some (r1, r2, r3)) :
 Calls Tryd.prog 32 #[.agg #[.int .i64 a0_0, .slice A0_1 l0_1.length c0_1], .string a1, .string a2] w fun e w' => ∃ v1_ : Value, e = .returned (.tuple #[.agg #[.int .i64 r1, v1_], .int .i64 r3]) ∧ Kd.S k53 53 w' w.heap.size (fun _ => True) v1_ r2 ∧ Below w.heap.size w w' := by
  have hu := Tryd.underlying29
  have HB := aM (Below.refl w.heap.size w)
  have HR := aM hr0_1
  have HL := aM hc0_1
  have HH := aM h
  clear hr0_1 hc0_1 h
  go_enter Tryd.func32, Tryd.ntmps32
  go_wp2_with (first | ((with_reducible refine gate_dst (N := 3) rfl ?_); refine bX 3 29 #[.int .i64 a0_0, .slice A0_1 l0_1.length c0_1] ?_; intro bF hg wF hbox hb; have XF := aM hbox; replace HB := aM (below_after HB.out hb); clear hg hbox hb; have hzF := cellsZ2 XF.out) | ((with_reducible refine gate_dst (N := 4) rfl ?_); refine bX 4 9 #[.string a1] ?_; intro b0 hg w0 hbox hb; have X0 := aM hbox; replace XF := aM (blk_below XF.out hb); replace HB := aM (below_after HB.out hb); clear hzF hg hbox hb; have hzF := cellsZ2 XF.out; have hz0 := cellsZ1 X0.out) | ((with_reducible refine gate_dst (N := 5) rfl ?_); refine bX 5 9 #[.string a2] ?_; intro b1 hg w1 hbox hb; have X1 := aM hbox; replace XF := aM (blk_below XF.out hb); replace X0 := aM (blk_below X0.out hb); replace HB := aM (below_after HB.out hb); clear hzF hz0 hg hbox hb; have hzF := cellsZ2 XF.out; have hz0 := cellsZ1 X0.out; have hz1 := cellsZ1 X1.out) | ((with_reducible refine gate_dst (N := 6) rfl ?_); refine bX 6 29 #[.int .i64 0, .slice none 0 0] ?_; intro bR hg wR hbox hb; have XR := aM hbox; have HR2 := aM (show w.heap.size ≤ bR from by rw [hg]; exact HB.out.size); replace XF := aM (blk_below XF.out hb); replace X0 := aM (blk_below X0.out hb); replace X1 := aM (blk_below X1.out hb); replace HB := aM (below_after HB.out hb); clear hzF hz0 hz1 hg hbox hb; have hzF := cellsZ2 XF.out; have hz0 := cellsZ1 X0.out; have hz1 := cellsZ1 X1.out; have hzR := cellsZ2 XR.out) | ((with_reducible refine gate_dst (N := 12) rfl ?_); refine Kd.R_lit Kd.string _ 9 ?hg (N := 12) ?hd (xs := [a1, a2]) (inner := [.string a1, .string a2]) (ok := fun _ => True) (okp := fun _ => True) ?hr ?hp (fun _ hk => hk) trivial (Below.refl _ _) (Nat.le_refl _) (by simp) ?_; (case hd => rfl); (case hg => rfl); (case hr => first | (go_simp; done) | (go_simp; rfl)); (case hp => exact Kd.reps_scalar (enc := Value.string) [a1, a2]); intro vN wN ho3 hb hg_ hnew_; clear hg_ hnew_; obtain ⟨AN, cN, rfl⟩ := Kd.R_slice ho3; have HN := aM (Kd.R_reads' ho3); replace XF := aM (blk_below XF.out hb); replace X0 := aM (blk_below X0.out hb); replace X1 := aM (blk_below X1.out hb); replace XR := aM (blk_below XR.out hb); replace HB := aM (below_after HB.out hb); clear ho3 hb; clear hzF hz0 hz1 hzR; have hzF := cellsZ2 XF.out; have hz0 := cellsZ1 X0.out; have hz1 := cellsZ1 X1.out; have hzR := cellsZ2 XR.out) | ((with_reducible refine gate_callee (f := 39) rfl ?_); refine gL 13 Tryd.func39 #[.agg #[.int .i64 a0_0, .slice A0_1 l0_1.length c0_1], .func (.func 62) #[] #[.pointer (some ⟨b0, 0, none⟩), .pointer (some ⟨b1, 0, none⟩)], .slice AN [a1, a2].length cN] ?_; (refine (impl_changed.does k a0_0 _ _ l0_1 _ _ [a1, a2] _ #[.pointer (some ⟨b0, 0, none⟩), .pointer (some ⟨b1, 0, none⟩)] _ r1 r2 r3 _ (Kd.C_below HR.out HB.out) HL.out HN.out.2.2 HN.out.2.1 (fun args_ w_ => enters_ Tryd.func62 (by kernel_rfl) rfl args_ w_) (fun W_ P_ b_ q_ l_ d1_ d2_ d3_ hg_ hbW_ hF_ => impl_RenameFile_1.does k b_ b0 b1 q_ l_ a1 a2 d1_ d2_ d3_ _ W_ hbW_ P_ hF_ (blk_below X0.out hbW_) (blk_below X1.out hbW_) hg_) HH.out).mono ?_); rintro e w7 ⟨v7, he_, hs, hb⟩; subst he_; refine ⟨_, rfl, ?_⟩; obtain ⟨A7, c7, rfl⟩ := Kd.S_slice hs; have HS := aM (Kd.S_lower hs HB.out.size); replace XR := aM (blk_below XR.out hb); replace HB := aM (below_after HB.out hb); clear hzF hz0 hz1 hzR hs hb; have hzR := cellsZ2 XR.out))
  refine bodyPost_ret (results_ct rfl _ _ bR 29 #[.int .i64 r1, .slice A7 r2.length c7] (0, 0) _ rfl (blk_set (blk_set XR.out 0 _) 1 _) Tryd.underlying29 rfl (by kernel_rfl)) rfl ?_
  exact ⟨_, rfl, Kd.S_mono (Kd.S_far (Kd.S_far (Kd.S_types HS.out XR.out (by decide)) (fun k hk => hk.2) _) (fun k hk => hk.2) _) (fun _ _ => trivial), below_set (below_set HB.out HR2.out) HR2.out⟩
end Go.Proofs.YtmlclmbplbbbhaaDoor.P
end

-- written by a program of this session's (wip/pp)
namespace Go.Proofs.YtmlclmbplbbbhaaDoor.P
open Go.RowKit Go.Proofs.YtmlclmbplbbbhaaDoorW.PrintWords Go.Proofs.YtmlclmbplbbbhaaDoorW.PrintLast Go.Proofs.YtmlclmbplbbbhaaDoorW.PrintMore
attribute [local go_sem] max2_int min2_int max_two min_two max_three min_three max_four min_four str_geq str_gtr str_leq   -- for this text's walks alone
set_option linter.unusedVariables false
set_option linter.unusedSimpArgs false

/-! ### spec_l2At: function 60 -/
def spec_l2At.l0 : Nat → ByteArray → List (S53) → Int → Int → Option (Int)
 | 0, _, _, _, _ => none
 | k + 1, x1, x8, x9, x10 => if x10 < x9 then (if 0 ≤ x10 then (if x10 < (x8.length : Int) then (if ((rd_T53 x8 x10).f0).toList = x1.toList then (some x10) else (spec_l2At.l0 k x1 x8 x9 (wrap64 (x10 + 1)))) else (none)) else (none)) else (some (-1))
def spec_l2At.f (k : Nat) (a0_0 : Int) (l0_1 : List (S53)) (a1 : ByteArray) : Option (Int) := spec_l2At.l0 k a1 l0_1 (l0_1.length : Int) 0
theorem spec_l2At.mono_l : ∀ k, (∀ y0 y1 y2 y3, LeO (spec_l2At.l0 k y0 y1 y2 y3) (spec_l2At.l0 (k + 1) y0 y1 y2 y3))
 | 0 => fun _ _ _ _ r h => by simp [spec_l2At.l0] at h
 | k + 1 => by
  have ih0 := spec_l2At.mono_l k
  · intro y0 y1 y2 y3
    unfold spec_l2At.l0
    exact moZ
theorem spec_l2At.mono : ∀ a0 a1 a2 k, LeO (spec_l2At.f k a0 a1 a2) (spec_l2At.f (k + 1) a0 a1 a2) := by
 intro a0 a1 a2 k
 have ih0 := spec_l2At.mono_l k
 unfold spec_l2At.f
 exact moZ
set_option maxHeartbeats 8000000 in
set_option maxRecDepth 100000 in
theorem spec_l2At.calls (k : Nat) (a0_0 : Int) (A0_1 : Option Addr) (c0_1 : Nat) (l0_1 : List (S53)) (a1 : ByteArray) (r : Int) (w : World) (hr0_1 : Kd.C k53 w A0_1 l0_1.length l0_1) (hc0_1 : l0_1.length ≤ c0_1) (h : spec_l2At.f k a0_0 l0_1 a1 = some r) :
 Calls Tryd.prog 60 #[.agg #[.int .i64 a0_0, .slice A0_1 l0_1.length c0_1], .string a1] w fun e w' => e = .returned (.int .i64 r) ∧ Below w.heap.size w w' := by
 have hu29 := Tryd.underlying29
 have hu53 := Tryd.underlying53
 have HR0_1 := aM hr0_1
 have HC0_1 := aM hc0_1
 clear hr0_1 hc0_1
 have HB := aM (Below.refl w.heap.size w)
 have H : (spec_l2At.l0 k a1 l0_1 (l0_1.length : Int) 0) = some r := h
 clear h
 have H' := aM H
 clear H
 go_enter Tryd.func60, Tryd.ntmps60
 go_wp2_with (first | ((with_reducible refine gate_dst (N := 2) rfl ?_); refine bX 2 29 #[.int .i64 a0_0, .slice A0_1 l0_1.length c0_1] ?_; intro gb101 hg w3 hbox hb; have _ := aM (below_step hbZ hb); have _ := aM hbox; have _ := szZ hg; have _ := szZ hg; clear HB; rename_i HB BK101 GW101 GE101; clear hb hbox hg; have hz4 := cellsZ2 BK101.out))
 go_loopg [10] k (fun kq v10 w' => ∃ (x10_1 : Int), v10 = .int .i64 x10_1 ∧ Aside0 (spec_l2At.l0 kq a1 l0_1 (l0_1.length : Int) x10_1 = some r) ∧ Aside0 (kq ≤ k) ∧ Aside0 (w'.heap[gb101]? = some (.cells #[.int .i64 a0_0, (.slice A0_1 l0_1.length c0_1)] 29 (0, 0))) ∧ Aside0 (Below w.heap.size w w'))
 case atStart => exact ⟨(0), z4458, H', ⟨Nat.le_refl _⟩, ⟨bkZ⟩, ⟨zcb41⟩⟩
 case round =>
  clear H'
  (try clear hz4)
  obtain ⟨x10_1, rfl, HA, HK1, BK101, HB⟩ := hrel
  cases gk with
  | zero => exact absurd HA.out (by simp [spec_l2At.l0])
  | succ k1 =>
   have H := HA.out
   clear HA
   simp only [spec_l2At.l0] at H
   by_cases c5 : x10_1 < (l0_1.length : Int)
   · rw [if_pos c5] at H
     have c5b0 := dL c5
     clear c5
     obtain ⟨c6b0, H⟩ := sE H
     obtain ⟨c7b0, H⟩ := sL H
     by_cases c8 : ((rd_T53 l0_1 x10_1).f0).toList = a1.toList
     · rw [if_pos c8] at H
       have c8b0 : (((rd_T53 l0_1 x10_1).f0).toList == a1.toList) = true := beq_iff_eq.mpr c8
       have c8b1 : (((rd_T53 l0_1 x10_1).f0).toList != a1.toList) = false := bne_eq_false_iff_eq.mpr c8
       clear c8
       obtain rfl := Option.some.inj H
       have p102 : 0 ≤ (x10_1 : Int) := of_decide_eq_true z1200
       have q102 : x10_1 < (l0_1.length : Int) := of_decide_eq_true z1200
       obtain ⟨ad102, A102_1, c102_1, e102, hx102_0, hx102_1, hx102_2, hl102_1, hi102_1⟩ := at_T53 HR0_1.out x10_1 p102 q102
       cases e102
       have TW102_1 := aM hx102_1
       replace hx102_0 := (HB.out.cell (World.block_lt_of_cell? w _ hx102_0)).trans hx102_0
       replace hx102_1 := (HB.out.cell (World.block_lt_of_cell? w _ hx102_1)).trans hx102_1
       replace hx102_2 := (HB.out.cell (World.block_lt_of_cell? w _ hx102_2)).trans hx102_2
       have HR102_1 := aM hi102_1
       have HC102_1 := aM hl102_1
       clear hi102_1 hl102_1
       replace p102 := eq_true p102
       replace q102 := eq_true q102
       go_wp2_with (first | ((with_reducible refine gate_dst (N := 6) rfl ?_); refine bX 6 53 #[.string (⟨#[]⟩ : ByteArray), .slice none 0 0, .int .i64 0] ?_; intro gb103 hg w9 hbox hb; have _ := bB gb101 hb; have _ := aM (below_step hbZ hb); have _ := aM hbox; have _ := szZ hg; have _ := szZ hg; have ⟨_, _⟩ := nbB gb101 hg; clear BK101 HB; rename_i BK101 HB BK103 GW103 GE103 NB101_103 NB103_101; clear hb hbox hg; have hnb10 := NB103_101.out; have hnc10 := NB101_103.out; have hz11 := cellsZ3 BK103.out))
       go_ret
       exact ⟨z674d, zcb41⟩
     · rw [if_neg c8] at H
       have c8b0 := eqN c8
       have H' := aM H
       clear H
       have p102 : 0 ≤ (x10_1 : Int) := of_decide_eq_true z1200
       have q102 : x10_1 < (l0_1.length : Int) := of_decide_eq_true z1200
       obtain ⟨ad102, A102_1, c102_1, e102, hx102_0, hx102_1, hx102_2, hl102_1, hi102_1⟩ := at_T53 HR0_1.out x10_1 p102 q102
       cases e102
       have TW102_1 := aM hx102_1
       replace hx102_0 := (HB.out.cell (World.block_lt_of_cell? w _ hx102_0)).trans hx102_0
       replace hx102_1 := (HB.out.cell (World.block_lt_of_cell? w _ hx102_1)).trans hx102_1
       replace hx102_2 := (HB.out.cell (World.block_lt_of_cell? w _ hx102_2)).trans hx102_2
       have HR102_1 := aM hi102_1
       have HC102_1 := aM hl102_1
       clear hi102_1 hl102_1
       replace p102 := eq_true p102
       replace q102 := eq_true q102
       go_wp2_with (first | ((with_reducible refine gate_dst (N := 6) rfl ?_); refine bX 6 53 #[.string (⟨#[]⟩ : ByteArray), .slice none 0 0, .int .i64 0] ?_; intro gb103 hg w12 hbox hb; have _ := bB gb101 hb; have _ := aM (below_step hbZ hb); have _ := aM hbox; have _ := szZ hg; have _ := szZ hg; have ⟨_, _⟩ := nbB gb101 hg; clear BK101 HB; rename_i BK101 HB BK103 GW103 GE103 NB101_103 NB103_101; clear hb hbox hg; have hnb13 := NB103_101.out; have hnc13 := NB101_103.out; have hz14 := cellsZ3 BK103.out))
       go_roundg k1
       case measure => have := HK1.out; omega
       case rel => exact ⟨(wrap64 (x10_1 + 1)), z4458, H', ⟨zfb39⟩, ⟨bkZ⟩, ⟨zcb41⟩⟩
   · rw [if_neg c5] at H
     have c5b0 := nL c5
     clear c5
     obtain rfl := Option.some.inj H
     go_wp2
     go_ret
     exact ⟨z674d, zcb41⟩

end Go.Proofs.YtmlclmbplbbbhaaDoor.P

section
/- spec.l2Remove: a file is taken out of files of the call's own. No conditions of its own. -/
set_option linter.unusedVariables false
set_option linter.unusedSimpArgs false
namespace Go.Proofs.YtmlclmbplbbbhaaDoor.P
open Go Go.RowKit Go.Proofs.YtmlclmbplbbbhaaDoorW.PrintWords Go.Proofs.YtmlclmbplbbbhaaDoorW.PrintLast Go.Proofs.YtmlclmbplbbbhaaDoorW.PrintMore
theorem cut_take {w : World} {g n c : Nat} {base : Nat} {okr : Nat → Prop} {rows : List (List Value)} {l : List S53} (hR : (Kd.raw k53.sz).R 53 w base okr (.slice (some ⟨g, 0, none⟩) l.length c) rows) (hl : rows.length = l.length) (hn : n < l.length) :
    ReadsRow ((Kd.raw 3).K w) (Kd.raw 3).sz w (some ⟨g, 0, none⟩) n (rows.take n) := by
  have h := Kd.C_take (raw_reads (d := k53) hR).2.2 (show n ≤ rows.length by omega)
  rw [List.length_take, Nat.min_eq_left (by omega)] at h
  exact h
theorem cut_drop {w : World} {A' : Option Addr} {g n m c : Nat} {base : Nat} {okr : Nat → Prop} {rows : List (List Value)} {l : List S53} (hR : (Kd.raw k53.sz).R 53 w base okr (.slice (some ⟨g, 0, none⟩) l.length c) rows) (hl : rows.length = l.length) (hm : m = l.length) (hn : n < l.length)
    (hA : A' = if c = n + 1 then some ⟨g, 0, none⟩ else (some (⟨g, 0, none⟩ : Addr)).map (·.add ((n + 1) * k53.sz))) : ReadsRow ((Kd.raw 3).K w) (Kd.raw 3).sz w A' (m - (n + 1)) (rows.drop (n + 1)) := by
  have h0 := raw_reads (d := k53) hR
  have h := Kd.C_drop (c := c) h0.2.2 (show n + 1 ≤ rows.length by omega) (by have := h0.2.1; omega)
  rw [List.length_drop, hl, ← hm] at h
  rw [hA]
  exact h
def spec_l2Remove.f (k : Nat) (q : Int) (l : List S53) (a1 : ByteArray) : Option (Int × Int × List S53) :=
  (spec_l2At.f k q l a1).bind fun t => if t < 0 then some (2, q, l) else (if t < (l.length : Int) ∧ l.length ≤ 1000000000 then some (0, q, l.eraseIdx t.toNat) else none)
set_option maxHeartbeats 4000000 in
set_option maxRecDepth 100000 in
theorem spec_l2Remove.does (k b : Nat) (q : Int) (l : List S53) (a1 : ByteArray) (r1 r2 : Int) (r3 : List S53) (w0 w : World) (hB : Below w0.heap.size w0 w) (P : Nat → Prop) (hF : FilesAt w w0.heap.size P b q l) (h : spec_l2Remove.f k q l a1 = some (r1, r2, r3)) :
    Calls Tryd.prog 45 #[.pointer (some ⟨b, 0, none⟩), .string a1] w (FilesPost w0 w P b r1 r2 r3) := by
  have hu := Tryd.underlying29
  obtain ⟨t, e1, h⟩ := Option.bind_eq_some_iff.1 h
  have E1 := aM e1
  clear e1
  have HF := aM hF
  have HB := aM hB
  by_cases ht : t < 0
  · rw [if_pos ht] at h
    simp only [Option.some.injEq, Prod.mk.injEq] at h
    obtain ⟨rfl, rfl, rfl⟩ := h
    obtain ⟨v, hbox, hs, hP, hwb⟩ := hF
    obtain ⟨A, c, rfl, hlc, hC⟩ := Kd.S_reads hs
    have HC := aM hC
    have HL := aM hlc
    clear hP hC hlc hs hwb
    have hz := cellsZ2 hbox
    have hd := dL ht
    clear hbox ht
    go_enter Tryd.func45, Tryd.ntmps45
    go_wp2_with (first | ((with_reducible refine gate_callee (f := 60) rfl ?_); refine gL 11 Tryd.func60 #[.agg #[.int .i64 q, .slice A l.length c], .string a1] ?_; (with_reducible refine (spec_l2At.calls k q _ _ l a1 t _ HC.out HL.out E1.out).mono ?_); rintro e w1 ⟨rfl, hb⟩; refine ⟨_, rfl, ?_⟩; have HW := aM (HF.out.after hb); have HB' := aM (below_after HB.out hb); have HK := aM (Kept.below (Kept.refl w (fun k => k = b ∨ P k)) hb); clear hz hb))
    go_ret
    exact ⟨rfl, ⟨P, HW.out⟩, HB'.out, HK.out⟩
  · rw [if_neg ht] at h
    obtain ⟨⟨hi1, hbig⟩, h⟩ := ifS h
    simp only [Option.some.injEq, Prod.mk.injEq] at h
    obtain ⟨rfl, rfl, rfl⟩ := h
    obtain ⟨n, rfl⟩ := Int.eq_ofNat_of_zero_le (Int.not_lt.1 ht)
    have hd := nL ht
    have hn : n < l.length := by omega
    obtain ⟨v, hbox, hs, hP, hwb⟩ := hF
    obtain ⟨g, c, rfl, hbg, hgw, cells0, hh⟩ := Kd.S_form hs (by omega)
    have hlc := (Kd.S_reads' hs).2.1
    have HC := aM (Kd.S_reads' hs).2.2
    have hcap := S_cap hs
    have HL := aM hlc
    have HS := aM hs
    have HP := aM hP
    have HX := aM hbox
    have HWB := aM hwb
    have hz := cellsZ2 hbox
    obtain ⟨m, hm⟩ : ∃ m, m = l.length := ⟨_, rfl⟩
    have HM := aM hm
    have HN := aM hn
    have HBG := aM hbig
    have hw := wrap_ix hn (by omega)
    rw [← hm] at hn hlc
    have hnc : n ≤ c := by omega
    have hn0 : (0 : Int) ≤ (n : Int) := by omega
    have hn1 : (0 : Int) ≤ (n : Int) + 1 := by omega
    have hnm : n + 1 ≤ m := by omega
    have hnm2 : (n : Int) + 1 ≤ (m : Int) := by omega
    have htn : ((n : Int) + 1).toNat = n + 1 := by omega
    have hncm : n ≤ m := by omega
    have HA : Aside0 ((if c = n + 1 then some (⟨g, 0, none⟩ : Addr) else some ⟨g, (n + 1) * 3, none⟩) = if c = n + 1 then some ⟨g, 0, none⟩ else (some (⟨g, 0, none⟩ : Addr)).map (·.add ((n + 1) * k53.sz))) := ⟨by split; rfl; rw [Option.map_some, Addr.add_lit, Nat.zero_add]; rfl⟩
    clear hP hs hwb hbox ht hi1 hbig hbg hgw hh hcap
    rw [← hm] at hz
    clear hm
    go_enter Tryd.func45, Tryd.ntmps45
    go_wp2_with (first | ((with_reducible refine gate_callee (f := 60) rfl ?_); refine gL 11 Tryd.func60 #[.agg #[.int .i64 q, .slice (some ⟨g, 0, none⟩) m c], .string a1] ?_; (rw [HM.out]); (with_reducible refine (spec_l2At.calls k q _ _ l a1 n _ HC.out HL.out E1.out).mono ?_); rintro e w1 ⟨rfl, hb⟩; refine ⟨_, rfl, ?_⟩; have HX1 := aM (blk_below HX.out hb); have HS1 := aM (Kd.S_below HS.out hb); have HB' := aM (below_after HB.out hb); have HK := aM (Kept.below (Kept.refl w (fun k => k = b ∨ P k)) hb); clear hz hb; have hz := cellsZ2 HX1.out; rw [← HM.out] at hz; obtain ⟨f_, rows, hrl_, hR_, h0_, hM_⟩ := S_rows HS1.out; have RL := aM hrl_; have RR := aM hR_; have RM := aM hM_; clear hrl_ hR_ h0_ hM_) | ((with_reducible refine gate_builtin (b := .append) (xs := #[.tmp 14, .tmp 20]) rfl ?_); at_builtin; refine Kd.R_append_rows (Kd.raw 3) (Rr := (Kd.raw 3).K w1) (w0 := w1) w1.heap.size rfl (.tmp 14) (.tmp 20) 27 53 _ 48 rfl Tryd.underlying27 info53 rfl (by decide) (by omega) (.slice none 0 0) [] (rows.take n) _ n c (fun _ => True) (fun _ => False) rfl rfl (Kd.R_nil _ _ _ _ _) (cut_take RR.out RL.out HN.out) (fun _ _ h => h) (fun _ hk => hk.elim) (fun _ _ => trivial) (Below.refl _ _) (Nat.le_refl _) (by have := HBG.out; have := HN.out; simp; omega) ?_; intro v1 w2 hr1 hb1 hg1 hat1; obtain ⟨A1, m1, c1, rfl⟩ := R_form3 hr1; have R1 := aM hr1; have B1 := aM hb1; have HX2 := aM (blk_below HX1.out hb1); clear hr1 hb1 hg1 hat1 hz; have hz := cellsZ2 HX2.out; rw [← HM.out] at hz) | ((with_reducible refine gate_builtin (b := .append) (xs := #[.tmp 23, .tmp 30]) rfl ?_); at_builtin; refine Kd.R_append_rows (Kd.raw 3) (Rr := (Kd.raw 3).K w2) (w0 := w1) w1.heap.size rfl (.tmp 23) (.tmp 30) 27 53 _ 48 rfl Tryd.underlying27 info53 rfl (by decide) (by omega) (.slice A1 m1 c1) _ (rows.drop (n + 1)) _ (m - (n + 1)) (c - (n + 1)) (fun _ => True) (fun _ => False) rfl rfl R1.out (cut_drop (Kd.R_below RR.out B1.out) RL.out HM.out HN.out HA.out) (fun _ _ h => h) (fun _ hk => hk.elim) (fun _ _ => trivial) B1.out B1.out.size (by have := HBG.out; have := HN.out; have := HM.out; simp; omega) ?_; intro v2 w3 hr2 hb2 hg2 hat2; obtain ⟨A2, m2, c2, rfl⟩ := R_form3 hr2; have R2 := aM hr2; have B2 := aM hb2; have HX3 := aM (blk_below HX1.out hb2); clear hr2 hb2 hg2 hat2 hz; have hz := cellsZ2 HX3.out; rw [← HM.out] at hz))
    all_goals
      go_ret
      have HS3 := S_moved (d := k53) (xs' := l.eraseIdx n) B2.out RM.out (fun j => if j < n then j else j + 1) (skip_inj n) (fun j x h => erase_ix l n j x h) (fun j c h => erase_ix rows n j c (by rw [← erase_rows]; simpa using h))
        (by have := RL.out; have := HN.out; simp only [List.nil_append, List.length_append, List.length_take, List.length_drop, List.length_eraseIdx]; split <;> omega) R2.out HB'.out.size
      exact ⟨rfl, ⟨_, FilesAt.put HX3.out HWB.out HS3 (fun hk => by rcases hk with hk | hk; exact HP.out hk; have := box_lt HX1.out; omega)⟩, below_set (below_after HB'.out B2.out) HWB.out, Kept.set (HK.out.below B2.out) (.inl (.inl rfl))⟩
end Go.Proofs.YtmlclmbplbbbhaaDoor.P
end

section
/- A row's elements by their cells, the owner's numbers told; and a new row of some of them, without one. No conditions. -/
set_option linter.unusedVariables false
namespace Go.Proofs.YtmlclmbplbbbhaaDoor.P
open Go Go.RowKit Go.Proofs.YtmlclmbplbbbhaaDoorW.PrintWords Go.Proofs.YtmlclmbplbbbhaaDoorW.PrintLast Go.Proofs.YtmlclmbplbbbhaaDoorW.PrintMore
section
variable {α : Type} {d : Kd α} {e base : Nat} {ok okr : Nat → Prop} {w W : World} {v : Value} {xs : List α} {rows : List (List Value)}
theorem S_rowsT {f : Nat → Nat} (h : (Kd.tag f d).R e w base ok v xs.zipIdx) : ∃ (rows : List (List Value)), rows.length = xs.length ∧ (Kd.raw d.sz).R e w base (fun k => some k = v.ownBlock) v rows ∧ (∀ k, v.ownBlock = some k → ok k) ∧
    ∀ (j : Nat) (x : α) (c : List Value), xs[j]? = some x → rows[j]? = some c → d.M w base (fun k => (ok k ∧ some k ≠ v.ownBlock) ∧ f k = j) x c := by
  obtain ⟨h0, inner, ho, hr⟩ := h
  rw [List.length_zipIdx] at ho
  obtain ⟨rs, hrs⟩ : ∃ rs, rs = (List.range xs.length).map fun j => (inner.drop (j * d.sz)).take d.sz := ⟨_, rfl⟩
  have hl : rs.length = xs.length := by rw [hrs]; simp
  have hget : ∀ j c, rs[j]? = some c → j < xs.length ∧ c = (inner.drop (j * d.sz)).take d.sz := by
    intro j c hj
    have hlt : j < xs.length := by have := (List.getElem?_eq_some_iff.1 hj).1; omega
    refine ⟨hlt, ?_⟩
    rw [hrs, List.getElem?_map, List.getElem?_range hlt] at hj
    simpa using hj.symm
  have hM : ∀ (j : Nat) (x : α), xs[j]? = some x → (Kd.tag f d).M w base (fun k => ok k ∧ some k ≠ v.ownBlock) (x, j) ((inner.drop (j * d.sz)).take d.sz) := fun j x hx => hr.2 j (x, j) (Kd.zip_at hx)
  refine ⟨rs, hl, ⟨fun k hk => hk.symm, inner, by rw [hl]; exact ho, by rw [hl]; exact ho.1, fun j c hj => ?_⟩, h0, fun j x c hx hc => ?_⟩
  · obtain ⟨hlt, rfl⟩ := hget j c hj
    have h1 := (Kd.tag f d).K_of_M (hM j _ (List.getElem?_eq_getElem hlt))
    exact ⟨rfl, (Kd.tag f d).K_len h1, (Kd.tag f d).K_one h1⟩
  · obtain ⟨_, rfl⟩ := hget j c hc
    exact hM j x hx
theorem S_moved2 {n : Nat} {f : Nat → Nat} {w1 w3 : World} {v3 : Value} {xs' : List α} {rows' : List (List Value)} (hb : Below w1.heap.size w1 w3) (hM : ∀ (j : Nat) (x : α) (c : List Value), xs[j]? = some x → rows[j]? = some c → d.M w1 base (fun k => (ok k ∧ some k ≠ v.ownBlock) ∧ f k = j) x c)
    (σ : Nat → Nat) (hσ : ∀ i j, σ i = σ j → i = j) (hn : ∀ j, σ j ≠ n) (hx : ∀ (j : Nat) (x : α), xs'[j]? = some x → xs[σ j]? = some x) (hr : ∀ (j : Nat) (c : List Value), rows'[j]? = some c → rows[σ j]? = some c) (hl : rows'.length = xs'.length)
    (hR : (Kd.raw d.sz).R e w3 w1.heap.size okr v3 rows') (hb0 : base ≤ w1.heap.size) : Kd.S d e w3 base (fun k => (ok k ∧ ¬ ((ok k ∧ some k ≠ v.ownBlock) ∧ f k = n)) ∨ w1.heap.size ≤ k) v3 xs' := by
  have hnew : ∀ k, v3.ownBlock = some k → w1.heap.size ≤ k := Kd.R_base hR
  refine S_of_rows (fun k hk => .inr (hnew k hk)) hl (Kd.R_lower hR hb0) (fun j k => ((ok k ∧ some k ≠ v.ownBlock) ∧ f k = σ j) ∧ k < w1.heap.size) ?_ (fun i j k h1 h2 => hσ i j (h1.1.2.symm.trans h2.1.2)) (fun j k hk => ⟨.inl ⟨hk.1.1.1, fun hq => hn j (hk.1.2.symm.trans hq.2)⟩, fun he => by have := hnew k he.symm; omega⟩)
  intro j x c h1 h2
  have h3 := d.M_bound (hM (σ j) x c (hx j x h1) (hr j c h2))
  exact d.M_mono (fun k hk => ⟨hk.1, hk.2.2.1⟩) (d.M_move (fun k hk => hb.block k hk.2.2.1) h3)
end
end Go.Proofs.YtmlclmbplbbbhaaDoor.P
end

section
/- spec.l2Remove of a file that is there: what the others lead to is told apart from what it led to. No conditions of its own. -/
set_option linter.unusedVariables false
set_option linter.unusedSimpArgs false
namespace Go.Proofs.YtmlclmbplbbbhaaDoor.P
open Go Go.RowKit Go.Proofs.YtmlclmbplbbbhaaDoorW.PrintWords Go.Proofs.YtmlclmbplbbbhaaDoorW.PrintLast Go.Proofs.YtmlclmbplbbbhaaDoorW.PrintMore
/-- Blocks of those that stay (and new ones): n's are not among them. -/
def RestOf (P : Nat → Prop) (f : Nat → Nat) (g n z k : Nat) : Prop := (P k ∧ ¬ ((P k ∧ k ≠ g) ∧ f k = n)) ∨ z ≤ k
set_option maxHeartbeats 4000000 in
set_option maxRecDepth 100000 in
theorem spec_l2Remove.keeps (k b n g c : Nat) (q : Int) (l : List S53) (a1 : ByteArray) (E1' : spec_l2At.f k q l a1 = some (n : Int)) (hn : n < l.length) (hbig : l.length ≤ 1000000000) (w0 w : World) (hB : Below w0.heap.size w0 w) (P : Nat → Prop) (f : Nat → Nat)
    (hbox : w.heap[b]? = some (.cells #[.int .i64 q, .slice (some ⟨g, 0, none⟩) l.length c] 29 (0, 0))) (hR : (Kd.tag f k53).R 53 w w0.heap.size P (.slice (some ⟨g, 0, none⟩) l.length c) l.zipIdx) (hP : ¬ P b) (hwb : w0.heap.size ≤ b) :
    Calls Tryd.prog 45 #[.pointer (some ⟨b, 0, none⟩), .string a1] w fun e W' => e = .returned (.int .i64 0) ∧ (∃ P', FilesAt W' w0.heap.size P' b q (l.eraseIdx n) ∧ ∀ k, P' k → RestOf P f g n w.heap.size k) ∧ Below w0.heap.size w0 W' ∧ Kept w W' (fun k => k = b) := by
  have hu := Tryd.underlying29
  have E1 := aM E1'
  have HB := aM hB
  have hs : Kd.S k53 53 w w0.heap.size P (.slice (some ⟨g, 0, none⟩) l.length c) l := ⟨f, hR⟩
  have hlc := (Kd.S_reads' hs).2.1
  have HC := aM (Kd.S_reads' hs).2.2
  have hcap := S_cap hs
  have HL := aM hlc
  have HT := aM hR
  have HP := aM hP
  have HX := aM hbox
  have HWB := aM hwb
  have hz := cellsZ2 hbox
  clear hs E1' hB
  obtain ⟨m, hm⟩ : ∃ m, m = l.length := ⟨_, rfl⟩
  have HM := aM hm
  have HN := aM hn
  have HBG := aM hbig
  have hw := wrap_ix hn (by omega)
  rw [← hm] at hn hlc
  have hnc : n ≤ c := by omega
  have hn0 : (0 : Int) ≤ (n : Int) := by omega
  have hn1 : (0 : Int) ≤ (n : Int) + 1 := by omega
  have hnm : n + 1 ≤ m := by omega
  have hnm2 : (n : Int) + 1 ≤ (m : Int) := by omega
  have htn : ((n : Int) + 1).toNat = n + 1 := by omega
  have hncm : n ≤ m := by omega
  have HA : Aside0 ((if c = n + 1 then some (⟨g, 0, none⟩ : Addr) else some ⟨g, (n + 1) * 3, none⟩) = if c = n + 1 then some ⟨g, 0, none⟩ else (some (⟨g, 0, none⟩ : Addr)).map (·.add ((n + 1) * k53.sz))) := ⟨by split; rfl; rw [Option.map_some, Addr.add_lit, Nat.zero_add]; rfl⟩
  clear hP hR hwb hbox hbig hcap
  rw [← hm] at hz
  clear hm
  go_enter Tryd.func45, Tryd.ntmps45
  go_wp2_with (first | ((with_reducible refine gate_callee (f := 60) rfl ?_); refine gL 11 Tryd.func60 #[.agg #[.int .i64 q, .slice (some ⟨g, 0, none⟩) m c], .string a1] ?_; (rw [HM.out]); (with_reducible refine (spec_l2At.calls k q _ _ l a1 n _ HC.out HL.out E1.out).mono ?_); rintro e w1 ⟨rfl, hb⟩; refine ⟨_, rfl, ?_⟩; have HX1 := aM (blk_below HX.out hb); have HT1 := aM (Kd.R_below HT.out hb); have HB' := aM (below_after HB.out hb); have HK := aM (Kept.below (Kept.refl w (fun k => k = b)) hb); clear hz hb; have hz := cellsZ2 HX1.out; rw [← HM.out] at hz; obtain ⟨rows, hrl_, hR_, h0_, hM_⟩ := S_rowsT HT1.out; have RL := aM hrl_; have RR := aM hR_; have RM := aM hM_; clear hrl_ hR_ h0_ hM_) | ((with_reducible refine gate_builtin (b := .append) (xs := #[.tmp 14, .tmp 20]) rfl ?_); at_builtin; refine Kd.R_append_rows (Kd.raw 3) (Rr := (Kd.raw 3).K w1) (w0 := w1) w1.heap.size rfl (.tmp 14) (.tmp 20) 27 53 _ 48 rfl Tryd.underlying27 info53 rfl (by decide) (by omega) (.slice none 0 0) [] (rows.take n) _ n c (fun _ => True) (fun _ => False) rfl rfl (Kd.R_nil _ _ _ _ _) (cut_take RR.out RL.out HN.out) (fun _ _ h => h) (fun _ hk => hk.elim) (fun _ _ => trivial) (Below.refl _ _) (Nat.le_refl _) (by have := HBG.out; have := HN.out; simp; omega) ?_; intro v1 w2 hr1 hb1 hg1 hat1; obtain ⟨A1, m1, c1, rfl⟩ := R_form3 hr1; have R1 := aM hr1; have B1 := aM hb1; have HX2 := aM (blk_below HX1.out hb1); clear hr1 hb1 hg1 hat1 hz; have hz := cellsZ2 HX2.out; rw [← HM.out] at hz) | ((with_reducible refine gate_builtin (b := .append) (xs := #[.tmp 23, .tmp 30]) rfl ?_); at_builtin; refine Kd.R_append_rows (Kd.raw 3) (Rr := (Kd.raw 3).K w2) (w0 := w1) w1.heap.size rfl (.tmp 23) (.tmp 30) 27 53 _ 48 rfl Tryd.underlying27 info53 rfl (by decide) (by omega) (.slice A1 m1 c1) _ (rows.drop (n + 1)) _ (m - (n + 1)) (c - (n + 1)) (fun _ => True) (fun _ => False) rfl rfl R1.out (cut_drop (Kd.R_below RR.out B1.out) RL.out HM.out HN.out HA.out) (fun _ _ h => h) (fun _ hk => hk.elim) (fun _ _ => trivial) B1.out B1.out.size (by have := HBG.out; have := HN.out; have := HM.out; simp; omega) ?_; intro v2 w3 hr2 hb2 hg2 hat2; obtain ⟨A2, m2, c2, rfl⟩ := R_form3 hr2; have R2 := aM hr2; have B2 := aM hb2; have HX3 := aM (blk_below HX1.out hb2); clear hr2 hb2 hg2 hat2 hz; have hz := cellsZ2 HX3.out; rw [← HM.out] at hz))
  all_goals
    go_ret
    have HS3 := S_moved2 (n := n) (d := k53) (xs' := l.eraseIdx n) B2.out RM.out (fun j => if j < n then j else j + 1) (skip_inj n) (fun j => by split <;> omega) (fun j x h => erase_ix l n j x h) (fun j c h => erase_ix rows n j c (by rw [← erase_rows]; simpa using h))
      (by have := RL.out; have := HN.out; simp only [List.nil_append, List.length_append, List.length_take, List.length_drop, List.length_eraseIdx]; split <;> omega) R2.out HB'.out.size
    exact ⟨rfl, ⟨_, FilesAt.put HX3.out HWB.out HS3 (fun hk => by rcases hk with hk | hk; exact HP.out hk.1; have := box_lt HX1.out; omega), fun k hk => by
      unfold RestOf
      rcases hk with hk | hk
      · exact .inl ⟨hk.1, fun ho => hk.2 ⟨⟨ho.1.1, fun he => ho.1.2 (by injection he)⟩, ho.2⟩⟩
      · exact .inr (Nat.le_trans HK.out.1 hk)⟩, below_set (below_after HB'.out B2.out) HWB.out, Kept.set (HK.out.below B2.out) (.inl rfl)⟩
/-- spec.l2Remove, whatever is there: the files' blocks are of the elder ones, or new. -/
theorem spec_l2Remove.within (k b : Nat) (q : Int) (l : List S53) (a1 : ByteArray) (r1 r2 : Int) (r3 : List S53) (w0 w : World) (hB : Below w0.heap.size w0 w) (P : Nat → Prop) (hF : FilesAt w w0.heap.size P b q l) (h : spec_l2Remove.f k q l a1 = some (r1, r2, r3)) :
    Calls Tryd.prog 45 #[.pointer (some ⟨b, 0, none⟩), .string a1] w fun e W' => e = .returned (.int .i64 r1) ∧ (∃ P', FilesAt W' w0.heap.size P' b r2 r3 ∧ ∀ k, P' k → P k ∨ w.heap.size ≤ k) ∧ Below w0.heap.size w0 W' ∧ Kept w W' (fun k => k = b) := by
  have hu := Tryd.underlying29
  obtain ⟨t, e1, h⟩ := Option.bind_eq_some_iff.1 h
  have E1 := aM e1
  by_cases ht : t < 0
  · rw [if_pos ht] at h
    simp only [Option.some.injEq, Prod.mk.injEq] at h
    obtain ⟨rfl, rfl, rfl⟩ := h
    clear e1
    have HF := aM hF
    have HB := aM hB
    obtain ⟨v, hbox, hs, hP, hwb⟩ := hF
    obtain ⟨A, c, rfl, hlc, hC⟩ := Kd.S_reads hs
    have HC := aM hC
    have HL := aM hlc
    clear hP hC hlc hs hwb hB
    have hz := cellsZ2 hbox
    have hd := dL ht
    clear hbox ht
    go_enter Tryd.func45, Tryd.ntmps45
    go_wp2_with (first | ((with_reducible refine gate_callee (f := 60) rfl ?_); refine gL 11 Tryd.func60 #[.agg #[.int .i64 q, .slice A l.length c], .string a1] ?_; (with_reducible refine (spec_l2At.calls k q _ _ l a1 t _ HC.out HL.out E1.out).mono ?_); rintro e w1 ⟨rfl, hb⟩; refine ⟨_, rfl, ?_⟩; have HW := aM (HF.out.after hb); have HB' := aM (below_after HB.out hb); have HK := aM (Kept.below (Kept.refl w (fun k => k = b)) hb); clear hz hb))
    go_ret
    exact ⟨rfl, ⟨P, HW.out, fun _ hk => .inl hk⟩, HB'.out, HK.out⟩
  · rw [if_neg ht] at h
    obtain ⟨⟨hi1, hbig⟩, h⟩ := ifS h
    simp only [Option.some.injEq, Prod.mk.injEq] at h
    obtain ⟨rfl, rfl, rfl⟩ := h
    obtain ⟨n, rfl⟩ := Int.eq_ofNat_of_zero_le (Int.not_lt.1 ht)
    have hn : n < l.length := by omega
    obtain ⟨v, hbox, hs, hP, hwb⟩ := hF
    obtain ⟨g, c, rfl, hbg, hgw, cells0, hh⟩ := Kd.S_form hs (by omega)
    obtain ⟨f, hR⟩ := hs
    refine (spec_l2Remove.keeps k b n g c q l a1 e1 hn hbig w0 w hB P f hbox hR hP hwb).mono ?_
    rintro e W' ⟨rfl, ⟨P', h1, h2⟩, h3, h4⟩
    exact ⟨rfl, ⟨P', h1, fun k hk => by rcases h2 k hk with h5 | h5; exact .inl h5.1; exact .inr h5⟩, h3, h4⟩
/-- File n of a row whose elements bear their owner's number. -/
theorem elem_tag {W : World} {base g m c n : Nat} {P : Nat → Prop} {f : Nat → Nat} {l : List S53} (hR : (Kd.tag f k53).R 53 W base P (.slice (some ⟨g, 0, none⟩) m c) l.zipIdx) (hi : n < l.length) :
    ∃ (A1 : Option Addr) (c1 : Nat), k53.M W base (fun k => (P k ∧ k ≠ g) ∧ f k = n) (rd_T53 l (n : Int)) [.string (rd_T53 l (n : Int)).f0, .slice A1 (rd_T53 l (n : Int)).f1.length c1, .int .i64 (rd_T53 l (n : Int)).f2] ∧
      W.cell? ⟨g, n * 3, none⟩ = some (.string (rd_T53 l (n : Int)).f0) ∧ W.cell? ⟨g, n * 3 + 1, none⟩ = some (.slice A1 (rd_T53 l (n : Int)).f1.length c1) ∧ W.cell? ⟨g, n * 3 + 2, none⟩ = some (.int .i64 (rd_T53 l (n : Int)).f2) := by
  have hl := Kd.S_reads' (S_tag hR)
  have hlm : m = l.length := by have := hl.1; rw [List.length_zipIdx] at this; exact this
  obtain ⟨cs, hcl, hM, hcc, _⟩ := Kd.R_elem hR (⟨ByteArray.empty, [], 0⟩, 0) (n : Int) (by omega) (by omega)
  have hz : l.zipIdx.getD (n : Int).toNat (⟨ByteArray.empty, [], 0⟩, 0) = (rd_T53 l (n : Int), n) := by
    unfold rd_T53
    rw [Int.toNat_natCast, List.getD_eq_getElem?_getD, List.getD_eq_getElem?_getD, List.getElem?_zipIdx, List.getElem?_eq_getElem hi]
    simp
  rw [hz] at hM
  have hM' : k53.M W base (fun k => (P k ∧ k ≠ g) ∧ f k = n) (rd_T53 l (n : Int)) cs := k53.M_mono (fun k hk => by simpa using hk) hM
  obtain ⟨v1, rfl, hR1⟩ := k53_openM hM'
  obtain ⟨A1, c1, rfl⟩ := Kd.R_slice hR1
  have hsz : (Kd.tag f k53).sz = 3 := rfl
  simp only [Int.toNat_natCast, hsz] at hcc
  exact ⟨A1, c1, hM', by have := hcc 0 _ rfl; simpa using this, hcc 1 _ rfl, hcc 2 _ rfl⟩
end Go.Proofs.YtmlclmbplbbbhaaDoor.P
end

section
/- spec.l2Insert: a file is put in its place. No conditions of its own. -/
set_option linter.unusedVariables false
set_option linter.unusedSimpArgs false
namespace Go.Proofs.YtmlclmbplbbbhaaDoor.P
open Go Go.RowKit Go.Proofs.YtmlclmbplbbbhaaDoorW.PrintWords Go.Proofs.YtmlclmbplbbbhaaDoorW.PrintLast Go.Proofs.YtmlclmbplbbbhaaDoorW.PrintMore
def spec_l2Insert.l0 : Nat → List S53 → ByteArray → Nat → Option Nat
 | 0, _, _, _ => none
 | k + 1, l, nm, i => if i < l.length then (if Op.bytesLess (rd_T53 l (i : Int)).f0.toList nm.toList = true then spec_l2Insert.l0 k l nm (i + 1) else some i) else some i
def spec_l2Insert.f (k : Nat) (l : List S53) (x : S53) : Option (List S53) := (spec_l2Insert.l0 k l x.f0 0).bind fun i => if l.length ≤ 1000000000 then some (l.take i ++ [x] ++ l.drop i) else none
theorem spec_l2Insert.le : ∀ (k : Nat) (l : List S53) (nm : ByteArray) (i r : Nat), i ≤ l.length → spec_l2Insert.l0 k l nm i = some r → r ≤ l.length
 | 0, _, _, _, _, _, h => by cases h
 | k + 1, l, nm, i, r, hi, h => by
  rw [spec_l2Insert.l0] at h
  split at h
  · split at h
    · exact spec_l2Insert.le k l nm (i + 1) r (by omega) h
    · injection h with h; omega
  · injection h with h; omega
/-- What a method without an answer does. -/
def FilesDone (w0 W : World) (P : Nat → Prop) (b : Nat) (q : Int) (l : List S53) (e : Ending) (W' : World) : Prop :=
  e = .returned (.tuple #[]) ∧ (∃ P', FilesAt W' w0.heap.size P' b q l) ∧ Below w0.heap.size w0 W' ∧ Kept W W' (fun k => k = b ∨ P k)
set_option maxHeartbeats 4000000 in
set_option maxRecDepth 100000 in
theorem spec_l2Insert.does (k b : Nat) (q : Int) (l : List S53) (x : S53) (Ax : Option Addr) (nx cx : Nat) (Px : Nat → Prop) (r : List S53) (w0 w : World) (hB : Below w0.heap.size w0 w) (P : Nat → Prop) (hF : FilesAt w w0.heap.size P b q l)
    (hx : k53.M w w0.heap.size Px x [.string x.f0, .slice Ax nx cx, .int .i64 x.f2]) (hxP : ∀ k, Px k → ¬ P k ∧ k ≠ b) (h : spec_l2Insert.f k l x = some r) :
    Calls Tryd.prog 61 #[.pointer (some ⟨b, 0, none⟩), .agg #[.string x.f0, .slice Ax nx cx, .int .i64 x.f2]] w (FilesDone w0 w P b q r) := by
  have hu := Tryd.underlying29
  have hu2 := Tryd.underlying53
  obtain ⟨n, e1, h⟩ := Option.bind_eq_some_iff.1 h
  have E1 := aM e1
  have HN := aM (spec_l2Insert.le k l x.f0 0 n (Nat.zero_le _) e1)
  clear e1
  obtain ⟨hbig, h⟩ := ifS h
  have HBG := aM hbig
  simp only [Option.some.injEq] at h
  subst h
  obtain ⟨v, hbox, hs, hP, hwb⟩ := hF
  have HB := aM hB
  have HX := aM hbox
  have HS := aM hs
  have HP := aM hP
  have HWB := aM hwb
  have HXM := aM hx
  have HXP := aM hxP
  obtain ⟨A, m, c, rfl⟩ := S_form3 hs
  have HM := aM (Kd.S_reads' hs).1
  have HL := aM (Kd.S_reads' hs).2.1
  have HC := aM (Kd.S_reads' hs).2.2
  have hz := cellsZ2 hbox
  have hsh := S_shape hs
  clear hbox hs hP hwb hx hxP hbig hB
  rcases hsh with ⟨rfl, rfl, rfl, hl0⟩ | ⟨g, rfl⟩
  · have HL0 := aM hl0
    clear hl0
    go_enter Tryd.func61, Tryd.ntmps61
    go_wp2_with (first | ((with_reducible refine gate_dst (N := 3) rfl ?_); refine bX 3 53 #[.string x.f0, .slice Ax nx cx, .int .i64 x.f2] ?_; intro bx hg w1 hbox hb; have XX := aM hbox; have HXW := aM (show w.heap.size ≤ bx from by rw [hg]; exact Nat.le_refl _); have B1 := aM hb; have Y1 := aM (blk_below HX.out hb); clear hz hg hbox hb; have hz := cellsZ2 Y1.out; have hx3 := cellsZ3 XX.out))
    go_loopg [4] k (fun kq v4 w' => ∃ i : Nat, v4 = .int .i64 i ∧ Aside0 (spec_l2Insert.l0 kq l x.f0 i = some n) ∧ Aside0 (i ≤ l.length) ∧ Aside0 (Below w1.heap.size w1 w'))
    case atStart => exact ⟨0, rfl, E1, ⟨Nat.zero_le _⟩, ⟨Below.refl _ _⟩⟩
    case round =>
      obtain ⟨i, rfl, HA, HI, HB1⟩ := hrel
      clear hz hx3
      cases gk with
      | zero => exact absurd HA.out (by simp [spec_l2Insert.l0])
      | succ kk =>
        have H := HA.out
        clear HA
        simp only [spec_l2Insert.l0] at H
        have Y2 := aM (blk_below Y1.out HB1.out)
        have X2 := aM (blk_below XX.out HB1.out)
        have hz := cellsZ2 Y2.out
        have hx3 := cellsZ3 X2.out
        rw [if_neg (by rw [HL0.out]; exact Nat.not_lt_zero _)] at H
        obtain rfl : i = n := by injection H
        obtain rfl : i = 0 := by have := HI.out; rw [HL0.out] at this; simpa using this
        clear H
        go_wp2_with fail
        go_quiet (fail)
        have BQ := aM (pw_below_drewN HB1.out nq)
        obtain ⟨W2, hW2⟩ : ∃ W, W = wr.drewN nq := ⟨_, rfl⟩
        rw [← hW2] at BQ ⊢
        have Y3 := aM (blk_below Y1.out BQ.out)
        have X3 := aM (blk_below XX.out BQ.out)
        have HS3 := aM (Kd.S_below (Kd.S_below HS.out B1.out) BQ.out)
        clear hW2 hz hx3
        obtain ⟨f_, rows, hrl_, hR_, h0_, hM_⟩ := S_rows HS3.out
        have RL := aM hrl_
        have RR := aM hR_
        have RM := aM hM_
        clear hrl_ hR_ h0_ hM_
        have hz := cellsZ2 Y3.out
        have hx3 := cellsZ3 X3.out
        go_wp2_with (first | ((with_reducible refine gate_builtin (b := .append) (xs := #[.tmp 28, .tmp 34]) rfl ?_); at_builtin; refine Kd.R_append_rows (Kd.raw 3) (Rr := (Kd.raw 3).K W2) (w0 := W2) W2.heap.size rfl (.tmp 28) (.tmp 34) 27 53 _ 48 rfl Tryd.underlying27 info53 rfl (by decide) (by omega) (.slice none 0 0) [] (rows.take 0) _ 0 _ (fun _ => True) (fun _ => False) rfl rfl (Kd.R_nil _ _ _ _ _) (raw_take (d := k53) (n := 0) RR.out (by rw [RL.out]; exact Nat.zero_le _)) (fun _ _ h => h) (fun _ hk => hk.elim) (fun _ _ => trivial) (Below.refl _ _) (Nat.le_refl _) (by have := HBG.out; have := HI.out; simp only [List.length_append, List.length_nil, List.length_take, List.length_singleton]; omega) ?_; intro v1 u1 hr1 hb1 hg1 hat1; obtain ⟨A1, m1, c1, rfl⟩ := R_form3 hr1; have R1 := aM hr1; have D1 := aM hb1; clear hr1 hb1 hg1 hat1 hz hx3; have hz := cellsZ2 (blk_below Y3.out D1.out); have hx3 := cellsZ3 (blk_below X3.out D1.out)) | ((with_reducible refine gate_dst (N := 38) rfl ?_); refine Kd.R_lit (Kd.raw 3) _ 53 ?hg (N := 38) ?hd (xs := [[.string x.f0, .slice Ax nx cx, .int .i64 x.f2]]) (inner := [.string x.f0, .slice Ax nx cx, .int .i64 x.f2]) (ok := fun _ => True) (okp := fun _ => True) ?hr ?hp (fun _ hk => hk) trivial (Below.refl _ _) (Nat.le_refl _) (by simp) ?_; (case hd => rfl); (case hg => rfl); (case hr => first | (go_simp; done) | (go_simp; rfl)); (case hp => exact Reps.c3 (show Kd.M (Kd.raw 3) _ _ _ [.string x.f0, .slice Ax nx cx, .int .i64 x.f2] [.string x.f0, .slice Ax nx cx, .int .i64 x.f2] from ⟨rfl, rfl, fun u_ hu_ => by simp at hu_; rcases hu_ with rfl | rfl | rfl <;> rfl⟩) (Reps.none _ _)); intro v2 u2 hr2 hb2 hg2 hat2; obtain ⟨Al, ml, cl, rfl⟩ := R_form3 hr2; have R2 := aM hr2; have D2 := aM (below_after D1.out hb2); replace R1 := aM (Kd.R_below R1.out hb2); clear hr2 hb2 hg2 hat2 hz hx3; have hz := cellsZ2 (blk_below Y3.out D2.out); have hx3 := cellsZ3 (blk_below X3.out D2.out)) | ((with_reducible refine gate_builtin (b := .append) (xs := #[.tmp 36, .tmp 38]) rfl ?_); at_builtin; refine Kd.R_append_rows (Kd.raw 3) (Rr := (Kd.raw 3).K u2) (w0 := W2) W2.heap.size rfl (.tmp 36) (.tmp 38) 27 53 _ 48 rfl Tryd.underlying27 info53 rfl (by decide) (by omega) (.slice A1 m1 c1) _ [[.string x.f0, .slice Ax nx cx, .int .i64 x.f2]] _ ml _ (fun _ => True) (fun _ => False) rfl rfl R1.out (raw_all (d := k53) R2.out) (fun _ _ h => h) (fun _ hk => hk.elim) (fun _ _ => trivial) D2.out D2.out.size (by have := HBG.out; have := HI.out; have := (Kd.R_reads' R2.out).1; rw [List.length_singleton] at this; simp only [List.length_append, List.length_nil, List.length_take, List.length_singleton]; omega) ?_; intro v3 u3 hr3 hb3 hg3 hat3; obtain ⟨A3, m3, c3, rfl⟩ := R_form3 hr3; have R3 := aM hr3; have D3 := aM hb3; clear hr3 hb3 hg3 hat3 hz hx3; have hz := cellsZ2 (blk_below Y3.out D3.out)) | ((with_reducible refine gate_builtin (b := .append) (xs := #[.tmp 41, .tmp 47]) rfl ?_); at_builtin; refine Kd.R_append_rows (Kd.raw 3) (Rr := (Kd.raw 3).K u3) (w0 := W2) W2.heap.size rfl (.tmp 41) (.tmp 47) 27 53 _ 48 rfl Tryd.underlying27 info53 rfl (by decide) (by omega) (.slice A3 m3 c3) _ (rows.drop 0) _ 0 _ (fun _ => True) (fun _ => False) rfl rfl R3.out (raw_drop (d := k53) (n := 0) (Kd.R_below RR.out D3.out) (by rw [RL.out]; exact Nat.zero_le _) rfl) (fun _ _ h => h) (fun _ hk => hk.elim) (fun _ _ => trivial) D3.out D3.out.size (by have := HBG.out; have := HI.out; have := HM.out; simp only [List.length_append, List.length_nil, List.length_take, List.length_singleton]; omega) ?_; intro v4 u4 hr4 hb4 hg4 hat4; obtain ⟨A4, m4, c4, rfl⟩ := R_form3 hr4; have R4 := aM hr4; have D4 := aM hb4; clear hr4 hb4 hg4 hat4 hz; have hz := cellsZ2 (blk_below Y3.out D4.out)))
        all_goals
          refine bodyPost_ret (results_none rfl _ _ _) rfl ?_
          have BW := below_after (below_after HB.out B1.out) (below_after BQ.out D4.out)
          have HS4 := S_inserted (d := k53) D4.out RM.out (M_after (M_after HXM.out B1.out) BQ.out) (fun k hk => (HXP.out k hk).1) (Nat.zero_le _) RL.out R4.out (Nat.le_trans HB.out.size (Nat.le_trans B1.out.size BQ.out.size))
          first | exact ⟨rfl, ⟨_, FilesAt.put (blk_below Y3.out D4.out) HWB.out HS4 (fun hk => by rcases hk with hk | hk | hk; exact HP.out hk; exact (HXP.out b hk).2 rfl; have := box_lt Y3.out; omega)⟩, below_set BW HWB.out, Kept.set (Kept.below (Kept.below (Kept.below (Kept.refl w _) B1.out) BQ.out) D4.out) (.inl (.inl rfl))⟩ | (rw [List.append_assoc, List.singleton_append] at HS4; exact ⟨rfl, ⟨_, FilesAt.put (blk_below Y3.out D4.out) HWB.out HS4 (fun hk => by rcases hk with hk | hk | hk; exact HP.out hk; exact (HXP.out b hk).2 rfl; have := box_lt Y3.out; omega)⟩, below_set BW HWB.out, Kept.set (Kept.below (Kept.below (Kept.below (Kept.refl w _) B1.out) BQ.out) D4.out) (.inl (.inl rfl))⟩)

  · go_enter Tryd.func61, Tryd.ntmps61
    go_wp2_with (first | ((with_reducible refine gate_dst (N := 3) rfl ?_); refine bX 3 53 #[.string x.f0, .slice Ax nx cx, .int .i64 x.f2] ?_; intro bx hg w1 hbox hb; have XX := aM hbox; have HXW := aM (show w.heap.size ≤ bx from by rw [hg]; exact Nat.le_refl _); have B1 := aM hb; have Y1 := aM (blk_below HX.out hb); clear hz hg hbox hb; have hz := cellsZ2 Y1.out; have hx3 := cellsZ3 XX.out))
    go_loopg [4] k (fun kq v4 w' => ∃ i : Nat, v4 = .int .i64 i ∧ Aside0 (spec_l2Insert.l0 kq l x.f0 i = some n) ∧ Aside0 (i ≤ l.length) ∧ Aside0 (Below w1.heap.size w1 w'))
    case atStart => exact ⟨0, rfl, E1, ⟨Nat.zero_le _⟩, ⟨Below.refl _ _⟩⟩
    case round =>
      obtain ⟨i, rfl, HA, HI, HB1⟩ := hrel
      clear hz hx3
      cases gk with
      | zero => exact absurd HA.out (by simp [spec_l2Insert.l0])
      | succ kk =>
        have H := HA.out
        clear HA
        simp only [spec_l2Insert.l0] at H
        have Y2 := aM (blk_below Y1.out HB1.out)
        have X2 := aM (blk_below XX.out HB1.out)
        have hz := cellsZ2 Y2.out
        have hx3 := cellsZ3 X2.out
        have hmi := HM.out
        by_cases hlt : i < l.length
        · rw [if_pos hlt] at H
          obtain ⟨ad, Ae, ce, e1, he0, he1, he2, hle, hCe⟩ := at_T53 (Kd.C_below (Kd.C_below HC.out B1.out) HB1.out) (i : Int) (by omega) (by omega)
          cases e1
          rw [Int.toNat_natCast, Addr.add_lit, Nat.zero_add] at he0
          clear he1 he2 hle hCe
          have hd : decide ((i : Int) < (m : Int)) = true := decide_eq_true (by omega)
          have hi0 : (0 : Int) ≤ (i : Int) := by omega
          have him : i < m := by omega
          have himl : i ≤ m := by omega
          have hic : i ≤ c := by have := HL.out; omega
          have hmc : m ≤ c := HL.out
          have HA : Aside0 ((if c = i then some (⟨g, 0, none⟩ : Addr) else some ⟨g, i * 3, none⟩) = if c = i then some ⟨g, 0, none⟩ else (some (⟨g, 0, none⟩ : Addr)).map (·.add (i * k53.sz))) := ⟨by split; rfl; rw [Option.map_some, Addr.add_lit, Nat.zero_add]; rfl⟩
          have hiw : IntKind.i64.wrap ((i : Int) + 1) = (i : Int) + 1 := wrap_ix hlt (by have := S_cap HS.out; have := HL.out; omega)
          by_cases hb : Op.bytesLess (rd_T53 l (i : Int)).f0.toList x.f0.toList = true
          · rw [if_pos hb] at H
            have H' := aM H
            have HI' := aM hlt
            clear H hlt hmi
            go_wp2_with fail
            go_quiet (fail)
            go_wp2
            go_roundg kk
            case rel => exact ⟨i + 1, by go_num, H', ⟨HI'.out⟩, ⟨pw_below_drewN HB1.out nq⟩⟩
            case measure => exact Nat.lt_succ_self _
          · rw [if_neg hb] at H
            obtain rfl : i = n := by injection H
            have hb' : Op.bytesLess (rd_T53 l (i : Int)).f0.toList x.f0.toList = false := by simpa using hb
            clear H hb hmi hlt
            go_wp2_with fail
            go_quiet (fail)
            have BQ := aM (pw_below_drewN HB1.out nq)
            obtain ⟨W2, hW2⟩ : ∃ W, W = wr.drewN nq := ⟨_, rfl⟩
            rw [← hW2] at BQ ⊢
            have Y3 := aM (blk_below Y1.out BQ.out)
            have X3 := aM (blk_below XX.out BQ.out)
            have HS3 := aM (Kd.S_below (Kd.S_below HS.out B1.out) BQ.out)
            clear hW2 hz hx3
            obtain ⟨f_, rows, hrl_, hR_, h0_, hM_⟩ := S_rows HS3.out
            have RL := aM hrl_
            have RR := aM hR_
            have RM := aM hM_
            clear hrl_ hR_ h0_ hM_
            have hz := cellsZ2 Y3.out
            have hx3 := cellsZ3 X3.out
            go_wp2_with (first | ((with_reducible refine gate_builtin (b := .append) (xs := #[.tmp 28, .tmp 34]) rfl ?_); at_builtin; refine Kd.R_append_rows (Kd.raw 3) (Rr := (Kd.raw 3).K W2) (w0 := W2) W2.heap.size rfl (.tmp 28) (.tmp 34) 27 53 _ 48 rfl Tryd.underlying27 info53 rfl (by decide) (by omega) (.slice none 0 0) [] (rows.take i) _ i _ (fun _ => True) (fun _ => False) rfl rfl (Kd.R_nil _ _ _ _ _) (raw_take (d := k53) RR.out (by rw [RL.out]; exact HI.out)) (fun _ _ h => h) (fun _ hk => hk.elim) (fun _ _ => trivial) (Below.refl _ _) (Nat.le_refl _) (by have := HBG.out; have := HI.out; simp only [List.length_append, List.length_nil, List.length_take, List.length_singleton]; omega) ?_; intro v1 u1 hr1 hb1 hg1 hat1; obtain ⟨A1, m1, c1, rfl⟩ := R_form3 hr1; have R1 := aM hr1; have D1 := aM hb1; clear hr1 hb1 hg1 hat1 hz hx3; have hz := cellsZ2 (blk_below Y3.out D1.out); have hx3 := cellsZ3 (blk_below X3.out D1.out)) | ((with_reducible refine gate_dst (N := 38) rfl ?_); refine Kd.R_lit (Kd.raw 3) _ 53 ?hg (N := 38) ?hd (xs := [[.string x.f0, .slice Ax nx cx, .int .i64 x.f2]]) (inner := [.string x.f0, .slice Ax nx cx, .int .i64 x.f2]) (ok := fun _ => True) (okp := fun _ => True) ?hr ?hp (fun _ hk => hk) trivial (Below.refl _ _) (Nat.le_refl _) (by simp) ?_; (case hd => rfl); (case hg => rfl); (case hr => first | (go_simp; done) | (go_simp; rfl)); (case hp => exact Reps.c3 (show Kd.M (Kd.raw 3) _ _ _ [.string x.f0, .slice Ax nx cx, .int .i64 x.f2] [.string x.f0, .slice Ax nx cx, .int .i64 x.f2] from ⟨rfl, rfl, fun u_ hu_ => by simp at hu_; rcases hu_ with rfl | rfl | rfl <;> rfl⟩) (Reps.none _ _)); intro v2 u2 hr2 hb2 hg2 hat2; obtain ⟨Al, ml, cl, rfl⟩ := R_form3 hr2; have R2 := aM hr2; have D2 := aM (below_after D1.out hb2); replace R1 := aM (Kd.R_below R1.out hb2); clear hr2 hb2 hg2 hat2 hz hx3; have hz := cellsZ2 (blk_below Y3.out D2.out); have hx3 := cellsZ3 (blk_below X3.out D2.out)) | ((with_reducible refine gate_builtin (b := .append) (xs := #[.tmp 36, .tmp 38]) rfl ?_); at_builtin; refine Kd.R_append_rows (Kd.raw 3) (Rr := (Kd.raw 3).K u2) (w0 := W2) W2.heap.size rfl (.tmp 36) (.tmp 38) 27 53 _ 48 rfl Tryd.underlying27 info53 rfl (by decide) (by omega) (.slice A1 m1 c1) _ [[.string x.f0, .slice Ax nx cx, .int .i64 x.f2]] _ ml _ (fun _ => True) (fun _ => False) rfl rfl R1.out (raw_all (d := k53) R2.out) (fun _ _ h => h) (fun _ hk => hk.elim) (fun _ _ => trivial) D2.out D2.out.size (by have := HBG.out; have := HI.out; have := (Kd.R_reads' R2.out).1; rw [List.length_singleton] at this; simp only [List.length_append, List.length_nil, List.length_take, List.length_singleton]; omega) ?_; intro v3 u3 hr3 hb3 hg3 hat3; obtain ⟨A3, m3, c3, rfl⟩ := R_form3 hr3; have R3 := aM hr3; have D3 := aM hb3; clear hr3 hb3 hg3 hat3 hz hx3; have hz := cellsZ2 (blk_below Y3.out D3.out)) | ((with_reducible refine gate_builtin (b := .append) (xs := #[.tmp 41, .tmp 47]) rfl ?_); at_builtin; refine Kd.R_append_rows (Kd.raw 3) (Rr := (Kd.raw 3).K u3) (w0 := W2) W2.heap.size rfl (.tmp 41) (.tmp 47) 27 53 _ 48 rfl Tryd.underlying27 info53 rfl (by decide) (by omega) (.slice A3 m3 c3) _ (rows.drop i) _ (m - i) _ (fun _ => True) (fun _ => False) rfl rfl R3.out (raw_drop (d := k53) (Kd.R_below RR.out D3.out) (by rw [RL.out]; exact HI.out) (by first | exact HA.out | (rw [if_pos (show c = i by first | assumption | omega)]) | (rw [if_neg (show ¬ c = i by first | assumption | omega), Option.map_some, Addr.add_lit, Nat.zero_add]; rfl))) (fun _ _ h => h) (fun _ hk => hk.elim) (fun _ _ => trivial) D3.out D3.out.size (by have := HBG.out; have := HI.out; have := HM.out; simp only [List.length_append, List.length_nil, List.length_take, List.length_singleton]; omega) ?_; intro v4 u4 hr4 hb4 hg4 hat4; obtain ⟨A4, m4, c4, rfl⟩ := R_form3 hr4; have R4 := aM hr4; have D4 := aM hb4; clear hr4 hb4 hg4 hat4 hz; have hz := cellsZ2 (blk_below Y3.out D4.out)))
            all_goals
              refine bodyPost_ret (results_none rfl _ _ _) rfl ?_
              have BW := below_after (below_after HB.out B1.out) (below_after BQ.out D4.out)
              have HS4 := S_inserted (d := k53) D4.out RM.out (M_after (M_after HXM.out B1.out) BQ.out) (fun k hk => (HXP.out k hk).1) HI.out RL.out R4.out (Nat.le_trans HB.out.size (Nat.le_trans B1.out.size BQ.out.size))
              first | exact ⟨rfl, ⟨_, FilesAt.put (blk_below Y3.out D4.out) HWB.out HS4 (fun hk => by rcases hk with hk | hk | hk; exact HP.out hk; exact (HXP.out b hk).2 rfl; have := box_lt Y3.out; omega)⟩, below_set BW HWB.out, Kept.set (Kept.below (Kept.below (Kept.below (Kept.refl w _) B1.out) BQ.out) D4.out) (.inl (.inl rfl))⟩ | (rw [List.append_assoc, List.singleton_append] at HS4; exact ⟨rfl, ⟨_, FilesAt.put (blk_below Y3.out D4.out) HWB.out HS4 (fun hk => by rcases hk with hk | hk | hk; exact HP.out hk; exact (HXP.out b hk).2 rfl; have := box_lt Y3.out; omega)⟩, below_set BW HWB.out, Kept.set (Kept.below (Kept.below (Kept.below (Kept.refl w _) B1.out) BQ.out) D4.out) (.inl (.inl rfl))⟩)
        · rw [if_neg hlt] at H
          obtain rfl : i = n := by injection H
          have hd : decide ((i : Int) < (m : Int)) = false := decide_eq_false (by omega)
          have hdn : decide (i < m) = false := decide_eq_false (by omega)
          have himl : i ≤ m := by have := HI.out; omega
          have hic : i ≤ c := by have := HL.out; omega
          have hmc : m ≤ c := HL.out
          have hi0 : (0 : Int) ≤ (i : Int) := by omega
          have HA : Aside0 ((if c = i then some (⟨g, 0, none⟩ : Addr) else some ⟨g, i * 3, none⟩) = if c = i then some ⟨g, 0, none⟩ else (some (⟨g, 0, none⟩ : Addr)).map (·.add (i * k53.sz))) := ⟨by split; rfl; rw [Option.map_some, Addr.add_lit, Nat.zero_add]; rfl⟩
          clear H hlt hmi
          go_wp2_with fail
          go_quiet (fail)
          have BQ := aM (pw_below_drewN HB1.out nq)
          obtain ⟨W2, hW2⟩ : ∃ W, W = wr.drewN nq := ⟨_, rfl⟩
          rw [← hW2] at BQ ⊢
          have Y3 := aM (blk_below Y1.out BQ.out)
          have X3 := aM (blk_below XX.out BQ.out)
          have HS3 := aM (Kd.S_below (Kd.S_below HS.out B1.out) BQ.out)
          clear hW2 hz hx3
          obtain ⟨f_, rows, hrl_, hR_, h0_, hM_⟩ := S_rows HS3.out
          have RL := aM hrl_
          have RR := aM hR_
          have RM := aM hM_
          clear hrl_ hR_ h0_ hM_
          have hz := cellsZ2 Y3.out
          have hx3 := cellsZ3 X3.out
          go_wp2_with (first | ((with_reducible refine gate_builtin (b := .append) (xs := #[.tmp 28, .tmp 34]) rfl ?_); at_builtin; refine Kd.R_append_rows (Kd.raw 3) (Rr := (Kd.raw 3).K W2) (w0 := W2) W2.heap.size rfl (.tmp 28) (.tmp 34) 27 53 _ 48 rfl Tryd.underlying27 info53 rfl (by decide) (by omega) (.slice none 0 0) [] (rows.take i) _ i _ (fun _ => True) (fun _ => False) rfl rfl (Kd.R_nil _ _ _ _ _) (raw_take (d := k53) RR.out (by rw [RL.out]; exact HI.out)) (fun _ _ h => h) (fun _ hk => hk.elim) (fun _ _ => trivial) (Below.refl _ _) (Nat.le_refl _) (by have := HBG.out; have := HI.out; simp only [List.length_append, List.length_nil, List.length_take, List.length_singleton]; omega) ?_; intro v1 u1 hr1 hb1 hg1 hat1; obtain ⟨A1, m1, c1, rfl⟩ := R_form3 hr1; have R1 := aM hr1; have D1 := aM hb1; clear hr1 hb1 hg1 hat1 hz hx3; have hz := cellsZ2 (blk_below Y3.out D1.out); have hx3 := cellsZ3 (blk_below X3.out D1.out)) | ((with_reducible refine gate_dst (N := 38) rfl ?_); refine Kd.R_lit (Kd.raw 3) _ 53 ?hg (N := 38) ?hd (xs := [[.string x.f0, .slice Ax nx cx, .int .i64 x.f2]]) (inner := [.string x.f0, .slice Ax nx cx, .int .i64 x.f2]) (ok := fun _ => True) (okp := fun _ => True) ?hr ?hp (fun _ hk => hk) trivial (Below.refl _ _) (Nat.le_refl _) (by simp) ?_; (case hd => rfl); (case hg => rfl); (case hr => first | (go_simp; done) | (go_simp; rfl)); (case hp => exact Reps.c3 (show Kd.M (Kd.raw 3) _ _ _ [.string x.f0, .slice Ax nx cx, .int .i64 x.f2] [.string x.f0, .slice Ax nx cx, .int .i64 x.f2] from ⟨rfl, rfl, fun u_ hu_ => by simp at hu_; rcases hu_ with rfl | rfl | rfl <;> rfl⟩) (Reps.none _ _)); intro v2 u2 hr2 hb2 hg2 hat2; obtain ⟨Al, ml, cl, rfl⟩ := R_form3 hr2; have R2 := aM hr2; have D2 := aM (below_after D1.out hb2); replace R1 := aM (Kd.R_below R1.out hb2); clear hr2 hb2 hg2 hat2 hz hx3; have hz := cellsZ2 (blk_below Y3.out D2.out); have hx3 := cellsZ3 (blk_below X3.out D2.out)) | ((with_reducible refine gate_builtin (b := .append) (xs := #[.tmp 36, .tmp 38]) rfl ?_); at_builtin; refine Kd.R_append_rows (Kd.raw 3) (Rr := (Kd.raw 3).K u2) (w0 := W2) W2.heap.size rfl (.tmp 36) (.tmp 38) 27 53 _ 48 rfl Tryd.underlying27 info53 rfl (by decide) (by omega) (.slice A1 m1 c1) _ [[.string x.f0, .slice Ax nx cx, .int .i64 x.f2]] _ ml _ (fun _ => True) (fun _ => False) rfl rfl R1.out (raw_all (d := k53) R2.out) (fun _ _ h => h) (fun _ hk => hk.elim) (fun _ _ => trivial) D2.out D2.out.size (by have := HBG.out; have := HI.out; have := (Kd.R_reads' R2.out).1; rw [List.length_singleton] at this; simp only [List.length_append, List.length_nil, List.length_take, List.length_singleton]; omega) ?_; intro v3 u3 hr3 hb3 hg3 hat3; obtain ⟨A3, m3, c3, rfl⟩ := R_form3 hr3; have R3 := aM hr3; have D3 := aM hb3; clear hr3 hb3 hg3 hat3 hz hx3; have hz := cellsZ2 (blk_below Y3.out D3.out)) | ((with_reducible refine gate_builtin (b := .append) (xs := #[.tmp 41, .tmp 47]) rfl ?_); at_builtin; refine Kd.R_append_rows (Kd.raw 3) (Rr := (Kd.raw 3).K u3) (w0 := W2) W2.heap.size rfl (.tmp 41) (.tmp 47) 27 53 _ 48 rfl Tryd.underlying27 info53 rfl (by decide) (by omega) (.slice A3 m3 c3) _ (rows.drop i) _ (m - i) _ (fun _ => True) (fun _ => False) rfl rfl R3.out (raw_drop (d := k53) (Kd.R_below RR.out D3.out) (by rw [RL.out]; exact HI.out) (by first | exact HA.out | (rw [if_pos (show c = i by first | assumption | omega)]) | (rw [if_neg (show ¬ c = i by first | assumption | omega), Option.map_some, Addr.add_lit, Nat.zero_add]; rfl))) (fun _ _ h => h) (fun _ hk => hk.elim) (fun _ _ => trivial) D3.out D3.out.size (by have := HBG.out; have := HI.out; have := HM.out; simp only [List.length_append, List.length_nil, List.length_take, List.length_singleton]; omega) ?_; intro v4 u4 hr4 hb4 hg4 hat4; obtain ⟨A4, m4, c4, rfl⟩ := R_form3 hr4; have R4 := aM hr4; have D4 := aM hb4; clear hr4 hb4 hg4 hat4 hz; have hz := cellsZ2 (blk_below Y3.out D4.out)))
          all_goals
            refine bodyPost_ret (results_none rfl _ _ _) rfl ?_
            have BW := below_after (below_after HB.out B1.out) (below_after BQ.out D4.out)
            have HS4 := S_inserted (d := k53) D4.out RM.out (M_after (M_after HXM.out B1.out) BQ.out) (fun k hk => (HXP.out k hk).1) HI.out RL.out R4.out (Nat.le_trans HB.out.size (Nat.le_trans B1.out.size BQ.out.size))
            first | exact ⟨rfl, ⟨_, FilesAt.put (blk_below Y3.out D4.out) HWB.out HS4 (fun hk => by rcases hk with hk | hk | hk; exact HP.out hk; exact (HXP.out b hk).2 rfl; have := box_lt Y3.out; omega)⟩, below_set BW HWB.out, Kept.set (Kept.below (Kept.below (Kept.below (Kept.refl w _) B1.out) BQ.out) D4.out) (.inl (.inl rfl))⟩ | (rw [List.append_assoc, List.singleton_append] at HS4; exact ⟨rfl, ⟨_, FilesAt.put (blk_below Y3.out D4.out) HWB.out HS4 (fun hk => by rcases hk with hk | hk | hk; exact HP.out hk; exact (HXP.out b hk).2 rfl; have := box_lt Y3.out; omega)⟩, below_set BW HWB.out, Kept.set (Kept.below (Kept.below (Kept.below (Kept.refl w _) B1.out) BQ.out) D4.out) (.inl (.inl rfl))⟩)

end Go.Proofs.YtmlclmbplbbbhaaDoor.P
end

-- written by a program of this session's (wip/pp)
namespace Go.Proofs.YtmlclmbplbbbhaaDoor.P
open Go.RowKit Go.Proofs.YtmlclmbplbbbhaaDoorW.PrintWords Go.Proofs.YtmlclmbplbbbhaaDoorW.PrintLast Go.Proofs.YtmlclmbplbbbhaaDoorW.PrintMore
attribute [local go_sem] max2_int min2_int max_two min_two max_three min_three max_four min_four str_geq str_gtr str_leq   -- for this text's walks alone
set_option linter.unusedVariables false
set_option linter.unusedSimpArgs false

/-! ### spec_l1In: function 65 -/
def spec_l1In.f (a0 : Int) (a1 : Int) (a2 : Int) : Option (Bool) := if a0 ≥ a1 then (some (decide (a0 ≤ a2))) else (some false)
set_option maxHeartbeats 8000000 in
set_option maxRecDepth 100000 in
theorem spec_l1In.calls (a0 : Int) (a1 : Int) (a2 : Int) (r : Bool) (w : World) (h : spec_l1In.f a0 a1 a2 = some r) :
 Calls Tryd.prog 65 #[.int .i64 a0, .int .i64 a1, .int .i64 a2] w fun e w' => e = .returned (.bool r) ∧ Drawn0 w w' := by
 have H : (if a0 ≥ a1 then (some (decide (a0 ≤ a2))) else (some false)) = some r := h
 clear h
 by_cases c4 : a0 ≥ a1
 · rw [if_pos c4] at H
   have c4b0 := dE c4
   clear c4
   obtain rfl := Option.some.inj H
   go_enter Tryd.func65, Tryd.ntmps65
   go_wp2
   go_ret
   exact ⟨z4458, za9de⟩
 · rw [if_neg c4] at H
   have c4b0 := nE c4
   clear c4
   obtain rfl := Option.some.inj H
   go_enter Tryd.func65, Tryd.ntmps65
   go_wp2
   go_ret
   exact ⟨z4458, za9de⟩

end Go.Proofs.YtmlclmbplbbbhaaDoor.P

-- written by a program of this session's (wip/pp)
namespace Go.Proofs.YtmlclmbplbbbhaaDoor.P
open Go.RowKit Go.Proofs.YtmlclmbplbbbhaaDoorW.PrintWords Go.Proofs.YtmlclmbplbbbhaaDoorW.PrintLast Go.Proofs.YtmlclmbplbbbhaaDoorW.PrintMore
attribute [local go_sem] max2_int min2_int max_two min_two max_three min_three max_four min_four str_geq str_gtr str_leq   -- for this text's walks alone
set_option linter.unusedVariables false
set_option linter.unusedSimpArgs false

/-! ### spec_l2Name: function 35 -/
def spec_l2Name.l0 : Nat → ByteArray → Int → Option (Bool)
 | 0, _, _ => none
 | k + 1, x0, x3 => if x3 < (x0.size : Int) then (if 0 ≤ x3 then (if (bt x0 x3) ≥ 97 then (if (bt x0 x3) ≤ 122 then (spec_l2Name.l0 k x0 (wrap64 (x3 + 1))) else (if (bt x0 x3) ≥ 48 then (if (bt x0 x3) ≤ 57 then (spec_l2Name.l0 k x0 (wrap64 (x3 + 1))) else (if ((bt x0 x3) = 45) then (spec_l2Name.l0 k x0 (wrap64 (x3 + 1))) else (some false))) else (if ((bt x0 x3) = 45) then (spec_l2Name.l0 k x0 (wrap64 (x3 + 1))) else (some false)))) else (if (bt x0 x3) ≥ 48 then (if (bt x0 x3) ≤ 57 then (spec_l2Name.l0 k x0 (wrap64 (x3 + 1))) else (if ((bt x0 x3) = 45) then (spec_l2Name.l0 k x0 (wrap64 (x3 + 1))) else (some false))) else (if ((bt x0 x3) = 45) then (spec_l2Name.l0 k x0 (wrap64 (x3 + 1))) else (some false)))) else (none)) else (some true)
def spec_l2Name.f (k : Nat) (a0 : ByteArray) : Option (Bool) := (spec_l1In.f (a0.size : Int) 1 20).bind fun t101 => (if t101 = true then (spec_l2Name.l0 k a0 0) else (some false))
theorem spec_l2Name.mono_l : ∀ k, (∀ y0 y1, LeO (spec_l2Name.l0 k y0 y1) (spec_l2Name.l0 (k + 1) y0 y1))
 | 0 => fun _ _ r h => by simp [spec_l2Name.l0] at h
 | k + 1 => by
  have ih0 := spec_l2Name.mono_l k
  · intro y0 y1
    unfold spec_l2Name.l0
    exact moZ
theorem spec_l2Name.mono : ∀ a0 k, LeO (spec_l2Name.f k a0) (spec_l2Name.f (k + 1) a0) := by
 intro a0 k
 have ih0 := spec_l2Name.mono_l k
 unfold spec_l2Name.f
 exact moZ
set_option maxHeartbeats 8000000 in
set_option maxRecDepth 100000 in
theorem spec_l2Name.calls (k : Nat) (a0 : ByteArray) (r : Bool) (w : World) (h : spec_l2Name.f k a0 = some r) :
 Calls Tryd.prog 35 #[.string a0] w fun e w' => e = .returned (.bool r) ∧ Drawn0 w w' := by
 have H : ((spec_l1In.f (a0.size : Int) 1 20).bind fun t101 => (if t101 = true then (spec_l2Name.l0 k a0 0) else (some false))) = some r := h
 clear h
 obtain ⟨t101, A2, H⟩ := bS H; try dsimp only at H
 by_cases c3 : t101 = true
 · subst c3
   rw [if_pos rfl] at H
   have H' := aM H
   clear H
   go_enter Tryd.func35, Tryd.ntmps35
   go_wp2_with (first | ((with_reducible refine gate_callee (f := 65) rfl ?_); refine gL 7 Tryd.func65 #[.int .i64 (a0.size : Int), .int .i64 1, .int .i64 20] ?_; (with_reducible refine (spec_l1In.calls (a0.size : Int) 1 20 true _ A2.out).mono ?_); rintro e w' ⟨rfl, ⟨nd, rfl⟩⟩; refine ⟨_, rfl, ?_⟩))
   go_loopg [3] k (fun kq v3 w' => ∃ (x3_1 : Int), v3 = .int .i64 x3_1 ∧ Aside0 (spec_l2Name.l0 kq a0 x3_1 = some r) ∧ Aside0 (kq ≤ k) ∧ Drawn0 w w')
   case atStart => exact ⟨(0), z4458, H', ⟨Nat.le_refl _⟩, za9de⟩
   case round =>
    clear H'
    (try clear c3)
    obtain ⟨x3_1, rfl, HA, HK1, ⟨m1, rfl⟩⟩ := hrel
    cases gk with
    | zero => exact absurd HA.out (by simp [spec_l2Name.l0])
    | succ k1 =>
     have H := HA.out
     clear HA
     simp only [spec_l2Name.l0] at H
     by_cases c4 : x3_1 < (a0.size : Int)
     · rw [if_pos c4] at H
       have c4b0 := dL c4
       clear c4
       obtain ⟨c5b0, H⟩ := sE H
       by_cases c7 : (bt a0 x3_1) ≥ 97
       · rw [if_pos c7] at H
         have c7b0 := dE c7
         clear c7
         by_cases c8 : (bt a0 x3_1) ≤ 122
         · rw [if_pos c8] at H
           have c8b0 := dE c8
           clear c8
           have H' := aM H
           clear H
           have p6 : 0 ≤ (x3_1 : Int) := of_decide_eq_true z1200
           have q6 : x3_1 < (a0.size : Int) := of_decide_eq_true z1200
           have hx6 := bt_at a0 x3_1
           replace p6 := eq_true p6
           replace q6 := eq_true q6
           go_wp2
           go_roundg k1
           case measure => have := HK1.out; omega
           case rel => exact ⟨(wrap64 (x3_1 + 1)), z4458, H', ⟨zfb39⟩, za9de⟩
         · rw [if_neg c8] at H
           have c8b0 := nE c8
           clear c8
           by_cases c9 : (bt a0 x3_1) ≥ 48
           · rw [if_pos c9] at H
             have c9b0 := dE c9
             clear c9
             by_cases c10 : (bt a0 x3_1) ≤ 57
             · rw [if_pos c10] at H
               have c10b0 := dE c10
               clear c10
               have H' := aM H
               clear H
               have p6 : 0 ≤ (x3_1 : Int) := of_decide_eq_true z1200
               have q6 : x3_1 < (a0.size : Int) := of_decide_eq_true z1200
               have hx6 := bt_at a0 x3_1
               replace p6 := eq_true p6
               replace q6 := eq_true q6
               go_wp2
               go_roundg k1
               case measure => have := HK1.out; omega
               case rel => exact ⟨(wrap64 (x3_1 + 1)), z4458, H', ⟨zfb39⟩, za9de⟩
             · rw [if_neg c10] at H
               have c10b0 := nE c10
               clear c10
               by_cases c11 : ((bt a0 x3_1) = 45)
               · rw [if_pos c11] at H
                 have c11b0 : ((bt a0 x3_1) == 45) = true := beq_iff_eq.mpr c11
                 have c11b1 : ((bt a0 x3_1) != 45) = false := bne_eq_false_iff_eq.mpr c11
                 clear c11
                 have H' := aM H
                 clear H
                 have p6 : 0 ≤ (x3_1 : Int) := of_decide_eq_true z1200
                 have q6 : x3_1 < (a0.size : Int) := of_decide_eq_true z1200
                 have hx6 := bt_at a0 x3_1
                 replace p6 := eq_true p6
                 replace q6 := eq_true q6
                 go_wp2
                 go_roundg k1
                 case measure => have := HK1.out; omega
                 case rel => exact ⟨(wrap64 (x3_1 + 1)), z4458, H', ⟨zfb39⟩, za9de⟩
               · rw [if_neg c11] at H
                 have c11b0 := eqN c11
                 obtain rfl := Option.some.inj H
                 have p6 : 0 ≤ (x3_1 : Int) := of_decide_eq_true z1200
                 have q6 : x3_1 < (a0.size : Int) := of_decide_eq_true z1200
                 have hx6 := bt_at a0 x3_1
                 replace p6 := eq_true p6
                 replace q6 := eq_true q6
                 go_wp2
                 go_ret
                 exact ⟨z4458, za9de⟩
           · rw [if_neg c9] at H
             have c9b0 := nE c9
             clear c9
             by_cases c12 : ((bt a0 x3_1) = 45)
             · rw [if_pos c12] at H
               have c12b0 : ((bt a0 x3_1) == 45) = true := beq_iff_eq.mpr c12
               have c12b1 : ((bt a0 x3_1) != 45) = false := bne_eq_false_iff_eq.mpr c12
               clear c12
               have H' := aM H
               clear H
               have p6 : 0 ≤ (x3_1 : Int) := of_decide_eq_true z1200
               have q6 : x3_1 < (a0.size : Int) := of_decide_eq_true z1200
               have hx6 := bt_at a0 x3_1
               replace p6 := eq_true p6
               replace q6 := eq_true q6
               go_wp2
               go_roundg k1
               case measure => have := HK1.out; omega
               case rel => exact ⟨(wrap64 (x3_1 + 1)), z4458, H', ⟨zfb39⟩, za9de⟩
             · rw [if_neg c12] at H
               have c12b0 := eqN c12
               obtain rfl := Option.some.inj H
               have p6 : 0 ≤ (x3_1 : Int) := of_decide_eq_true z1200
               have q6 : x3_1 < (a0.size : Int) := of_decide_eq_true z1200
               have hx6 := bt_at a0 x3_1
               replace p6 := eq_true p6
               replace q6 := eq_true q6
               go_wp2
               go_ret
               exact ⟨z4458, za9de⟩
       · rw [if_neg c7] at H
         have c7b0 := nE c7
         clear c7
         by_cases c13 : (bt a0 x3_1) ≥ 48
         · rw [if_pos c13] at H
           have c13b0 := dE c13
           clear c13
           by_cases c14 : (bt a0 x3_1) ≤ 57
           · rw [if_pos c14] at H
             have c14b0 := dE c14
             clear c14
             have H' := aM H
             clear H
             have p6 : 0 ≤ (x3_1 : Int) := of_decide_eq_true z1200
             have q6 : x3_1 < (a0.size : Int) := of_decide_eq_true z1200
             have hx6 := bt_at a0 x3_1
             replace p6 := eq_true p6
             replace q6 := eq_true q6
             go_wp2
             go_roundg k1
             case measure => have := HK1.out; omega
             case rel => exact ⟨(wrap64 (x3_1 + 1)), z4458, H', ⟨zfb39⟩, za9de⟩
           · rw [if_neg c14] at H
             have c14b0 := nE c14
             clear c14
             by_cases c15 : ((bt a0 x3_1) = 45)
             · rw [if_pos c15] at H
               have c15b0 : ((bt a0 x3_1) == 45) = true := beq_iff_eq.mpr c15
               have c15b1 : ((bt a0 x3_1) != 45) = false := bne_eq_false_iff_eq.mpr c15
               clear c15
               have H' := aM H
               clear H
               have p6 : 0 ≤ (x3_1 : Int) := of_decide_eq_true z1200
               have q6 : x3_1 < (a0.size : Int) := of_decide_eq_true z1200
               have hx6 := bt_at a0 x3_1
               replace p6 := eq_true p6
               replace q6 := eq_true q6
               go_wp2
               go_roundg k1
               case measure => have := HK1.out; omega
               case rel => exact ⟨(wrap64 (x3_1 + 1)), z4458, H', ⟨zfb39⟩, za9de⟩
             · rw [if_neg c15] at H
               have c15b0 := eqN c15
               obtain rfl := Option.some.inj H
               have p6 : 0 ≤ (x3_1 : Int) := of_decide_eq_true z1200
               have q6 : x3_1 < (a0.size : Int) := of_decide_eq_true z1200
               have hx6 := bt_at a0 x3_1
               replace p6 := eq_true p6
               replace q6 := eq_true q6
               go_wp2
               go_ret
               exact ⟨z4458, za9de⟩
         · rw [if_neg c13] at H
           have c13b0 := nE c13
           clear c13
           by_cases c16 : ((bt a0 x3_1) = 45)
           · rw [if_pos c16] at H
             have c16b0 : ((bt a0 x3_1) == 45) = true := beq_iff_eq.mpr c16
             have c16b1 : ((bt a0 x3_1) != 45) = false := bne_eq_false_iff_eq.mpr c16
             clear c16
             have H' := aM H
             clear H
             have p6 : 0 ≤ (x3_1 : Int) := of_decide_eq_true z1200
             have q6 : x3_1 < (a0.size : Int) := of_decide_eq_true z1200
             have hx6 := bt_at a0 x3_1
             replace p6 := eq_true p6
             replace q6 := eq_true q6
             go_wp2
             go_roundg k1
             case measure => have := HK1.out; omega
             case rel => exact ⟨(wrap64 (x3_1 + 1)), z4458, H', ⟨zfb39⟩, za9de⟩
           · rw [if_neg c16] at H
             have c16b0 := eqN c16
             obtain rfl := Option.some.inj H
             have p6 : 0 ≤ (x3_1 : Int) := of_decide_eq_true z1200
             have q6 : x3_1 < (a0.size : Int) := of_decide_eq_true z1200
             have hx6 := bt_at a0 x3_1
             replace p6 := eq_true p6
             replace q6 := eq_true q6
             go_wp2
             go_ret
             exact ⟨z4458, za9de⟩
     · rw [if_neg c4] at H
       have c4b0 := nL c4
       clear c4
       obtain rfl := Option.some.inj H
       go_wp2
       go_ret
       exact ⟨z4458, za9de⟩
 · replace c3 := Bool.eq_false_iff.mpr c3
   subst c3
   rw [if_neg (show ¬ (false = true) by decide)] at H
   obtain rfl := Option.some.inj H
   go_enter Tryd.func35, Tryd.ntmps35
   go_wp2_with (first | ((with_reducible refine gate_callee (f := 65) rfl ?_); refine gL 7 Tryd.func65 #[.int .i64 (a0.size : Int), .int .i64 1, .int .i64 20] ?_; (with_reducible refine (spec_l1In.calls (a0.size : Int) 1 20 false _ A2.out).mono ?_); rintro e w' ⟨rfl, ⟨nd, rfl⟩⟩; refine ⟨_, rfl, ?_⟩))
   go_ret
   exact ⟨z4458, za9de⟩

end Go.Proofs.YtmlclmbplbbbhaaDoor.P

-- written by a program of this session's (wip/pp)
namespace Go.Proofs.YtmlclmbplbbbhaaDoor.P
open Go.RowKit Go.Proofs.YtmlclmbplbbbhaaDoorW.PrintWords Go.Proofs.YtmlclmbplbbbhaaDoorW.PrintLast Go.Proofs.YtmlclmbplbbbhaaDoorW.PrintMore
attribute [local go_sem] max2_int min2_int max_two min_two max_three min_three max_four min_four str_geq str_gtr str_leq   -- for this text's walks alone
set_option linter.unusedVariables false
set_option linter.unusedSimpArgs false

/-! ### spec_l2Used: function 66 -/
def spec_l2Used.l0 : Nat → Int → List (S53) → Int → Int → Option (Int)
 | 0, _, _, _, _ => none
 | k + 1, x3, x7, x8, x9 => if x9 < x8 then (if 0 ≤ x9 then (if x9 < (x7.length : Int) then (spec_l2Used.l0 k (wrap64 (x3 + (((rd_T53 x7 x9).f1).length : Int))) x7 x8 (wrap64 (x9 + 1))) else (none)) else (none)) else (some x3)
def spec_l2Used.f (k : Nat) (a0_0 : Int) (l0_1 : List (S53)) : Option (Int) := spec_l2Used.l0 k 0 l0_1 (l0_1.length : Int) 0
theorem spec_l2Used.mono_l : ∀ k, (∀ y0 y1 y2 y3, LeO (spec_l2Used.l0 k y0 y1 y2 y3) (spec_l2Used.l0 (k + 1) y0 y1 y2 y3))
 | 0 => fun _ _ _ _ r h => by simp [spec_l2Used.l0] at h
 | k + 1 => by
  have ih0 := spec_l2Used.mono_l k
  · intro y0 y1 y2 y3
    unfold spec_l2Used.l0
    exact moZ
theorem spec_l2Used.mono : ∀ a0 a1 k, LeO (spec_l2Used.f k a0 a1) (spec_l2Used.f (k + 1) a0 a1) := by
 intro a0 a1 k
 have ih0 := spec_l2Used.mono_l k
 unfold spec_l2Used.f
 exact moZ
set_option maxHeartbeats 8000000 in
set_option maxRecDepth 100000 in
theorem spec_l2Used.calls (k : Nat) (a0_0 : Int) (A0_1 : Option Addr) (c0_1 : Nat) (l0_1 : List (S53)) (r : Int) (w : World) (hr0_1 : Kd.C k53 w A0_1 l0_1.length l0_1) (hc0_1 : l0_1.length ≤ c0_1) (h : spec_l2Used.f k a0_0 l0_1 = some r) :
 Calls Tryd.prog 66 #[.agg #[.int .i64 a0_0, .slice A0_1 l0_1.length c0_1]] w fun e w' => e = .returned (.int .i64 r) ∧ Below w.heap.size w w' := by
 have hu29 := Tryd.underlying29
 have hu53 := Tryd.underlying53
 have HR0_1 := aM hr0_1
 have HC0_1 := aM hc0_1
 clear hr0_1 hc0_1
 have HB := aM (Below.refl w.heap.size w)
 have H : (spec_l2Used.l0 k 0 l0_1 (l0_1.length : Int) 0) = some r := h
 clear h
 have H' := aM H
 clear H
 go_enter Tryd.func66, Tryd.ntmps66
 go_wp2_with (first | ((with_reducible refine gate_dst (N := 1) rfl ?_); refine bX 1 29 #[.int .i64 a0_0, .slice A0_1 l0_1.length c0_1] ?_; intro gb101 hg w2 hbox hb; have _ := aM (below_step hbZ hb); have _ := aM hbox; have _ := szZ hg; have _ := szZ hg; clear HB; rename_i HB BK101 GW101 GE101; clear hb hbox hg; have hz3 := cellsZ2 BK101.out))
 go_loopg [3, 9] k (fun kq v3 v9 w' => ∃ (x3_1 : Int) (x9_1 : Int), v3 = .int .i64 x3_1 ∧ v9 = .int .i64 x9_1 ∧ Aside0 (spec_l2Used.l0 kq x3_1 l0_1 (l0_1.length : Int) x9_1 = some r) ∧ Aside0 (kq ≤ k) ∧ Aside0 (w'.heap[gb101]? = some (.cells #[.int .i64 a0_0, (.slice A0_1 l0_1.length c0_1)] 29 (0, 0))) ∧ Aside0 (Below w.heap.size w w'))
 case atStart => exact ⟨(0), (0), z4458, z4458, H', ⟨Nat.le_refl _⟩, ⟨bkZ⟩, ⟨zcb41⟩⟩
 case round =>
  clear H'
  (try clear hz3)
  obtain ⟨x3_1, x9_1, rfl, rfl, HA, HK1, BK101, HB⟩ := hrel
  cases gk with
  | zero => exact absurd HA.out (by simp [spec_l2Used.l0])
  | succ k1 =>
   have H := HA.out
   clear HA
   simp only [spec_l2Used.l0] at H
   by_cases c4 : x9_1 < (l0_1.length : Int)
   · rw [if_pos c4] at H
     have c4b0 := dL c4
     clear c4
     obtain ⟨c5b0, H⟩ := sE H
     obtain ⟨c6b0, H⟩ := sL H
     have H' := aM H
     clear H
     have p102 : 0 ≤ (x9_1 : Int) := of_decide_eq_true z1200
     have q102 : x9_1 < (l0_1.length : Int) := of_decide_eq_true z1200
     obtain ⟨ad102, A102_1, c102_1, e102, hx102_0, hx102_1, hx102_2, hl102_1, hi102_1⟩ := at_T53 HR0_1.out x9_1 p102 q102
     cases e102
     have TW102_1 := aM hx102_1
     replace hx102_0 := (HB.out.cell (World.block_lt_of_cell? w _ hx102_0)).trans hx102_0
     replace hx102_1 := (HB.out.cell (World.block_lt_of_cell? w _ hx102_1)).trans hx102_1
     replace hx102_2 := (HB.out.cell (World.block_lt_of_cell? w _ hx102_2)).trans hx102_2
     have HR102_1 := aM hi102_1
     have HC102_1 := aM hl102_1
     clear hi102_1 hl102_1
     replace p102 := eq_true p102
     replace q102 := eq_true q102
     go_wp2_with (first | ((with_reducible refine gate_dst (N := 5) rfl ?_); refine bX 5 53 #[.string (⟨#[]⟩ : ByteArray), .slice none 0 0, .int .i64 0] ?_; intro gb103 hg w7 hbox hb; have _ := bB gb101 hb; have _ := aM (below_step hbZ hb); have _ := aM hbox; have _ := szZ hg; have _ := szZ hg; have ⟨_, _⟩ := nbB gb101 hg; clear BK101 HB; rename_i BK101 HB BK103 GW103 GE103 NB101_103 NB103_101; clear hb hbox hg; have hnb8 := NB103_101.out; have hnc8 := NB101_103.out; have hz9 := cellsZ3 BK103.out))
     go_roundg k1
     case measure => have := HK1.out; omega
     case rel => exact ⟨(wrap64 (x3_1 + (((rd_T53 l0_1 x9_1).f1).length : Int))), (wrap64 (x9_1 + 1)), z4458, z4458, H', ⟨zfb39⟩, ⟨bkZ⟩, ⟨zcb41⟩⟩
   · rw [if_neg c4] at H
     have c4b0 := nL c4
     clear c4
     obtain rfl := Option.some.inj H
     go_wp2
     go_ret
     exact ⟨z674d, zcb41⟩

end Go.Proofs.YtmlclmbplbbbhaaDoor.P

-- written by a program of this session's (wip/pp)
namespace Go.Proofs.YtmlclmbplbbbhaaDoor.P
open Go.RowKit Go.Proofs.YtmlclmbplbbbhaaDoorW.PrintWords Go.Proofs.YtmlclmbplbbbhaaDoorW.PrintLast Go.Proofs.YtmlclmbplbbbhaaDoorW.PrintMore
attribute [local go_sem] max2_int min2_int max_two min_two max_three min_three max_four min_four str_geq str_gtr str_leq   -- for this text's walks alone
set_option linter.unusedVariables false
set_option linter.unusedSimpArgs false

/-! ### spec_GoodFiles: function 34 -/
mutual
def spec_GoodFiles.j0 : Nat → Bool → Int → List (S53) → Option (Bool)
 | 0, _, _, _ => none
 | k + 1, x14, x102000, x102001 => if x14 = true then (some false) else (spec_GoodFiles.l0 k x102001 (x102001.length : Int) 0 x102000 x102001)
def spec_GoodFiles.l0 : Nat → List (S53) → Int → Int → Int → List (S53) → Option (Bool)
 | 0, _, _, _, _, _ => none
 | k + 1, x16, x17, x18, x102000, x102001 => if x18 < x17 then (if 0 ≤ x18 then (if x18 < (x16.length : Int) then ((spec_l2Name.f k ((rd_T53 x16 x18).f0)).bind fun t106 => (if t106 = true then (if x18 > 0 then (if 0 ≤ (wrap64 (x18 - 1)) then (if (wrap64 (x18 - 1)) < (x102001.length : Int) then (if ((Op.bytesLess (((rd_T53 x102001 (wrap64 (x18 - 1))).f0).toList) (((rd_T53 x16 x18).f0).toList)) = true) then ((spec_l1In.f ((rd_T53 x16 x18).f2) 0 (((rd_T53 x16 x18).f1).length : Int)).bind fun t108 => (if t108 = true then (spec_GoodFiles.l0 k x16 x17 (wrap64 (x18 + 1)) x102000 x102001) else (some false))) else (some false)) else (none)) else (none)) else ((spec_l1In.f ((rd_T53 x16 x18).f2) 0 (((rd_T53 x16 x18).f1).length : Int)).bind fun t109 => (if t109 = true then (spec_GoodFiles.l0 k x16 x17 (wrap64 (x18 + 1)) x102000 x102001) else (some false)))) else (some false))) else (none)) else (none)) else ((spec_l2Used.f k x102000 x102001).bind fun t103 => (some (decide (t103 ≤ x102000))))
end
def spec_GoodFiles.f (k : Nat) (a0_0 : Int) (l0_1 : List (S53)) : Option (Bool) := (spec_l1In.f a0_0 0 60000).bind fun t102 => (if t102 = true then (spec_GoodFiles.j0 k (decide ((l0_1.length : Int) > 40)) a0_0 l0_1) else (spec_GoodFiles.j0 k true a0_0 l0_1))
theorem spec_GoodFiles.mono_l : ∀ k, (∀ y0 y1 y2, LeO (spec_GoodFiles.j0 k y0 y1 y2) (spec_GoodFiles.j0 (k + 1) y0 y1 y2)) ∧ (∀ y0 y1 y2 y3 y4, LeO (spec_GoodFiles.l0 k y0 y1 y2 y3 y4) (spec_GoodFiles.l0 (k + 1) y0 y1 y2 y3 y4))
 | 0 => ⟨fun _ _ _ r h => by simp [spec_GoodFiles.j0] at h, fun _ _ _ _ _ r h => by simp [spec_GoodFiles.l0] at h⟩
 | k + 1 => by
  obtain ⟨ih0, ih1⟩ := spec_GoodFiles.mono_l k; have m0 := @spec_l2Name.mono; have m1 := @spec_l2Used.mono
  refine ⟨?_, ?_⟩
  · intro y0 y1 y2
    unfold spec_GoodFiles.j0
    exact moZ
  · intro y0 y1 y2 y3 y4
    unfold spec_GoodFiles.l0
    exact moZ
theorem spec_GoodFiles.mono : ∀ a0 a1 k, LeO (spec_GoodFiles.f k a0 a1) (spec_GoodFiles.f (k + 1) a0 a1) := by
 intro a0 a1 k
 obtain ⟨ih0, ih1⟩ := spec_GoodFiles.mono_l k
 have m0 := @spec_l2Name.mono; have m1 := @spec_l2Used.mono
 unfold spec_GoodFiles.f
 exact moZ
def spec_GoodFiles.T6 : Bool × List (List Nat × List Nat) := (true, [([], []), ([0], [0]), ([1], [1]), ([2], [2]), ([3, 2], [3]), ([4], [4]), ([5, 4], [4, 5]), ([6, 4, 4], [4, 6]), ([7], [7]), ([8, 7], [7, 8]), ([7], [7]), ([10, 7], [7, 10]), ([9, 11, 7], [7, 9, 11]), ([12, 7], [7, 12]), ([13, 7], [7, 13]), ([7], [7]), ([15, 7], [7, 15]), ([14, 16, 7], [7, 14, 16]), ([7, 17, 4], [4, 7, 17]), ([4, 18], [4, 18]), ([19, 7], [19]), ([20], [20]), ([21, 20], [20, 21]), ([20], [20]), ([23, 20], [20, 23]), ([24, 20], [20, 24]), ([22, 25, 20, 20], [20, 22, 25]), ([26, 20], [20, 26]), ([20, 27], [20, 27])])
def spec_GoodFiles.B6 : List Nat := [0, 1, 3, 7, 15, 31, 63, 127, 255, 511, 255, 1279, 4095, 8191, 16383, 255, 33023, 131071, 262143, 524287, 1048575, 2097151, 4194303, 2097151, 10485759, 27262975, 67108863, 134217727, 268435455]
theorem spec_GoodFiles.tab6 : rtab .any (opsOf Tryd.f34 6) = spec_GoodFiles.T6 := by kernel_rfl
theorem spec_GoodFiles.bits6 : waitsOk spec_GoodFiles.T6.2 spec_GoodFiles.B6 = true := by kernel_rfl
set_option maxHeartbeats 8000000 in
set_option maxRecDepth 100000 in
theorem spec_GoodFiles.calls (k : Nat) (a0_0 : Int) (A0_1 : Option Addr) (c0_1 : Nat) (l0_1 : List (S53)) (r : Bool) (w : World) (hr0_1 : Kd.C k53 w A0_1 l0_1.length l0_1) (hc0_1 : l0_1.length ≤ c0_1) (h : spec_GoodFiles.f k a0_0 l0_1 = some r) :
 Calls Tryd.prog 34 #[.agg #[.int .i64 a0_0, .slice A0_1 l0_1.length c0_1]] w fun e w' => e = .returned (.bool r) ∧ Below w.heap.size w w' := by
 have hu29 := Tryd.underlying29
 have hu53 := Tryd.underlying53
 have HR0_1 := aM hr0_1
 have HC0_1 := aM hc0_1
 clear hr0_1 hc0_1
 have HB := aM (Below.refl w.heap.size w)
 have H : ((spec_l1In.f a0_0 0 60000).bind fun t102 => (if t102 = true then (spec_GoodFiles.j0 k (decide ((l0_1.length : Int) > 40)) a0_0 l0_1) else (spec_GoodFiles.j0 k true a0_0 l0_1))) = some r := h
 clear h
 have HC2 := aM H
 clear H
 go_enter Tryd.func34, Tryd.ntmps34
 go_upto_region 1 with (first | ((with_reducible refine gate_dst (N := 1) rfl ?_); (try (refine gate_guard (by rfl) ?_; dsimp only)); refine bX 1 29 #[.int .i64 a0_0, .slice A0_1 l0_1.length c0_1] ?_; intro gb101 hg w3 hbox hb; have _ := aM (below_step hbZ hb); have _ := aM hbox; have _ := szZ hg; have _ := szZ hg; clear HB; rename_i HB BK101 GW101 GE101; clear hb hbox hg))
 (try simp only [Act.put, List.setIfInBounds_toArray, List.set_cons_zero, List.set_cons_succ])
 go_cut [14] (fun v14 wc => ∃ (kq : Nat) (x14_1 : Bool), v14 = .bool x14_1 ∧ Aside0 (spec_GoodFiles.j0 kq x14_1 a0_0 l0_1 = some r) ∧ Aside0 (kq ≤ k) ∧ Aside0 (wc.heap[gb101]? = some (.cells #[.int .i64 a0_0, (.slice A0_1 l0_1.length c0_1)] 29 (0, 0))) ∧ Aside0 (Below w.heap.size w wc))
 case first =>
  have H := HC2.out
  clear HC2
  obtain ⟨t102, A4, H⟩ := bS H; try dsimp only at H
  by_cases c5 : t102 = true
  · subst c5
    rw [if_pos rfl] at H
    have H' := aM H
    clear H
    have hz6 := cellsZ2 BK101.out
    go_wp2_with (first | ((with_reducible refine gate_callee (f := 65) rfl ?_); refine gL 7 Tryd.func65 #[.int .i64 a0_0, .int .i64 0, .int .i64 60000] ?_; (with_reducible refine (spec_l1In.calls a0_0 0 60000 true _ A4.out).mono ?_); rintro e w' ⟨rfl, ⟨nd, rfl⟩⟩; refine ⟨_, rfl, ?_⟩))
    go_meet
    case rel => exact ⟨_, (decide ((l0_1.length : Int) > 40)), z4458, H', ⟨zb79b⟩, ⟨bkZ⟩, ⟨zcb41⟩⟩
  · replace c5 := Bool.eq_false_iff.mpr c5
    subst c5
    rw [if_neg (show ¬ (false = true) by decide)] at H
    have H' := aM H
    clear H
    have hz7 := cellsZ2 BK101.out
    go_wp2_with (first | ((with_reducible refine gate_callee (f := 65) rfl ?_); refine gL 7 Tryd.func65 #[.int .i64 a0_0, .int .i64 0, .int .i64 60000] ?_; (with_reducible refine (spec_l1In.calls a0_0 0 60000 false _ A4.out).mono ?_); rintro e w' ⟨rfl, ⟨nd, rfl⟩⟩; refine ⟨_, rfl, ?_⟩))
    go_meet
    case rel => exact ⟨_, (true), z4458, H', ⟨zb79b⟩, ⟨bkZ⟩, ⟨zcb41⟩⟩
 case rest =>
  clear HC2
  obtain ⟨kq, x14_1, rfl, HA, HJ1, BK101, HB⟩ := hcut
  cases kq with
  | zero => exact absurd HA.out (by simp [spec_GoodFiles.j0])
  | succ kj1 =>
   have H := HA.out
   clear HA
   simp only [spec_GoodFiles.j0] at H
   by_cases c8 : x14_1 = true
   · subst c8
     rw [if_pos rfl] at H
     obtain rfl := Option.some.inj H
     go_wp2
     go_ret
     exact ⟨z674d, zcb41⟩
   · replace c8 := Bool.eq_false_iff.mpr c8
     subst c8
     rw [if_neg (show ¬ (false = true) by decide)] at H
     have H' := aM H
     clear H
     have hz9 := cellsZ2 BK101.out
     go_wp2
     go_loopg [18] kj1 (fun kq v18 w' => ∃ (x18_2 : Int), v18 = .int .i64 x18_2 ∧ Aside0 (spec_GoodFiles.l0 kq l0_1 (l0_1.length : Int) x18_2 a0_0 l0_1 = some r) ∧ Aside0 (kq ≤ kj1) ∧ Aside0 (w'.heap[gb101]? = some (.cells #[.int .i64 a0_0, (.slice A0_1 l0_1.length c0_1)] 29 (0, 0))) ∧ Aside0 (Below w.heap.size w w'))
     case atStart => exact ⟨(0), z4458, H', ⟨Nat.le_refl _⟩, ⟨bkZ⟩, ⟨zcb41⟩⟩
     case round =>
      clear H'
      (try clear c8); (try clear hz9)
      obtain ⟨x18_2, rfl, HA, HK2, BK101, HB⟩ := hrel
      cases gk with
      | zero => exact absurd HA.out (by simp [spec_GoodFiles.l0])
      | succ k2 =>
       have H := HA.out
       clear HA
       simp only [spec_GoodFiles.l0] at H
       by_cases c10 : x18_2 < (l0_1.length : Int)
       · rw [if_pos c10] at H
         have c10b0 := dL c10
         clear c10
         obtain ⟨c11b0, H⟩ := sE H
         obtain ⟨c12b0, H⟩ := sL H
         obtain ⟨t106, A13, H⟩ := bS H; try dsimp only at H
         by_cases c14 : t106 = true
         · subst c14
           rw [if_pos rfl] at H
           by_cases c15 : x18_2 > 0
           · rw [if_pos c15] at H
             have c15b0 := dL c15
             clear c15
             obtain ⟨ji16, hji16⟩ : ∃ j_ : Int, (wrap64 (x18_2 - 1)) = j_ := ⟨_, rfl⟩
             replace H : (if 0 ≤ (ji16) then (if (ji16) < (l0_1.length : Int) then (if ((Op.bytesLess (((rd_T53 l0_1 (ji16)).f0).toList) (((rd_T53 l0_1 x18_2).f0).toList)) = true) then ((spec_l1In.f ((rd_T53 l0_1 x18_2).f2) 0 (((rd_T53 l0_1 x18_2).f1).length : Int)).bind fun t108 => (if t108 = true then (spec_GoodFiles.l0 k2 l0_1 (l0_1.length : Int) (wrap64 (x18_2 + 1)) a0_0 l0_1) else (some false))) else (some false)) else (none)) else (none)) = some r := by first | (rw [hji16] at H; exact H) | (simp only [hji16] at H ⊢; exact H)
             (try rw [hji16] at A13)
             have hji16w : (IntKind.i64.wrap (x18_2 - 1)) = ji16 := (i64_w _).trans hji16
             obtain ⟨c17b0, H⟩ := sE H
             obtain ⟨c18b0, H⟩ := sL H
             by_cases c19 : ((Op.bytesLess (((rd_T53 l0_1 (ji16)).f0).toList) (((rd_T53 l0_1 x18_2).f0).toList)) = true)
             · rw [if_pos c19] at H
               have c19b0 : (Op.bytesLess (((rd_T53 l0_1 (ji16)).f0).toList) (((rd_T53 l0_1 x18_2).f0).toList)) = true := c19
               clear c19
               obtain ⟨t108, A20, H⟩ := bS H; try dsimp only at H
               by_cases c21 : t108 = true
               · subst c21
                 rw [if_pos rfl] at H
                 have H' := aM H
                 clear H
                 have p104 : 0 ≤ (x18_2 : Int) := of_decide_eq_true z1200
                 have q104 : x18_2 < (l0_1.length : Int) := of_decide_eq_true z1200
                 obtain ⟨ad104, A104_1, c104_1, e104, hx104_0, hx104_1, hx104_2, hl104_1, hi104_1⟩ := at_T53 HR0_1.out x18_2 p104 q104
                 cases e104
                 have TW104_1 := aM hx104_1
                 replace hx104_0 := (HB.out.cell (World.block_lt_of_cell? w _ hx104_0)).trans hx104_0
                 replace hx104_1 := (HB.out.cell (World.block_lt_of_cell? w _ hx104_1)).trans hx104_1
                 replace hx104_2 := (HB.out.cell (World.block_lt_of_cell? w _ hx104_2)).trans hx104_2
                 have HR104_1 := aM hi104_1
                 have HC104_1 := aM hl104_1
                 clear hi104_1 hl104_1
                 replace p104 := eq_true p104
                 replace q104 := eq_true q104
                 try go_wp2_with (first | ((with_reducible refine gate_dst (N := 4) rfl ?_); (try (refine gate_guard (by rfl) ?_; dsimp only)); refine bX 4 53 #[.string (⟨#[]⟩ : ByteArray), .slice none 0 0, .int .i64 0] ?_; intro gb105 hg w22 hbox hb; have _ := bB gb101 hb; have _ := aM (below_step hbZ hb); have _ := aM hbox; have _ := szZ hg; have _ := szZ hg; have ⟨_, _⟩ := nbB gb101 hg; clear BK101 HB; rename_i BK101 HB BK105 GW105 GE105 NB101_105 NB105_101; clear hb hbox hg; have hnb23 := NB105_101.out; have hnc23 := NB101_105.out; have hz24 := cellsZ3 BK105.out))
                 have n0_ : Aside0 ((((w22.setCell ⟨gb105, 0, none⟩ (.string ((rd_T53 l0_1 x18_2).f0))).setCell ⟨gb105, 1, none⟩ (.slice A104_1 ((rd_T53 l0_1 x18_2).f1).length c104_1)).setCell ⟨gb105, 2, none⟩ (.int .i64 ((rd_T53 l0_1 x18_2).f2))).heap[gb101]? = some (.cells #[.int .i64 a0_0, .slice (some ad104) l0_1.length c0_1] 29 (0, 0))) := ⟨bkZ⟩
                 have n1_ : Aside0 ((((w22.setCell ⟨gb105, 0, none⟩ (.string ((rd_T53 l0_1 x18_2).f0))).setCell ⟨gb105, 1, none⟩ (.slice A104_1 ((rd_T53 l0_1 x18_2).f1).length c104_1)).setCell ⟨gb105, 2, none⟩ (.int .i64 ((rd_T53 l0_1 x18_2).f2))).heap[gb105]? = some (.cells #[.string ((rd_T53 l0_1 x18_2).f0), .slice A104_1 ((rd_T53 l0_1 x18_2).f1).length c104_1, .int .i64 ((rd_T53 l0_1 x18_2).f2)] 53 (0, 0))) := ⟨bkZ⟩
                 have n2_ : Aside0 (Below w.heap.size w (((w22.setCell ⟨gb105, 0, none⟩ (.string ((rd_T53 l0_1 x18_2).f0))).setCell ⟨gb105, 1, none⟩ (.slice A104_1 ((rd_T53 l0_1 x18_2).f1).length c104_1)).setCell ⟨gb105, 2, none⟩ (.int .i64 ((rd_T53 l0_1 x18_2).f2)))) := ⟨zcb41⟩
                 (try clear BK101); (try clear BK105); (try clear HB)
                 generalize (((w22.setCell ⟨gb105, 0, none⟩ (.string ((rd_T53 l0_1 x18_2).f0))).setCell ⟨gb105, 1, none⟩ (.slice A104_1 ((rd_T53 l0_1 x18_2).f1).length c104_1)).setCell ⟨gb105, 2, none⟩ (.int .i64 ((rd_T53 l0_1 x18_2).f2))) = w25 at n0_ n1_ n2_ ⊢
                 have BK101 := n0_
                 have BK105 := n1_
                 have HB := n2_
                 clear n0_ n1_ n2_
                 have _ := aM (blk_drew BK101.out)
                 have _ := aM (blk_drew BK105.out)
                 have _ := aM (below_drew1 HB.out)
                 clear BK101
                 clear BK105
                 clear HB
                 rename_i BK101 BK105 HB
                 have p107 : 0 ≤ ((ji16) : Int) := of_decide_eq_true z1200
                 have q107 : (ji16) < (l0_1.length : Int) := of_decide_eq_true z1200
                 obtain ⟨ad107, A107_1, c107_1, e107, hx107_0, hx107_1, hx107_2, hl107_1, hi107_1⟩ := at_T53 HR0_1.out (ji16) p107 q107
                 have hw107_2 := hx107_2
                 have hw107_1 := hx107_1
                 have hw107_0 := hx107_0
                 obtain rfl : ad104 = ad107 := (by injection e107)
                 have TW107_1 := aM hx107_1
                 replace hx107_0 := (HB.out.cell (World.block_lt_of_cell? w _ hx107_0)).trans hx107_0
                 replace hx107_1 := (HB.out.cell (World.block_lt_of_cell? w _ hx107_1)).trans hx107_1
                 replace hx107_2 := (HB.out.cell (World.block_lt_of_cell? w _ hx107_2)).trans hx107_2
                 have HR107_1 := aM hi107_1
                 have HC107_1 := aM hl107_1
                 clear hi107_1 hl107_1
                 replace p107 := eq_true p107
                 replace q107 := eq_true q107
                 refine sA 29 spec_GoodFiles.tab6 spec_GoodFiles.bits6 (fun w' => w'.cell? ⟨gb105, 0, none⟩ = some (.string ((rd_T53 l0_1 x18_2).f0)) ∧ w'.cell? ⟨gb105, 1, none⟩ = some (.slice A104_1 ((rd_T53 l0_1 x18_2).f1).length c104_1) ∧ w'.cell? ⟨gb105, 2, none⟩ = some (.int .i64 ((rd_T53 l0_1 x18_2).f2)) ∧ w'.cell? ⟨gb101, 0, none⟩ = some (.int .i64 a0_0) ∧ w'.cell? ⟨gb101, 1, none⟩ = some (.slice (some ad104) l0_1.length c0_1) ∧ w'.cell? (ad104.add (((ji16)).toNat * 3)) = some (.string ((rd_T53 l0_1 (ji16)).f0)) ∧ w'.cell? ⟨(ad104.add (((ji16)).toNat * 3)).block, (ad104.add (((ji16)).toNat * 3)).off + 1, none⟩ = some (.slice A107_1 ((rd_T53 l0_1 (ji16)).f1).length c107_1) ∧ w'.cell? ⟨(ad104.add (((ji16)).toNat * 3)).block, (ad104.add (((ji16)).toNat * 3)).off + 2, none⟩ = some (.int .i64 ((rd_T53 l0_1 (ji16)).f2))) [] (fun hHeld HT_ HW_ => ?_)
                 generalize w25.drew = w26 at BK101 BK105 HB HR107_1 hx107_0 hx107_1 hx107_2 hHeld ⊢
                 refine pA 0 23 HT_ ?_; refine tA 1 24 HT_ HW_ hHeld ?_; refine oA 2 25 HT_ (fun K hK => ?_)
                 refine goes_ Tryd.func35 (by kernel_rfl) rfl #[.string ((rd_T53 l0_1 x18_2).f0)] (by rfl) rfl rfl zee81 ?_
                 with_reducible refine (spec_l2Name.calls k2 ((rd_T53 l0_1 x18_2).f0) true _ A13.out).mono ?_
                 rintro e w' ⟨rfl, ⟨nd, rfl⟩⟩
                 refine ⟨_, rfl, ?_⟩
                 refine hK.out _ _ sZ (fun hHeld => ?_)
                 clear hK K
                 refine nA 25 ?_; refine pA 3 26 HT_ ?_; refine pA 4 27 HT_ ?_; refine pA 5 28 HT_ ?_; refine pA 6 29 HT_ ?_; refine pA 7 30 HT_ ?_; refine pA 8 31 HT_ ?_; refine pA 10 33 HT_ ?_; refine pA 11 34 HT_ ?_; refine pA 15 38 HT_ ?_; refine tA 9 32 HT_ HW_ hHeld ?_; refine pA 12 35 HT_ ?_; refine pA 13 36 HT_ ?_; refine tA 14 37 HT_ HW_ hHeld ?_; refine tA 16 39 HT_ HW_ hHeld ?_; refine pA 17 40 HT_ ?_; refine pA 18 41 HT_ ?_; refine pA 19 42 HT_ ?_; refine pA 20 43 HT_ ?_; refine pA 21 44 HT_ ?_; refine pA 23 46 HT_ ?_; refine tA 22 45 HT_ HW_ hHeld ?_; refine tA 24 47 HT_ HW_ hHeld ?_; refine pA 25 48 HT_ ?_; refine oA 26 49 HT_ (fun K hK => ?_)
                 refine goes_ Tryd.func65 (by kernel_rfl) rfl #[.int .i64 ((rd_T53 l0_1 x18_2).f2), .int .i64 0, .int .i64 (((rd_T53 l0_1 x18_2).f1).length : Int)] (by rfl) rfl rfl zee81 ?_
                 with_reducible refine (spec_l1In.calls ((rd_T53 l0_1 x18_2).f2) 0 (((rd_T53 l0_1 x18_2).f1).length : Int) true _ A20.out).mono ?_
                 rintro e w' ⟨rfl, ⟨nd, rfl⟩⟩
                 refine ⟨_, rfl, ?_⟩
                 refine hK.out _ _ sZ (fun hHeld => ?_)
                 clear hK K
                 refine nA 49 ?_; refine pA 27 50 HT_ ?_; refine pA 28 51 HT_ ?_
                 refine done_ (done_of HT_.out (by kernel_rfl)) ?_
                 try go_wp2
                 go_roundg k2
                 case measure => have := HJ1.out; have := HK2.out; omega
                 case rel => exact ⟨(wrap64 (x18_2 + 1)), z4458, H', ⟨by have := HJ1.out; have := HK2.out; omega⟩, ⟨bkZ⟩, ⟨zcb41⟩⟩
               · replace c21 := Bool.eq_false_iff.mpr c21
                 subst c21
                 rw [if_neg (show ¬ (false = true) by decide)] at H
                 obtain rfl := Option.some.inj H
                 have p104 : 0 ≤ (x18_2 : Int) := of_decide_eq_true z1200
                 have q104 : x18_2 < (l0_1.length : Int) := of_decide_eq_true z1200
                 obtain ⟨ad104, A104_1, c104_1, e104, hx104_0, hx104_1, hx104_2, hl104_1, hi104_1⟩ := at_T53 HR0_1.out x18_2 p104 q104
                 cases e104
                 have TW104_1 := aM hx104_1
                 replace hx104_0 := (HB.out.cell (World.block_lt_of_cell? w _ hx104_0)).trans hx104_0
                 replace hx104_1 := (HB.out.cell (World.block_lt_of_cell? w _ hx104_1)).trans hx104_1
                 replace hx104_2 := (HB.out.cell (World.block_lt_of_cell? w _ hx104_2)).trans hx104_2
                 have HR104_1 := aM hi104_1
                 have HC104_1 := aM hl104_1
                 clear hi104_1 hl104_1
                 replace p104 := eq_true p104
                 replace q104 := eq_true q104
                 try go_wp2_with (first | ((with_reducible refine gate_dst (N := 4) rfl ?_); (try (refine gate_guard (by rfl) ?_; dsimp only)); refine bX 4 53 #[.string (⟨#[]⟩ : ByteArray), .slice none 0 0, .int .i64 0] ?_; intro gb105 hg w27 hbox hb; have _ := bB gb101 hb; have _ := aM (below_step hbZ hb); have _ := aM hbox; have _ := szZ hg; have _ := szZ hg; have ⟨_, _⟩ := nbB gb101 hg; clear BK101 HB; rename_i BK101 HB BK105 GW105 GE105 NB101_105 NB105_101; clear hb hbox hg; have hnb28 := NB105_101.out; have hnc28 := NB101_105.out; have hz29 := cellsZ3 BK105.out))
                 have n0_ : Aside0 ((((w27.setCell ⟨gb105, 0, none⟩ (.string ((rd_T53 l0_1 x18_2).f0))).setCell ⟨gb105, 1, none⟩ (.slice A104_1 ((rd_T53 l0_1 x18_2).f1).length c104_1)).setCell ⟨gb105, 2, none⟩ (.int .i64 ((rd_T53 l0_1 x18_2).f2))).heap[gb101]? = some (.cells #[.int .i64 a0_0, .slice (some ad104) l0_1.length c0_1] 29 (0, 0))) := ⟨bkZ⟩
                 have n1_ : Aside0 ((((w27.setCell ⟨gb105, 0, none⟩ (.string ((rd_T53 l0_1 x18_2).f0))).setCell ⟨gb105, 1, none⟩ (.slice A104_1 ((rd_T53 l0_1 x18_2).f1).length c104_1)).setCell ⟨gb105, 2, none⟩ (.int .i64 ((rd_T53 l0_1 x18_2).f2))).heap[gb105]? = some (.cells #[.string ((rd_T53 l0_1 x18_2).f0), .slice A104_1 ((rd_T53 l0_1 x18_2).f1).length c104_1, .int .i64 ((rd_T53 l0_1 x18_2).f2)] 53 (0, 0))) := ⟨bkZ⟩
                 have n2_ : Aside0 (Below w.heap.size w (((w27.setCell ⟨gb105, 0, none⟩ (.string ((rd_T53 l0_1 x18_2).f0))).setCell ⟨gb105, 1, none⟩ (.slice A104_1 ((rd_T53 l0_1 x18_2).f1).length c104_1)).setCell ⟨gb105, 2, none⟩ (.int .i64 ((rd_T53 l0_1 x18_2).f2)))) := ⟨zcb41⟩
                 (try clear BK101); (try clear BK105); (try clear HB)
                 generalize (((w27.setCell ⟨gb105, 0, none⟩ (.string ((rd_T53 l0_1 x18_2).f0))).setCell ⟨gb105, 1, none⟩ (.slice A104_1 ((rd_T53 l0_1 x18_2).f1).length c104_1)).setCell ⟨gb105, 2, none⟩ (.int .i64 ((rd_T53 l0_1 x18_2).f2))) = w30 at n0_ n1_ n2_ ⊢
                 have BK101 := n0_
                 have BK105 := n1_
                 have HB := n2_
                 clear n0_ n1_ n2_
                 have _ := aM (blk_drew BK101.out)
                 have _ := aM (blk_drew BK105.out)
                 have _ := aM (below_drew1 HB.out)
                 clear BK101
                 clear BK105
                 clear HB
                 rename_i BK101 BK105 HB
                 have p107 : 0 ≤ ((ji16) : Int) := of_decide_eq_true z1200
                 have q107 : (ji16) < (l0_1.length : Int) := of_decide_eq_true z1200
                 obtain ⟨ad107, A107_1, c107_1, e107, hx107_0, hx107_1, hx107_2, hl107_1, hi107_1⟩ := at_T53 HR0_1.out (ji16) p107 q107
                 have hw107_2 := hx107_2
                 have hw107_1 := hx107_1
                 have hw107_0 := hx107_0
                 obtain rfl : ad104 = ad107 := (by injection e107)
                 have TW107_1 := aM hx107_1
                 replace hx107_0 := (HB.out.cell (World.block_lt_of_cell? w _ hx107_0)).trans hx107_0
                 replace hx107_1 := (HB.out.cell (World.block_lt_of_cell? w _ hx107_1)).trans hx107_1
                 replace hx107_2 := (HB.out.cell (World.block_lt_of_cell? w _ hx107_2)).trans hx107_2
                 have HR107_1 := aM hi107_1
                 have HC107_1 := aM hl107_1
                 clear hi107_1 hl107_1
                 replace p107 := eq_true p107
                 replace q107 := eq_true q107
                 refine sA 29 spec_GoodFiles.tab6 spec_GoodFiles.bits6 (fun w' => w'.cell? ⟨gb105, 0, none⟩ = some (.string ((rd_T53 l0_1 x18_2).f0)) ∧ w'.cell? ⟨gb105, 1, none⟩ = some (.slice A104_1 ((rd_T53 l0_1 x18_2).f1).length c104_1) ∧ w'.cell? ⟨gb105, 2, none⟩ = some (.int .i64 ((rd_T53 l0_1 x18_2).f2)) ∧ w'.cell? ⟨gb101, 0, none⟩ = some (.int .i64 a0_0) ∧ w'.cell? ⟨gb101, 1, none⟩ = some (.slice (some ad104) l0_1.length c0_1) ∧ w'.cell? (ad104.add (((ji16)).toNat * 3)) = some (.string ((rd_T53 l0_1 (ji16)).f0)) ∧ w'.cell? ⟨(ad104.add (((ji16)).toNat * 3)).block, (ad104.add (((ji16)).toNat * 3)).off + 1, none⟩ = some (.slice A107_1 ((rd_T53 l0_1 (ji16)).f1).length c107_1) ∧ w'.cell? ⟨(ad104.add (((ji16)).toNat * 3)).block, (ad104.add (((ji16)).toNat * 3)).off + 2, none⟩ = some (.int .i64 ((rd_T53 l0_1 (ji16)).f2))) [] (fun hHeld HT_ HW_ => ?_)
                 generalize w30.drew = w31 at BK101 BK105 HB HR107_1 hx107_0 hx107_1 hx107_2 hHeld ⊢
                 refine pA 0 23 HT_ ?_; refine tA 1 24 HT_ HW_ hHeld ?_; refine oA 2 25 HT_ (fun K hK => ?_)
                 refine goes_ Tryd.func35 (by kernel_rfl) rfl #[.string ((rd_T53 l0_1 x18_2).f0)] (by rfl) rfl rfl zee81 ?_
                 with_reducible refine (spec_l2Name.calls k2 ((rd_T53 l0_1 x18_2).f0) true _ A13.out).mono ?_
                 rintro e w' ⟨rfl, ⟨nd, rfl⟩⟩
                 refine ⟨_, rfl, ?_⟩
                 refine hK.out _ _ sZ (fun hHeld => ?_)
                 clear hK K
                 refine nA 25 ?_; refine pA 3 26 HT_ ?_; refine pA 4 27 HT_ ?_; refine pA 5 28 HT_ ?_; refine pA 6 29 HT_ ?_; refine pA 7 30 HT_ ?_; refine pA 8 31 HT_ ?_; refine pA 10 33 HT_ ?_; refine pA 11 34 HT_ ?_; refine pA 15 38 HT_ ?_; refine tA 9 32 HT_ HW_ hHeld ?_; refine pA 12 35 HT_ ?_; refine pA 13 36 HT_ ?_; refine tA 14 37 HT_ HW_ hHeld ?_; refine tA 16 39 HT_ HW_ hHeld ?_; refine pA 17 40 HT_ ?_; refine pA 18 41 HT_ ?_; refine pA 19 42 HT_ ?_; refine pA 20 43 HT_ ?_; refine pA 21 44 HT_ ?_; refine pA 23 46 HT_ ?_; refine tA 22 45 HT_ HW_ hHeld ?_; refine tA 24 47 HT_ HW_ hHeld ?_; refine pA 25 48 HT_ ?_; refine oA 26 49 HT_ (fun K hK => ?_)
                 refine goes_ Tryd.func65 (by kernel_rfl) rfl #[.int .i64 ((rd_T53 l0_1 x18_2).f2), .int .i64 0, .int .i64 (((rd_T53 l0_1 x18_2).f1).length : Int)] (by rfl) rfl rfl zee81 ?_
                 with_reducible refine (spec_l1In.calls ((rd_T53 l0_1 x18_2).f2) 0 (((rd_T53 l0_1 x18_2).f1).length : Int) false _ A20.out).mono ?_
                 rintro e w' ⟨rfl, ⟨nd, rfl⟩⟩
                 refine ⟨_, rfl, ?_⟩
                 refine hK.out _ _ sZ (fun hHeld => ?_)
                 clear hK K
                 refine nA 49 ?_; refine pA 27 50 HT_ ?_; refine pA 28 51 HT_ ?_
                 refine done_ (done_of HT_.out (by kernel_rfl)) ?_
                 try go_wp2
                 go_ret
                 exact ⟨by first | rfl | (simp [errW_none, errW_some] <;> rfl) | (simp only [← hji16]; first | rfl | (simp [errW_none, errW_some] <;> rfl)) | (simp [*, errW_none, errW_some] <;> rfl), zcb41⟩
             · rw [if_neg c19] at H
               have c19b0 : (Op.bytesLess (((rd_T53 l0_1 (ji16)).f0).toList) (((rd_T53 l0_1 x18_2).f0).toList)) = false := by simpa using c19
               clear c19
               obtain rfl := Option.some.inj H
               have p104 : 0 ≤ (x18_2 : Int) := of_decide_eq_true z1200
               have q104 : x18_2 < (l0_1.length : Int) := of_decide_eq_true z1200
               obtain ⟨ad104, A104_1, c104_1, e104, hx104_0, hx104_1, hx104_2, hl104_1, hi104_1⟩ := at_T53 HR0_1.out x18_2 p104 q104
               cases e104
               have TW104_1 := aM hx104_1
               replace hx104_0 := (HB.out.cell (World.block_lt_of_cell? w _ hx104_0)).trans hx104_0
               replace hx104_1 := (HB.out.cell (World.block_lt_of_cell? w _ hx104_1)).trans hx104_1
               replace hx104_2 := (HB.out.cell (World.block_lt_of_cell? w _ hx104_2)).trans hx104_2
               have HR104_1 := aM hi104_1
               have HC104_1 := aM hl104_1
               clear hi104_1 hl104_1
               replace p104 := eq_true p104
               replace q104 := eq_true q104
               try go_wp2_with (first | ((with_reducible refine gate_dst (N := 4) rfl ?_); (try (refine gate_guard (by rfl) ?_; dsimp only)); refine bX 4 53 #[.string (⟨#[]⟩ : ByteArray), .slice none 0 0, .int .i64 0] ?_; intro gb105 hg w32 hbox hb; have _ := bB gb101 hb; have _ := aM (below_step hbZ hb); have _ := aM hbox; have _ := szZ hg; have _ := szZ hg; have ⟨_, _⟩ := nbB gb101 hg; clear BK101 HB; rename_i BK101 HB BK105 GW105 GE105 NB101_105 NB105_101; clear hb hbox hg; have hnb33 := NB105_101.out; have hnc33 := NB101_105.out; have hz34 := cellsZ3 BK105.out))
               have n0_ : Aside0 ((((w32.setCell ⟨gb105, 0, none⟩ (.string ((rd_T53 l0_1 x18_2).f0))).setCell ⟨gb105, 1, none⟩ (.slice A104_1 ((rd_T53 l0_1 x18_2).f1).length c104_1)).setCell ⟨gb105, 2, none⟩ (.int .i64 ((rd_T53 l0_1 x18_2).f2))).heap[gb101]? = some (.cells #[.int .i64 a0_0, .slice (some ad104) l0_1.length c0_1] 29 (0, 0))) := ⟨bkZ⟩
               have n1_ : Aside0 ((((w32.setCell ⟨gb105, 0, none⟩ (.string ((rd_T53 l0_1 x18_2).f0))).setCell ⟨gb105, 1, none⟩ (.slice A104_1 ((rd_T53 l0_1 x18_2).f1).length c104_1)).setCell ⟨gb105, 2, none⟩ (.int .i64 ((rd_T53 l0_1 x18_2).f2))).heap[gb105]? = some (.cells #[.string ((rd_T53 l0_1 x18_2).f0), .slice A104_1 ((rd_T53 l0_1 x18_2).f1).length c104_1, .int .i64 ((rd_T53 l0_1 x18_2).f2)] 53 (0, 0))) := ⟨bkZ⟩
               have n2_ : Aside0 (Below w.heap.size w (((w32.setCell ⟨gb105, 0, none⟩ (.string ((rd_T53 l0_1 x18_2).f0))).setCell ⟨gb105, 1, none⟩ (.slice A104_1 ((rd_T53 l0_1 x18_2).f1).length c104_1)).setCell ⟨gb105, 2, none⟩ (.int .i64 ((rd_T53 l0_1 x18_2).f2)))) := ⟨zcb41⟩
               (try clear BK101); (try clear BK105); (try clear HB)
               generalize (((w32.setCell ⟨gb105, 0, none⟩ (.string ((rd_T53 l0_1 x18_2).f0))).setCell ⟨gb105, 1, none⟩ (.slice A104_1 ((rd_T53 l0_1 x18_2).f1).length c104_1)).setCell ⟨gb105, 2, none⟩ (.int .i64 ((rd_T53 l0_1 x18_2).f2))) = w35 at n0_ n1_ n2_ ⊢
               have BK101 := n0_
               have BK105 := n1_
               have HB := n2_
               clear n0_ n1_ n2_
               have _ := aM (blk_drew BK101.out)
               have _ := aM (blk_drew BK105.out)
               have _ := aM (below_drew1 HB.out)
               clear BK101
               clear BK105
               clear HB
               rename_i BK101 BK105 HB
               have p107 : 0 ≤ ((ji16) : Int) := of_decide_eq_true z1200
               have q107 : (ji16) < (l0_1.length : Int) := of_decide_eq_true z1200
               obtain ⟨ad107, A107_1, c107_1, e107, hx107_0, hx107_1, hx107_2, hl107_1, hi107_1⟩ := at_T53 HR0_1.out (ji16) p107 q107
               have hw107_2 := hx107_2
               have hw107_1 := hx107_1
               have hw107_0 := hx107_0
               obtain rfl : ad104 = ad107 := (by injection e107)
               have TW107_1 := aM hx107_1
               replace hx107_0 := (HB.out.cell (World.block_lt_of_cell? w _ hx107_0)).trans hx107_0
               replace hx107_1 := (HB.out.cell (World.block_lt_of_cell? w _ hx107_1)).trans hx107_1
               replace hx107_2 := (HB.out.cell (World.block_lt_of_cell? w _ hx107_2)).trans hx107_2
               have HR107_1 := aM hi107_1
               have HC107_1 := aM hl107_1
               clear hi107_1 hl107_1
               replace p107 := eq_true p107
               replace q107 := eq_true q107
               refine sA 29 spec_GoodFiles.tab6 spec_GoodFiles.bits6 (fun w' => w'.cell? ⟨gb105, 0, none⟩ = some (.string ((rd_T53 l0_1 x18_2).f0)) ∧ w'.cell? ⟨gb105, 1, none⟩ = some (.slice A104_1 ((rd_T53 l0_1 x18_2).f1).length c104_1) ∧ w'.cell? ⟨gb105, 2, none⟩ = some (.int .i64 ((rd_T53 l0_1 x18_2).f2)) ∧ w'.cell? ⟨gb101, 0, none⟩ = some (.int .i64 a0_0) ∧ w'.cell? ⟨gb101, 1, none⟩ = some (.slice (some ad104) l0_1.length c0_1) ∧ w'.cell? (ad104.add (((ji16)).toNat * 3)) = some (.string ((rd_T53 l0_1 (ji16)).f0)) ∧ w'.cell? ⟨(ad104.add (((ji16)).toNat * 3)).block, (ad104.add (((ji16)).toNat * 3)).off + 1, none⟩ = some (.slice A107_1 ((rd_T53 l0_1 (ji16)).f1).length c107_1) ∧ w'.cell? ⟨(ad104.add (((ji16)).toNat * 3)).block, (ad104.add (((ji16)).toNat * 3)).off + 2, none⟩ = some (.int .i64 ((rd_T53 l0_1 (ji16)).f2))) [] (fun hHeld HT_ HW_ => ?_)
               generalize w35.drew = w36 at BK101 BK105 HB HR107_1 hx107_0 hx107_1 hx107_2 hHeld ⊢
               refine pA 0 23 HT_ ?_; refine tA 1 24 HT_ HW_ hHeld ?_; refine oA 2 25 HT_ (fun K hK => ?_)
               refine goes_ Tryd.func35 (by kernel_rfl) rfl #[.string ((rd_T53 l0_1 x18_2).f0)] (by rfl) rfl rfl zee81 ?_
               with_reducible refine (spec_l2Name.calls k2 ((rd_T53 l0_1 x18_2).f0) true _ A13.out).mono ?_
               rintro e w' ⟨rfl, ⟨nd, rfl⟩⟩
               refine ⟨_, rfl, ?_⟩
               refine hK.out _ _ sZ (fun hHeld => ?_)
               clear hK K
               refine nA 25 ?_; refine pA 3 26 HT_ ?_; refine pA 4 27 HT_ ?_; refine pA 5 28 HT_ ?_; refine pA 6 29 HT_ ?_; refine pA 7 30 HT_ ?_; refine pA 8 31 HT_ ?_; refine pA 10 33 HT_ ?_; refine pA 11 34 HT_ ?_; refine pA 15 38 HT_ ?_; refine tA 9 32 HT_ HW_ hHeld ?_; refine pA 12 35 HT_ ?_; refine pA 13 36 HT_ ?_; refine tA 14 37 HT_ HW_ hHeld ?_; refine tA 16 39 HT_ HW_ hHeld ?_; refine pA 17 40 HT_ ?_; refine pA 18 41 HT_ ?_; refine pA 19 42 HT_ ?_; refine pA 20 43 HT_ ?_; refine uA 21 44 HT_ ?_; refine uA 22 45 HT_ ?_; refine uA 23 46 HT_ ?_; refine uA 24 47 HT_ ?_; refine uA 25 48 HT_ ?_; refine uA 26 49 HT_ ?_; refine uA 27 50 HT_ ?_; refine pA 28 51 HT_ ?_
               refine done_ (done_of HT_.out (by kernel_rfl)) ?_
               try go_wp2
               go_ret
               exact ⟨by first | rfl | (simp [errW_none, errW_some] <;> rfl) | (simp only [← hji16]; first | rfl | (simp [errW_none, errW_some] <;> rfl)) | (simp [*, errW_none, errW_some] <;> rfl), zcb41⟩
           · rw [if_neg c15] at H
             have c15b0 := nL c15
             clear c15
             obtain ⟨t109, A37, H⟩ := bS H; try dsimp only at H
             by_cases c38 : t109 = true
             · subst c38
               rw [if_pos rfl] at H
               have H' := aM H
               clear H
               have p104 : 0 ≤ (x18_2 : Int) := of_decide_eq_true z1200
               have q104 : x18_2 < (l0_1.length : Int) := of_decide_eq_true z1200
               obtain ⟨ad104, A104_1, c104_1, e104, hx104_0, hx104_1, hx104_2, hl104_1, hi104_1⟩ := at_T53 HR0_1.out x18_2 p104 q104
               cases e104
               have TW104_1 := aM hx104_1
               replace hx104_0 := (HB.out.cell (World.block_lt_of_cell? w _ hx104_0)).trans hx104_0
               replace hx104_1 := (HB.out.cell (World.block_lt_of_cell? w _ hx104_1)).trans hx104_1
               replace hx104_2 := (HB.out.cell (World.block_lt_of_cell? w _ hx104_2)).trans hx104_2
               have HR104_1 := aM hi104_1
               have HC104_1 := aM hl104_1
               clear hi104_1 hl104_1
               replace p104 := eq_true p104
               replace q104 := eq_true q104
               try go_wp2_with (first | ((with_reducible refine gate_dst (N := 4) rfl ?_); (try (refine gate_guard (by rfl) ?_; dsimp only)); refine bX 4 53 #[.string (⟨#[]⟩ : ByteArray), .slice none 0 0, .int .i64 0] ?_; intro gb105 hg w39 hbox hb; have _ := bB gb101 hb; have _ := aM (below_step hbZ hb); have _ := aM hbox; have _ := szZ hg; have _ := szZ hg; have ⟨_, _⟩ := nbB gb101 hg; clear BK101 HB; rename_i BK101 HB BK105 GW105 GE105 NB101_105 NB105_101; clear hb hbox hg; have hnb40 := NB105_101.out; have hnc40 := NB101_105.out; have hz41 := cellsZ3 BK105.out))
               have n0_ : Aside0 ((((w39.setCell ⟨gb105, 0, none⟩ (.string ((rd_T53 l0_1 x18_2).f0))).setCell ⟨gb105, 1, none⟩ (.slice A104_1 ((rd_T53 l0_1 x18_2).f1).length c104_1)).setCell ⟨gb105, 2, none⟩ (.int .i64 ((rd_T53 l0_1 x18_2).f2))).heap[gb101]? = some (.cells #[.int .i64 a0_0, .slice (some ad104) l0_1.length c0_1] 29 (0, 0))) := ⟨bkZ⟩
               have n1_ : Aside0 ((((w39.setCell ⟨gb105, 0, none⟩ (.string ((rd_T53 l0_1 x18_2).f0))).setCell ⟨gb105, 1, none⟩ (.slice A104_1 ((rd_T53 l0_1 x18_2).f1).length c104_1)).setCell ⟨gb105, 2, none⟩ (.int .i64 ((rd_T53 l0_1 x18_2).f2))).heap[gb105]? = some (.cells #[.string ((rd_T53 l0_1 x18_2).f0), .slice A104_1 ((rd_T53 l0_1 x18_2).f1).length c104_1, .int .i64 ((rd_T53 l0_1 x18_2).f2)] 53 (0, 0))) := ⟨bkZ⟩
               have n2_ : Aside0 (Below w.heap.size w (((w39.setCell ⟨gb105, 0, none⟩ (.string ((rd_T53 l0_1 x18_2).f0))).setCell ⟨gb105, 1, none⟩ (.slice A104_1 ((rd_T53 l0_1 x18_2).f1).length c104_1)).setCell ⟨gb105, 2, none⟩ (.int .i64 ((rd_T53 l0_1 x18_2).f2)))) := ⟨zcb41⟩
               (try clear BK101); (try clear BK105); (try clear HB)
               generalize (((w39.setCell ⟨gb105, 0, none⟩ (.string ((rd_T53 l0_1 x18_2).f0))).setCell ⟨gb105, 1, none⟩ (.slice A104_1 ((rd_T53 l0_1 x18_2).f1).length c104_1)).setCell ⟨gb105, 2, none⟩ (.int .i64 ((rd_T53 l0_1 x18_2).f2))) = w42 at n0_ n1_ n2_ ⊢
               have BK101 := n0_
               have BK105 := n1_
               have HB := n2_
               clear n0_ n1_ n2_
               have _ := aM (blk_drew BK101.out)
               have _ := aM (blk_drew BK105.out)
               have _ := aM (below_drew1 HB.out)
               clear BK101
               clear BK105
               clear HB
               rename_i BK101 BK105 HB
               refine sA 29 spec_GoodFiles.tab6 spec_GoodFiles.bits6 (fun w' => w'.cell? ⟨gb105, 0, none⟩ = some (.string ((rd_T53 l0_1 x18_2).f0)) ∧ w'.cell? ⟨gb105, 1, none⟩ = some (.slice A104_1 ((rd_T53 l0_1 x18_2).f1).length c104_1) ∧ w'.cell? ⟨gb105, 2, none⟩ = some (.int .i64 ((rd_T53 l0_1 x18_2).f2))) [] (fun hHeld HT_ HW_ => ?_)
               generalize w42.drew = w43 at BK101 BK105 HB hHeld ⊢
               refine pA 0 23 HT_ ?_; refine tA 1 24 HT_ HW_ hHeld ?_; refine oA 2 25 HT_ (fun K hK => ?_)
               refine goes_ Tryd.func35 (by kernel_rfl) rfl #[.string ((rd_T53 l0_1 x18_2).f0)] (by rfl) rfl rfl zee81 ?_
               with_reducible refine (spec_l2Name.calls k2 ((rd_T53 l0_1 x18_2).f0) true _ A13.out).mono ?_
               rintro e w' ⟨rfl, ⟨nd, rfl⟩⟩
               refine ⟨_, rfl, ?_⟩
               refine hK.out _ _ sZ (fun hHeld => ?_)
               clear hK K
               refine nA 25 ?_; refine pA 3 26 HT_ ?_; refine pA 4 27 HT_ ?_; refine pA 5 28 HT_ ?_; refine pA 6 29 HT_ ?_; refine pA 7 30 HT_ ?_; refine uA 8 31 HT_ ?_; refine uA 9 32 HT_ ?_; refine uA 10 33 HT_ ?_; refine uA 11 34 HT_ ?_; refine uA 12 35 HT_ ?_; refine uA 13 36 HT_ ?_; refine uA 14 37 HT_ ?_; refine uA 15 38 HT_ ?_; refine uA 16 39 HT_ ?_; refine uA 17 40 HT_ ?_; refine pA 18 41 HT_ ?_; refine pA 19 42 HT_ ?_; refine pA 20 43 HT_ ?_; refine pA 21 44 HT_ ?_; refine pA 23 46 HT_ ?_; refine tA 22 45 HT_ HW_ hHeld ?_; refine tA 24 47 HT_ HW_ hHeld ?_; refine pA 25 48 HT_ ?_; refine oA 26 49 HT_ (fun K hK => ?_)
               refine goes_ Tryd.func65 (by kernel_rfl) rfl #[.int .i64 ((rd_T53 l0_1 x18_2).f2), .int .i64 0, .int .i64 (((rd_T53 l0_1 x18_2).f1).length : Int)] (by rfl) rfl rfl zee81 ?_
               with_reducible refine (spec_l1In.calls ((rd_T53 l0_1 x18_2).f2) 0 (((rd_T53 l0_1 x18_2).f1).length : Int) true _ A37.out).mono ?_
               rintro e w' ⟨rfl, ⟨nd, rfl⟩⟩
               refine ⟨_, rfl, ?_⟩
               refine hK.out _ _ sZ (fun hHeld => ?_)
               clear hK K
               refine nA 49 ?_; refine pA 27 50 HT_ ?_; refine pA 28 51 HT_ ?_
               refine done_ (done_of HT_.out (by kernel_rfl)) ?_
               try go_wp2
               go_roundg k2
               case measure => have := HJ1.out; have := HK2.out; omega
               case rel => exact ⟨(wrap64 (x18_2 + 1)), z4458, H', ⟨by have := HJ1.out; have := HK2.out; omega⟩, ⟨bkZ⟩, ⟨zcb41⟩⟩
             · replace c38 := Bool.eq_false_iff.mpr c38
               subst c38
               rw [if_neg (show ¬ (false = true) by decide)] at H
               obtain rfl := Option.some.inj H
               have p104 : 0 ≤ (x18_2 : Int) := of_decide_eq_true z1200
               have q104 : x18_2 < (l0_1.length : Int) := of_decide_eq_true z1200
               obtain ⟨ad104, A104_1, c104_1, e104, hx104_0, hx104_1, hx104_2, hl104_1, hi104_1⟩ := at_T53 HR0_1.out x18_2 p104 q104
               cases e104
               have TW104_1 := aM hx104_1
               replace hx104_0 := (HB.out.cell (World.block_lt_of_cell? w _ hx104_0)).trans hx104_0
               replace hx104_1 := (HB.out.cell (World.block_lt_of_cell? w _ hx104_1)).trans hx104_1
               replace hx104_2 := (HB.out.cell (World.block_lt_of_cell? w _ hx104_2)).trans hx104_2
               have HR104_1 := aM hi104_1
               have HC104_1 := aM hl104_1
               clear hi104_1 hl104_1
               replace p104 := eq_true p104
               replace q104 := eq_true q104
               try go_wp2_with (first | ((with_reducible refine gate_dst (N := 4) rfl ?_); (try (refine gate_guard (by rfl) ?_; dsimp only)); refine bX 4 53 #[.string (⟨#[]⟩ : ByteArray), .slice none 0 0, .int .i64 0] ?_; intro gb105 hg w44 hbox hb; have _ := bB gb101 hb; have _ := aM (below_step hbZ hb); have _ := aM hbox; have _ := szZ hg; have _ := szZ hg; have ⟨_, _⟩ := nbB gb101 hg; clear BK101 HB; rename_i BK101 HB BK105 GW105 GE105 NB101_105 NB105_101; clear hb hbox hg; have hnb45 := NB105_101.out; have hnc45 := NB101_105.out; have hz46 := cellsZ3 BK105.out))
               have n0_ : Aside0 ((((w44.setCell ⟨gb105, 0, none⟩ (.string ((rd_T53 l0_1 x18_2).f0))).setCell ⟨gb105, 1, none⟩ (.slice A104_1 ((rd_T53 l0_1 x18_2).f1).length c104_1)).setCell ⟨gb105, 2, none⟩ (.int .i64 ((rd_T53 l0_1 x18_2).f2))).heap[gb101]? = some (.cells #[.int .i64 a0_0, .slice (some ad104) l0_1.length c0_1] 29 (0, 0))) := ⟨bkZ⟩
               have n1_ : Aside0 ((((w44.setCell ⟨gb105, 0, none⟩ (.string ((rd_T53 l0_1 x18_2).f0))).setCell ⟨gb105, 1, none⟩ (.slice A104_1 ((rd_T53 l0_1 x18_2).f1).length c104_1)).setCell ⟨gb105, 2, none⟩ (.int .i64 ((rd_T53 l0_1 x18_2).f2))).heap[gb105]? = some (.cells #[.string ((rd_T53 l0_1 x18_2).f0), .slice A104_1 ((rd_T53 l0_1 x18_2).f1).length c104_1, .int .i64 ((rd_T53 l0_1 x18_2).f2)] 53 (0, 0))) := ⟨bkZ⟩
               have n2_ : Aside0 (Below w.heap.size w (((w44.setCell ⟨gb105, 0, none⟩ (.string ((rd_T53 l0_1 x18_2).f0))).setCell ⟨gb105, 1, none⟩ (.slice A104_1 ((rd_T53 l0_1 x18_2).f1).length c104_1)).setCell ⟨gb105, 2, none⟩ (.int .i64 ((rd_T53 l0_1 x18_2).f2)))) := ⟨zcb41⟩
               (try clear BK101); (try clear BK105); (try clear HB)
               generalize (((w44.setCell ⟨gb105, 0, none⟩ (.string ((rd_T53 l0_1 x18_2).f0))).setCell ⟨gb105, 1, none⟩ (.slice A104_1 ((rd_T53 l0_1 x18_2).f1).length c104_1)).setCell ⟨gb105, 2, none⟩ (.int .i64 ((rd_T53 l0_1 x18_2).f2))) = w47 at n0_ n1_ n2_ ⊢
               have BK101 := n0_
               have BK105 := n1_
               have HB := n2_
               clear n0_ n1_ n2_
               have _ := aM (blk_drew BK101.out)
               have _ := aM (blk_drew BK105.out)
               have _ := aM (below_drew1 HB.out)
               clear BK101
               clear BK105
               clear HB
               rename_i BK101 BK105 HB
               refine sA 29 spec_GoodFiles.tab6 spec_GoodFiles.bits6 (fun w' => w'.cell? ⟨gb105, 0, none⟩ = some (.string ((rd_T53 l0_1 x18_2).f0)) ∧ w'.cell? ⟨gb105, 1, none⟩ = some (.slice A104_1 ((rd_T53 l0_1 x18_2).f1).length c104_1) ∧ w'.cell? ⟨gb105, 2, none⟩ = some (.int .i64 ((rd_T53 l0_1 x18_2).f2))) [] (fun hHeld HT_ HW_ => ?_)
               generalize w47.drew = w48 at BK101 BK105 HB hHeld ⊢
               refine pA 0 23 HT_ ?_; refine tA 1 24 HT_ HW_ hHeld ?_; refine oA 2 25 HT_ (fun K hK => ?_)
               refine goes_ Tryd.func35 (by kernel_rfl) rfl #[.string ((rd_T53 l0_1 x18_2).f0)] (by rfl) rfl rfl zee81 ?_
               with_reducible refine (spec_l2Name.calls k2 ((rd_T53 l0_1 x18_2).f0) true _ A13.out).mono ?_
               rintro e w' ⟨rfl, ⟨nd, rfl⟩⟩
               refine ⟨_, rfl, ?_⟩
               refine hK.out _ _ sZ (fun hHeld => ?_)
               clear hK K
               refine nA 25 ?_; refine pA 3 26 HT_ ?_; refine pA 4 27 HT_ ?_; refine pA 5 28 HT_ ?_; refine pA 6 29 HT_ ?_; refine pA 7 30 HT_ ?_; refine uA 8 31 HT_ ?_; refine uA 9 32 HT_ ?_; refine uA 10 33 HT_ ?_; refine uA 11 34 HT_ ?_; refine uA 12 35 HT_ ?_; refine uA 13 36 HT_ ?_; refine uA 14 37 HT_ ?_; refine uA 15 38 HT_ ?_; refine uA 16 39 HT_ ?_; refine uA 17 40 HT_ ?_; refine pA 18 41 HT_ ?_; refine pA 19 42 HT_ ?_; refine pA 20 43 HT_ ?_; refine pA 21 44 HT_ ?_; refine pA 23 46 HT_ ?_; refine tA 22 45 HT_ HW_ hHeld ?_; refine tA 24 47 HT_ HW_ hHeld ?_; refine pA 25 48 HT_ ?_; refine oA 26 49 HT_ (fun K hK => ?_)
               refine goes_ Tryd.func65 (by kernel_rfl) rfl #[.int .i64 ((rd_T53 l0_1 x18_2).f2), .int .i64 0, .int .i64 (((rd_T53 l0_1 x18_2).f1).length : Int)] (by rfl) rfl rfl zee81 ?_
               with_reducible refine (spec_l1In.calls ((rd_T53 l0_1 x18_2).f2) 0 (((rd_T53 l0_1 x18_2).f1).length : Int) false _ A37.out).mono ?_
               rintro e w' ⟨rfl, ⟨nd, rfl⟩⟩
               refine ⟨_, rfl, ?_⟩
               refine hK.out _ _ sZ (fun hHeld => ?_)
               clear hK K
               refine nA 49 ?_; refine pA 27 50 HT_ ?_; refine pA 28 51 HT_ ?_
               refine done_ (done_of HT_.out (by kernel_rfl)) ?_
               try go_wp2
               go_ret
               exact ⟨z674d, zcb41⟩
         · replace c14 := Bool.eq_false_iff.mpr c14
           subst c14
           rw [if_neg (show ¬ (false = true) by decide)] at H
           obtain rfl := Option.some.inj H
           have p104 : 0 ≤ (x18_2 : Int) := of_decide_eq_true z1200
           have q104 : x18_2 < (l0_1.length : Int) := of_decide_eq_true z1200
           obtain ⟨ad104, A104_1, c104_1, e104, hx104_0, hx104_1, hx104_2, hl104_1, hi104_1⟩ := at_T53 HR0_1.out x18_2 p104 q104
           cases e104
           have TW104_1 := aM hx104_1
           replace hx104_0 := (HB.out.cell (World.block_lt_of_cell? w _ hx104_0)).trans hx104_0
           replace hx104_1 := (HB.out.cell (World.block_lt_of_cell? w _ hx104_1)).trans hx104_1
           replace hx104_2 := (HB.out.cell (World.block_lt_of_cell? w _ hx104_2)).trans hx104_2
           have HR104_1 := aM hi104_1
           have HC104_1 := aM hl104_1
           clear hi104_1 hl104_1
           replace p104 := eq_true p104
           replace q104 := eq_true q104
           try go_wp2_with (first | ((with_reducible refine gate_dst (N := 4) rfl ?_); (try (refine gate_guard (by rfl) ?_; dsimp only)); refine bX 4 53 #[.string (⟨#[]⟩ : ByteArray), .slice none 0 0, .int .i64 0] ?_; intro gb105 hg w49 hbox hb; have _ := bB gb101 hb; have _ := aM (below_step hbZ hb); have _ := aM hbox; have _ := szZ hg; have _ := szZ hg; have ⟨_, _⟩ := nbB gb101 hg; clear BK101 HB; rename_i BK101 HB BK105 GW105 GE105 NB101_105 NB105_101; clear hb hbox hg; have hnb50 := NB105_101.out; have hnc50 := NB101_105.out; have hz51 := cellsZ3 BK105.out))
           have n0_ : Aside0 ((((w49.setCell ⟨gb105, 0, none⟩ (.string ((rd_T53 l0_1 x18_2).f0))).setCell ⟨gb105, 1, none⟩ (.slice A104_1 ((rd_T53 l0_1 x18_2).f1).length c104_1)).setCell ⟨gb105, 2, none⟩ (.int .i64 ((rd_T53 l0_1 x18_2).f2))).heap[gb101]? = some (.cells #[.int .i64 a0_0, .slice (some ad104) l0_1.length c0_1] 29 (0, 0))) := ⟨bkZ⟩
           have n1_ : Aside0 ((((w49.setCell ⟨gb105, 0, none⟩ (.string ((rd_T53 l0_1 x18_2).f0))).setCell ⟨gb105, 1, none⟩ (.slice A104_1 ((rd_T53 l0_1 x18_2).f1).length c104_1)).setCell ⟨gb105, 2, none⟩ (.int .i64 ((rd_T53 l0_1 x18_2).f2))).heap[gb105]? = some (.cells #[.string ((rd_T53 l0_1 x18_2).f0), .slice A104_1 ((rd_T53 l0_1 x18_2).f1).length c104_1, .int .i64 ((rd_T53 l0_1 x18_2).f2)] 53 (0, 0))) := ⟨bkZ⟩
           have n2_ : Aside0 (Below w.heap.size w (((w49.setCell ⟨gb105, 0, none⟩ (.string ((rd_T53 l0_1 x18_2).f0))).setCell ⟨gb105, 1, none⟩ (.slice A104_1 ((rd_T53 l0_1 x18_2).f1).length c104_1)).setCell ⟨gb105, 2, none⟩ (.int .i64 ((rd_T53 l0_1 x18_2).f2)))) := ⟨zcb41⟩
           (try clear BK101); (try clear BK105); (try clear HB)
           generalize (((w49.setCell ⟨gb105, 0, none⟩ (.string ((rd_T53 l0_1 x18_2).f0))).setCell ⟨gb105, 1, none⟩ (.slice A104_1 ((rd_T53 l0_1 x18_2).f1).length c104_1)).setCell ⟨gb105, 2, none⟩ (.int .i64 ((rd_T53 l0_1 x18_2).f2))) = w52 at n0_ n1_ n2_ ⊢
           have BK101 := n0_
           have BK105 := n1_
           have HB := n2_
           clear n0_ n1_ n2_
           have _ := aM (blk_drew BK101.out)
           have _ := aM (blk_drew BK105.out)
           have _ := aM (below_drew1 HB.out)
           clear BK101
           clear BK105
           clear HB
           rename_i BK101 BK105 HB
           refine sA 29 spec_GoodFiles.tab6 spec_GoodFiles.bits6 (fun w' => w'.cell? ⟨gb105, 0, none⟩ = some (.string ((rd_T53 l0_1 x18_2).f0)) ∧ w'.cell? ⟨gb105, 1, none⟩ = some (.slice A104_1 ((rd_T53 l0_1 x18_2).f1).length c104_1) ∧ w'.cell? ⟨gb105, 2, none⟩ = some (.int .i64 ((rd_T53 l0_1 x18_2).f2))) [] (fun hHeld HT_ HW_ => ?_)
           generalize w52.drew = w53 at BK101 BK105 HB hHeld ⊢
           refine pA 0 23 HT_ ?_; refine tA 1 24 HT_ HW_ hHeld ?_; refine oA 2 25 HT_ (fun K hK => ?_)
           refine goes_ Tryd.func35 (by kernel_rfl) rfl #[.string ((rd_T53 l0_1 x18_2).f0)] (by rfl) rfl rfl zee81 ?_
           with_reducible refine (spec_l2Name.calls k2 ((rd_T53 l0_1 x18_2).f0) false _ A13.out).mono ?_
           rintro e w' ⟨rfl, ⟨nd, rfl⟩⟩
           refine ⟨_, rfl, ?_⟩
           refine hK.out _ _ sZ (fun hHeld => ?_)
           clear hK K
           refine nA 25 ?_; refine pA 3 26 HT_ ?_; refine pA 4 27 HT_ ?_; refine uA 5 28 HT_ ?_; refine uA 6 29 HT_ ?_; refine uA 7 30 HT_ ?_; refine uA 8 31 HT_ ?_; refine uA 9 32 HT_ ?_; refine uA 10 33 HT_ ?_; refine uA 11 34 HT_ ?_; refine uA 12 35 HT_ ?_; refine uA 13 36 HT_ ?_; refine uA 14 37 HT_ ?_; refine uA 15 38 HT_ ?_; refine uA 16 39 HT_ ?_; refine uA 17 40 HT_ ?_; refine uA 18 41 HT_ ?_; refine pA 19 42 HT_ ?_; refine pA 20 43 HT_ ?_; refine uA 21 44 HT_ ?_; refine uA 22 45 HT_ ?_; refine uA 23 46 HT_ ?_; refine uA 24 47 HT_ ?_; refine uA 25 48 HT_ ?_; refine uA 26 49 HT_ ?_; refine uA 27 50 HT_ ?_; refine pA 28 51 HT_ ?_
           refine done_ (done_of HT_.out (by kernel_rfl)) ?_
           try go_wp2
           go_ret
           exact ⟨z674d, zcb41⟩
       · rw [if_neg c10] at H
         have c10b0 := nL c10
         clear c10
         obtain ⟨t103, A54, H⟩ := bS H; try dsimp only at H
         obtain rfl := Option.some.inj H
         try go_wp2
         have _ := aM (blk_drew BK101.out)
         have _ := aM (below_drew1 HB.out)
         clear BK101
         clear HB
         rename_i BK101 HB
         refine start_ (n := 6) (S := fun w' => w'.cell? ⟨gb101, 0, none⟩ = some (.int .i64 a0_0) ∧ w'.cell? ⟨gb101, 1, none⟩ = some (.slice A0_1 l0_1.length c0_1)) (ds := []) #[false, false, false, false, false, false] (by kernel_rfl) rfl rfl ⟨(blk_cell BK101.out 0).trans rfl, (blk_cell BK101.out 1).trans rfl⟩ (fun hHeld => ?_)
         generalize wr.drew = w55 at BK101 HB hHeld ⊢
         refine pure_ (i := 2) (N := some 55) (v := ?_) (a' := ?_) #[false, false, true, false, false, false] rfl rfl (by kernel_rfl) (fun _ _ _ h => h) (Or.inl ⟨by rfl, ?_⟩) ?_ ?_
         rotate_left
         · intro w'
           go_simp
           with_reducible rfl
         rotate_left
         · simp only [Act.put, List.setIfInBounds_toArray, List.set_cons_zero, List.set_cons_succ, i64_w, i32_w]
           rfl
         refine take_ (i := 0) (N := some 53) (v := ?_) (a' := ?_) #[true, false, true, false, false, false] rfl rfl (by kernel_rfl) (fun _ _ _ h => h) (Or.inl ⟨by rfl, ?_⟩) hHeld ?_ ?_
         rotate_left
         · rintro w' ⟨s0, s1⟩
           go_simp
           with_reducible rfl
         rotate_left
         · simp only [Act.put, List.setIfInBounds_toArray, List.set_cons_zero, List.set_cons_succ, i64_w, i32_w]
           rfl
         refine take_ (i := 3) (N := some 56) (v := ?_) (a' := ?_) #[true, false, true, true, false, false] rfl rfl (by kernel_rfl) (fun _ _ _ h => h) (Or.inl ⟨by rfl, ?_⟩) hHeld ?_ ?_
         rotate_left
         · rintro w' ⟨s0, s1⟩
           go_simp
           with_reducible rfl
         rotate_left
         · simp only [Act.put, List.setIfInBounds_toArray, List.set_cons_zero, List.set_cons_succ, i64_w, i32_w]
           rfl
         refine one_ (i := 1) (N := some 54) #[true, true, true, true, false, false] rfl rfl (by kernel_rfl) (by decide) (fun K hK => ?_)
         refine goes_ Tryd.func66 (by kernel_rfl) rfl #[.agg #[.int .i64 a0_0, .slice A0_1 l0_1.length c0_1]] (by rfl) rfl rfl zee81 ?_
         with_reducible refine (spec_l2Used.calls k2 a0_0 _ _ l0_1 t103 _ ?side1 ?side2 A54.out).mono ?_
         (case side1 => exact (cZ (Kd.C_below HR0_1.out HB.out)))
         (case side2 => exact HC0_1.out)
         rintro e w56 ⟨rfl, hb⟩
         refine ⟨_, rfl, ?_⟩
         have _ := bB gb101 hb
         have _ := aM (below_step hbZ hb)
         clear BK101
         clear HB
         rename_i BK101 HB
         (try clear hb)
         refine hK.out _ _ sZ (fun hHeld => ?_)
         clear hK K
         refine nA 54 ?_
         refine pure_ (i := 4) (N := some 57) (v := ?_) (a' := ?_) #[true, true, true, true, true, false] rfl rfl (by kernel_rfl) (fun _ _ _ h => h) (Or.inl ⟨by rfl, ?_⟩) ?_ ?_
         rotate_left
         · intro w'
           go_simp
           with_reducible rfl
         rotate_left
         · simp only [Act.put, List.setIfInBounds_toArray, List.set_cons_zero, List.set_cons_succ, i64_w, i32_w]
           rfl
         refine pure_ (i := 5) (N := some 2) (v := ?_) (a' := ?_) #[true, true, true, true, true, true] rfl rfl (by kernel_rfl) (fun _ _ _ h => h) (Or.inl ⟨by rfl, ?_⟩) ?_ ?_
         rotate_left
         · intro w'
           go_simp
           with_reducible rfl
         rotate_left
         · simp only [Act.put, List.setIfInBounds_toArray, List.set_cons_zero, List.set_cons_succ, i64_w, i32_w]
           rfl
         refine done_ (by kernel_rfl) ?_
         try go_wp2
         go_ret
         exact ⟨z674d, zcb41⟩

end Go.Proofs.YtmlclmbplbbbhaaDoor.P

-- written by a program of this session's (wip/pp)
namespace Go.Proofs.YtmlclmbplbbbhaaDoor.P
open Go.RowKit Go.Proofs.YtmlclmbplbbbhaaDoorW.PrintWords Go.Proofs.YtmlclmbplbbbhaaDoorW.PrintLast Go.Proofs.YtmlclmbplbbbhaaDoorW.PrintMore
attribute [local go_sem] max2_int min2_int max_two min_two max_three min_three max_four min_four str_geq str_gtr str_leq   -- for this text's walks alone
set_option linter.unusedVariables false
set_option linter.unusedSimpArgs false

/-! ### spec_l2Own: function 36 -/
def spec_l2Own.l0 : Nat → List (S53) → List (S53) → Int → Int → Int → List (S53) → Option (Int × (List (S53)))
 | 0, _, _, _, _, _, _ => none
 | k + 1, x3, x7, x8, x9, x102000, x102001 => if x9 < x8 then (if 0 ≤ x9 then (if x9 < (x7.length : Int) then ((some (([] : List Int) : List Int)).bind fun y105 => (if y105.length + ((rd_T53 x7 x9).f1).length < 140737488355328 then (if x3.length < 2932031007402 then (spec_l2Own.l0 k (x3 ++ [(⟨(rd_T53 x7 x9).f0, (y105 ++ ((rd_T53 x7 x9).f1)), (rd_T53 x7 x9).f2⟩ : S53)]) x7 x8 (wrap64 (x9 + 1)) x102000 x102001) else (none)) else (none))) else (none)) else (none)) else (some (x102000, x3))
def spec_l2Own.f (k : Nat) (a0_0 : Int) (l0_1 : List (S53)) : Option (Int × (List (S53))) := spec_l2Own.l0 k ([] : List (S53)) l0_1 (l0_1.length : Int) 0 a0_0 l0_1
theorem spec_l2Own.mono_l : ∀ k, (∀ y0 y1 y2 y3 y4 y5, LeO (spec_l2Own.l0 k y0 y1 y2 y3 y4 y5) (spec_l2Own.l0 (k + 1) y0 y1 y2 y3 y4 y5))
 | 0 => fun _ _ _ _ _ _ r h => by simp [spec_l2Own.l0] at h
 | k + 1 => by
  have ih0 := spec_l2Own.mono_l k
  · intro y0 y1 y2 y3 y4 y5
    unfold spec_l2Own.l0
    exact moZ
theorem spec_l2Own.mono : ∀ a0 a1 k, LeO (spec_l2Own.f k a0 a1) (spec_l2Own.f (k + 1) a0 a1) := by
 intro a0 a1 k
 have ih0 := spec_l2Own.mono_l k
 unfold spec_l2Own.f
 exact moZ
set_option maxHeartbeats 8000000 in
set_option maxRecDepth 100000 in
theorem spec_l2Own.calls (k : Nat) (a0_0 : Int) (A0_1 : Option Addr) (c0_1 : Nat) (l0_1 : List (S53)) (r1 : Int) (r2 : List (S53)) (w : World) (hr0_1 : Kd.C k53 w A0_1 l0_1.length l0_1) (hc0_1 : l0_1.length ≤ c0_1) (h : spec_l2Own.f k a0_0 l0_1 = some (r1, r2)) :
 Calls Tryd.prog 36 #[.agg #[.int .i64 a0_0, .slice A0_1 l0_1.length c0_1]] w fun e w' => ∃ v1_ : Value, e = .returned (.agg #[.int .i64 r1, v1_]) ∧ Kd.S k53 53 w' w.heap.size (fun _ => True) v1_ r2 ∧ Below w.heap.size w w' := by
 have hu29 := Tryd.underlying29
 have hu53 := Tryd.underlying53
 have HR0_1 := aM hr0_1
 have HC0_1 := aM hc0_1
 clear hr0_1 hc0_1
 have HB := aM (Below.refl w.heap.size w)
 have H : (spec_l2Own.l0 k ([] : List (S53)) l0_1 (l0_1.length : Int) 0 a0_0 l0_1) = some (r1, r2) := h
 clear h
 have H' := aM H
 clear H
 go_enter Tryd.func36, Tryd.ntmps36
 go_wp2_with (first | ((with_reducible refine gate_dst (N := 1) rfl ?_); refine bX 1 29 #[.int .i64 a0_0, .slice A0_1 l0_1.length c0_1] ?_; intro gb101 hg w2 hbox hb; have _ := aM (below_step hbZ hb); have _ := aM hbox; have _ := szZ hg; have _ := szZ hg; clear HB; rename_i HB BK101 GW101 GE101; clear hb hbox hg) | ((with_reducible refine gate_dst (N := 2) rfl ?_); refine bX 2 29 #[.int .i64 0, .slice none 0 0] ?_; intro gb102 hg w3 hbox hb; have _ := bB gb101 hb; have _ := aM (below_step hbZ hb); have _ := aM hbox; have _ := szZ hg; have _ := szZ hg; have ⟨_, _⟩ := nbB gb101 hg; clear BK101 HB; rename_i BK101 HB BK102 GW102 GE102 NB101_102 NB102_101; clear hb hbox hg; have hnb4 := NB101_102.out; have hnc4 := NB102_101.out; have hz5 := cellsZ2 BK101.out))
 go_loopg [3, 9] k (fun kq v3 v9 w' => ∃ (x3_1 : List (S53)) (x9_1 : Int), v9 = .int .i64 x9_1 ∧ Aside0 (spec_l2Own.l0 kq x3_1 l0_1 (l0_1.length : Int) x9_1 a0_0 l0_1 = some (r1, r2)) ∧ Aside0 (kq ≤ k) ∧ Aside0 (Kd.S k53 53 w' w.heap.size (fun _ => True) v3 x3_1) ∧ Aside0 (w'.heap[gb101]? = some (.cells #[.int .i64 a0_0, (.slice A0_1 l0_1.length c0_1)] 29 (0, 0))) ∧ Aside0 (w'.heap[gb102]? = some (.cells #[.int .i64 0, (.slice none 0 0)] 29 (0, 0))) ∧ Aside0 (Below w.heap.size w w'))
 case atStart => exact ⟨(([] : List (S53))), (0), z4458, H', ⟨Nat.le_refl _⟩, ⟨z2bfb⟩, ⟨bkZ⟩, ⟨bkZ⟩, ⟨zcb41⟩⟩
 case round =>
  clear H'
  (try clear hz5)
  obtain ⟨x3_1, x9_1, rfl, HA, HK1, HO_3, BK101, BK102, HB⟩ := hrel
  cases gk with
  | zero => exact absurd HA.out (by simp [spec_l2Own.l0])
  | succ k1 =>
   have H := HA.out
   clear HA
   simp only [spec_l2Own.l0] at H
   by_cases c6 : x9_1 < (l0_1.length : Int)
   · rw [if_pos c6] at H
     have c6b0 := dL c6
     clear c6
     obtain ⟨c7b0, H⟩ := sE H
     obtain ⟨c8b0, H⟩ := sL H
     obtain ⟨y105, hy105⟩ : ∃ y_ : List Int, y_ = (([] : List Int)) := ⟨_, rfl⟩
     first | (replace H := bindS H; rw [← hy105] at H; try dsimp only at H) | rw [← hy105] at H
     have Ny105 := aM hy105
     clear hy105
     obtain ⟨LMc9, H⟩ := sM H
     obtain ⟨y108, hy108⟩ : ∃ y_ : List Int, y_ = (y105 ++ ((rd_T53 l0_1 x9_1).f1)) := ⟨_, rfl⟩
     first | (replace H := bindS H; rw [← hy108] at H; try dsimp only at H) | rw [← hy108] at H
     have Ny108 := aM hy108
     clear hy108
     obtain ⟨LMc10, H⟩ := sM H
     obtain ⟨y111, hy111⟩ : ∃ y_ : List (S53), y_ = (x3_1 ++ [(⟨(rd_T53 l0_1 x9_1).f0, y108, (rd_T53 l0_1 x9_1).f2⟩ : S53)]) := ⟨_, rfl⟩
     first | (replace H := bindS H; rw [← hy111] at H; try dsimp only at H) | rw [← hy111] at H
     have Ny111 := aM hy111
     clear hy111
     have H' := aM H
     clear H
     have p103 : 0 ≤ (x9_1 : Int) := of_decide_eq_true z1200
     have q103 : x9_1 < (l0_1.length : Int) := of_decide_eq_true z1200
     obtain ⟨ad103, A103_1, c103_1, e103, hx103_0, hx103_1, hx103_2, hl103_1, hi103_1⟩ := at_T53 HR0_1.out x9_1 p103 q103
     cases e103
     have TW103_1 := aM hx103_1
     replace hx103_0 := (HB.out.cell (World.block_lt_of_cell? w _ hx103_0)).trans hx103_0
     replace hx103_1 := (HB.out.cell (World.block_lt_of_cell? w _ hx103_1)).trans hx103_1
     replace hx103_2 := (HB.out.cell (World.block_lt_of_cell? w _ hx103_2)).trans hx103_2
     have HR103_1 := aM hi103_1
     have HC103_1 := aM hl103_1
     clear hi103_1 hl103_1
     replace p103 := eq_true p103
     replace q103 := eq_true q103
     go_wp2_with (first | ((with_reducible refine gate_dst (N := 5) rfl ?_); refine bX 5 53 #[.string (⟨#[]⟩ : ByteArray), .slice none 0 0, .int .i64 0] ?_; intro gb104 hg w11 hbox hb; have _ := aM (Kd.S_below (Kd.S_elderB zd74a gb104 (Nat.le_of_eq hg.symm)) hb); have _ := bB gb101 hb; have _ := bB gb102 hb; have _ := aM (below_step hbZ hb); have _ := aM hbox; have _ := szZ hg; have _ := szZ hg; have ⟨_, _⟩ := nbB gb101 hg; have ⟨_, _⟩ := nbB gb102 hg; clear HO_3 BK101 BK102 HB; rename_i HO_3 BK101 BK102 HB BK104 GW104 GE104 NB101_104 NB104_101 NB102_104 NB104_102; clear hb hbox hg; have hnb12 := NB104_101.out; have hnc12 := NB101_104.out; have hnb13 := NB104_102.out; have hnc13 := NB102_104.out; have hz14 := cellsZ3 BK104.out) | ((with_reducible refine gate_dst (N := 13) rfl ?_); refine Kd.R_lit (Kd.int .u8) _ 5 ?hg (N := 13) ?hd (xs := ([] : List Int)) (inner := []) (ok := fun _ => True) (okp := fun _ => True) ?hr ?hp (fun _ hk => hk) trivial (Below.refl _ _) (Nat.le_refl _) (by simp) ?_; (case hd => rfl); (case hg => rfl); (case hr => first | (go_simp; done) | (go_simp; rfl)); (case hp => exact (Reps.none _ _)); intro v106 w15 ho16 hb hg_ hnew_; clear hg_ hnew_; (first | rw [← Ny105.out] at ho16 | (simp only [Int.reduceToNat] at ho16; rw [← Ny105.out] at ho16)); have _ := aM (Kd.S_elder' (by (with_reducible repeat (first | apply Kd.S_alloc | apply Kd.S_drewN | apply Kd.S_drew)); exact (Kd.S_mono (Kd.S_far (p := ⟨gb104, 2, none⟩) (Kd.S_far (p := ⟨gb104, 1, none⟩) (Kd.S_far (p := ⟨gb104, 0, none⟩) (Kd.S_mono HO_3.out (fun k_ hk => (⟨hk, hk.2⟩ : _ ∧ k_ ≠ gb104))) (fun _ hk => hk.2) (.string ((rd_T53 l0_1 x9_1).f0))) (fun _ hk => hk.2) (.slice A103_1 ((rd_T53 l0_1 x9_1).f1).length c103_1)) (fun _ hk => hk.2) (.int .i64 ((rd_T53 l0_1 x9_1).f2))) (fun _ h_ => h_.1))) (Kd.R_base ho16) hb); have _ := aM (Kd.R_lower ho16 (below_size hbZ)); have _ := bB gb101 hb; have _ := bB gb102 hb; have _ := aM (blk_below (g := gb104) (o := .cells #[.string ((rd_T53 l0_1 x9_1).f0), .slice A103_1 ((rd_T53 l0_1 x9_1).f1).length c103_1, .int .i64 ((rd_T53 l0_1 x9_1).f2)] 53 (0, 0)) bkZ hb); have _ := aM (below_step hbZ hb); clear HO_3 BK101 BK102 BK104 HB; rename_i HO_3 HO107 BK101 BK102 BK104 HB; clear hb ho16; have hz17 := cellsZ3 BK104.out) | ((with_reducible refine gate_builtin (b := .append) (xs := #[.tmp 13, .tmp 15]) rfl ?_); at_builtin; refine Kd.R_append_rows (Kd.int .u8) (w0 := w) w.heap.size rfl (.tmp 13) (.tmp 15) 25 5 (.int .u8 0) 1 rfl Tryd.underlying25 info5 rfl (by decide) (by omega) v106 y105 ((rd_T53 l0_1 x9_1).f1) _ _ _ (fun _ => True) (fun _ => False) rfl rfl ?aO ?aR (fun _ _ h => h) (fun _ h => h.elim) ?aF ?aB ?aS ?aL ?_; (case aR => repeat (first | exact (Kd.C_below HR103_1.out HB.out) | (with_reducible refine Kd.C_alloc ?_ _) | (with_reducible refine Kd.C_drewN ?_ _) | (with_reducible refine Kd.C_drew ?_))); (case aB => exact hbZ); (case aF => exact (fun _ _ => trivial)); (case aO => exact (rZ HO107.out)); (case aS => exact (below_size hbZ)); (case aL => have := LMc9.out; omega); intro v109 w18 ho hb hg hat; rw [← Ny108.out] at ho; have _ := aM (Kd.S_after (ok := (fun k_ => k_ ≠ gb104)) (by (with_reducible repeat (first | apply Kd.S_alloc | apply Kd.S_drewN | apply Kd.S_drew)); exact Kd.S_mono HO_3.out (fun _ hk => ⟨hk.1.2, hk.2⟩)) hg hat); have _ := aM (blk_grown (g := gb101) bkZ hg (Kd.R_ne HO107.out BK101.out (by decide))); have _ := aM (blk_grown (g := gb102) bkZ hg (Kd.R_ne HO107.out BK102.out (by decide))); have _ := aM (blk_grown (g := gb104) bkZ hg (Kd.R_ne HO107.out BK104.out (by decide))); have _ := aM hb; have _ := aM ho; clear HO_3 BK101 BK102 BK104 HB HO107; rename_i HO_3 BK101 BK102 BK104 HB HO110; clear ho hb hg hat; obtain ⟨Ao19, co19, eo19⟩ := Kd.R_slice HO110.out; subst eo19; have hz20 := cellsZ3 BK104.out) | ((with_reducible refine gate_store (t := 25) (p := 17) rfl ?_); refine store_event (t := 25) (p := 17) (v := ?vo_w21) (w1 := (w18.setCell ⟨gb104, 1, none⟩ (.slice Ao19 y108.length co19))) ?hg ?ho ?hn ?hr ?_; (case ho => rfl); (case hg => rfl); (case hn => rfl); (case hr => first | (go_simp; done) | (go_simp; rfl)); intro w21 hw; have _ : Aside0 (Kd.S k53 53 w21 w.heap.size (fun k_ => some k_ ≠ (.slice Ao19 y108.length co19 : Value).ownBlock ∧ k_ ≠ gb104) u3 x3_1) := ⟨(by rw [hw]; exact (by (with_reducible repeat (first | apply Kd.S_alloc | apply Kd.S_drewN | apply Kd.S_drew)); exact Kd.S_mono (Kd.S_far (p := ⟨gb104, 1, none⟩) (Kd.S_mono HO_3.out (fun k_ hk => (⟨hk, hk.1⟩ : _ ∧ k_ ≠ gb104))) (fun _ hk => hk.2) (.slice Ao19 y108.length co19)) (fun _ hk => ⟨hk.1.2, hk.1.1⟩)))⟩; have _ : Aside0 (Kd.R (Kd.int .u8) 5 w21 w.heap.size (fun _ => True) (.slice Ao19 y108.length co19) y108) := ⟨(by rw [hw]; exact (by (with_reducible repeat (first | apply Kd.R_alloc | apply Kd.R_drewN | apply Kd.R_drew)); exact Kd.R_mono (Kd.R_far (p := ⟨gb104, 1, none⟩) (Kd.R_types HO110.out BK104.out (by decide)) (fun _ hk => hk.2) (.slice Ao19 y108.length co19)) (fun _ hk => trivial)))⟩; have _ : Aside0 (w21.heap[gb101]? = some (.cells #[.int .i64 a0_0, .slice (some ad103) l0_1.length c0_1] 29 (0, 0))) := ⟨(by rw [hw]; exact bkZ)⟩; have _ : Aside0 (w21.heap[gb102]? = some (.cells #[.int .i64 0, .slice none 0 0] 29 (0, 0))) := ⟨(by rw [hw]; exact bkZ)⟩; have _ : Aside0 (w21.heap[gb104]? = some (.cells #[.string ((rd_T53 l0_1 x9_1).f0), .slice Ao19 y108.length co19, .int .i64 ((rd_T53 l0_1 x9_1).f2)] 53 (0, 0))) := ⟨(by rw [hw]; exact bkZ)⟩; have _ : Aside0 (Below w.heap.size w w21) := ⟨(by rw [hw]; exact hbZ)⟩; clear hw HO_3 HO110 BK101 BK102 BK104 HB; rename_i HO_3 HO110 BK101 BK102 BK104 HB; have hz22 := cellsZ3 BK104.out) | ((with_reducible refine gate_builtin (b := .append) (xs := #[.tmp 18, .tmp 20]) rfl ?_); at_builtin; refine Kd.S_append k53 (w0 := w) w.heap.size rfl (.tmp 18) (.tmp 20) 27 53 (.agg #[(.string ⟨#[]⟩), (.slice none 0 0), (.int .i64 0)]) 48 rfl Tryd.underlying27 info53 rfl (by decide) (by omega) u3 x3_1 (⟨(rd_T53 l0_1 x9_1).f0, y108, (rd_T53 l0_1 x9_1).f2⟩ : S53) [.string ((rd_T53 l0_1 x9_1).f0), .slice Ao19 y108.length co19, .int .i64 ((rd_T53 l0_1 x9_1).f2)] (fun k_ => k_ ≠ gb104) (fun k_ => some k_ = (.slice Ao19 y108.length co19 : Value).ownBlock) rfl rfl ?aP (fun k_ hk_ => ((Kd.R_mono (ok' := fun k_ => ((fun k_ => k_ ≠ gb104)) k_ ∧ some k_ ≠ (u3 : Value).ownBlock) (Kd.R_types (Kd.R_apart' (HO110.out) (Kd.S_typed HO_3.out) (by decide)) BK104.out (by decide)) (fun k_ hk => ⟨hk.2, hk.1.2⟩))).1 k_ hk_.symm) ?aF ?aO ?aB ?aS ?aL ?_; (case aP => exact k53_mkM _ _ _ (⟨(rd_T53 l0_1 x9_1).f0, y108, (rd_T53 l0_1 x9_1).f2⟩ : S53) (Kd.R_mono (Kd.R_tight rfl (Kd.R_mono (ok' := fun k_ => ((fun k_ => k_ ≠ gb104)) k_ ∧ some k_ ≠ (u3 : Value).ownBlock) (Kd.R_types (Kd.R_apart' (HO110.out) (Kd.S_typed HO_3.out) (by decide)) BK104.out (by decide)) (fun k_ hk => ⟨hk.2, hk.1.2⟩))) (fun _ h_ => h_))); (case aB => exact hbZ); (case aF => exact (fun k_ hk => Kd.freshB (g := gb104) bkZ k_ hk)); (case aO => exact (by (with_reducible repeat (first | apply Kd.S_alloc | apply Kd.S_drewN | apply Kd.S_drew)); exact Kd.S_mono HO_3.out (fun k_ hk => ⟨hk.2, fun e_ => hk.1 e_⟩))); (case aS => exact (below_size hbZ)); (case aL => have := LMc10.out; omega); intro v112 w23 ho hb hg hat; rw [← Ny111.out] at ho; have _ := aM (blk_grown (g := gb101) bkZ hg (Kd.S_ne HO_3.out BK101.out (by decide))); have _ := aM (blk_grown (g := gb102) bkZ hg (Kd.S_ne HO_3.out BK102.out (by decide))); have _ := aM (blk_grown (g := gb104) bkZ hg (Kd.S_away HO_3.out (fun _ hk => hk.2))); have _ := aM hb; have _ := aM ho; clear BK101 BK102 BK104 HB HO_3 HO110; rename_i BK101 BK102 BK104 HB HO113; clear ho hb hg hat))
     go_roundg k1
     case measure => have := HK1.out; omega
     case rel => exact ⟨(y111), (wrap64 (x9_1 + 1)), z4458, H', ⟨zfb39⟩, ⟨by (with_reducible repeat (first | apply Kd.S_alloc | apply Kd.S_drewN | apply Kd.S_drew)); exact Kd.S_mono HO113.out (fun _ hk => trivial)⟩, ⟨bkZ⟩, ⟨bkZ⟩, ⟨zcb41⟩⟩
   · rw [if_neg c6] at H
     have c6b0 := nL c6
     clear c6
     simp only [Option.some.injEq, Prod.mk.injEq] at H
     obtain ⟨rfl, rfl⟩ := H
     obtain ⟨Ao24, co24, eo24⟩ := Kd.S_slice HO_3.out
     subst eo24
     have hnb25 := NB101_102.out
     have hnc25 := NB102_101.out
     have hz26 := cellsZ2 BK101.out
     have hz27 := cellsZ2 BK102.out
     go_wp2
     refine bodyPost_ret (results_cell_row rfl _ _ gb102 29 #[.int .i64 a0_0, .slice Ao24 x3_1.length co24] (0, 0) _ rfl bkZ Tryd.underlying29 rfl (by kernel_rfl)) rfl ?_
     exact ⟨_, z674d, by (with_reducible repeat (first | apply Kd.S_alloc | apply Kd.S_drewN | apply Kd.S_drew)); exact Kd.S_mono (Kd.S_far (p := ⟨gb102, 1, none⟩) (Kd.S_far (p := ⟨gb102, 0, none⟩) (Kd.S_far (p := ⟨gb101, 1, none⟩) (Kd.S_types (Kd.S_types HO_3.out BK101.out (by decide)) BK102.out (by decide)) (fun _ hk => hk.1.2) (.slice Ao24 x3_1.length co24)) (fun _ hk => hk.2) (.int .i64 a0_0)) (fun _ hk => hk.2) (.slice Ao24 x3_1.length co24)) (fun _ hk => trivial), zcb41⟩

end Go.Proofs.YtmlclmbplbbbhaaDoor.P

section
/- spec.RenameFile, over spec.l2Remove and spec.l2Insert. No conditions of its own. -/
set_option linter.unusedVariables false
set_option linter.unusedSimpArgs false
namespace Go.Proofs.YtmlclmbplbbbhaaDoor.P
open Go Go.RowKit Go.Proofs.YtmlclmbplbbbhaaDoorW.PrintWords Go.Proofs.YtmlclmbplbbbhaaDoorW.PrintLast Go.Proofs.YtmlclmbplbbbhaaDoorW.PrintMore
def spec_RenameFile.f (k : Nat) (q : Int) (l : List S53) (a1 a2 : ByteArray) : Option (Int × List S53 × Int) := (spec_GoodFiles.f k q l).bind fun t => if t = true then ((spec_l2Name.f k a1).bind fun s => if s = true then ((spec_l2Name.f k a2).bind fun s2 => if s2 = true then ((spec_l2Own.f k q l).bind fun c => (spec_l2At.f k c.1 c.2 a1).bind fun i => if i < 0 then some (c.1, c.2, 2) else if i < (c.2.length : Int) ∧ c.2.length ≤ 1000000000 then (spec_l2Remove.f k c.1 (c.2.eraseIdx i.toNat) a2).bind fun d => (spec_l2Insert.f k d.2.2 ⟨a2, (rd_T53 c.2 i).f1, (rd_T53 c.2 i).f2⟩).bind fun r => some (d.2.1, r, 0) else none) else some (0, [], 1)) else some (0, [], 1)) else some (0, [], 1)
set_option maxHeartbeats 8000000 in
set_option maxRecDepth 100000 in
theorem spec_RenameFile.calls (k : Nat) (a0_0 : Int) (A0_1 : Option Addr) (c0_1 : Nat) (l0_1 : List (S53)) (a1 : ByteArray) (a2 : ByteArray) (r1 : Int) (r2 : List (S53)) (r3 : Int) (w : World) (hr0_1 : Kd.C k53 w A0_1 l0_1.length l0_1) (hc0_1 : l0_1.length ≤ c0_1) (h : spec_RenameFile.f k a0_0 l0_1 a1 a2 = some (r1, r2, r3)) :
 Calls Tryd.prog 31 #[.agg #[.int .i64 a0_0, .slice A0_1 l0_1.length c0_1], .string a1, .string a2] w fun e w' => ∃ v1_ : Value, e = .returned (.tuple #[.agg #[.int .i64 r1, v1_], .int .i64 r3]) ∧ Kd.S k53 53 w' w.heap.size (fun _ => True) v1_ r2 ∧ Below w.heap.size w w' := by
  have hu := Tryd.underlying29
  have hu2 := Tryd.underlying53
  have HC := aM hr0_1
  have HL := aM hc0_1
  have HB := aM (Below.refl w.heap.size w)
  clear hr0_1 hc0_1
  obtain ⟨t, e1, h⟩ := Option.bind_eq_some_iff.1 h
  have E1 := aM e1
  clear e1
  cases t with
  | false =>
    simp only [Bool.false_eq_true, if_false, Option.some.injEq, Prod.mk.injEq] at h
    obtain ⟨rfl, rfl, rfl⟩ := h
    go_enter Tryd.func31, Tryd.ntmps31
    go_wp2_with (first | ((with_reducible refine gate_dst (N := 3) rfl ?_); refine bX 3 29 #[.int .i64 a0_0, .slice A0_1 l0_1.length c0_1] ?_; intro bF hg w1 hbox hb; have XF := aM hbox; have HF1 := aM (show w.heap.size ≤ bF from by rw [hg]; exact Nat.le_refl _); replace HB := aM (below_after HB.out hb); clear hg hbox hb; have hzF := cellsZ2 XF.out) | ((with_reducible refine gate_dst (N := 6) rfl ?_); refine bX 6 29 #[.int .i64 0, .slice none 0 0] ?_; intro bR hg w2 hbox hb; have XR := aM hbox; have HR1 := aM (show w.heap.size ≤ bR from by rw [hg]; exact HB.out.size); have HNE := aM (show bR ≠ bF from by rw [hg]; exact Nat.ne_of_gt (box_lt XF.out)); replace XF := aM (blk_below XF.out hb); replace HB := aM (below_after HB.out hb); clear hzF hg hbox hb; have hzF := cellsZ2 XF.out; have hzR := cellsZ2 XR.out) | ((with_reducible refine gate_callee (f := 34) rfl ?_); refine gL 11 Tryd.func34 #[.agg #[.int .i64 a0_0, .slice A0_1 l0_1.length c0_1]] ?_; (with_reducible refine (spec_GoodFiles.calls k a0_0 _ _ l0_1 false _ (Kd.C_below HC.out HB.out) HL.out E1.out).mono ?_); rintro e w3 ⟨rfl, hb⟩; refine ⟨_, rfl, ?_⟩; replace XF := aM (blk_below XF.out hb); replace XR := aM (blk_below XR.out hb); replace HB := aM (below_after HB.out hb); clear hzF hzR hb; have hzF := cellsZ2 XF.out; have hzR := cellsZ2 XR.out))
    refine bodyPost_ret (results_ct rfl _ _ bR 29 #[.int .i64 0, .slice none 0 0] (0, 0) _ rfl bkZ Tryd.underlying29 rfl (by kernel_rfl)) rfl ?_
    exact ⟨_, rfl, Kd.S_nil _ _ _ _ _, below_set (below_set HB.out HR1.out) HR1.out⟩
  | true =>
    simp only [if_true] at h
    obtain ⟨s, e2, h⟩ := Option.bind_eq_some_iff.1 h
    have E2 := aM e2
    clear e2
    cases s with
    | false =>
      simp only [Bool.false_eq_true, if_false, Option.some.injEq, Prod.mk.injEq] at h
      obtain ⟨rfl, rfl, rfl⟩ := h
      go_enter Tryd.func31, Tryd.ntmps31
      go_wp2_with (first | ((with_reducible refine gate_dst (N := 3) rfl ?_); refine bX 3 29 #[.int .i64 a0_0, .slice A0_1 l0_1.length c0_1] ?_; intro bF hg w1 hbox hb; have XF := aM hbox; have HF1 := aM (show w.heap.size ≤ bF from by rw [hg]; exact Nat.le_refl _); replace HB := aM (below_after HB.out hb); clear hg hbox hb; have hzF := cellsZ2 XF.out) | ((with_reducible refine gate_dst (N := 6) rfl ?_); refine bX 6 29 #[.int .i64 0, .slice none 0 0] ?_; intro bR hg w2 hbox hb; have XR := aM hbox; have HR1 := aM (show w.heap.size ≤ bR from by rw [hg]; exact HB.out.size); have HNE := aM (show bR ≠ bF from by rw [hg]; exact Nat.ne_of_gt (box_lt XF.out)); replace XF := aM (blk_below XF.out hb); replace HB := aM (below_after HB.out hb); clear hzF hg hbox hb; have hzF := cellsZ2 XF.out; have hzR := cellsZ2 XR.out) | ((with_reducible refine gate_callee (f := 34) rfl ?_); refine gL 11 Tryd.func34 #[.agg #[.int .i64 a0_0, .slice A0_1 l0_1.length c0_1]] ?_; (with_reducible refine (spec_GoodFiles.calls k a0_0 _ _ l0_1 true _ (Kd.C_below HC.out HB.out) HL.out E1.out).mono ?_); rintro e w3 ⟨rfl, hb⟩; refine ⟨_, rfl, ?_⟩; replace XF := aM (blk_below XF.out hb); replace XR := aM (blk_below XR.out hb); replace HB := aM (below_after HB.out hb); clear hzF hzR hb; have hzF := cellsZ2 XF.out; have hzR := cellsZ2 XR.out) | (go_at_call 35; (with_reducible refine (spec_l2Name.calls k a1 false _ E2.out).mono ?_); rintro e w4 ⟨rfl, hd_⟩; have hb := below_drawn hd_; clear hd_; replace XF := aM (blk_below XF.out hb); replace XR := aM (blk_below XR.out hb); replace HB := aM (below_after HB.out hb); clear hzF hzR hb; have hzF := cellsZ2 XF.out; have hzR := cellsZ2 XR.out))
      refine bodyPost_ret (results_ct rfl _ _ bR 29 #[.int .i64 0, .slice none 0 0] (0, 0) _ rfl bkZ Tryd.underlying29 rfl (by kernel_rfl)) rfl ?_
      exact ⟨_, rfl, Kd.S_nil _ _ _ _ _, below_set (below_set HB.out HR1.out) HR1.out⟩
    | true =>
      simp only [if_true] at h
      obtain ⟨s2, e3, h⟩ := Option.bind_eq_some_iff.1 h
      have E3 := aM e3
      clear e3
      cases s2 with
      | false =>
        simp only [Bool.false_eq_true, if_false, Option.some.injEq, Prod.mk.injEq] at h
        obtain ⟨rfl, rfl, rfl⟩ := h
        go_enter Tryd.func31, Tryd.ntmps31
        go_wp2_with (first | ((with_reducible refine gate_dst (N := 3) rfl ?_); refine bX 3 29 #[.int .i64 a0_0, .slice A0_1 l0_1.length c0_1] ?_; intro bF hg w1 hbox hb; have XF := aM hbox; have HF1 := aM (show w.heap.size ≤ bF from by rw [hg]; exact Nat.le_refl _); replace HB := aM (below_after HB.out hb); clear hg hbox hb; have hzF := cellsZ2 XF.out) | ((with_reducible refine gate_dst (N := 6) rfl ?_); refine bX 6 29 #[.int .i64 0, .slice none 0 0] ?_; intro bR hg w2 hbox hb; have XR := aM hbox; have HR1 := aM (show w.heap.size ≤ bR from by rw [hg]; exact HB.out.size); have HNE := aM (show bR ≠ bF from by rw [hg]; exact Nat.ne_of_gt (box_lt XF.out)); replace XF := aM (blk_below XF.out hb); replace HB := aM (below_after HB.out hb); clear hzF hg hbox hb; have hzF := cellsZ2 XF.out; have hzR := cellsZ2 XR.out) | ((with_reducible refine gate_callee (f := 34) rfl ?_); refine gL 11 Tryd.func34 #[.agg #[.int .i64 a0_0, .slice A0_1 l0_1.length c0_1]] ?_; (with_reducible refine (spec_GoodFiles.calls k a0_0 _ _ l0_1 true _ (Kd.C_below HC.out HB.out) HL.out E1.out).mono ?_); rintro e w3 ⟨rfl, hb⟩; refine ⟨_, rfl, ?_⟩; replace XF := aM (blk_below XF.out hb); replace XR := aM (blk_below XR.out hb); replace HB := aM (below_after HB.out hb); clear hzF hzR hb; have hzF := cellsZ2 XF.out; have hzR := cellsZ2 XR.out) | (go_at_call 35; (with_reducible refine (spec_l2Name.calls k a1 true _ E2.out).mono ?_); rintro e w4 ⟨rfl, hd_⟩; have hb := below_drawn hd_; clear hd_; replace XF := aM (blk_below XF.out hb); replace XR := aM (blk_below XR.out hb); replace HB := aM (below_after HB.out hb); clear hzF hzR hb; have hzF := cellsZ2 XF.out; have hzR := cellsZ2 XR.out) | (go_at_call 35; (with_reducible refine (spec_l2Name.calls k a2 false _ E3.out).mono ?_); rintro e w4 ⟨rfl, hd_⟩; have hb := below_drawn hd_; clear hd_; replace XF := aM (blk_below XF.out hb); replace XR := aM (blk_below XR.out hb); replace HB := aM (below_after HB.out hb); clear hzF hzR hb; have hzF := cellsZ2 XF.out; have hzR := cellsZ2 XR.out))
        refine bodyPost_ret (results_ct rfl _ _ bR 29 #[.int .i64 0, .slice none 0 0] (0, 0) _ rfl bkZ Tryd.underlying29 rfl (by kernel_rfl)) rfl ?_
        exact ⟨_, rfl, Kd.S_nil _ _ _ _ _, below_set (below_set HB.out HR1.out) HR1.out⟩
      | true =>
        simp only [if_true] at h
        obtain ⟨⟨q1, l1⟩, e4, h⟩ := Option.bind_eq_some_iff.1 h
        have E4 := aM e4
        clear e4
        obtain ⟨i, e5, h⟩ := Option.bind_eq_some_iff.1 h
        have E5 := aM e5
        dsimp only at h
        by_cases hi : i < 0
        · rw [if_pos hi] at h
          simp only [Option.some.injEq, Prod.mk.injEq] at h
          obtain ⟨rfl, rfl, rfl⟩ := h
          have hd := dL hi
          clear hi e5
          go_enter Tryd.func31, Tryd.ntmps31
          go_wp2_with (first | ((with_reducible refine gate_dst (N := 3) rfl ?_); refine bX 3 29 #[.int .i64 a0_0, .slice A0_1 l0_1.length c0_1] ?_; intro bF hg w1 hbox hb; have XF := aM hbox; have HF1 := aM (show w.heap.size ≤ bF from by rw [hg]; exact Nat.le_refl _); replace HB := aM (below_after HB.out hb); clear hg hbox hb; have hzF := cellsZ2 XF.out) | ((with_reducible refine gate_dst (N := 6) rfl ?_); refine bX 6 29 #[.int .i64 0, .slice none 0 0] ?_; intro bR hg w2 hbox hb; have XR := aM hbox; have HR1 := aM (show w.heap.size ≤ bR from by rw [hg]; exact HB.out.size); have HNE := aM (show bR ≠ bF from by rw [hg]; exact Nat.ne_of_gt (box_lt XF.out)); replace XF := aM (blk_below XF.out hb); replace HB := aM (below_after HB.out hb); clear hzF hg hbox hb; have hzF := cellsZ2 XF.out; have hzR := cellsZ2 XR.out) | ((with_reducible refine gate_callee (f := 34) rfl ?_); refine gL 11 Tryd.func34 #[.agg #[.int .i64 a0_0, .slice A0_1 l0_1.length c0_1]] ?_; (with_reducible refine (spec_GoodFiles.calls k a0_0 _ _ l0_1 true _ (Kd.C_below HC.out HB.out) HL.out E1.out).mono ?_); rintro e w3 ⟨rfl, hb⟩; refine ⟨_, rfl, ?_⟩; replace XF := aM (blk_below XF.out hb); replace XR := aM (blk_below XR.out hb); replace HB := aM (below_after HB.out hb); clear hzF hzR hb; have hzF := cellsZ2 XF.out; have hzR := cellsZ2 XR.out) | (go_at_call 35; (with_reducible refine (spec_l2Name.calls k a1 true _ E2.out).mono ?_); rintro e w4 ⟨rfl, hd_⟩; have hb := below_drawn hd_; clear hd_; replace XF := aM (blk_below XF.out hb); replace XR := aM (blk_below XR.out hb); replace HB := aM (below_after HB.out hb); clear hzF hzR hb; have hzF := cellsZ2 XF.out; have hzR := cellsZ2 XR.out) | (go_at_call 35; (with_reducible refine (spec_l2Name.calls k a2 true _ E3.out).mono ?_); rintro e w4 ⟨rfl, hd_⟩; have hb := below_drawn hd_; clear hd_; replace XF := aM (blk_below XF.out hb); replace XR := aM (blk_below XR.out hb); replace HB := aM (below_after HB.out hb); clear hzF hzR hb; have hzF := cellsZ2 XF.out; have hzR := cellsZ2 XR.out) | ((with_reducible refine gate_callee (f := 36) rfl ?_); refine gL 25 Tryd.func36 #[.agg #[.int .i64 a0_0, .slice A0_1 l0_1.length c0_1]] ?_; (with_reducible refine (spec_l2Own.calls k a0_0 _ _ l0_1 q1 l1 _ (Kd.C_below HC.out HB.out) HL.out E4.out).mono ?_); rintro e w5 ⟨v1, rfl, hs, hb⟩; refine ⟨_, rfl, ?_⟩; obtain ⟨A1, c1, rfl⟩ := Kd.S_slice hs; have HS := aM (Kd.S_lower hs HB.out.size); replace XF := aM (blk_below XF.out hb); replace XR := aM (blk_below XR.out hb); replace HB := aM (below_after HB.out hb); clear hzF hzR hb hs; have hzF := cellsZ2 XF.out; have hzR := cellsZ2 XR.out) | ((with_reducible refine gate_callee (f := 60) rfl ?_); refine gL 28 Tryd.func60 #[.agg #[.int .i64 q1, .slice A1 l1.length c1], .string a1] ?_; have HS5 := aM (show Kd.S k53 53 ((w5.setCell ⟨bF, 0, none⟩ (.int .i64 q1)).setCell ⟨bF, 1, none⟩ (.slice A1 l1.length c1)) w.heap.size (fun k => (True ∧ k ≠ bF) ∧ k ≠ bR) (.slice A1 l1.length c1) l1 from Kd.S_far (Kd.S_far (Kd.S_types (Kd.S_types HS.out XF.out (by decide)) XR.out (by decide)) (fun k hk => hk.1.2) _) (fun k hk => hk.1.2) _); have XF5 := aM (show ((w5.setCell ⟨bF, 0, none⟩ (.int .i64 q1)).setCell ⟨bF, 1, none⟩ (.slice A1 l1.length c1)).heap[bF]? = some (.cells #[.int .i64 q1, .slice A1 l1.length c1] 29 (0, 0)) from blk_set (blk_set XF.out 0 _) 1 _); have HB5 := aM (below_set (j := 1) (v := .slice A1 l1.length c1) (below_set (j := 0) (v := .int .i64 q1) HB.out HF1.out) HF1.out); have XR5 := aM (show ((w5.setCell ⟨bF, 0, none⟩ (.int .i64 q1)).setCell ⟨bF, 1, none⟩ (.slice A1 l1.length c1)).heap[bR]? = some (.cells #[.int .i64 0, .slice none 0 0] 29 (0, 0)) from (Below.heap_setCell _ ⟨bF, 1, none⟩ _ _ HNE.out).trans ((Below.heap_setCell _ ⟨bF, 0, none⟩ _ _ HNE.out).trans XR.out)); (with_reducible refine (spec_l2At.calls k q1 _ _ l1 a1 i _ (Kd.S_reads' HS5.out).2.2 (Kd.S_reads' HS5.out).2.1 E5.out).mono ?_); rintro e w6 ⟨rfl, hb⟩; refine ⟨_, rfl, ?_⟩; replace XF5 := aM (blk_below XF5.out hb); replace XR5 := aM (blk_below XR5.out hb); replace HB5 := aM (below_after HB5.out hb); replace HS5 := aM (Kd.S_below HS5.out hb); clear hzF hzR hb XF XR HB HS; have hzF := cellsZ2 XF5.out; have hzR := cellsZ2 XR5.out))
          refine bodyPost_ret (results_ct rfl _ _ bR 29 #[.int .i64 q1, .slice A1 l1.length c1] (0, 0) _ rfl (blk_set (blk_set XR5.out 0 _) 1 _) Tryd.underlying29 rfl (by kernel_rfl)) rfl ?_
          exact ⟨_, rfl, Kd.S_mono (Kd.S_far (Kd.S_far HS5.out (fun k hk => hk.2) _) (fun k hk => hk.2) _) (fun _ _ => trivial), below_set (below_set HB5.out HR1.out) HR1.out⟩
        · rw [if_neg hi] at h
          have hj := ifS h
          clear h
          obtain ⟨⟨hi1, hbig⟩, h1⟩ := hj
          obtain ⟨⟨d1, d2, d3⟩, e6, h⟩ := Option.bind_eq_some_iff.1 h1
          obtain ⟨r, e7, h⟩ := Option.bind_eq_some_iff.1 h
          simp only [Option.some.injEq, Prod.mk.injEq] at h
          obtain ⟨rfl, rfl, rfl⟩ := h
          obtain ⟨n, rfl⟩ := Int.eq_ofNat_of_zero_le (Int.not_lt.1 hi)
          have hd := nL hi
          have HN := aM (show n < l1.length by omega)
          have HBG := aM hbig
          rw [Int.toNat_natCast] at e6
          dsimp only at e7
          have E6 := aM e6
          have E7 := aM e7
          clear hi hi1 hbig h1 e5 e6 e7
          go_enter Tryd.func31, Tryd.ntmps31
          go_upto_region 7 with (first | ((with_reducible refine gate_dst (N := 3) rfl ?_); refine bX 3 29 #[.int .i64 a0_0, .slice A0_1 l0_1.length c0_1] ?_; intro bF hg w1 hbox hb; have XF := aM hbox; have HF1 := aM (show w.heap.size ≤ bF from by rw [hg]; exact Nat.le_refl _); replace HB := aM (below_after HB.out hb); clear hg hbox hb; have hzF := cellsZ2 XF.out) | ((with_reducible refine gate_dst (N := 6) rfl ?_); refine bX 6 29 #[.int .i64 0, .slice none 0 0] ?_; intro bR hg w2 hbox hb; have XR := aM hbox; have HR1 := aM (show w.heap.size ≤ bR from by rw [hg]; exact HB.out.size); have HNE := aM (show bR ≠ bF from by rw [hg]; exact Nat.ne_of_gt (box_lt XF.out)); replace XF := aM (blk_below XF.out hb); replace HB := aM (below_after HB.out hb); clear hzF hg hbox hb; have hzF := cellsZ2 XF.out; have hzR := cellsZ2 XR.out) | ((with_reducible refine gate_callee (f := 34) rfl ?_); refine gL 11 Tryd.func34 #[.agg #[.int .i64 a0_0, .slice A0_1 l0_1.length c0_1]] ?_; (with_reducible refine (spec_GoodFiles.calls k a0_0 _ _ l0_1 true _ (Kd.C_below HC.out HB.out) HL.out E1.out).mono ?_); rintro e w3 ⟨rfl, hb⟩; refine ⟨_, rfl, ?_⟩; replace XF := aM (blk_below XF.out hb); replace XR := aM (blk_below XR.out hb); replace HB := aM (below_after HB.out hb); clear hzF hzR hb; have hzF := cellsZ2 XF.out; have hzR := cellsZ2 XR.out) | (go_at_call 35; (with_reducible refine (spec_l2Name.calls k a1 true _ E2.out).mono ?_); rintro e w4 ⟨rfl, hd_⟩; have hb := below_drawn hd_; clear hd_; replace XF := aM (blk_below XF.out hb); replace XR := aM (blk_below XR.out hb); replace HB := aM (below_after HB.out hb); clear hzF hzR hb; have hzF := cellsZ2 XF.out; have hzR := cellsZ2 XR.out) | (go_at_call 35; (with_reducible refine (spec_l2Name.calls k a2 true _ E3.out).mono ?_); rintro e w4 ⟨rfl, hd_⟩; have hb := below_drawn hd_; clear hd_; replace XF := aM (blk_below XF.out hb); replace XR := aM (blk_below XR.out hb); replace HB := aM (below_after HB.out hb); clear hzF hzR hb; have hzF := cellsZ2 XF.out; have hzR := cellsZ2 XR.out) | ((with_reducible refine gate_callee (f := 36) rfl ?_); refine gL 25 Tryd.func36 #[.agg #[.int .i64 a0_0, .slice A0_1 l0_1.length c0_1]] ?_; (with_reducible refine (spec_l2Own.calls k a0_0 _ _ l0_1 q1 l1 _ (Kd.C_below HC.out HB.out) HL.out E4.out).mono ?_); rintro e w5 ⟨v1, rfl, hs, hb⟩; refine ⟨_, rfl, ?_⟩; obtain ⟨A1, c1, rfl⟩ := Kd.S_slice hs; have HS := aM (Kd.S_lower hs HB.out.size); replace XF := aM (blk_below XF.out hb); replace XR := aM (blk_below XR.out hb); replace HB := aM (below_after HB.out hb); clear hzF hzR hb hs; have hzF := cellsZ2 XF.out; have hzR := cellsZ2 XR.out) | ((with_reducible refine gate_callee (f := 60) rfl ?_); refine gL 28 Tryd.func60 #[.agg #[.int .i64 q1, .slice A1 l1.length c1], .string a1] ?_; have HS5 := aM (show Kd.S k53 53 ((w5.setCell ⟨bF, 0, none⟩ (.int .i64 q1)).setCell ⟨bF, 1, none⟩ (.slice A1 l1.length c1)) w.heap.size (fun k => (True ∧ k ≠ bF) ∧ k ≠ bR) (.slice A1 l1.length c1) l1 from Kd.S_far (Kd.S_far (Kd.S_types (Kd.S_types HS.out XF.out (by decide)) XR.out (by decide)) (fun k hk => hk.1.2) _) (fun k hk => hk.1.2) _); have XF5 := aM (show ((w5.setCell ⟨bF, 0, none⟩ (.int .i64 q1)).setCell ⟨bF, 1, none⟩ (.slice A1 l1.length c1)).heap[bF]? = some (.cells #[.int .i64 q1, .slice A1 l1.length c1] 29 (0, 0)) from blk_set (blk_set XF.out 0 _) 1 _); have HB5 := aM (below_set (j := 1) (v := .slice A1 l1.length c1) (below_set (j := 0) (v := .int .i64 q1) HB.out HF1.out) HF1.out); have XR5 := aM (show ((w5.setCell ⟨bF, 0, none⟩ (.int .i64 q1)).setCell ⟨bF, 1, none⟩ (.slice A1 l1.length c1)).heap[bR]? = some (.cells #[.int .i64 0, .slice none 0 0] 29 (0, 0)) from (Below.heap_setCell _ ⟨bF, 1, none⟩ _ _ HNE.out).trans ((Below.heap_setCell _ ⟨bF, 0, none⟩ _ _ HNE.out).trans XR.out)); (with_reducible refine (spec_l2At.calls k q1 _ _ l1 a1 n _ (Kd.S_reads' HS5.out).2.2 (Kd.S_reads' HS5.out).2.1 E5.out).mono ?_); rintro e w6 ⟨rfl, hb⟩; refine ⟨_, rfl, ?_⟩; replace XF5 := aM (blk_below XF5.out hb); replace XR5 := aM (blk_below XR5.out hb); replace HB5 := aM (below_after HB5.out hb); replace HS5 := aM (Kd.S_below HS5.out hb); clear hzF hzR hb XF XR HB HS; have hzF := cellsZ2 XF5.out; have hzR := cellsZ2 XR5.out))
          rcases S_shape HS5.out with ⟨_, hl0, _, _⟩ | ⟨g, rfl⟩
          · have := HN.out; omega
          obtain ⟨f, hR⟩ := Kd.S_mono (Kd.S_bound HS5.out) (ok' := fun k => ((True ∧ k ≠ bF) ∧ k ≠ bR) ∧ k < w6.heap.size) (fun k hk => ⟨hk.1, hk.2.2.1⟩)
          obtain ⟨Ax, cx, hM, hc0, hc1, hc2⟩ := elem_tag hR HN.out
          have HR := aM hR
          have HM := aM hM
          clear hR hM HS5
          have hn := HN.out
          have hn0 : (0 : Int) ≤ (n : Int) := Int.natCast_nonneg n
          have hnl : (n : Int) < (l1.length : Int) := by omega
          go_upto_region 8 with (first | ((with_reducible refine gate_dst (N := 9) rfl ?_); refine bX 9 53 #[.string (⟨#[]⟩ : ByteArray), .slice none 0 0, .int .i64 0] ?_; intro bx hg wx hbox hb; have XX := aM hbox; have BX := aM hb; have GX := aM (show w6.heap.size = bx from hg.symm); clear hg hb hbox hzF hzR; have hc0' := (BX.out.cell (World.block_lt_of_cell? _ _ hc0)).trans hc0; have hc1' := (BX.out.cell (World.block_lt_of_cell? _ _ hc1)).trans hc1; have hc2' := (BX.out.cell (World.block_lt_of_cell? _ _ hc2)).trans hc2; have hzx := cellsZ3 XX.out))
          have BR := aM (below_set (j := 2) (v := .int .i64 (rd_T53 l1 (n : Int)).f2) (below_set (j := 1) (v := .slice Ax (rd_T53 l1 (n : Int)).f1.length cx) (below_set (j := 0) (v := .string (rd_T53 l1 (n : Int)).f0) BX.out (Nat.le_of_eq GX.out)) (Nat.le_of_eq GX.out)) (Nat.le_of_eq GX.out))
          have Y8 := aM (show (((wx.setCell ⟨bx, 0, none⟩ (.string (rd_T53 l1 (n : Int)).f0)).setCell ⟨bx, 1, none⟩ (.slice Ax (rd_T53 l1 (n : Int)).f1.length cx)).setCell ⟨bx, 2, none⟩ (.int .i64 (rd_T53 l1 (n : Int)).f2)).heap[bx]? = some (.cells #[.string (rd_T53 l1 (n : Int)).f0, .slice Ax (rd_T53 l1 (n : Int)).f1.length cx, .int .i64 (rd_T53 l1 (n : Int)).f2] 53 (0, 0)) from blk_set (blk_set (blk_set XX.out 0 _) 1 _) 2 _)
          clear hc0 hc1 hc2 hc0' hc1' hc2' hzx XX BX
          generalize ((wx.setCell ⟨bx, 0, none⟩ (.string (rd_T53 l1 (n : Int)).f0)).setCell ⟨bx, 1, none⟩ (.slice Ax (rd_T53 l1 (n : Int)).f1.length cx)).setCell ⟨bx, 2, none⟩ (.int .i64 (rd_T53 l1 (n : Int)).f2) = w8 at Y8 BR ⊢
          have X8 := aM (blk_below XF5.out BR.out)
          have XR8 := aM (blk_below XR5.out BR.out)
          have B8 := aM (below_after HB5.out BR.out)
          have R8 := aM (Kd.R_below HR.out BR.out)
          have M8 := aM (Kd.M_below HM.out BR.out)
          have HXR := aM (show bR < w6.heap.size from box_lt XR5.out)
          have HXF := aM (show bF < w6.heap.size from box_lt XF5.out)
          have H68 := aM (show w6.heap.size ≤ w8.heap.size from BR.out.size)
          have HLX := aM (show w6.heap.size < w8.heap.size by have h1 := box_lt Y8.out; have h2 := GX.out; omega)
          have HWX := aM (show w.heap.size ≤ w6.heap.size from HB5.out.size)
          clear XF5 XR5 HB5 HR HM BR
          have hzF := cellsZ2 X8.out
          go_upto_region 9 with (first | (go_at_call 45; (refine (spec_l2Remove.keeps k bF n g c1 q1 l1 a1 E5.out HN.out HBG.out w _ B8.out _ f X8.out R8.out (fun hk => hk.1.1.2 rfl) HF1.out).mono ?_); rintro e w9 ⟨he, ⟨P9, hf9, hp9⟩, hb9, hk9⟩; subst he; have F9 := aM hf9; have HP9 := aM hp9; have B9 := aM hb9; have K9 := aM hk9; clear hf9 hp9 hb9 hk9 hzF))
          have hbx : bx ≠ bF := by have h1 := GX.out; have h2 := HXF.out; omega
          have Y9 := aM (blk_kept Y8.out K9.out hbx)
          have XR9 := aM (blk_kept XR8.out K9.out HNE.out)
          have M9 := aM (Kd.M_step M8.out (fun k hk hlt => K9.out.2 k hlt hk.1.1.1.1.2))
          have H89 := aM K9.out.1
          clear Y8 XR8 M8 X8 R8 B8 K9
          go_upto_region 10 with (first | (go_at_call 45; (refine (spec_l2Remove.within k bF q1 (l1.eraseIdx n) a2 d1 d2 d3 w _ B9.out _ F9.out E6.out).mono ?_); rintro e w10 ⟨he, ⟨P10, hf10, hp10⟩, hb10, hk10⟩; subst he; have F10 := aM hf10; have HP10 := aM hp10; have B10 := aM hb10; have K10 := aM hk10; clear hf10 hp10 hb10 hk10))
          have Y10 := aM (blk_kept Y9.out K10.out hbx)
          have XR10 := aM (blk_kept XR9.out K10.out HNE.out)
          have M10 := aM (Kd.M_step M9.out (fun k hk hlt => K10.out.2 k hlt hk.1.1.1.1.2))
          have HPP := aM (show ∀ k, k ≤ w6.heap.size → P10 k → (((True ∧ k ≠ bF) ∧ k ≠ bR) ∧ k < w6.heap.size) ∧ ¬ (((((True ∧ k ≠ bF) ∧ k ≠ bR) ∧ k < w6.heap.size) ∧ k ≠ g) ∧ f k = n) from fun k hlt hk => by
            have h8 := H68.out; have h9 := H89.out; have hxl := box_lt Y9.out; have hg8 := GX.out
            rcases HP10.out k hk with h1 | h1
            · rcases HP9.out k h1 with h2 | h2
              · exact h2
              · exfalso; have h7 := HLX.out; omega
            · exfalso; omega)
          clear Y9 XR9 M9 F9 B9 K10
          have hzx := cellsZ3 Y10.out
          go_upto_region 11 with fail
          have Y11 := aM (show (w10.setCell ⟨bx, 0, none⟩ (.string a2)).heap[bx]? = some (.cells #[.string a2, .slice Ax (rd_T53 l1 (n : Int)).f1.length cx, .int .i64 (rd_T53 l1 (n : Int)).f2] 53 (0, 0)) from blk_set Y10.out 0 _)
          have XR11 := aM ((Below.heap_setCell w10 ⟨bx, 0, none⟩ (.string a2) bR (by have h1 := GX.out; have h2 := HXR.out; show bR ≠ bx; omega)).trans XR10.out)
          have F11 := aM (show FilesAt (w10.setCell ⟨bx, 0, none⟩ (.string a2)) w.heap.size P10 bF d2 d3 from by
            obtain ⟨v, h1, h2, h3, h4⟩ := F10.out
            exact ⟨v, (Below.heap_setCell w10 ⟨bx, 0, none⟩ (.string a2) bF (Ne.symm hbx)).trans h1, Kd.S_far h2 (fun k hk he => by have h5 : k = bx := he; have h6 := GX.out; have h7 := (HPP.out k (by omega) hk).1.2; omega) _, h3, h4⟩)
          have M11 := aM (Kd.M_far (p := ⟨bx, 0, none⟩) M10.out (fun k hk he => by have h5 : k = bx := he; have h6 := GX.out; have h7 := hk.1.1.2; omega) (.string a2))
          have B11 := aM (below_set (j := 0) (v := .string a2) B10.out (show w.heap.size ≤ bx by have h1 := GX.out; have h2 := HWX.out; omega))
          generalize w10.setCell ⟨bx, 0, none⟩ (.string a2) = w11 at Y11 XR11 F11 M11 B11 ⊢
          clear hzx Y10 XR10 F10 M10 B10
          have M12 := aM (show k53.M w11 w.heap.size (fun k => ((((True ∧ k ≠ bF) ∧ k ≠ bR) ∧ k < w6.heap.size) ∧ k ≠ g) ∧ f k = n) (⟨a2, (rd_T53 l1 (n : Int)).f1, (rd_T53 l1 (n : Int)).f2⟩ : S53) [.string a2, .slice Ax (rd_T53 l1 (n : Int)).f1.length cx, .int .i64 (rd_T53 l1 (n : Int)).f2] from by
            obtain ⟨v1, he, hR⟩ := k53_openM M11.out
            have he2 := (List.cons.inj (List.cons.inj he).2).1
            exact k53_mkM _ _ _ (⟨a2, (rd_T53 l1 (n : Int)).f1, (rd_T53 l1 (n : Int)).f2⟩ : S53) (he2 ▸ hR))
          have hzx := cellsZ3 Y11.out
          go_upto_region 12 with (first | (go_at_call 61; (refine (spec_l2Insert.does k bF d2 d3 ⟨a2, (rd_T53 l1 (n : Int)).f1, (rd_T53 l1 (n : Int)).f2⟩ Ax (rd_T53 l1 (n : Int)).f1.length cx _ r w _ B11.out P10 F11.out M12.out (fun k hk => ⟨fun hk2 => (HPP.out k (Nat.le_of_lt hk.1.1.2) hk2).2 hk, hk.1.1.1.1.2⟩) E7.out).mono ?_); rintro e w12 ⟨he, ⟨P12, hf12⟩, hb12, hk12⟩; subst he; have F12 := aM hf12; have B12 := aM hb12; have K12 := aM hk12; clear hf12 hb12 hk12 hzx))
          have XR12 := aM (blk_kept XR11.out K12.out (fun hk => by rcases hk with hk | hk; exact HNE.out hk; exact (HPP.out bR (Nat.le_of_lt HXR.out) hk).1.1.2 rfl))
          obtain ⟨v12, hx12, hs12, _, _⟩ := F12.out
          obtain ⟨A12, n12, c12, rfl⟩ := S_form3 hs12
          have X12 := aM hx12
          have S12 := aM hs12
          clear hx12 hs12 F11 F12 M11 M12 Y11
          have hzF := cellsZ2 X12.out
          have hzR := cellsZ2 XR12.out
          go_wp2
          refine bodyPost_ret (results_ct rfl _ _ bR 29 #[.int .i64 d2, .slice A12 n12 c12] (0, 0) _ rfl (blk_set (blk_set XR12.out 0 _) 1 _) Tryd.underlying29 rfl (by kernel_rfl)) rfl ?_
          exact ⟨_, rfl, Kd.S_mono (Kd.S_far (Kd.S_far (Kd.S_types S12.out XR12.out (by decide)) (fun k hk => hk.2) _) (fun k hk => hk.2) _) (fun _ _ => trivial), below_set (below_set B12.out HR1.out) HR1.out⟩
end Go.Proofs.YtmlclmbplbbbhaaDoor.P
end

/- An element of a row is written field by field: what stands meanwhile. No conditions. -/
namespace Go.Proofs.YtmlclmbplbbbhaaDoor.P
open Go.RowKit Go.Proofs.YtmlclmbplbbbhaaDoorW.PrintWords Go.Proofs.YtmlclmbplbbbhaaDoorW.PrintLast Go.Proofs.YtmlclmbplbbbhaaDoorW.PrintMore
section
variable {α β : Type} {d : Kd α} {d' : Kd β} {e e' g n cap : Nat} {w0 w W W' : World} {P S oki : Nat → Prop} {xs : List α} {i : Int} {c : List Value}
/-- Element i of the row at block g is out: its cells are c, its rows' blocks are oki. -/
structure Hole (d : Kd α) (e : Nat) (w0 w W : World) (P : Nat → Prop) (g n cap : Nat) (xs : List α) (i : Int) (oki : Nat → Prop) (c : List Value) : Prop where
  i0 : 0 ≤ i
  i1 : i < n
  hb : Below w0.heap.size w0 W
  hk : Kept w W P
  hp : P g
  hg : w0.heap.size ≤ g
  ho : ∀ k, oki k → P k ∧ k ≠ g
  hh : Kd.H d e W w0.heap.size P (.slice (some ⟨g, 0, none⟩) n cap) xs i oki c
theorem Hole.mk0 (hS : Kd.S d e W w0.heap.size P (.slice (some ⟨g, 0, none⟩) n cap) xs) (hb : Below w0.heap.size w0 W) (hk : Kept w W P) (z : α) (h0 : 0 ≤ i) (h1 : i < n) :
    ∃ (oki : Nat → Prop) (c : List Value), Hole d e w0 w W P g n cap xs i oki c ∧ d.M W w0.heap.size oki (xs.getD i.toNat z) c := by
  obtain ⟨oki, c, hcl, hM, hcc, hfr, hoki, hH⟩ := Kd.S_elem hS z i h0 h1
  exact ⟨oki, c, ⟨h0, h1, hb, hk, (Kd.S_R hS).1 _ rfl, Kd.S_base hS _ rfl, hoki, hH⟩, hM⟩
theorem Hole.below (h : Hole d e w0 w W P g n cap xs i oki c) (hb : Below W.heap.size W W') : Hole d e w0 w W' P g n cap xs i oki c :=
  ⟨h.i0, h.i1, h.hb.trans ⟨hb.os, hb.tape, hb.output, hb.size, fun k hk => hb.block k (Nat.lt_of_lt_of_le hk h.hb.size)⟩, h.hk.below hb, h.hp, h.hg, h.ho, Kd.H_below h.hh hb⟩
theorem Hole.cell (h : Hole d e w0 w W P g n cap xs i oki c) {o : Nat} (j : Nat) (u : Value) (ho : o = i.toNat * d.sz + j) (hu : c[j]? = some u) : W.cell? ⟨g, o, none⟩ = some u := by
  rw [ho]
  exact (Kd.H_at h.hh h.i0 h.i1).1 j u hu
theorem Hole.free (h : Hole d e w0 w W P g n cap xs i oki c) {o : Nat} (j : Nat) (ho : o = i.toNat * d.sz + j) : W.frozen? ⟨g, o, none⟩ = false := by
  rw [ho]
  exact (Kd.H_at h.hh h.i0 h.i1).2 j
theorem Hole.clen (h : Hole d e w0 w W P g n cap xs i oki c) : c.length = d.sz := (Kd.H_raw h.hh h.i0 h.i1).choose_spec.2.2.1
theorem Hole.put (h : Hole d e w0 w W P g n cap xs i oki c) {o : Nat} (j : Nat) (u : Value) (ho : o = i.toNat * d.sz + j) (hj : j < d.sz) (hone : u.oneCell' = true) : Hole d e w0 w (W.setCell ⟨g, o, none⟩ u) P g n cap xs i oki (c.set j u) := by
  have hc := h.clen
  obtain ⟨h1, _⟩ := Kd.H_seg h.hh h.i0 h.i1 (seg := [u]) (j := j) (by show j + 1 ≤ d.sz; omega) (fun q hq => by rw [List.mem_singleton.1 hq]; exact hone)
  rw [← ho] at h1
  have e1 : c.take j ++ [u] ++ c.drop (j + 1) = c.set j u := by
    rw [List.set_eq_take_append_cons_drop, if_pos (by omega), List.append_assoc]
    rfl
  rw [show j + [u].length = j + 1 from rfl, e1] at h1
  exact ⟨h.i0, h.i1, below_set h.hb h.hg, h.hk.setCell (.inl h.hp) u, h.hp, h.hg, h.ho, h1⟩
theorem Hole.kept (h : Hole d e w0 w W P g n cap xs i oki c) (hk : Kept W W' S) (hb : Below w0.heap.size w0 W') (hS : ∀ k, S k → oki k) : Hole d e w0 w W' P g n cap xs i oki c :=
  ⟨h.i0, h.i1, hb, h.hk.then_ hk (fun k hs => .inl (h.ho k (hS k hs)).1), h.hp, h.hg, h.ho, Kd.H_kept h.hh hk (fun _ _ hn hs => hn (hS _ hs))⟩
theorem Hole.back (h : Hole d e w0 w W P g n cap xs i oki c) {x' : α} (hM : d.M W w0.heap.size oki x' c) : Kd.S d e W w0.heap.size P (.slice (some ⟨g, 0, none⟩) n cap) (xs.set i.toNat x') ∧ Kept w W P ∧ Below w0.heap.size w0 W :=
  ⟨Kd.H_back h.hh hM (fun _ hk => hk), h.hk, h.hb⟩
/-- The element's row v, the element being out. -/
theorem Hole.in_put (h : Hole d e w0 w W P g n cap xs i oki c) {v : Value} {l : List β} (hv : Kd.R d' e' W w0.heap.size oki v l) {o : Nat} (u : Value) : Kd.R d' e' (W.setCell ⟨g, o, none⟩ u) w0.heap.size oki v l :=
  Kd.R_far hv (fun k hk => (h.ho k hk).2) u
end
end Go.Proofs.YtmlclmbplbbbhaaDoor.P

-- written by a program of this session's (wip/pp)
namespace Go.Proofs.YtmlclmbplbbbhaaDoor.P
open Go.RowKit Go.Proofs.YtmlclmbplbbbhaaDoorW.PrintWords Go.Proofs.YtmlclmbplbbbhaaDoorW.PrintLast Go.Proofs.YtmlclmbplbbbhaaDoorW.PrintMore
attribute [local go_sem] max2_int min2_int max_two min_two max_three min_three max_four min_four str_geq str_gtr str_leq   -- for this text's walks alone
set_option linter.unusedVariables false
set_option linter.unusedSimpArgs false

/-! ### laws_markByteS: function 17 -/
def laws_markByteS.l0 : Nat → List Int → Int → Int → Option (Int × List Int)
 | 0, _, _, _ => none
 | k + 1, x0, x1, x5 => if x5 < (x0.length : Int) then (if 0 ≤ x5 then (laws_markByteS.l0 k (x0.set (x5 : Int).toNat ((x1) % 256)) (wrap64 (x1 + 1)) (wrap64 (x5 + 1))) else (none)) else (some (x1, x0))
def laws_markByteS.f (k : Nat) (l0 : List Int) (a1 : Int) : Option (Int × List Int) := laws_markByteS.l0 k l0 a1 0
theorem laws_markByteS.mono_l : ∀ k, (∀ y0 y1 y2, LeO (laws_markByteS.l0 k y0 y1 y2) (laws_markByteS.l0 (k + 1) y0 y1 y2))
 | 0 => fun _ _ _ r h => by simp [laws_markByteS.l0] at h
 | k + 1 => by
  have ih0 := laws_markByteS.mono_l k
  · intro y0 y1 y2
    unfold laws_markByteS.l0
    exact moZ
theorem laws_markByteS.mono : ∀ a0 a1 k, LeO (laws_markByteS.f k a0 a1) (laws_markByteS.f (k + 1) a0 a1) := by
 intro a0 a1 k
 have ih0 := laws_markByteS.mono_l k
 unfold laws_markByteS.f
 exact moZ
set_option maxHeartbeats 8000000 in
set_option maxRecDepth 100000 in
theorem laws_markByteS.calls (k : Nat) (P0_ : Nat → Prop) (u9000_ : Value) (l0 : List Int) (a1 : Int) (r1 : Int) (r2 : List Int) (w0 w : World) (hB : Below w0.heap.size w0 w) (ho0 : Kd.R (Kd.int .u8) 5 w w0.heap.size P0_ u9000_ l0) (h : laws_markByteS.f k l0 a1 = some (r1, r2)) :
 Calls Tryd.prog 17 #[u9000_, .int .i64 a1] w fun e w' => e = .returned (.int .i64 r1) ∧ Kd.R (Kd.int .u8) 5 w' w0.heap.size (fun k_ => (P0_ k_ ∨ w.heap.size ≤ k_)) u9000_ r2 ∧ Below w0.heap.size w0 w' ∧ Kept w w' (fun k_ => P0_ k_) := by
 have HO0 := aM (show Kd.R (Kd.int .u8) 5 w w0.heap.size (fun k_ => (P0_ k_ ∨ w.heap.size ≤ k_)) u9000_ l0 from Kd.R_mono ho0 (fun k_ hk => (.inl hk)))
 have HK := aM (Kept.refl w (fun k_ => P0_ k_))
 have HW0 := aM hB.size
 have HB := aM hB
 clear hB
 have H : (laws_markByteS.l0 k l0 a1 0) = some (r1, r2) := h
 clear h
 have H' := aM H
 clear H
 go_enter Tryd.func17, Tryd.ntmps17
 go_wp2
 go_loopg [1, 5] k (fun kq v1 v5 w' => ∃ (x0_1 : List Int) (x1_1 : Int) (x5_1 : Int), v1 = .int .i64 x1_1 ∧ v5 = .int .i64 x5_1 ∧ Aside0 (laws_markByteS.l0 kq x0_1 x1_1 x5_1 = some (r1, r2)) ∧ Aside0 (kq ≤ k) ∧ Aside0 (Kd.R (Kd.int .u8) 5 w' w0.heap.size (fun k_ => (P0_ k_ ∨ w.heap.size ≤ k_)) u9000_ x0_1) ∧ Aside0 (Kept w w' (fun k_ => P0_ k_)) ∧ Aside0 (Below w0.heap.size w0 w'))
 case atStart => exact ⟨(l0), (a1), (0), z4458, z4458, H', ⟨Nat.le_refl _⟩, ⟨rZ HO0.out⟩, ⟨z7d56⟩, ⟨z5acd⟩⟩
 case round =>
  clear H'
  obtain ⟨x0_1, x1_1, x5_1, rfl, rfl, HA, HK1, HO_0, HK, HB⟩ := hrel
  cases gk with
  | zero => exact absurd HA.out (by simp [laws_markByteS.l0])
  | succ k1 =>
   have H := HA.out
   clear HA
   simp only [laws_markByteS.l0] at H
   by_cases c3 : x5_1 < (x0_1.length : Int)
   · rw [if_pos c3] at H
     have c3b0 := dL c3
     clear c3
     obtain ⟨c4b0, H⟩ := sE H
     obtain ⟨y101, hy101⟩ : ∃ y_ : List Int, y_ = (x0_1.set (x5_1 : Int).toNat ((x1_1) % 256)) := ⟨_, rfl⟩
     first | (replace H := bindS H; rw [← hy101] at H; try dsimp only at H) | rw [← hy101] at H
     have Ny101 := aM hy101
     clear hy101
     have H' := aM H
     clear H
     obtain ⟨Ao6, co6, eo6⟩ := Kd.R_slice HO_0.out
     subst eo6
     have p5 : 0 ≤ (x5_1 : Int) := of_decide_eq_true z1200
     have q5 : (x5_1 : Int) < ((x0_1.length : Int) : Int) := of_decide_eq_true z1200
     obtain ⟨go5, co5, eo5, gb5, gl5, cl5, HG5⟩ := Kd.R_form HO_0.out (by omega)
     (first | cases eo5 | (injection eo5 with ea_ en_ ec_; (first | subst ea_ | (injection ea_ with ea_; subst ea_)); subst ec_; clear en_))
     have GB5 := aM gb5
     have GG5 := aM HG5
     clear gb5 gl5 HG5
     have HMgo5 := aM (show (P0_ go5 ∨ w.heap.size ≤ go5) from (HO_0.out.1 _ rfl))
     obtain ⟨hx5_0, hf5_0⟩ := Kd.R_celln 0 HO_0.out (x5_1 : Int) p5 q5
     replace p5 := eq_true p5
     replace q5 := eq_true q5
     have HP7 := Kd.R_putg HO_0.out (x5_1 : Int) ((x1_1) % 256)
     go_wp2_with (first | ((with_reducible refine gate_store (t := 5) (p := 16) rfl ?_); refine store_event (t := 5) (p := 16) (v := ?vo_w8) (w1 := (wr.setCell ⟨go5, (x5_1 : Int).toNat, none⟩ (.int .u8 ((x1_1) % 256)))) ?hg ?ho ?hn ?hr ?_; (case ho => rfl); (case hg => rfl); (case hn => rfl); (case hr => first | (go_simp; done) | (go_simp; rfl)); intro w8 hw; have hg : wr.grownBy w8 (some go5) := (by rw [hw]; exact HP7.2); have hp_ : Kd.R (Kd.int .u8) 5 w8 w0.heap.size (fun k_ => (P0_ k_ ∨ w.heap.size ≤ k_)) (.slice (some ⟨go5, 0, none⟩) x0_1.length co6) y101 := (by rw [hw, Ny101.out]; exact HP7.1); clear HP7; have _ := aM hp_; have _ := aM ((by rw [hw]; exact below_set (HB.out) GB5.out : Below w0.heap.size w0 w8)); have _ := aM (Kept.of_grown (S := (fun k_ => P0_ k_)) hg z7d56 (fun k_ e_ => (HO_0.out.1 k_ e_))); clear HO_0 HB HK; rename_i HO_0 HB HK; clear hg hw hp_))
     go_roundg k1
     case measure => have := HK1.out; omega
     case rel => exact ⟨(y101), (wrap64 (x1_1 + 1)), (wrap64 (x5_1 + 1)), z4458, z4458, H', ⟨zfb39⟩, ⟨rZ HO_0.out⟩, ⟨z7d56⟩, ⟨z5acd⟩⟩
   · rw [if_neg c3] at H
     have c3b0 := nL c3
     clear c3
     simp only [Option.some.injEq, Prod.mk.injEq] at H
     obtain ⟨rfl, rfl⟩ := H
     obtain ⟨Ao9, co9, eo9⟩ := Kd.R_slice HO_0.out
     subst eo9
     go_wp2
     go_ret
     exact ⟨z674d, rZ HO_0.out, z5acd, z7d56⟩

end Go.Proofs.YtmlclmbplbbbhaaDoor.P

-- written by a program of this session's (wip/pp)
namespace Go.Proofs.YtmlclmbplbbbhaaDoor.P
open Go.RowKit Go.Proofs.YtmlclmbplbbbhaaDoorW.PrintWords Go.Proofs.YtmlclmbplbbbhaaDoorW.PrintLast Go.Proofs.YtmlclmbplbbbhaaDoorW.PrintMore
attribute [local go_sem] max2_int min2_int max_two min_two max_three min_three max_four min_four str_geq str_gtr str_leq   -- for this text's walks alone
set_option linter.unusedVariables false
set_option linter.unusedSimpArgs false

/-! ### laws_markText: function 73 -/
def laws_markText.l0 : Nat → Int → ByteArray → Option (ByteArray)
 | 0, _, _ => none
 | k + 1, x0, x3 => if x0 > 0 then ((some (([(wrap64 (48 + (Int.tmod x0 10))) % 256] : List Int) : List Int)).bind fun y101 => (if (strOfNums y101).size + x3.size ≤ 9223372036854775807 then (laws_markText.l0 k (wrap64 (Int.tdiv x0 10)) ((strOfNums y101) ++ x3)) else (none))) else (if 1 + x3.size ≤ 9223372036854775807 then (some ((⟨#[109]⟩ : ByteArray) ++ x3)) else (none))
def laws_markText.f (k : Nat) (a0 : Int) : Option (ByteArray) := if a0 ≤ 0 then (some (⟨#[109, 48]⟩ : ByteArray)) else (laws_markText.l0 k a0 (⟨#[]⟩ : ByteArray))
theorem laws_markText.mono_l : ∀ k, (∀ y0 y1, LeO (laws_markText.l0 k y0 y1) (laws_markText.l0 (k + 1) y0 y1))
 | 0 => fun _ _ r h => by simp [laws_markText.l0] at h
 | k + 1 => by
  have ih0 := laws_markText.mono_l k
  · intro y0 y1
    unfold laws_markText.l0
    exact moZ
theorem laws_markText.mono : ∀ a0 k, LeO (laws_markText.f k a0) (laws_markText.f (k + 1) a0) := by
 intro a0 k
 have ih0 := laws_markText.mono_l k
 unfold laws_markText.f
 exact moZ
set_option maxHeartbeats 8000000 in
set_option maxRecDepth 100000 in
theorem laws_markText.calls (k : Nat) (a0 : Int) (r : ByteArray) (w : World) (h : laws_markText.f k a0 = some r) :
 Calls Tryd.prog 73 #[.int .i64 a0] w fun e w' => e = .returned (.string r) ∧ Below w.heap.size w w' := by
 have HB := aM (Below.refl w.heap.size w)
 have H : (if a0 ≤ 0 then (some (⟨#[109, 48]⟩ : ByteArray)) else (laws_markText.l0 k a0 (⟨#[]⟩ : ByteArray))) = some r := h
 clear h
 by_cases c2 : a0 ≤ 0
 · rw [if_pos c2] at H
   have c2b0 := dE c2
   clear c2
   obtain rfl := Option.some.inj H
   go_enter Tryd.func73, Tryd.ntmps73
   go_wp2
   go_ret
   exact ⟨z674d, z5acd⟩
 · rw [if_neg c2] at H
   have c2b0 := nE c2
   clear c2
   have H' := aM H
   clear H
   go_enter Tryd.func73, Tryd.ntmps73
   go_wp2
   go_loopg [0, 3] k (fun kq v0 v3 w' => ∃ (x0_1 : Int) (x3_1 : ByteArray), v0 = .int .i64 x0_1 ∧ v3 = .string x3_1 ∧ Aside0 (laws_markText.l0 kq x0_1 x3_1 = some r) ∧ Aside0 (kq ≤ k) ∧ Aside0 (Below w.heap.size w w'))
   case atStart => exact ⟨(a0), ((⟨#[]⟩ : ByteArray)), z4458, z4458, H', ⟨Nat.le_refl _⟩, ⟨z5acd⟩⟩
   case round =>
    clear H'
    (try clear c2b0)
    obtain ⟨x0_1, x3_1, rfl, rfl, HA, HK1, HB⟩ := hrel
    cases gk with
    | zero => exact absurd HA.out (by simp [laws_markText.l0])
    | succ k1 =>
     have H := HA.out
     clear HA
     simp only [laws_markText.l0] at H
     by_cases c3 : x0_1 > 0
     · rw [if_pos c3] at H
       have c3b0 := dL c3
       clear c3
       obtain ⟨y101, hy101⟩ : ∃ y_ : List Int, y_ = (([(wrap64 (48 + (Int.tmod x0_1 10))) % 256] : List Int)) := ⟨_, rfl⟩
       first | (replace H := bindS H; rw [← hy101] at H; try dsimp only at H) | rw [← hy101] at H
       have Ny101 := aM hy101
       clear hy101
       replace H := ifS H; obtain ⟨c4, H⟩ := H
       have c4b0 := eq_true c4
       have c4b1 : decide ((strOfNums y101).size + x3_1.size ≤ 9223372036854775807) = true := decide_eq_true c4
       try have c4b2 : (9223372036854775807 < (strOfNums y101).size + x3_1.size) = False := eq_false (Nat.not_lt.2 c4)
       have H' := aM H
       clear H
       go_wp2_with (first | ((with_reducible refine gate_dst (N := 12) rfl ?_); refine Kd.R_lit (Kd.int .u8) _ 5 ?hg (N := 12) ?hd (xs := ([(wrap64 (48 + (Int.tmod x0_1 10))) % 256] : List Int)) (inner := [.int .u8 ((wrap64 (48 + (Int.tmod x0_1 10))) % 256)]) (ok := fun _ => True) (okp := fun _ => True) ?hr ?hp (fun _ hk => hk) trivial (Below.refl _ _) (Nat.le_refl _) (by simp) ?_; (case hd => rfl); (case hg => rfl); (case hr => first | (go_simp; done) | (go_simp; rfl)); (case hp => exact (Reps.one (show Kd.M (Kd.int .u8) _ _ _ ((wrap64 (48 + (Int.tmod x0_1 10))) % 256) [.int .u8 ((wrap64 (48 + (Int.tmod x0_1 10))) % 256)] from rfl) (Reps.none _ _))); intro v102 w5 ho6 hb hg_ hnew_; clear hg_ hnew_; (first | rw [← Ny101.out] at ho6 | (simp only [Int.reduceToNat] at ho6; rw [← Ny101.out] at ho6)); have _ := aM (Kd.R_lower ho6 (below_size hbZ)); have _ := aM (below_step hbZ hb); clear HB; rename_i HO103 HB; clear hb ho6; have hcv7 := own_string (P := Tryd.prog) Tryd.underlying25 Tryd.underlying5 Tryd.underlying9 (Kd.own_of_R HO103.out)))
       go_roundg k1
       case measure => have := HK1.out; omega
       case rel => exact ⟨(wrap64 (Int.tdiv x0_1 10)), ((strOfNums y101) ++ x3_1), z4458, z4458, H', ⟨zfb39⟩, ⟨z5acd⟩⟩
     · rw [if_neg c3] at H
       have c3b0 := nL c3
       clear c3
       replace H := ifS H; obtain ⟨c8, H⟩ := H
       have c8b0 := eq_true c8
       have c8b1 : decide (1 + x3_1.size ≤ 9223372036854775807) = true := decide_eq_true c8
       try have c8b2 : (9223372036854775807 < 1 + x3_1.size) = False := eq_false (Nat.not_lt.2 c8)
       obtain rfl := Option.some.inj H
       go_wp2
       go_ret
       exact ⟨z674d, z5acd⟩
end Go.Proofs.YtmlclmbplbbbhaaDoor.P

/- laws.markFileS: marks are written into each element; what else stands in memory stays. No conditions of its own. -/
namespace Go.Proofs.YtmlclmbplbbbhaaDoor.P
open Go.RowKit Go.Proofs.YtmlclmbplbbbhaaDoorW.PrintWords Go.Proofs.YtmlclmbplbbbhaaDoorW.PrintLast Go.Proofs.YtmlclmbplbbbhaaDoorW.PrintMore
set_option linter.unusedVariables false
set_option linter.unusedSimpArgs false
def laws_markFileS.l0 : Nat → List S53 → Int → Int → Option (Int × List S53)
 | 0, _, _, _ => none
 | k + 1, x0, x1, x5 => if x5 < (x0.length : Int) then (if 0 ≤ x5 then ((laws_markText.f k x1).bind fun t0 => ((laws_markByteS.f k (rd_T53 x0 x5).f1 (wrap64 (x1 + 1))).bind fun t1 => (laws_markFileS.l0 k (x0.set x5.toNat (⟨t0, t1.2, t1.1⟩ : S53)) (wrap64 (t1.1 + 1)) (wrap64 (x5 + 1))))) else none) else some (x1, x0)
def laws_markFileS.f (k : Nat) (l0 : List S53) (a1 : Int) : Option (Int × List S53) := laws_markFileS.l0 k l0 a1 0
set_option maxHeartbeats 8000000 in
set_option maxRecDepth 100000 in
theorem laws_markFileS.calls (k : Nat) (P0_ : Nat → Prop) (u9000_ : Value) (l0 : List S53) (a1 : Int) (r1 : Int) (r2 : List S53) (w0 w : World) (hB : Below w0.heap.size w0 w) (ho0 : Kd.S k53 53 w w0.heap.size P0_ u9000_ l0) (h : laws_markFileS.f k l0 a1 = some (r1, r2)) :
 Calls Tryd.prog 43 #[u9000_, .int .i64 a1] w fun e w' => e = .returned (.int .i64 r1) ∧ Kd.S k53 53 w' w0.heap.size P0_ u9000_ r2 ∧ Below w0.heap.size w0 w' ∧ Kept w w' P0_ := by
 have HO0 := aM ho0
 have HK := aM (Kept.refl w P0_)
 have HB := aM hB
 clear hB ho0
 have H' := aM (show laws_markFileS.l0 k l0 a1 0 = some (r1, r2) from h)
 clear h
 go_enter Tryd.func43, Tryd.ntmps43
 go_wp2
 go_loopg [1, 5] k (fun kq v1 v5 w' => ∃ (x0_1 : List S53) (x1_1 : Int) (x5_1 : Int), v1 = .int .i64 x1_1 ∧ v5 = .int .i64 x5_1 ∧ Aside0 (laws_markFileS.l0 kq x0_1 x1_1 x5_1 = some (r1, r2)) ∧ Aside0 (kq ≤ k) ∧ Aside0 (Kd.S k53 53 w' w0.heap.size P0_ u9000_ x0_1) ∧ Aside0 (Kept w w' P0_) ∧ Aside0 (Below w0.heap.size w0 w'))
 case atStart => exact ⟨l0, a1, 0, rfl, rfl, H', ⟨Nat.le_refl _⟩, ⟨by (with_reducible repeat (first | apply Kd.S_alloc | apply Kd.S_drewN | apply Kd.S_drew)); exact HO0.out⟩, ⟨by repeat (first | exact HK.out | apply Kept.alloc | apply Kept.drewN | apply Kept.drew)⟩, ⟨by repeat (first | exact HB.out | apply below_alloc | apply pw_below_drewN | apply below_drew1)⟩⟩
 case round =>
  clear H' HO0 HK HB
  obtain ⟨x0_1, x1_1, x5_1, rfl, rfl, HA, HK1, HO_0, HK, HB⟩ := hrel
  cases gk with
  | zero => exact absurd HA.out (by simp [laws_markFileS.l0])
  | succ k1 =>
   have H := HA.out
   clear HA
   simp only [laws_markFileS.l0] at H
   by_cases c3 : x5_1 < (x0_1.length : Int)
   · rw [if_pos c3] at H
     have c3b0 : decide (x5_1 < (x0_1.length : Int)) = true := decide_eq_true c3
     by_cases c5 : 0 ≤ x5_1
     · rw [if_pos c5] at H
       have c5b0 : decide (0 ≤ x5_1) = true := decide_eq_true c5
       obtain ⟨t0, At00, H⟩ := Option.bind_eq_some_iff.mp H
       have At0 := aM At00
       clear At00
       obtain ⟨t1, At10, H⟩ := Option.bind_eq_some_iff.mp H
       have At1 := aM At10
       clear At10
       have H' := aM H
       clear H
       obtain ⟨g_, cap_, eo_, _, _, _, _⟩ := Kd.S_form HO_0.out (by omega)
       subst eo_
       obtain ⟨oki_, ce_, hH_, hM_⟩ := Hole.mk0 HO_0.out HB.out HK.out z53 c5 c3
       obtain ⟨v1_, rfl, hv1_⟩ := k53_openM hM_
       have HH := aM hH_
       clear hH_ hM_ HO_0 HK HB
       obtain ⟨n1_, hn1_⟩ : ∃ n_, n_ = (rd_T53 x0_1 x5_1).f1.length := ⟨_, rfl⟩
       obtain ⟨A1_, c1_, ev1_⟩ : ∃ A_ c_, v1_ = .slice A_ (rd_T53 x0_1 x5_1).f1.length c_ := Kd.R_slice hv1_
       rw [← hn1_] at ev1_
       clear hn1_
       subst ev1_
       have HV1 := aM hv1_
       clear hv1_
       have p_ := eq_true c5
       have q_ := eq_true c3
       clear c3 c5
       go_wp2_with (first | (go_at_call 73; (with_reducible refine (laws_markText.calls k1 x1_1 t0 _ At0.out).mono ?_); rintro e wa1 ⟨rfl, hb⟩; (try clear hy_); (try clear hz_); have n_ := aM (Kd.R_below HV1.out hb); clear HV1; have HV1 := n_; clear n_; have n_ := aM (HH.out.below hb); clear HH; have HH := n_; clear n_ hb; have hx_ := aM (HH.out.cell (o := (x5_1 : Int).toNat * 3) 0 _ rfl rfl); have hy_ : wa1.cell? ⟨g_, (x5_1 : Int).toNat * 3, none⟩ = some (.string ((rd_T53 x0_1 x5_1).f0)) := hx_.out; have hz_ : wa1.frozen? ⟨g_, (x5_1 : Int).toNat * 3, none⟩ = false := HH.out.free (o := (x5_1 : Int).toNat * 3) 0 rfl; clear hx_) | ((with_reducible refine gate_store (t := 9) (p := 17) rfl ?_); refine store_event (t := 9) (p := 17) (v := ?vo_wa2) (w1 := (wa1.setCell ⟨g_, (x5_1 : Int).toNat * 3, none⟩ (.string t0))) ?hg ?ho ?hn ?hr ?_; (case ho => rfl); (case hg => rfl); (case hn => rfl); (case hr => first | (go_simp; done) | (go_simp; rfl)); intro wa2 hw; (try clear hy_); (try clear hz_); have n_ := aM ((by rw [hw]; exact HH.out.in_put HV1.out (.string t0) : Kd.R (Kd.int .u8) 5 wa2 w0.heap.size oki_ (.slice A1_ n1_ c1_) _)); clear HV1; have HV1 := n_; clear n_; have n_ := aM (show Hole k53 53 w0 w wa2 P0_ g_ _ _ x0_1 x5_1 oki_ [.string t0, .slice A1_ n1_ c1_, .int .i64 ((rd_T53 x0_1 x5_1).f2)] from (by rw [hw]; exact HH.out.put (o := (x5_1 : Int).toNat * 3) 0 (.string t0) rfl (by decide) rfl)); clear HH; have HH := n_; clear n_ hw; have hx_ := aM (HH.out.cell (o := (x5_1 : Int).toNat * 3 + 1) 1 _ rfl rfl); have hy_ : wa2.cell? ⟨g_, (x5_1 : Int).toNat * 3 + 1, none⟩ = some (.slice A1_ n1_ c1_) := hx_.out; clear hx_) | (go_at_call 17; (with_reducible refine (laws_markByteS.calls k1 (fun k_ => some k_ = (.slice A1_ n1_ c1_ : Value).ownBlock) (.slice A1_ n1_ c1_) ((rd_T53 x0_1 x5_1).f1) (wrap64 (x1_1 + 1)) t1.1 t1.2 w0 _ ?s1 ?s2 At1.out).mono ?_); (case s1 => exact HH.out.hb); (case s2 => exact Kd.R_tight rfl HV1.out); rintro e wa3 ⟨rfl, ho, hb, hk⟩; (try clear hy_); (try clear hz_); have ht_ : ∀ k_, (fun k_ => some k_ = (.slice A1_ n1_ c1_ : Value).ownBlock) k_ → oki_ k_ := fun k_ e_ => HV1.out.1 k_ e_.symm; have n_ := aM (HH.out.kept hk hb ht_); clear HH; have HH := n_; clear n_; have n_ := aM (Kd.R_mono (Kd.R_tight rfl ho) (fun k_ e_ => ht_ k_ e_)); clear HV1 ho hb hk ht_; have HV1 := n_; clear n_; have hx_ := aM (HH.out.cell (o := (x5_1 : Int).toNat * 3 + 2) 2 _ rfl rfl); have hy_ : wa3.cell? ⟨g_, (x5_1 : Int).toNat * 3 + 2, none⟩ = some (.int .i64 ((rd_T53 x0_1 x5_1).f2)) := hx_.out; have hz_ : wa3.frozen? ⟨g_, (x5_1 : Int).toNat * 3 + 2, none⟩ = false := HH.out.free (o := (x5_1 : Int).toNat * 3 + 2) 2 rfl; clear hx_) | ((with_reducible refine gate_store (t := 3) (p := 31) rfl ?_); refine store_event (t := 3) (p := 31) (v := ?vo_wa4) (w1 := (wa3.setCell ⟨g_, (x5_1 : Int).toNat * 3 + 2, none⟩ (.int .i64 t1.1))) ?hg ?ho ?hn ?hr ?_; (case ho => rfl); (case hg => rfl); (case hn => rfl); (case hr => first | (go_simp; done) | (go_simp; rfl)); intro wa4 hw; (try clear hy_); (try clear hz_); have n_ := aM ((by rw [hw]; exact HH.out.in_put HV1.out (.int .i64 t1.1) : Kd.R (Kd.int .u8) 5 wa4 w0.heap.size oki_ (.slice A1_ n1_ c1_) _)); clear HV1; have HV1 := n_; clear n_; have n_ := aM (show Hole k53 53 w0 w wa4 P0_ g_ _ _ x0_1 x5_1 oki_ [.string t0, .slice A1_ n1_ c1_, .int .i64 t1.1] from (by rw [hw]; exact HH.out.put (o := (x5_1 : Int).toNat * 3 + 2) 2 (.int .i64 t1.1) rfl (by decide) rfl)); clear HH; have HH := n_; clear n_ hw; skip))
       go_roundg k1
       case measure => have := HK1.out; omega
       case rel =>
        have hq_ := HH.out.back (k53_mkM _ _ _ (⟨t0, t1.2, t1.1⟩ : S53) HV1.out)
        exact ⟨_, _, _, rfl, rfl, H', ⟨by have := HK1.out; omega⟩, ⟨by (with_reducible repeat (first | apply Kd.S_alloc | apply Kd.S_drewN | apply Kd.S_drew)); exact hq_.1⟩, ⟨by repeat (first | exact hq_.2.1 | apply Kept.alloc | apply Kept.drewN | apply Kept.drew)⟩, ⟨by repeat (first | exact hq_.2.2 | apply below_alloc | apply pw_below_drewN | apply below_drew1)⟩⟩
     · rw [if_neg c5] at H
       exact absurd H (by simp)
   · rw [if_neg c3] at H
     have c3b0 : decide (x5_1 < (x0_1.length : Int)) = false := decide_eq_false c3
     clear c3
     simp only [Option.some.injEq, Prod.mk.injEq] at H
     obtain ⟨rfl, rfl⟩ := H
     obtain ⟨Ao_, co_, eo_⟩ := Kd.S_slice HO_0.out
     subst eo_
     go_wp2
     go_ret
     exact ⟨rfl, by (with_reducible repeat (first | apply Kd.S_alloc | apply Kd.S_drewN | apply Kd.S_drew)); exact HO_0.out, by repeat (first | exact HB.out | apply below_alloc | apply pw_below_drewN | apply below_drew1), by repeat (first | exact HK.out | apply Kept.alloc | apply Kept.drewN | apply Kept.drew)⟩
end Go.Proofs.YtmlclmbplbbbhaaDoor.P

/- laws.markFiles: the marks of its files. No conditions of its own. -/
namespace Go.Proofs.YtmlclmbplbbbhaaDoor.P
open Go.RowKit Go.Proofs.YtmlclmbplbbbhaaDoorW.PrintWords Go.Proofs.YtmlclmbplbbbhaaDoorW.PrintLast Go.Proofs.YtmlclmbplbbbhaaDoorW.PrintMore
set_option linter.unusedVariables false
set_option linter.unusedSimpArgs false
theorem Kept.behind {w w1 w2 : World} {S : Nat → Prop} (hb : Below w.heap.size w w1) (hk : Kept w1 w2 S) : Kept w w2 S :=
  ⟨Nat.le_trans hb.size hk.1, fun i hi hn => (hk.2 i (Nat.lt_of_lt_of_le hi hb.size) hn).trans (hb.block i hi)⟩
set_option maxHeartbeats 8000000 in
set_option maxRecDepth 100000 in
theorem laws_markFiles.calls (k : Nat) (P0_1 : Nat → Prop) (a0_0 : Int) (u9000_1 : Value) (l0_1 : List S53) (a1 : Int) (r1 : Int) (r2 : List S53) (w0 w : World) (hB : Below w0.heap.size w0 w) (ho0_1 : Kd.S k53 53 w w0.heap.size P0_1 u9000_1 l0_1) (h : laws_markFileS.f k l0_1 a1 = some (r1, r2)) :
 Calls Tryd.prog 16 #[.agg #[.int .i64 a0_0, u9000_1], .int .i64 a1] w fun e w' => e = .returned (.int .i64 r1) ∧ Kd.S k53 53 w' w0.heap.size P0_1 u9000_1 r2 ∧ Below w0.heap.size w0 w' ∧ Kept w w' P0_1 := by
 obtain ⟨A_, c_, rfl⟩ := Kd.S_slice ho0_1
 have HO0 := aM ho0_1
 have HB := aM hB
 have H := aM h
 clear hB ho0_1 h
 go_enter Tryd.func16, Tryd.ntmps16
 go_wp2_with (first | ((with_reducible refine gate_dst (N := 2) rfl ?_); refine box_event ?hg (N := 2) ?hd (cs := #[.int .i64 a0_0, .slice A_ l0_1.length c_]) (t := 29) ?hr ?_; (case hd => rfl); (case hg => rfl); (case hr => first | (go_simp; done) | (go_simp; rfl)); intro b_ hg wa hbox hb; have HA := aM hb; have HO1 := aM (Kd.S_below HO0.out hb); have HB1 := aM (below_after HB.out hb); obtain ⟨hcz_0, hcz_1, hfz_0, hfz_1⟩ := cellsZ2 hbox; clear hg hbox hb HO0 HB) | ((with_reducible refine gate_callee (f := 43) rfl ?_); refine goesL_ (some 8) rfl rfl Tryd.func43 (by kernel_rfl) rfl #[.slice A_ l0_1.length c_, .int .i64 a1] rfl zee81 ?_; (with_reducible refine (laws_markFileS.calls k P0_1 (.slice A_ l0_1.length c_) l0_1 a1 r1 r2 w0 _ HB1.out HO1.out H.out).mono ?_); rintro e wb ⟨he_, hs, hB2, hk⟩; subst he_; refine ⟨_, rfl, ?_⟩; have HS := aM hs; have HB2 := aM hB2; have HK := aM (Kept.behind HA.out hk); clear hs hB2 hk HO1 HB1))
 go_ret
 exact ⟨rfl, HS.out, HB2.out, HK.out⟩
end Go.Proofs.YtmlclmbplbbbhaaDoor.P

-- written by a program of this session's (wip/pp)
namespace Go.Proofs.YtmlclmbplbbbhaaDoor.P
open Go.RowKit Go.Proofs.YtmlclmbplbbbhaaDoorW.PrintWords Go.Proofs.YtmlclmbplbbbhaaDoorW.PrintLast Go.Proofs.YtmlclmbplbbbhaaDoorW.PrintMore
attribute [local go_sem] max2_int min2_int max_two min_two max_three min_three max_four min_four str_geq str_gtr str_leq   -- for this text's walks alone
set_option linter.unusedVariables false
set_option linter.unusedSimpArgs false

/-! ### laws_toByteS: function 12 -/
def laws_toByteS.l0 : Nat → List Int → List Int → Int → Option (List Int)
 | 0, _, _, _ => none
 | k + 1, x0, x3, x4 => if x4 < (x0.length : Int) then (if 0 ≤ x4 then (if x4 < (x3.length : Int) then (laws_toByteS.l0 k x0 (x3.set (x4 : Int).toNat (rd x0 x4)) (wrap64 (x4 + 1))) else (none)) else (none)) else (some x3)
def laws_toByteS.f (k : Nat) (l0 : List Int) : Option (List Int) := if 0 ≤ (l0.length : Int) then (if ((l0.length : Int) : Int).toNat ≤ 281474976710656 then (laws_toByteS.l0 k l0 (List.replicate ((l0.length : Int) : Int).toNat 0) 0) else (none)) else (none)
theorem laws_toByteS.mono_l : ∀ k, (∀ y0 y1 y2, LeO (laws_toByteS.l0 k y0 y1 y2) (laws_toByteS.l0 (k + 1) y0 y1 y2))
 | 0 => fun _ _ _ r h => by simp [laws_toByteS.l0] at h
 | k + 1 => by
  have ih0 := laws_toByteS.mono_l k
  · intro y0 y1 y2
    unfold laws_toByteS.l0
    exact moZ
theorem laws_toByteS.mono : ∀ a0 k, LeO (laws_toByteS.f k a0) (laws_toByteS.f (k + 1) a0) := by
 intro a0 k
 have ih0 := laws_toByteS.mono_l k
 unfold laws_toByteS.f
 exact moZ
set_option maxHeartbeats 8000000 in
set_option maxRecDepth 100000 in
theorem laws_toByteS.calls (k : Nat) (A0 : Option Addr) (c0 : Nat) (l0 : List Int) (r : List Int) (w : World) (hr0 : Kd.C (Kd.int .u8) w A0 l0.length l0) (hc0 : l0.length ≤ c0) (h : laws_toByteS.f k l0 = some r) :
 Calls Tryd.prog 12 #[.slice A0 l0.length c0] w fun e w' => ∃ v0_ : Value, e = .returned (v0_) ∧ Kd.R (Kd.int .u8) 5 w' w.heap.size (fun _ => True) v0_ r ∧ Below w.heap.size w w' := by
 have HR0 := aM hr0
 have HC0 := aM hc0
 clear hr0 hc0
 have HB := aM (Below.refl w.heap.size w)
 have H : (if 0 ≤ (l0.length : Int) then (if ((l0.length : Int) : Int).toNat ≤ 281474976710656 then (laws_toByteS.l0 k l0 (List.replicate ((l0.length : Int) : Int).toNat 0) 0) else (none)) else (none)) = some r := h
 clear h
 replace H := ifS H; obtain ⟨c2, H⟩ := H
 have c2b0 := eq_true c2
 have c2b1 : decide (0 ≤ (l0.length : Int)) = true := decide_eq_true c2
 clear c2
 replace H := ifS H; obtain ⟨c3, H⟩ := H
 have c3b0 := eq_true c3
 have c3b1 : decide (((l0.length : Int) : Int).toNat ≤ 281474976710656) = true := decide_eq_true c3
 clear c3
 obtain ⟨y101, hy101⟩ : ∃ y_ : List Int, y_ = (List.replicate ((l0.length : Int) : Int).toNat 0) := ⟨_, rfl⟩
 first | (replace H := bindS H; rw [← hy101] at H; try dsimp only at H) | rw [← hy101] at H
 have Ny101 := aM hy101
 clear hy101
 have H' := aM H
 clear H
 go_enter Tryd.func12, Tryd.ntmps12
 go_wp2_with (first | ((with_reducible refine gate_dst (N := 7) rfl ?_); refine Kd.R_make (Kd.int .u8) _ 5 rfl (N := 7) rfl 25 _ _ rfl (l0.length : Int) rfl rfl Tryd.underlying25 (.int .u8 0) 1 info5 rfl (by decide) (by omega) 0 (ok := fun _ => True) (okp := fun _ => True) rfl (fun _ hk => hk) trivial (of_decide_eq_true z1200) (Nat.le_trans (Nat.mul_le_mul_right _ (of_decide_eq_true z1200 : (l0.length : Int).toNat ≤ 281474976710656)) (by omega)) (Below.refl _ _) (Nat.le_refl _) ?_; intro v102 w4 ho5 hb hg_ hnew_; clear hg_ hnew_; (first | rw [← Ny101.out] at ho5 | (simp only [Int.reduceToNat] at ho5; rw [← Ny101.out] at ho5)); have _ := aM (Kd.R_lower ho5 (below_size hbZ)); have _ := aM (below_step hbZ hb); clear HB; rename_i HO103 HB; clear hb ho5))
 go_loopg [4] k (fun kq v4 w' => ∃ (x3_1 : List Int) (x4_1 : Int), v4 = .int .i64 x4_1 ∧ Aside0 (laws_toByteS.l0 kq l0 x3_1 x4_1 = some r) ∧ Aside0 (kq ≤ k) ∧ Aside0 (Kd.R (Kd.int .u8) 5 w' w.heap.size (fun _ => True) v102 x3_1) ∧ Aside0 (Below w.heap.size w w'))
 case atStart => exact ⟨(y101), (0), z4458, H', ⟨Nat.le_refl _⟩, ⟨rZ HO103.out⟩, ⟨z5acd⟩⟩
 case round =>
  clear H'
  (try clear c2b0); (try clear c2b1); (try clear c3b0); (try clear c3b1)
  obtain ⟨x3_1, x4_1, rfl, HA, HK1, HO_3, HB⟩ := hrel
  cases gk with
  | zero => exact absurd HA.out (by simp [laws_toByteS.l0])
  | succ k1 =>
   have H := HA.out
   clear HA
   simp only [laws_toByteS.l0] at H
   by_cases c6 : x4_1 < (l0.length : Int)
   · rw [if_pos c6] at H
     have c6b0 := dL c6
     clear c6
     obtain ⟨c7b0, H⟩ := sE H
     obtain ⟨c8b0, H⟩ := sL H
     obtain ⟨y105, hy105⟩ : ∃ y_ : List Int, y_ = (x3_1.set (x4_1 : Int).toNat (rd l0 x4_1)) := ⟨_, rfl⟩
     first | (replace H := bindS H; rw [← hy105] at H; try dsimp only at H) | rw [← hy105] at H
     have Ny105 := aM hy105
     clear hy105
     have H' := aM H
     clear H
     have p104 : 0 ≤ (x4_1 : Int) := of_decide_eq_true z1200
     have q104 : x4_1 < (l0.length : Int) := of_decide_eq_true z1200
     obtain ⟨ad104, e104, hx104_0⟩ := Kd.at_int HR0.out x4_1 p104 q104
     cases e104
     replace hx104_0 := (HB.out.cell (World.block_lt_of_cell? w _ hx104_0)).trans hx104_0
     replace p104 := eq_true p104
     replace q104 := eq_true q104
     have p9 : 0 ≤ (x4_1 : Int) := of_decide_eq_true z1200
     have q9 : (x4_1 : Int) < ((x3_1.length : Int) : Int) := of_decide_eq_true z1200
     obtain ⟨go9, co9, eo9, gb9, gl9, cl9, HG9⟩ := Kd.R_form HO_3.out (by omega)
     (first | cases eo9 | (injection eo9 with ea_ en_ ec_; (first | subst ea_ | (injection ea_ with ea_; subst ea_)); subst ec_; clear en_))
     have GB9 := aM gb9
     have GG9 := aM HG9
     clear gb9 gl9 HG9
     obtain ⟨hx9_0, hf9_0⟩ := Kd.R_celln 0 HO_3.out (x4_1 : Int) p9 q9
     replace p9 := eq_true p9
     replace q9 := eq_true q9
     have HP10 := Kd.R_putg HO_3.out (x4_1 : Int) (rd l0 x4_1)
     go_wp2_with (first | ((with_reducible refine gate_store (t := 5) (p := 20) rfl ?_); refine store_event (t := 5) (p := 20) (v := ?vo_w11) (w1 := (wr.setCell ⟨go9, (x4_1 : Int).toNat, none⟩ (.int .u8 (rd l0 x4_1)))) ?hg ?ho ?hn ?hr ?_; (case ho => rfl); (case hg => rfl); (case hn => rfl); (case hr => first | (go_simp; done) | (go_simp; rfl)); intro w11 hw; have hg : wr.grownBy w11 (some go9) := (by rw [hw]; exact HP10.2); have hp_ : Kd.R (Kd.int .u8) 5 w11 w.heap.size (fun _ => True) (.slice (some ⟨go9, 0, none⟩) x3_1.length co9) y105 := (by rw [hw, Ny105.out]; exact HP10.1); clear HP10; have _ := aM hp_; have _ := aM ((by rw [hw]; exact below_set (HB.out) GB9.out : Below w.heap.size w w11)); clear HO_3 HB; rename_i HO_3 HB; clear hg hw hp_))
     go_roundg k1
     case measure => have := HK1.out; omega
     case rel => exact ⟨(y105), (wrap64 (x4_1 + 1)), z4458, H', ⟨zfb39⟩, ⟨rZ HO_3.out⟩, ⟨z5acd⟩⟩
   · rw [if_neg c6] at H
     have c6b0 := nL c6
     clear c6
     obtain rfl := Option.some.inj H
     go_wp2
     go_ret
     exact ⟨_, z674d, rZ HO_3.out, z5acd⟩
end Go.Proofs.YtmlclmbplbbbhaaDoor.P

-- written by a program of this session's (wip/pp)
namespace Go.Proofs.YtmlclmbplbbbhaaDoor.P
open Go.RowKit Go.Proofs.YtmlclmbplbbbhaaDoorW.PrintWords Go.Proofs.YtmlclmbplbbbhaaDoorW.PrintLast Go.Proofs.YtmlclmbplbbbhaaDoorW.PrintMore
attribute [local go_sem] max2_int min2_int max_two min_two max_three min_three max_four min_four str_geq str_gtr str_leq   -- for this text's walks alone
set_option linter.unusedVariables false
set_option linter.unusedSimpArgs false

/-! ### laws_toFile: function 67 -/
def laws_toFile.f (k : Nat) (a0_0 : ByteArray) (l0_1 : List Int) (a0_2 : Int) : Option (ByteArray × List Int × Int) := (laws_toByteS.f k l0_1).bind fun t104 => (some (a0_0, t104, a0_2))
theorem laws_toFile.mono : ∀ a0 a1 a2 k, LeO (laws_toFile.f k a0 a1 a2) (laws_toFile.f (k + 1) a0 a1 a2) := by
 intro a0 a1 a2 k
 have m0 := @laws_toByteS.mono
 unfold laws_toFile.f
 exact moZ
set_option maxHeartbeats 8000000 in
set_option maxRecDepth 100000 in
theorem laws_toFile.calls (k : Nat) (a0_0 : ByteArray) (A0_1 : Option Addr) (c0_1 : Nat) (l0_1 : List Int) (a0_2 : Int) (r1 : ByteArray) (r2 : List Int) (r3 : Int) (w : World) (hr0_1 : Kd.C (Kd.int .u8) w A0_1 l0_1.length l0_1) (hc0_1 : l0_1.length ≤ c0_1) (h : laws_toFile.f k a0_0 l0_1 a0_2 = some (r1, r2, r3)) :
 Calls Tryd.prog 67 #[.agg #[.string a0_0, .slice A0_1 l0_1.length c0_1, .int .i64 a0_2]] w fun e w' => ∃ v1_ : Value, e = .returned (.agg #[.string r1, v1_, .int .i64 r3]) ∧ Kd.R (Kd.int .u8) 5 w' w.heap.size (fun _ => True) v1_ r2 ∧ Below w.heap.size w w' := by
 have hu84 := Tryd.underlying84
 have hu53 := Tryd.underlying53
 have HR0_1 := aM hr0_1
 have HC0_1 := aM hc0_1
 clear hr0_1 hc0_1
 have HB := aM (Below.refl w.heap.size w)
 have H : ((laws_toByteS.f k l0_1).bind fun t104 => (some (a0_0, t104, a0_2))) = some (r1, r2, r3) := h
 clear h
 obtain ⟨t104, A2, H⟩ := bS H; try dsimp only at H
 simp only [Option.some.injEq, Prod.mk.injEq] at H
 obtain ⟨rfl, rfl, rfl⟩ := H
 go_enter Tryd.func67, Tryd.ntmps67
 go_wp2_with (first | ((with_reducible refine gate_dst (N := 1) rfl ?_); refine bX 1 84 #[.string a0_0, .slice A0_1 l0_1.length c0_1, .int .i64 a0_2] ?_; intro gb101 hg w3 hbox hb; have _ := aM (below_step hbZ hb); have _ := aM hbox; have _ := szZ hg; have _ := szZ hg; clear HB; rename_i HB BK101 GW101 GE101; clear hb hbox hg) | ((with_reducible refine gate_dst (N := 2) rfl ?_); refine bX 2 53 #[.string (⟨#[]⟩ : ByteArray), .slice none 0 0, .int .i64 0] ?_; intro gb102 hg w4 hbox hb; have _ := bB gb101 hb; have _ := aM (below_step hbZ hb); have _ := aM hbox; have _ := szZ hg; have _ := szZ hg; have ⟨_, _⟩ := nbB gb101 hg; clear BK101 HB; rename_i BK101 HB BK102 GW102 GE102 NB101_102 NB102_101; clear hb hbox hg) | ((with_reducible refine gate_dst (N := 3) rfl ?_); refine bX 3 53 #[.string (⟨#[]⟩ : ByteArray), .slice none 0 0, .int .i64 0] ?_; intro gb103 hg w5 hbox hb; have _ := bB gb101 hb; have _ := bB gb102 hb; have _ := aM (below_step hbZ hb); have _ := aM hbox; have _ := szZ hg; have _ := szZ hg; have ⟨_, _⟩ := nbB gb101 hg; have ⟨_, _⟩ := nbB gb102 hg; clear BK101 BK102 HB; rename_i BK101 BK102 HB BK103 GW103 GE103 NB101_103 NB103_101 NB102_103 NB103_102; clear hb hbox hg; have hnb6 := NB101_102.out; have hnc6 := NB102_101.out; have hnb7 := NB101_103.out; have hnc7 := NB103_101.out; have hz8 := cellsZ3 BK101.out; have hnb9 := NB103_102.out; have hnc9 := NB102_103.out; have hz10 := cellsZ3 BK103.out) | ((with_reducible refine gate_callee (f := 12) rfl ?_); refine gL 9 Tryd.func12 #[.slice A0_1 l0_1.length c0_1] ?_; (with_reducible refine (laws_toByteS.calls k _ _ l0_1 t104 _ ?side1 ?side2 A2.out).mono ?_); (case side1 => exact Kd.C_below HR0_1.out hbZ); (case side2 => exact HC0_1.out); rintro e w11 ⟨v105, rfl, ho0, hb⟩; refine ⟨_, rfl, ?_⟩; have _ := aM (Kd.R_lower ho0 (below_size hbZ)); have _ := bB gb101 hb; have _ := bB gb102 hb; have _ := aM (blk_below (g := gb103) (o := .cells #[.string a0_0, .slice none 0 0, .int .i64 0] 53 (0, 0)) bkZ hb); have _ := aM (below_step hbZ hb); clear BK101 BK102 BK103 HB; rename_i HO106 BK101 BK102 BK103 HB; (try clear hb); (try clear ho0); obtain ⟨Ao12, co12, eo12⟩ := Kd.R_slice HO106.out; subst eo12; have hz13 := cellsZ3 BK103.out; have hz14 := cellsZ3 BK101.out; have hz15 := cellsZ3 BK102.out))
 refine bodyPost_ret (results_cell_row rfl _ _ gb102 53 #[.string a0_0, .slice Ao12 t104.length co12, .int .i64 a0_2] (0, 0) _ rfl bkZ Tryd.underlying53 rfl (by kernel_rfl)) rfl ?_
 exact ⟨_, z674d, by (with_reducible repeat (first | apply Kd.R_alloc | apply Kd.R_drewN | apply Kd.R_drew)); exact Kd.R_mono (Kd.R_far (p := ⟨gb102, 2, none⟩) (Kd.R_far (p := ⟨gb102, 1, none⟩) (Kd.R_far (p := ⟨gb102, 0, none⟩) (Kd.R_far (p := ⟨gb103, 2, none⟩) (Kd.R_far (p := ⟨gb103, 1, none⟩) (Kd.R_types (Kd.R_types HO106.out BK103.out (by decide)) BK102.out (by decide)) (fun _ hk => hk.1.2) (.slice Ao12 t104.length co12)) (fun _ hk => hk.1.2) (.int .i64 a0_2)) (fun _ hk => hk.2) (.string a0_0)) (fun _ hk => hk.2) (.slice Ao12 t104.length co12)) (fun _ hk => hk.2) (.int .i64 a0_2)) (fun _ hk => trivial), zcb41⟩

end Go.Proofs.YtmlclmbplbbbhaaDoor.P

-- written by a program of this session's (wip/pp)
namespace Go.Proofs.YtmlclmbplbbbhaaDoor.P
open Go.RowKit Go.Proofs.YtmlclmbplbbbhaaDoorW.PrintWords Go.Proofs.YtmlclmbplbbbhaaDoorW.PrintLast Go.Proofs.YtmlclmbplbbbhaaDoorW.PrintMore
attribute [local go_sem] max2_int min2_int max_two min_two max_three min_three max_four min_four str_geq str_gtr str_leq   -- for this text's walks alone
set_option linter.unusedVariables false
set_option linter.unusedSimpArgs false

/-! ### laws_toFileS: function 38 -/
def laws_toFileS.l0 : Nat → List (S84) → List (S53) → Int → Option ((List (S53)))
 | 0, _, _, _ => none
 | k + 1, x0, x3, x4 => if x4 < (x0.length : Int) then (if 0 ≤ x4 then ((laws_toFile.f k ((rd_T84 x0 x4).f0) ((rd_T84 x0 x4).f1) ((rd_T84 x0 x4).f2)).bind fun bt105 => (if x4 < (x3.length : Int) then (laws_toFileS.l0 k x0 (x3.set (x4 : Int).toNat (⟨bt105.1, bt105.2.1, bt105.2.2⟩ : S53)) (wrap64 (x4 + 1))) else (none))) else (none)) else (some x3)
def laws_toFileS.f (k : Nat) (l0 : List (S84)) : Option ((List (S53))) := if 0 ≤ (l0.length : Int) then (if ((l0.length : Int) : Int).toNat ≤ 5864062014805 then (laws_toFileS.l0 k l0 (List.replicate ((l0.length : Int) : Int).toNat z53) 0) else (none)) else (none)
theorem laws_toFileS.mono_l : ∀ k, (∀ y0 y1 y2, LeO (laws_toFileS.l0 k y0 y1 y2) (laws_toFileS.l0 (k + 1) y0 y1 y2))
 | 0 => fun _ _ _ r h => by simp [laws_toFileS.l0] at h
 | k + 1 => by
  have ih0 := laws_toFileS.mono_l k; have m0 := @laws_toFile.mono
  · intro y0 y1 y2
    unfold laws_toFileS.l0
    exact moZ
theorem laws_toFileS.mono : ∀ a0 k, LeO (laws_toFileS.f k a0) (laws_toFileS.f (k + 1) a0) := by
 intro a0 k
 have ih0 := laws_toFileS.mono_l k
 have m0 := @laws_toFile.mono
 unfold laws_toFileS.f
 exact moZ
set_option maxHeartbeats 8000000 in
set_option maxRecDepth 100000 in
theorem laws_toFileS.calls (k : Nat) (A0 : Option Addr) (c0 : Nat) (l0 : List (S84)) (r : List (S53)) (w : World) (hr0 : Kd.C k84 w A0 l0.length l0) (hc0 : l0.length ≤ c0) (h : laws_toFileS.f k l0 = some r) :
 Calls Tryd.prog 38 #[.slice A0 l0.length c0] w fun e w' => ∃ v0_ : Value, e = .returned (v0_) ∧ Kd.S k53 53 w' w.heap.size (fun _ => True) v0_ r ∧ Below w.heap.size w w' := by
 have hu84 := Tryd.underlying84
 have hu53 := Tryd.underlying53
 have HR0 := aM hr0
 have HC0 := aM hc0
 clear hr0 hc0
 have HB := aM (Below.refl w.heap.size w)
 have H : (if 0 ≤ (l0.length : Int) then (if ((l0.length : Int) : Int).toNat ≤ 5864062014805 then (laws_toFileS.l0 k l0 (List.replicate ((l0.length : Int) : Int).toNat z53) 0) else (none)) else (none)) = some r := h
 clear h
 replace H := ifS H; obtain ⟨c2, H⟩ := H
 have c2b0 := eq_true c2
 have c2b1 : decide (0 ≤ (l0.length : Int)) = true := decide_eq_true c2
 clear c2
 replace H := ifS H; obtain ⟨c3, H⟩ := H
 have c3b0 := eq_true c3
 have c3b1 : decide (((l0.length : Int) : Int).toNat ≤ 5864062014805) = true := decide_eq_true c3
 clear c3
 obtain ⟨y101, hy101⟩ : ∃ y_ : List (S53), y_ = (List.replicate ((l0.length : Int) : Int).toNat z53) := ⟨_, rfl⟩
 first | (replace H := bindS H; rw [← hy101] at H; try dsimp only at H) | rw [← hy101] at H
 have Ny101 := aM hy101
 clear hy101
 have H' := aM H
 clear H
 go_enter Tryd.func38, Tryd.ntmps38
 go_wp2_with (first | ((with_reducible refine gate_dst (N := 7) rfl ?_); refine Kd.S_make k53 _ 53 rfl (N := 7) rfl 27 _ _ rfl (l0.length : Int) rfl rfl Tryd.underlying27 (.agg #[(.string ⟨#[]⟩), (.slice none 0 0), (.int .i64 0)]) 48 info53 rfl (by decide) (by omega) z53 (ok := fun _ => True) (okp := fun _ => True) (k53_mkM _ _ _ z53 (Kd.R_nil _ _ _ _ _)) (fun _ hk => hk) trivial (of_decide_eq_true z1200) (Nat.le_trans (Nat.mul_le_mul_right _ (of_decide_eq_true z1200 : (l0.length : Int).toNat ≤ 5864062014805)) (by omega)) (Below.refl _ _) (Nat.le_refl _) ?_; intro v102 w4 ho5 hb hg_ hnew_; clear hg_ hnew_; (first | rw [← Ny101.out] at ho5 | (simp only [Int.reduceToNat] at ho5; rw [← Ny101.out] at ho5)); have _ := aM (Kd.S_lower ho5 (below_size hbZ)); have _ := aM (below_step hbZ hb); clear HB; rename_i HO103 HB; clear hb ho5))
 go_loopg [4] k (fun kq v4 w' => ∃ (x3_1 : List (S53)) (x4_1 : Int), v4 = .int .i64 x4_1 ∧ Aside0 (laws_toFileS.l0 kq l0 x3_1 x4_1 = some r) ∧ Aside0 (kq ≤ k) ∧ Aside0 (Kd.S k53 53 w' w.heap.size (fun _ => True) v102 x3_1) ∧ Aside0 (Below w.heap.size w w'))
 case atStart => exact ⟨(y101), (0), z4458, H', ⟨Nat.le_refl _⟩, ⟨z1bd3⟩, ⟨z5acd⟩⟩
 case round =>
  clear H'
  (try clear c2b0); (try clear c2b1); (try clear c3b0); (try clear c3b1)
  obtain ⟨x3_1, x4_1, rfl, HA, HK1, HO_3, HB⟩ := hrel
  cases gk with
  | zero => exact absurd HA.out (by simp [laws_toFileS.l0])
  | succ k1 =>
   have H := HA.out
   clear HA
   simp only [laws_toFileS.l0] at H
   by_cases c6 : x4_1 < (l0.length : Int)
   · rw [if_pos c6] at H
     have c6b0 := dL c6
     clear c6
     obtain ⟨c7b0, H⟩ := sE H
     obtain ⟨⟨t105, t106, t109⟩, A8, H⟩ := bS H; try dsimp only at H
     obtain ⟨c9b0, H⟩ := sL H
     obtain ⟨y110, hy110⟩ : ∃ y_ : List (S53), y_ = (x3_1.set (x4_1 : Int).toNat (⟨t105, t106, t109⟩ : S53)) := ⟨_, rfl⟩
     first | (replace H := bindS H; rw [← hy110] at H; try dsimp only at H) | rw [← hy110] at H
     have Ny110 := aM hy110
     clear hy110
     have H' := aM H
     clear H
     have p104 : 0 ≤ (x4_1 : Int) := of_decide_eq_true z1200
     have q104 : x4_1 < (l0.length : Int) := of_decide_eq_true z1200
     obtain ⟨ad104, A104_1, c104_1, e104, hx104_0, hx104_1, hx104_2, hl104_1, hi104_1⟩ := at_T84 HR0.out x4_1 p104 q104
     cases e104
     have TW104_1 := aM hx104_1
     replace hx104_0 := (HB.out.cell (World.block_lt_of_cell? w _ hx104_0)).trans hx104_0
     replace hx104_1 := (HB.out.cell (World.block_lt_of_cell? w _ hx104_1)).trans hx104_1
     replace hx104_2 := (HB.out.cell (World.block_lt_of_cell? w _ hx104_2)).trans hx104_2
     have HR104_1 := aM hi104_1
     have HC104_1 := aM hl104_1
     clear hi104_1 hl104_1
     replace p104 := eq_true p104
     replace q104 := eq_true q104
     go_wp2_with (first | ((with_reducible refine gate_callee (f := 67) rfl ?_); refine gL 20 Tryd.func67 #[.agg #[.string ((rd_T84 l0 x4_1).f0), .slice A104_1 ((rd_T84 l0 x4_1).f1).length c104_1, .int .i64 ((rd_T84 l0 x4_1).f2)]] ?_; (with_reducible refine (laws_toFile.calls k1 ((rd_T84 l0 x4_1).f0) _ _ ((rd_T84 l0 x4_1).f1) ((rd_T84 l0 x4_1).f2) t105 t106 t109 _ ?side1 ?side2 A8.out).mono ?_); (case side1 => exact (cZ (Kd.C_below HR104_1.out HB.out))); (case side2 => exact HC104_1.out); rintro e w11 ⟨v107, rfl, ho0, hb⟩; refine ⟨_, rfl, ?_⟩; have _ := aM (Kd.S_elder' zd74a (Kd.R_base ho0) hb); have _ := aM (Kd.R_lower ho0 (below_size hbZ)); have _ := aM (below_step hbZ hb); clear HO_3 HB; rename_i HO_3 HO108 HB; (try clear hb); (try clear ho0); have p10 : 0 ≤ (x4_1 : Int) := of_decide_eq_true z1200; have q10 : (x4_1 : Int) < ((x3_1.length : Int) : Int) := of_decide_eq_true z1200; obtain ⟨go10, co10, eo10, gb10, gl10, cl10, HG10⟩ := Kd.S_form HO_3.out (by omega); (first | cases eo10 | (injection eo10 with ea_ en_ ec_; (first | subst ea_ | (injection ea_ with ea_; subst ea_)); subst ec_; clear en_)); have GB10 := aM gb10; have GG10 := aM HG10; clear gb10 gl10 HG10; obtain ⟨_, ce10, hcl10, hM10, hcc10, hfr10, _, _⟩ := Kd.S_elem HO_3.out z53 (x4_1 : Int) p10 q10; obtain ⟨ve10_1, rfl, ge10_1⟩ := k53_openM hM10; have hx10_0 : w11.cell? ⟨go10, (x4_1 : Int).toNat * 3, none⟩ = some (.string ((rd_T53 x3_1 x4_1).f0)) := hcc10 0 _ rfl; have hx10_1 : w11.cell? ⟨go10, (x4_1 : Int).toNat * 3 + 1, none⟩ = some (ve10_1) := hcc10 1 _ rfl; have hx10_2 : w11.cell? ⟨go10, (x4_1 : Int).toNat * 3 + 2, none⟩ = some (.int .i64 ((rd_T53 x3_1 x4_1).f2)) := hcc10 2 _ rfl; have hf10_0 : w11.frozen? ⟨go10, (x4_1 : Int).toNat * 3, none⟩ = false := hfr10 0; have hf10_1 : w11.frozen? ⟨go10, (x4_1 : Int).toNat * 3 + 1, none⟩ = false := hfr10 1; have hf10_2 : w11.frozen? ⟨go10, (x4_1 : Int).toNat * 3 + 2, none⟩ = false := hfr10 2; clear hcl10 hcc10 hfr10 hM10; replace p10 := eq_true p10; replace q10 := eq_true q10; obtain ⟨Ao14, co14, eo14⟩ := Kd.R_slice HO108.out; subst eo14; have n_ := aM (Kd.S_mono (ok' := (fun k_ => some k_ ≠ (.slice Ao14 t106.length co14 : Value).ownBlock)) HO_3.out (fun k_ hk => hk.2)); clear HO_3; have HO_3 := n_; clear n_; have HX12 := aM (show Kd.S k53 53 w11 w.heap.size (fun k_ => ((fun _ => True)) k_ ∧ ¬ ((fun k_ => some k_ = (.slice Ao14 t106.length co14 : Value).ownBlock)) k_) (.slice (some ⟨go10, 0, none⟩) x3_1.length co10) x3_1 from (by (with_reducible repeat (first | apply Kd.S_alloc | apply Kd.S_drewN | apply Kd.S_drew)); exact Kd.S_mono HO_3.out (fun k_ hk => ⟨trivial, fun e_ => hk e_⟩))); obtain ⟨oki12, ce12, hcl12, hM12, hcc12, hfr12, hoki12, hH12⟩ := Kd.S_elem HX12.out z53 (x4_1 : Int) (of_decide_eq_true z1200) (by have h_ : (x4_1 : Int) < ((x3_1.length : Int) : Int) := of_decide_eq_true z1200; first | exact h_ | (have e_ := (Kd.S_reads' HO_3.out).1; omega) | simpa using h_); obtain ⟨ve12_1, rfl, ge12_1⟩ := k53_openM hM12; have HP12 := Kd.S_seg hH12 (of_decide_eq_true z1200) (by have h_ : (x4_1 : Int) < ((x3_1.length : Int) : Int) := of_decide_eq_true z1200; first | exact h_ | (have e_ := (Kd.S_reads' HO_3.out).1; omega) | simpa using h_) (seg := [.string t105, .slice Ao14 t106.length co14, .int .i64 t109]) (j := 0) (show 3 ≤ 3 from by decide) (x' := (⟨t105, t106, t109⟩ : S53)) (k53_mkM _ _ _ (⟨t105, t106, t109⟩ : S53) (Kd.R_mono (Kd.R_tight rfl (Kd.R_mono (ok' := fun k_ => ((fun _ => True)) k_ ∧ k_ ≠ go10) (Kd.R_apart' (HO108.out) (Kd.S_typed HO_3.out) (by decide)) (fun k_ hk => ⟨trivial, fun e_ => (hk.2) (by rw [e_]; rfl)⟩))) (fun _ h_ => Or.inr (h_)))) (fun _ hk => hk) (fun k_ hk_ => ((Kd.R_mono (ok' := fun k_ => ((fun _ => True)) k_ ∧ k_ ≠ go10) (Kd.R_apart' (HO108.out) (Kd.S_typed HO_3.out) (by decide)) (fun k_ hk => ⟨trivial, fun e_ => (hk.2) (by rw [e_]; rfl)⟩))).1 k_ hk_.symm); have hx12_0 := hcc12 0 _ rfl; (try simp only [show (k53).sz = 3 from rfl, Nat.mul_one, Nat.add_zero] at hx12_0); have hf12_0 := hfr12 0; (try simp only [show (k53).sz = 3 from rfl, Nat.mul_one, Nat.add_zero] at hf12_0); have hx12_1 := hcc12 1 _ rfl; (try simp only [show (k53).sz = 3 from rfl, Nat.mul_one, Nat.add_zero] at hx12_1); have hf12_1 := hfr12 1; (try simp only [show (k53).sz = 3 from rfl, Nat.mul_one, Nat.add_zero] at hf12_1); have hx12_2 := hcc12 2 _ rfl; (try simp only [show (k53).sz = 3 from rfl, Nat.mul_one, Nat.add_zero] at hx12_2); have hf12_2 := hfr12 2; (try simp only [show (k53).sz = 3 from rfl, Nat.mul_one, Nat.add_zero] at hf12_2); clear hcl12 hcc12 hfr12 hM12 hoki12 hH12) | ((with_reducible refine gate_store (t := 53) (p := 21) rfl ?_); refine store_event (t := 53) (p := 21) (v := ?vo_w13) (w1 := (((w11.setCell ⟨go10, (x4_1 : Int).toNat * 3, none⟩ (.string t105)).setCell ⟨go10, (x4_1 : Int).toNat * 3 + 1, none⟩ (.slice Ao14 t106.length co14)).setCell ⟨go10, (x4_1 : Int).toNat * 3 + 2, none⟩ (.int .i64 t109))) ?hg ?ho ?hn ?hr ?_; (case ho => rfl); (case hg => rfl); (case hn => rfl); (case hr => first | (go_simp; done) | (go_simp; rfl)); intro w13 hw; have hg : w11.grownBy w13 (some go10) := (by rw [hw]; exact HP12.2); have hp_ : Kd.S k53 53 w13 w.heap.size (fun _ => True) (.slice (some ⟨go10, 0, none⟩) x3_1.length co10) y110 := (by rw [hw, Ny110.out]; exact HP12.1); clear HP12; have _ := aM hp_; have _ := aM ((by rw [hw]; exact below_set (below_set (below_set (HB.out) GB10.out) GB10.out) GB10.out : Below w.heap.size w w13)); clear HO_3 HB HO108; rename_i HO_3 HB; clear hg hw hp_))
     go_roundg k1
     case measure => have := HK1.out; omega
     case rel => exact ⟨(y110), (wrap64 (x4_1 + 1)), z4458, H', ⟨zfb39⟩, ⟨zd74a⟩, ⟨z5acd⟩⟩
   · rw [if_neg c6] at H
     have c6b0 := nL c6
     clear c6
     obtain rfl := Option.some.inj H
     go_wp2
     go_ret
     exact ⟨_, z674d, zd74a, z5acd⟩
end Go.Proofs.YtmlclmbplbbbhaaDoor.P

-- written by a program of this session's (wip/pp)
namespace Go.Proofs.YtmlclmbplbbbhaaDoor.P
open Go.RowKit Go.Proofs.YtmlclmbplbbbhaaDoorW.PrintWords Go.Proofs.YtmlclmbplbbbhaaDoorW.PrintLast Go.Proofs.YtmlclmbplbbbhaaDoorW.PrintMore
attribute [local go_sem] max2_int min2_int max_two min_two max_three min_three max_four min_four str_geq str_gtr str_leq   -- for this text's walks alone
set_option linter.unusedVariables false
set_option linter.unusedSimpArgs false

/-! ### laws_toFiles: function 11 -/
def laws_toFiles.f (k : Nat) (a0_0 : Int) (l0_1 : List (S84)) : Option (Int × (List (S53))) := (laws_toFileS.f k l0_1).bind fun t104 => (some (a0_0, t104))
theorem laws_toFiles.mono : ∀ a0 a1 k, LeO (laws_toFiles.f k a0 a1) (laws_toFiles.f (k + 1) a0 a1) := by
 intro a0 a1 k
 have m0 := @laws_toFileS.mono
 unfold laws_toFiles.f
 exact moZ
set_option maxHeartbeats 8000000 in
set_option maxRecDepth 100000 in
theorem laws_toFiles.calls (k : Nat) (a0_0 : Int) (A0_1 : Option Addr) (c0_1 : Nat) (l0_1 : List (S84)) (r1 : Int) (r2 : List (S53)) (w : World) (hr0_1 : Kd.C k84 w A0_1 l0_1.length l0_1) (hc0_1 : l0_1.length ≤ c0_1) (h : laws_toFiles.f k a0_0 l0_1 = some (r1, r2)) :
 Calls Tryd.prog 11 #[.agg #[.int .i64 a0_0, .slice A0_1 l0_1.length c0_1]] w fun e w' => ∃ v1_ : Value, e = .returned (.agg #[.int .i64 r1, v1_]) ∧ Kd.S k53 53 w' w.heap.size (fun _ => True) v1_ r2 ∧ Below w.heap.size w w' := by
 have hu24 := Tryd.underlying24
 have hu29 := Tryd.underlying29
 have HR0_1 := aM hr0_1
 have HC0_1 := aM hc0_1
 clear hr0_1 hc0_1
 have HB := aM (Below.refl w.heap.size w)
 have H : ((laws_toFileS.f k l0_1).bind fun t104 => (some (a0_0, t104))) = some (r1, r2) := h
 clear h
 obtain ⟨t104, A2, H⟩ := bS H; try dsimp only at H
 simp only [Option.some.injEq, Prod.mk.injEq] at H
 obtain ⟨rfl, rfl⟩ := H
 go_enter Tryd.func11, Tryd.ntmps11
 go_wp2_with (first | ((with_reducible refine gate_dst (N := 1) rfl ?_); refine bX 1 24 #[.int .i64 a0_0, .slice A0_1 l0_1.length c0_1] ?_; intro gb101 hg w3 hbox hb; have _ := aM (below_step hbZ hb); have _ := aM hbox; have _ := szZ hg; have _ := szZ hg; clear HB; rename_i HB BK101 GW101 GE101; clear hb hbox hg) | ((with_reducible refine gate_dst (N := 2) rfl ?_); refine bX 2 29 #[.int .i64 0, .slice none 0 0] ?_; intro gb102 hg w4 hbox hb; have _ := bB gb101 hb; have _ := aM (below_step hbZ hb); have _ := aM hbox; have _ := szZ hg; have _ := szZ hg; have ⟨_, _⟩ := nbB gb101 hg; clear BK101 HB; rename_i BK101 HB BK102 GW102 GE102 NB101_102 NB102_101; clear hb hbox hg) | ((with_reducible refine gate_dst (N := 3) rfl ?_); refine bX 3 29 #[.int .i64 0, .slice none 0 0] ?_; intro gb103 hg w5 hbox hb; have _ := bB gb101 hb; have _ := bB gb102 hb; have _ := aM (below_step hbZ hb); have _ := aM hbox; have _ := szZ hg; have _ := szZ hg; have ⟨_, _⟩ := nbB gb101 hg; have ⟨_, _⟩ := nbB gb102 hg; clear BK101 BK102 HB; rename_i BK101 BK102 HB BK103 GW103 GE103 NB101_103 NB103_101 NB102_103 NB103_102; clear hb hbox hg; have hnb6 := NB101_102.out; have hnc6 := NB102_101.out; have hnb7 := NB101_103.out; have hnc7 := NB103_101.out; have hz8 := cellsZ2 BK101.out; have hnb9 := NB103_102.out; have hnc9 := NB102_103.out; have hz10 := cellsZ2 BK103.out) | ((with_reducible refine gate_callee (f := 38) rfl ?_); refine gL 9 Tryd.func38 #[.slice A0_1 l0_1.length c0_1] ?_; (with_reducible refine (laws_toFileS.calls k _ _ l0_1 t104 _ ?side1 ?side2 A2.out).mono ?_); (case side1 => exact Kd.C_below HR0_1.out hbZ); (case side2 => exact HC0_1.out); rintro e w11 ⟨v105, rfl, ho0, hb⟩; refine ⟨_, rfl, ?_⟩; have _ := aM (Kd.S_lower ho0 (below_size hbZ)); have _ := bB gb101 hb; have _ := bB gb102 hb; have _ := aM (blk_below (g := gb103) (o := .cells #[.int .i64 a0_0, .slice none 0 0] 29 (0, 0)) bkZ hb); have _ := aM (below_step hbZ hb); clear BK101 BK102 BK103 HB; rename_i HO106 BK101 BK102 BK103 HB; (try clear hb); (try clear ho0); obtain ⟨Ao12, co12, eo12⟩ := Kd.S_slice HO106.out; subst eo12; have hz13 := cellsZ2 BK103.out; have hz14 := cellsZ2 BK102.out))
 refine bodyPost_ret (results_cell_row rfl _ _ gb102 29 #[.int .i64 a0_0, .slice Ao12 t104.length co12] (0, 0) _ rfl bkZ Tryd.underlying29 rfl (by kernel_rfl)) rfl ?_
 exact ⟨_, z674d, by (with_reducible repeat (first | apply Kd.S_alloc | apply Kd.S_drewN | apply Kd.S_drew)); exact Kd.S_mono (Kd.S_far (p := ⟨gb102, 1, none⟩) (Kd.S_far (p := ⟨gb102, 0, none⟩) (Kd.S_far (p := ⟨gb103, 1, none⟩) (Kd.S_types (Kd.S_types HO106.out BK103.out (by decide)) BK102.out (by decide)) (fun _ hk => hk.1.2) (.slice Ao12 t104.length co12)) (fun _ hk => hk.2) (.int .i64 a0_0)) (fun _ hk => hk.2) (.slice Ao12 t104.length co12)) (fun _ hk => trivial), zcb41⟩

end Go.Proofs.YtmlclmbplbbbhaaDoor.P

-- written by a program of this session's (wip/pp)
namespace Go.Proofs.YtmlclmbplbbbhaaDoor.P
open Go.RowKit Go.Proofs.YtmlclmbplbbbhaaDoorW.PrintWords Go.Proofs.YtmlclmbplbbbhaaDoorW.PrintLast Go.Proofs.YtmlclmbplbbbhaaDoorW.PrintMore
attribute [local go_sem] max2_int min2_int max_two min_two max_three min_three max_four min_four str_geq str_gtr str_leq   -- for this text's walks alone
set_option linter.unusedVariables false
set_option linter.unusedSimpArgs false

/-! ### laws_eqByteS: function 15 -/
def laws_eqByteS.l0 : Nat → List Int → List Int → Int → Option (Bool)
 | 0, _, _, _ => none
 | k + 1, x0, x1, x5 => if x5 < (x0.length : Int) then (if 0 ≤ x5 then (if x5 < (x1.length : Int) then (if (rd x0 x5) = (rd x1 x5) then (laws_eqByteS.l0 k x0 x1 (wrap64 (x5 + 1))) else (none)) else (none)) else (none)) else (some true)
def laws_eqByteS.f (k : Nat) (l0 : List Int) (l1 : List Int) : Option (Bool) := if (l0.length : Int) = (l1.length : Int) then (laws_eqByteS.l0 k l0 l1 0) else (none)
theorem laws_eqByteS.mono_l : ∀ k, (∀ y0 y1 y2, LeO (laws_eqByteS.l0 k y0 y1 y2) (laws_eqByteS.l0 (k + 1) y0 y1 y2))
 | 0 => fun _ _ _ r h => by simp [laws_eqByteS.l0] at h
 | k + 1 => by
  have ih0 := laws_eqByteS.mono_l k
  · intro y0 y1 y2
    unfold laws_eqByteS.l0
    exact moZ
theorem laws_eqByteS.mono : ∀ a0 a1 k, LeO (laws_eqByteS.f k a0 a1) (laws_eqByteS.f (k + 1) a0 a1) := by
 intro a0 a1 k
 have ih0 := laws_eqByteS.mono_l k
 unfold laws_eqByteS.f
 exact moZ
set_option maxHeartbeats 8000000 in
set_option maxRecDepth 100000 in
theorem laws_eqByteS.calls (k : Nat) (A0 : Option Addr) (c0 : Nat) (l0 : List Int) (A1 : Option Addr) (c1 : Nat) (l1 : List Int) (r : Bool) (w : World) (hr0 : Kd.C (Kd.int .u8) w A0 l0.length l0) (hc0 : l0.length ≤ c0) (hr1 : Kd.C (Kd.int .u8) w A1 l1.length l1) (hc1 : l1.length ≤ c1) (h : laws_eqByteS.f k l0 l1 = some r) :
 Calls Tryd.prog 15 #[.slice A0 l0.length c0, .slice A1 l1.length c1] w fun e w' => e = .returned (.bool r) ∧ Drawn0 w w' := by
 have HR0 := aM hr0
 have HC0 := aM hc0
 clear hr0 hc0
 have HR1 := aM hr1
 have HC1 := aM hc1
 clear hr1 hc1
 have H : (if (l0.length : Int) = (l1.length : Int) then (laws_eqByteS.l0 k l0 l1 0) else (none)) = some r := h
 clear h
 replace H := ifS H; obtain ⟨c3, H⟩ := H
 have c3b0 := eqE c3
 have c3b2 : (l0.length == l1.length) = true := by first | simpa using c3 | (simp at c3 ⊢; omega)
 clear c3
 have H' := aM H
 clear H
 go_enter Tryd.func15, Tryd.ntmps15
 go_wp2
 repeat (go_quiet (fail); try go_wp2)
 go_loopg [5] k (fun kq v5 w' => ∃ (x5_1 : Int), v5 = .int .i64 x5_1 ∧ Aside0 (laws_eqByteS.l0 kq l0 l1 x5_1 = some r) ∧ Aside0 (kq ≤ k) ∧ Drawn0 w w')
 case atStart => exact ⟨(0), z4458, H', ⟨Nat.le_refl _⟩, za9de⟩
 case round =>
  clear H'
  (try clear c1); (try clear c3b0); (try clear c3b2)
  obtain ⟨x5_1, rfl, HA, HK1, ⟨m1, rfl⟩⟩ := hrel
  cases gk with
  | zero => exact absurd HA.out (by simp [laws_eqByteS.l0])
  | succ k1 =>
   have H := HA.out
   clear HA
   simp only [laws_eqByteS.l0] at H
   by_cases c4 : x5_1 < (l0.length : Int)
   · rw [if_pos c4] at H
     have c4b0 := dL c4
     clear c4
     obtain ⟨c5b0, H⟩ := sE H
     obtain ⟨c6b0, H⟩ := sL H
     replace H := ifS H; obtain ⟨c7, H⟩ := H
     have c7b0 := eqE c7
     clear c7
     have H' := aM H
     clear H
     have p101 : 0 ≤ (x5_1 : Int) := of_decide_eq_true z1200
     have q101 : x5_1 < (l0.length : Int) := of_decide_eq_true z1200
     obtain ⟨ad101, e101, hx101_0⟩ := Kd.at_int HR0.out x5_1 p101 q101
     cases e101
     replace p101 := eq_true p101
     replace q101 := eq_true q101
     have p102 : 0 ≤ (x5_1 : Int) := of_decide_eq_true z1200
     have q102 : x5_1 < (l1.length : Int) := of_decide_eq_true z1200
     obtain ⟨ad102, e102, hx102_0⟩ := Kd.at_int HR1.out x5_1 p102 q102
     cases e102
     replace p102 := eq_true p102
     replace q102 := eq_true q102
     go_wp2
     repeat (go_quiet (fail); try go_wp2)
     go_roundg k1
     case measure => have := HK1.out; omega
     case rel => exact ⟨(wrap64 (x5_1 + 1)), z4458, H', ⟨zfb39⟩, za9de⟩
   · rw [if_neg c4] at H
     have c4b0 := nL c4
     clear c4
     obtain rfl := Option.some.inj H
     go_wp2
     repeat (go_quiet (fail); try go_wp2)
     go_ret
     exact ⟨z4458, za9de⟩
end Go.Proofs.YtmlclmbplbbbhaaDoor.P

-- written by a program of this session's (wip/pp)
namespace Go.Proofs.YtmlclmbplbbbhaaDoor.P
open Go.RowKit Go.Proofs.YtmlclmbplbbbhaaDoorW.PrintWords Go.Proofs.YtmlclmbplbbbhaaDoorW.PrintLast Go.Proofs.YtmlclmbplbbbhaaDoorW.PrintMore
attribute [local go_sem] max2_int min2_int max_two min_two max_three min_three max_four min_four str_geq str_gtr str_leq   -- for this text's walks alone
set_option linter.unusedVariables false
set_option linter.unusedSimpArgs false

/-! ### laws_eqFile: function 72 -/
def laws_eqFile.f (k : Nat) (a0_0 : ByteArray) (l0_1 : List Int) (a0_2 : Int) (a1_0 : ByteArray) (l1_1 : List Int) (a1_2 : Int) : Option (Bool) := if a0_0.toList = a1_0.toList then ((laws_eqByteS.f k l0_1 l1_1).bind fun t103 => (if t103 = true then (if a0_2 = a1_2 then (some true) else (none)) else (none))) else (none)
theorem laws_eqFile.mono : ∀ a0 a1 a2 a3 a4 a5 k, LeO (laws_eqFile.f k a0 a1 a2 a3 a4 a5) (laws_eqFile.f (k + 1) a0 a1 a2 a3 a4 a5) := by
 intro a0 a1 a2 a3 a4 a5 k
 have m0 := @laws_eqByteS.mono
 unfold laws_eqFile.f
 exact moZ
set_option maxHeartbeats 8000000 in
set_option maxRecDepth 100000 in
theorem laws_eqFile.calls (k : Nat) (a0_0 : ByteArray) (A0_1 : Option Addr) (c0_1 : Nat) (l0_1 : List Int) (a0_2 : Int) (a1_0 : ByteArray) (A1_1 : Option Addr) (c1_1 : Nat) (l1_1 : List Int) (a1_2 : Int) (r : Bool) (w : World) (hr0_1 : Kd.C (Kd.int .u8) w A0_1 l0_1.length l0_1) (hc0_1 : l0_1.length ≤ c0_1) (hr1_1 : Kd.C (Kd.int .u8) w A1_1 l1_1.length l1_1) (hc1_1 : l1_1.length ≤ c1_1) (h : laws_eqFile.f k a0_0 l0_1 a0_2 a1_0 l1_1 a1_2 = some r) :
 Calls Tryd.prog 72 #[.agg #[.string a0_0, .slice A0_1 l0_1.length c0_1, .int .i64 a0_2], .agg #[.string a1_0, .slice A1_1 l1_1.length c1_1, .int .i64 a1_2]] w fun e w' => e = .returned (.bool r) ∧ Below w.heap.size w w' := by
 have hu53 := Tryd.underlying53
 have HR0_1 := aM hr0_1
 have HC0_1 := aM hc0_1
 clear hr0_1 hc0_1
 have HR1_1 := aM hr1_1
 have HC1_1 := aM hc1_1
 clear hr1_1 hc1_1
 have HB := aM (Below.refl w.heap.size w)
 have H : (if a0_0.toList = a1_0.toList then ((laws_eqByteS.f k l0_1 l1_1).bind fun t103 => (if t103 = true then (if a0_2 = a1_2 then (some true) else (none)) else (none))) else (none)) = some r := h
 clear h
 replace H := ifS H; obtain ⟨c3, H⟩ := H
 have c3b0 := eqE c3
 clear c3
 obtain ⟨t103, A4, H⟩ := bS H; try dsimp only at H
 by_cases c5 : t103 = true
 · subst c5
   rw [if_pos rfl] at H
   replace H := ifS H; obtain ⟨c6, H⟩ := H
   have c6b0 := eqE c6
   clear c6
   obtain rfl := Option.some.inj H
   go_enter Tryd.func72, Tryd.ntmps72
   go_wp2_with (first | ((with_reducible refine gate_dst (N := 2) rfl ?_); refine bX 2 53 #[.string a0_0, .slice A0_1 l0_1.length c0_1, .int .i64 a0_2] ?_; intro gb101 hg w7 hbox hb; have _ := aM (below_step hbZ hb); have _ := aM hbox; have _ := szZ hg; have _ := szZ hg; clear HB; rename_i HB BK101 GW101 GE101; clear hb hbox hg) | ((with_reducible refine gate_dst (N := 3) rfl ?_); refine bX 3 53 #[.string a1_0, .slice A1_1 l1_1.length c1_1, .int .i64 a1_2] ?_; intro gb102 hg w8 hbox hb; have _ := bB gb101 hb; have _ := aM (below_step hbZ hb); have _ := aM hbox; have _ := szZ hg; have _ := szZ hg; have ⟨_, _⟩ := nbB gb101 hg; clear BK101 HB; rename_i BK101 HB BK102 GW102 GE102 NB101_102 NB102_101; clear hb hbox hg; have hnb9 := NB101_102.out; have hnc9 := NB102_101.out; have hz10 := cellsZ3 BK101.out; have hz11 := cellsZ3 BK102.out) | ((with_reducible refine gate_callee (f := 15) rfl ?_); refine gL 14 Tryd.func15 #[.slice A0_1 l0_1.length c0_1, .slice A1_1 l1_1.length c1_1] ?_; (with_reducible refine (laws_eqByteS.calls k _ _ l0_1 _ _ l1_1 true _ ?side1 ?side2 ?side3 ?side4 A4.out).mono ?_); (case side1 => exact (cZ (Kd.C_below HR0_1.out HB.out))); (case side2 => exact HC0_1.out); (case side3 => exact (cZ (Kd.C_below HR1_1.out HB.out))); (case side4 => exact HC1_1.out); rintro e w' ⟨rfl, ⟨nd, rfl⟩⟩; refine ⟨_, rfl, ?_⟩))
   go_ret
   exact ⟨z674d, zcb41⟩
 · replace c5 := Bool.eq_false_iff.mpr c5
   subst c5
   rw [if_neg (show ¬ (false = true) by decide)] at H
   exact absurd H (by simp)
end Go.Proofs.YtmlclmbplbbbhaaDoor.P

-- written by a program of this session's (wip/pp)
namespace Go.Proofs.YtmlclmbplbbbhaaDoor.P
open Go.RowKit Go.Proofs.YtmlclmbplbbbhaaDoorW.PrintWords Go.Proofs.YtmlclmbplbbbhaaDoorW.PrintLast Go.Proofs.YtmlclmbplbbbhaaDoorW.PrintMore
attribute [local go_sem] max2_int min2_int max_two min_two max_three min_three max_four min_four str_geq str_gtr str_leq   -- for this text's walks alone
set_option linter.unusedVariables false
set_option linter.unusedSimpArgs false

/-! ### laws_eqFileS: function 42 -/
def laws_eqFileS.l0 : Nat → List (S53) → List (S53) → Int → Option (Bool)
 | 0, _, _, _ => none
 | k + 1, x0, x1, x5 => if x5 < (x0.length : Int) then (if 0 ≤ x5 then (if x5 < (x1.length : Int) then ((laws_eqFile.f k ((rd_T53 x0 x5).f0) ((rd_T53 x0 x5).f1) ((rd_T53 x0 x5).f2) ((rd_T53 x1 x5).f0) ((rd_T53 x1 x5).f1) ((rd_T53 x1 x5).f2)).bind fun t103 => (if t103 = true then (laws_eqFileS.l0 k x0 x1 (wrap64 (x5 + 1))) else (none))) else (none)) else (none)) else (some true)
def laws_eqFileS.f (k : Nat) (l0 : List (S53)) (l1 : List (S53)) : Option (Bool) := if (l0.length : Int) = (l1.length : Int) then (laws_eqFileS.l0 k l0 l1 0) else (none)
theorem laws_eqFileS.mono_l : ∀ k, (∀ y0 y1 y2, LeO (laws_eqFileS.l0 k y0 y1 y2) (laws_eqFileS.l0 (k + 1) y0 y1 y2))
 | 0 => fun _ _ _ r h => by simp [laws_eqFileS.l0] at h
 | k + 1 => by
  have ih0 := laws_eqFileS.mono_l k; have m0 := @laws_eqFile.mono
  · intro y0 y1 y2
    unfold laws_eqFileS.l0
    exact moZ
theorem laws_eqFileS.mono : ∀ a0 a1 k, LeO (laws_eqFileS.f k a0 a1) (laws_eqFileS.f (k + 1) a0 a1) := by
 intro a0 a1 k
 have ih0 := laws_eqFileS.mono_l k
 have m0 := @laws_eqFile.mono
 unfold laws_eqFileS.f
 exact moZ
def laws_eqFileS.T6 : Bool × List (List Nat × List Nat) := (true, [([], []), ([], []), ([0, 1], [0, 1]), ([2], [2]), ([], []), ([], []), ([4, 5], [4, 5]), ([6], [6]), ([3, 7], [3, 7]), ([8], [8])])
def laws_eqFileS.B6 : List Nat := [0, 0, 3, 7, 0, 0, 48, 112, 255, 511]
theorem laws_eqFileS.tab6 : rtab .any (opsOf Tryd.f42 6) = laws_eqFileS.T6 := by kernel_rfl
theorem laws_eqFileS.bits6 : waitsOk laws_eqFileS.T6.2 laws_eqFileS.B6 = true := by kernel_rfl
set_option maxHeartbeats 8000000 in
set_option maxRecDepth 100000 in
theorem laws_eqFileS.calls (k : Nat) (A0 : Option Addr) (c0 : Nat) (l0 : List (S53)) (A1 : Option Addr) (c1 : Nat) (l1 : List (S53)) (r : Bool) (w : World) (hr0 : Kd.C k53 w A0 l0.length l0) (hc0 : l0.length ≤ c0) (hr1 : Kd.C k53 w A1 l1.length l1) (hc1 : l1.length ≤ c1) (h : laws_eqFileS.f k l0 l1 = some r) :
 Calls Tryd.prog 42 #[.slice A0 l0.length c0, .slice A1 l1.length c1] w fun e w' => e = .returned (.bool r) ∧ Below w.heap.size w w' := by
 have hu53 := Tryd.underlying53
 have HR0 := aM hr0
 have HC0 := aM hc0
 clear hr0 hc0
 have HR1 := aM hr1
 have HC1 := aM hc1
 clear hr1 hc1
 have HB := aM (Below.refl w.heap.size w)
 have H : (if (l0.length : Int) = (l1.length : Int) then (laws_eqFileS.l0 k l0 l1 0) else (none)) = some r := h
 clear h
 replace H := ifS H; obtain ⟨c3, H⟩ := H
 have c3b0 := eqE c3
 have c3b2 : (l0.length == l1.length) = true := by first | simpa using c3 | (simp at c3 ⊢; omega)
 clear c3
 have H' := aM H
 clear H
 go_enter Tryd.func42, Tryd.ntmps42
 go_wp2
 go_loopg [5] k (fun kq v5 w' => ∃ (x5_1 : Int), v5 = .int .i64 x5_1 ∧ Aside0 (laws_eqFileS.l0 kq l0 l1 x5_1 = some r) ∧ Aside0 (kq ≤ k) ∧ Aside0 (Below w.heap.size w w'))
 case atStart => exact ⟨(0), z4458, H', ⟨Nat.le_refl _⟩, ⟨z5acd⟩⟩
 case round =>
  clear H'
  (try clear c1); (try clear c3b0); (try clear c3b2)
  obtain ⟨x5_1, rfl, HA, HK1, HB⟩ := hrel
  cases gk with
  | zero => exact absurd HA.out (by simp [laws_eqFileS.l0])
  | succ k1 =>
   have H := HA.out
   clear HA
   simp only [laws_eqFileS.l0] at H
   by_cases c4 : x5_1 < (l0.length : Int)
   · rw [if_pos c4] at H
     have c4b0 := dL c4
     clear c4
     obtain ⟨c5b0, H⟩ := sE H
     obtain ⟨c6b0, H⟩ := sL H
     obtain ⟨t103, A7, H⟩ := bS H; try dsimp only at H
     by_cases c8 : t103 = true
     · subst c8
       rw [if_pos rfl] at H
       have H' := aM H
       clear H
       try go_wp2
       have _ := aM (below_drew1 HB.out)
       clear HB
       rename_i HB
       have p101 : 0 ≤ (x5_1 : Int) := of_decide_eq_true z1200
       have q101 : x5_1 < (l0.length : Int) := of_decide_eq_true z1200
       obtain ⟨ad101, A101_1, c101_1, e101, hx101_0, hx101_1, hx101_2, hl101_1, hi101_1⟩ := at_T53 HR0.out x5_1 p101 q101
       have hw101_2 := hx101_2
       have hw101_1 := hx101_1
       have hw101_0 := hx101_0
       cases e101
       have TW101_1 := aM hx101_1
       replace hx101_0 := (HB.out.cell (World.block_lt_of_cell? w _ hx101_0)).trans hx101_0
       replace hx101_1 := (HB.out.cell (World.block_lt_of_cell? w _ hx101_1)).trans hx101_1
       replace hx101_2 := (HB.out.cell (World.block_lt_of_cell? w _ hx101_2)).trans hx101_2
       have HR101_1 := aM hi101_1
       have HC101_1 := aM hl101_1
       clear hi101_1 hl101_1
       replace p101 := eq_true p101
       replace q101 := eq_true q101
       have p102 : 0 ≤ (x5_1 : Int) := of_decide_eq_true z1200
       have q102 : x5_1 < (l1.length : Int) := of_decide_eq_true z1200
       obtain ⟨ad102, A102_1, c102_1, e102, hx102_0, hx102_1, hx102_2, hl102_1, hi102_1⟩ := at_T53 HR1.out x5_1 p102 q102
       have hw102_2 := hx102_2
       have hw102_1 := hx102_1
       have hw102_0 := hx102_0
       cases e102
       have TW102_1 := aM hx102_1
       replace hx102_0 := (HB.out.cell (World.block_lt_of_cell? w _ hx102_0)).trans hx102_0
       replace hx102_1 := (HB.out.cell (World.block_lt_of_cell? w _ hx102_1)).trans hx102_1
       replace hx102_2 := (HB.out.cell (World.block_lt_of_cell? w _ hx102_2)).trans hx102_2
       have HR102_1 := aM hi102_1
       have HC102_1 := aM hl102_1
       clear hi102_1 hl102_1
       replace p102 := eq_true p102
       replace q102 := eq_true q102
       refine sA 10 laws_eqFileS.tab6 laws_eqFileS.bits6 (fun w' => w'.cell? (ad101.add ((x5_1).toNat * 3)) = some (.string ((rd_T53 l0 x5_1).f0)) ∧ w'.cell? ⟨(ad101.add ((x5_1).toNat * 3)).block, (ad101.add ((x5_1).toNat * 3)).off + 1, none⟩ = some (.slice A101_1 ((rd_T53 l0 x5_1).f1).length c101_1) ∧ w'.cell? ⟨(ad101.add ((x5_1).toNat * 3)).block, (ad101.add ((x5_1).toNat * 3)).off + 2, none⟩ = some (.int .i64 ((rd_T53 l0 x5_1).f2)) ∧ w'.cell? (ad102.add ((x5_1).toNat * 3)) = some (.string ((rd_T53 l1 x5_1).f0)) ∧ w'.cell? ⟨(ad102.add ((x5_1).toNat * 3)).block, (ad102.add ((x5_1).toNat * 3)).off + 1, none⟩ = some (.slice A102_1 ((rd_T53 l1 x5_1).f1).length c102_1) ∧ w'.cell? ⟨(ad102.add ((x5_1).toNat * 3)).block, (ad102.add ((x5_1).toNat * 3)).off + 2, none⟩ = some (.int .i64 ((rd_T53 l1 x5_1).f2))) [] (fun hHeld HT_ HW_ => ?_)
       generalize wr.drew = w9 at HB HR101_1 HR102_1 hx101_0 hx101_1 hx101_2 hx102_0 hx102_1 hx102_2 hHeld ⊢
       refine pA 0 17 HT_ ?_; refine pA 1 18 HT_ ?_; refine pA 2 19 HT_ ?_; refine pA 4 21 HT_ ?_; refine pA 5 22 HT_ ?_; refine pA 6 23 HT_ ?_; refine tA 3 20 HT_ HW_ hHeld ?_; refine tA 7 24 HT_ HW_ hHeld ?_; refine oA 8 25 HT_ (fun K hK => ?_)
       refine goes_ Tryd.func72 (by kernel_rfl) rfl #[.agg #[.string ((rd_T53 l0 x5_1).f0), .slice A101_1 ((rd_T53 l0 x5_1).f1).length c101_1, .int .i64 ((rd_T53 l0 x5_1).f2)], .agg #[.string ((rd_T53 l1 x5_1).f0), .slice A102_1 ((rd_T53 l1 x5_1).f1).length c102_1, .int .i64 ((rd_T53 l1 x5_1).f2)]] (by rfl) rfl rfl zee81 ?_
       with_reducible refine (laws_eqFile.calls k1 ((rd_T53 l0 x5_1).f0) _ _ ((rd_T53 l0 x5_1).f1) ((rd_T53 l0 x5_1).f2) ((rd_T53 l1 x5_1).f0) _ _ ((rd_T53 l1 x5_1).f1) ((rd_T53 l1 x5_1).f2) true _ ?side1 ?side2 ?side3 ?side4 A7.out).mono ?_
       (case side1 => exact (cZ (Kd.C_below HR101_1.out HB.out)))
       (case side2 => exact HC101_1.out)
       (case side3 => exact (cZ (Kd.C_below HR102_1.out HB.out)))
       (case side4 => exact HC102_1.out)
       rintro e w10 ⟨rfl, hb⟩
       refine ⟨_, rfl, ?_⟩
       have _ := aM (below_step hbZ hb)
       clear HB
       rename_i HB
       (try clear hb)
       refine hK.out _ _ sZ (fun hHeld => ?_)
       clear hK K
       refine nA 25 ?_; refine pA 9 26 HT_ ?_
       refine done_ (done_of HT_.out (by kernel_rfl)) ?_
       try go_wp2
       go_roundg k1
       case measure => have := HK1.out; omega
       case rel => exact ⟨(wrap64 (x5_1 + 1)), z4458, H', ⟨zfb39⟩, ⟨z5acd⟩⟩
     · replace c8 := Bool.eq_false_iff.mpr c8
       subst c8
       rw [if_neg (show ¬ (false = true) by decide)] at H
       exact absurd H (by simp)
   · rw [if_neg c4] at H
     have c4b0 := nL c4
     clear c4
     obtain rfl := Option.some.inj H
     go_wp2
     go_ret
     exact ⟨z674d, z5acd⟩
end Go.Proofs.YtmlclmbplbbbhaaDoor.P
