/- The statement's own text and the last of the walks that it uses. -/
import Derived.SizedLaws
import Derived.ChangeSlices
import Derived.Test.YtdkokfnnebdppaaRows
import Derived.WalkKit
import Derived.ProofKit
import Derived.OpenShut
import Derived.ShutString
import Derived.ChangeOld
import Derived.Below
import Derived.Test.YtdkokfnnebdppaaMFE6
/- Good entries stay good when a good one with a new number is put in its place. -/
namespace Go.Proofs.Ytdkokfnnebdppaa.Lem
open Go Go.RowKit Go.Proofs.Ytdkokfnnebdppaa.P Go.Proofs.YtdkokfnnebdppaaW.PrintWords Go.Proofs.YtdkokfnnebdppaaW.PrintLast Go.Proofs.YtdkokfnnebdppaaW.PrintMore
theorem before_else {a b : En} (h : ¬ Before a b) (hs : a.f1 ≠ b.f1) : Before b a := by
  unfold Before at h ⊢
  rcases ordB_three b.f0 a.f0 with q | q | q
  · exact .inl q
  · have e := ordB_eq q
    rw [e] at h ⊢
    have e0 : ordB a.f0 a.f0 = 0 := ordB_zero.2 rfl
    refine .inr ⟨e0, ?_⟩
    apply Classical.byContradiction
    intro hn
    exact h (.inr ⟨e0, by omega⟩)
  · refine absurd (.inl (ordB_lt.2 ?_)) h
    unfold ordB ord at q
    rw [Go.Lib.toList_data, Go.Lib.toList_data]
    split at q
    · exact absurd q (by decide)
    · split at q
      · assumption
      · exact absurd q (by decide)
theorem seq_not {e : En} {l : List En} (h : ¬ SeqFrom e l 0) : e.f1 ∉ l.map (·.f1) := by
  intro hm
  obtain ⟨a, ha, hae⟩ := List.mem_map.1 hm
  obtain ⟨j, hj, rfl⟩ := List.getElem_of_mem ha
  exact h ⟨j, Nat.zero_le _, hj, by rw [show en l j = l[j] from rdE_get hj]; exact hae⟩
theorem putL_lo {e : En} {l : List En} {j : Nat} (h : j < posE e l) (hj : j < (putL e l).length) : (putL e l)[j] = l[j]'(Nat.lt_of_lt_of_le h (pos_le e l)) := by
  have hp := pos_le e l
  have q : (putL e l)[j]? = l[j]? := by
    unfold putL
    rw [List.getElem?_append_left (by rw [List.length_append, List.length_take, List.length_singleton]; omega), List.getElem?_append_left (by rw [List.length_take]; omega), List.getElem?_take_of_lt h]
  rw [List.getElem?_eq_getElem hj, List.getElem?_eq_getElem (by omega)] at q
  exact Option.some.inj q
theorem putL_mid {e : En} {l : List En} (hj : posE e l < (putL e l).length) : (putL e l)[posE e l] = e := by
  have hp := pos_le e l
  have q : (putL e l)[posE e l]? = some e := by
    unfold putL
    rw [List.getElem?_append_left (by rw [List.length_append, List.length_take, List.length_singleton]; omega), List.getElem?_append_right (by rw [List.length_take]; omega), List.length_take, Nat.min_eq_left hp, Nat.sub_self]
    rfl
  rw [List.getElem?_eq_getElem hj] at q
  exact Option.some.inj q
theorem putL_hi {e : En} {l : List En} {j : Nat} (h : posE e l < j) (hj : j < (putL e l).length) : (putL e l)[j] = l[j - 1]'(by rw [putL_len] at hj; omega) := by
  have hp := pos_le e l
  have hl := putL_len e l
  have q : (putL e l)[j]? = l[j - 1]? := by
    unfold putL
    rw [List.getElem?_append_right (by rw [List.length_append, List.length_take, List.length_singleton]; omega), List.getElem?_drop, List.length_append, List.length_take, List.length_singleton, show posE e l + (j - (min (posE e l) l.length + 1)) = j - 1 by omega]
  rw [List.getElem?_eq_getElem hj, List.getElem?_eq_getElem (by omega)] at q
  exact Option.some.inj q
theorem putL_good {e : En} {l : List En} (hG : GoodEs l) (he : GoodE e) (hs : ¬ SeqFrom e l 0) : GoodEs (putL e l) := by
  have hp := pos_le e l
  have hl := putL_len e l
  refine ⟨fun j _ hj => ?_, ?_⟩
  · by_cases c1 : j < posE e l
    · rw [putL_lo c1 hj]
      obtain ⟨g1, g2⟩ := hG.1 j (Nat.zero_le _) (by omega)
      exact ⟨g1, fun h0 => by rw [putL_lo (show j - 1 < posE e l by omega) (by omega)]; exact g2 h0⟩
    · by_cases c2 : j = posE e l
      · subst c2
        rw [putL_mid hj]
        refine ⟨he, fun h0 => ?_⟩
        rw [putL_lo (show posE e l - 1 < posE e l by omega) (by omega)]
        have := pos_lt e l (posE e l - 1) (by omega)
        rw [show en l (posE e l - 1) = l[posE e l - 1] from rdE_get (by omega)] at this
        exact this
      · rw [putL_hi (show posE e l < j by omega) hj]
        obtain ⟨g1, g2⟩ := hG.1 (j - 1) (Nat.zero_le _) (by omega)
        refine ⟨g1, fun h0 => ?_⟩
        by_cases c3 : j - 1 = posE e l
        · have hlt : j - 1 < l.length := by omega
          have hst := pos_stop e l (by omega)
          rw [← c3, show en l (j - 1) = l[j - 1] from rdE_get hlt] at hst
          have hm : (putL e l)[j - 1] = e := by
            have := putL_mid (e := e) (l := l) (by omega)
            simp only [c3]; exact this
          rw [hm]
          exact before_else hst (fun q => hs ⟨j - 1, Nat.zero_le _, hlt, by rw [show en l (j - 1) = l[j - 1] from rdE_get hlt]; exact q⟩)
        · rw [putL_hi (show posE e l < j - 1 by omega) (by omega)]
          exact g2 (by omega)
  · unfold putL
    have e1 : ((l.take (posE e l) ++ [e] ++ l.drop (posE e l)).map (·.f1)).Perm (e.f1 :: l.map (·.f1)) := by
      rw [List.append_assoc, List.singleton_append]
      have h := (List.perm_middle (a := e) (l₁ := l.take (posE e l)) (l₂ := l.drop (posE e l))).map (·.f1)
      rw [List.take_append_drop] at h
      exact h
    rw [e1.nodup_iff, List.nodup_cons]
    exact ⟨seq_not hs, hG.2⟩
theorem ofKey_some {e : En} {l : List En} : e ∈ putL e l := by
  unfold putL
  exact List.mem_append_left _ (List.mem_append_right _ (List.mem_singleton.2 rfl))
def ofKey (key : ByteArray) (l : List En) : List En := l.filter fun e => decide (e.f0.toList = key.toList)
theorem ofKey_cons (key : ByteArray) (a : En) (l : List En) : ofKey key (a :: l) = if a.f0.toList = key.toList then a :: ofKey key l else ofKey key l := by
  unfold ofKey
  by_cases h : a.f0.toList = key.toList
  · rw [if_pos h, List.filter_cons_of_pos (by simpa using h)]
  · rw [if_neg h, List.filter_cons_of_neg (by simpa using h)]
theorem ofKey_length (key : ByteArray) (l : List En) : (ofKey key l).length ≤ l.length := List.length_filter_le ..
theorem ofKey_rows {key : ByteArray} {l : List En} (h : RowsE l) : RowsE (ofKey key l) := fun e he => h e (List.mem_filter.1 he).1
theorem entriesOf_l0 (key : ByteArray) {l : List En} (hl : l.length ≤ 1048576) (hh : RowsE l) : ∀ (d i k : Nat) (acc : List En), i + d = l.length → d < k → acc.length ≤ i → impl_entriesOf.l0 k key acc l (l.length : Int) (i : Int) = some (acc ++ ofKey key (l.drop i)) := by
  intro d
  induction d with
  | zero =>
    intro i k acc hi hk _
    obtain ⟨k, rfl⟩ : ∃ q, k = q + 1 := ⟨k - 1, by omega⟩
    rw [impl_entriesOf.l0, if_neg (by omega), List.drop_of_length_le (by omega)]
    show some acc = some (acc ++ [])
    rw [List.append_nil]
  | succ d ih =>
    intro i k acc hi hk ha
    obtain ⟨k, rfl⟩ : ∃ q, k = q + 1 := ⟨k - 1, by omega⟩
    have hlt : i < l.length := by omega
    have hw := hh l[i] (List.getElem_mem hlt)
    rw [impl_entriesOf.l0, if_pos (by omega), if_pos (by omega), if_pos (by omega), rdE_get hlt, drop_get hlt, ofKey_cons, wrapS hlt (by omega)]
    by_cases c : l[i].f0.toList = key.toList
    · rw [if_pos c, if_pos c, entryCloned_ok _ hw, Option.bind_some]
      dsimp only
      rw [if_pos (by omega), ih (i + 1) k _ (by omega) (by omega) (by rw [List.length_append, List.length_singleton]; omega), List.append_assoc]
      rfl
    · rw [if_neg c, if_neg c, ih (i + 1) k _ (by omega) (by omega) (by omega)]
theorem entriesOf_ok (key : ByteArray) {l : List En} (hl : l.length ≤ 1048576) (hh : RowsE l) {k : Nat} (hk : 1048577 < k) : impl_entriesOf.f k l key = some (ofKey key l) := entriesOf_l0 key hl hh l.length 0 k [] (by omega) (by omega) (Nat.le_refl _)
end Go.Proofs.Ytdkokfnnebdppaa.Lem
namespace Go.Proofs.Ytdkokfnnebdppaa.Pure
open Go Go.RowKit Go.Proofs.Ytdkokfnnebdppaa.P Go.Proofs.YtdkokfnnebdppaaW.PrintWords Go.Proofs.YtdkokfnnebdppaaW.PrintLast Go.Proofs.YtdkokfnnebdppaaW.PrintMore Go.Proofs.Ytdkokfnnebdppaa.Lem
theorem sameI_l0 {l : List Int} (hl : l.length ≤ 1048576) : ∀ (d i k : Nat), i + d = l.length → d < k → laws_sameInts.l0 k l l (l.length : Int) (i : Int) = some true := by
  intro d
  induction d with
  | zero =>
    intro i k hi hk
    obtain ⟨k, rfl⟩ : ∃ q, k = q + 1 := ⟨k - 1, by omega⟩
    rw [laws_sameInts.l0, if_neg (by omega)]
  | succ d ih =>
    intro i k hi hk
    obtain ⟨k, rfl⟩ : ∃ q, k = q + 1 := ⟨k - 1, by omega⟩
    rw [laws_sameInts.l0, if_pos (by omega), if_pos (by omega), if_pos (by omega), if_pos (by omega), if_pos rfl, wrapS (n := l.length) (by omega) (by omega)]
    exact ih (i + 1) k (by omega) (by omega)
theorem sameI_ok {l : List Int} (hl : l.length ≤ 1048576) {k : Nat} (hk : 1048577 < k) : laws_sameInts.f k l l = some true := by
  unfold laws_sameInts.f
  rw [if_pos rfl]
  exact sameI_l0 hl l.length 0 k (by omega) (by omega)
theorem sameE_l0 {l : List En} (hl : l.length ≤ 1048576) (hh : RowsE l) : ∀ (d i k : Nat), i + d = l.length → 1048580 + d < k → laws_sameEntries.l0 k l l (l.length : Int) (i : Int) = some true := by
  intro d
  induction d with
  | zero =>
    intro i k hi hk
    obtain ⟨k, rfl⟩ : ∃ q, k = q + 1 := ⟨k - 1, by omega⟩
    rw [laws_sameEntries.l0, if_neg (by omega)]
  | succ d ih =>
    intro i k hi hk
    obtain ⟨k, rfl⟩ : ∃ q, k = q + 1 := ⟨k - 1, by omega⟩
    have hlt : i < l.length := by omega
    have hr := hh l[i] (List.getElem_mem hlt)
    rw [laws_sameEntries.l0, if_pos (by omega), if_pos (by omega), if_pos (by omega), if_pos (by omega), if_pos rfl, if_pos rfl, if_pos rfl, rdE_get hlt]
    unfold laws_sameAggs.f
    rw [if_pos rfl, if_pos rfl, if_pos rfl, if_pos rfl, if_pos (beq_self_eq_true _), sameI_ok hr (by omega), Option.bind_some, Option.bind_some, if_pos rfl, wrapS hlt (by omega)]
    exact ih (i + 1) k (by omega) (by omega)
theorem sameE_ok {l : List En} (hl : l.length ≤ 1048576) (hh : RowsE l) {k : Nat} (hk : 3000000 < k) : laws_sameEntries.f k l l = some true := by
  unfold laws_sameEntries.f
  rw [if_pos rfl]
  exact sameE_l0 hl hh l.length 0 k (by omega) (by omega)
theorem tower_l0 {ks : List ByteArray} {key : ByteArray} {path : List Int} {n : Nat} (h30 : ks.length ≤ 30) (hn : n ≤ ks.length) (hp : path.length ≤ n) (ha : Ahead ks key n) (hs : n = ks.length ∨ Op.bytesLess (kt ks n) key.toList = false) : ∀ (d i k : Nat), i + d = n → d < k → laws_FnEntries.l0 k ks key path (n : Int) (i : Int) = some true := by
  intro d
  induction d with
  | zero =>
    intro i k hi hk
    obtain ⟨k, rfl⟩ : ∃ q, k = q + 1 := ⟨k - 1, by omega⟩
    obtain rfl : i = n := by omega
    rw [laws_FnEntries.l0]
    have e : decide ((path.length : Int) ≤ (i : Int)) = true := decide_eq_true (by omega)
    rcases hs with h | h
    · rw [if_neg (by omega), if_pos rfl, e]
    · by_cases c : (i : Int) < (ks.length : Int)
      · rw [if_pos c, if_pos (by omega), if_neg (by rw [show Op.bytesLess (rdOf ByteArray.empty ks (i : Int)).toList key.toList = false from h]; decide), if_pos rfl, e]
      · rw [if_neg c, if_pos rfl, e]
  | succ d ih =>
    intro i k hi hk
    obtain ⟨k, rfl⟩ : ∃ q, k = q + 1 := ⟨k - 1, by omega⟩
    rw [laws_FnEntries.l0, if_pos (by omega), if_pos (by omega), if_pos (ha i (by omega)), wrapS (n := 1000) (by omega) (by omega)]
    exact ih (i + 1) k (by omega) (by omega)
theorem tower_j1 {l : List Int} (hl : Bytes l) {k : Nat} (hk : 2000000 < k) : laws_FnEntries.j1 k l = some true := by
  obtain ⟨k, rfl⟩ : ∃ q, k = q + 1 + 1 := ⟨k - 2, by omega⟩
  obtain ⟨ks, ts, key, e⟩ := drawTower_ok hl (k := k + 1) (by omega)
  obtain ⟨path, at_, found, h1, h2, h3, h4⟩ := tower_both ks ts key (k := k + 1) (by omega)
  rw [laws_FnEntries.j1, e, Option.bind_some]
  dsimp only
  rw [h1, Option.bind_some, h2, Option.bind_some]
  dsimp only
  rw [bne_self_eq_false, if_neg (by decide), if_pos rfl]
  by_cases c : found = true
  · obtain ⟨h30, n, rfl, hn, hp, ha, hs⟩ := h4 c
    rw [sameI_ok (by omega) (by omega), Option.bind_some, laws_FnEntries.j2, if_neg (by decide), if_pos c]
    exact tower_l0 h30 hn hp ha hs n 0 k (by omega) (by omega)
  · have hp := h3 (Bool.eq_false_iff.2 c)
    subst hp
    rw [sameI_ok (by decide) (by omega), Option.bind_some, laws_FnEntries.j2, if_neg (by decide), if_neg c]
    rfl
theorem FnEntries : laws_FnEntries.Pure := by
  intro l0 l1 h0 _ hw0 h1 _ hw1
  have hb0 := Bytes.of_wf hw0
  have hb1 := Bytes.of_wf hw1
  obtain ⟨k, hk⟩ : ∃ k, 3000000000000 < k := ⟨3000000000001, by omega⟩
  refine ⟨k + 1, ?_⟩
  unfold laws_FnEntries.f
  by_cases c : (wrap64 ((l0.length : Int) + (l1.length : Int))) > 1048576
  · rw [if_pos c]
  rw [if_neg c]
  obtain ⟨es, e, e1, g1, g2, g3⟩ := drawPut_ok hb0 (k := k + 1) (by omega)
  obtain ⟨es', b, q1, q2, q3, q4, q5⟩ := put_both2 es e (by omega) g2 (by omega) (k := k + 1) (by omega)
  rw [e1, Option.bind_some]
  dsimp only
  rw [q2, Option.bind_some, q1, Option.bind_some]
  dsimp only
  rw [bne_self_eq_false, if_neg (by decide), sameE_ok q3 q4 (by omega), Option.bind_some, laws_FnEntries.j0, if_neg (by decide)]
  by_cases hb : b = true
  · obtain ⟨p1, p2, p3, p4, p5⟩ := q5 hb
    have hG : GoodEs es' := by rw [p1]; exact putL_good p2 p3 p4
    have hlen := putL_len e es
    rw [← p1] at hlen
    have hg := (impl_goodEs es' q3 (k := k) (by omega)).1 hG
    have ho := ofKey_length e.f0 es'
    have hne : (ofKey e.f0 es').length ≠ 0 := by
      intro z
      have hm : e ∈ ofKey e.f0 es' := List.mem_filter.2 ⟨by rw [p1]; exact ofKey_some, decide_eq_true rfl⟩
      rw [List.length_eq_zero_iff.1 z] at hm
      simp at hm
    have hef : impl_EntriesOf.f k es' e.f0 = some (ofKey e.f0 es', true) := by
      unfold impl_EntriesOf.f
      rw [hg, Option.bind_some, if_pos rfl, entriesOf_ok e.f0 q3 q4 (by omega), Option.bind_some]
    rw [if_pos hb, hef, Option.bind_some]
    dsimp only
    rw [if_pos rfl, hg, Option.bind_some, if_pos rfl, wrapS (n := 1000) (by omega) (by omega), if_pos (by omega), if_neg (by omega)]
    exact tower_j1 hb1 (by omega)
  · rw [if_neg hb]
    exact tower_j1 hb1 (by omega)
end Go.Proofs.Ytdkokfnnebdppaa.Pure
namespace Go.Proofs.YtdkokfnnebdppaaW.PrintWords
open Go.ChangeShapes Go.WideShapes
theorem sized_ints {H : Type} {enc : TypeId × Value → H} {P : Program} {W : World} {base : Nat} {spare : Nat → Bool} {held : Bool} {t e : TypeId} {k : IntKind} {a : Option Addr} {len cap : Nat} {d : DataW H} {ps : List MemPlace} {ts : List TypeId} {ds : List (DataW H)} {j : Nat}
    (hsz : (DataW.weightsEach P ts ds).all (· ≤ reachBytes) = true) (ht : ts[j]? = some t) (hd : ds[j]? = some d) (hu : P.underlying t = some (.slice e)) (he : P.underlying e = some (.int k)) (hc : P.cellsOf e = 1) {B : Nat} (hB : P.bytesOf e = B)
    (h : DataW.Trod enc P W base spare held t (.slice a len cap) d ps) : len * B ≤ 140737488351232 := by
  obtain ⟨fuel, hf⟩ := h
  rcases open_ints hu he hc hf with ⟨hcs, _⟩ | ⟨x, l, c, zs, hcs, _, hl, _, hz, hx, _, _⟩
  · simp [Value.cells] at hcs
    obtain ⟨rfl, rfl, rfl⟩ := hcs
    simp
  · simp [Value.cells] at hcs
    obtain ⟨rfl, rfl, rfl⟩ := hcs
    obtain ⟨hx, _⟩ := Prod.mk.inj hx
    subst hx
    have z := sized_slice hsz ht hd hu
    rw [hB] at z
    have hl2 : len ≤ zs.length := by
      rw [hz]
      split
      · exact hl
      · exact Nat.le_refl _
    have h1 : (lits (H := H) k (zs.take len)).length + (lits (H := H) k (zs.drop len)).length = zs.length := by
      simp [lits]
      omega
    rw [h1] at z
    exact Nat.le_trans (Nat.mul_le_mul_right _ hl2) z
end Go.Proofs.YtdkokfnnebdppaaW.PrintWords
namespace Go.Proofs.Ytdkokfnnebdppaa.fnEntries
open Go.ChangeShapes Go.WideShapes Go.ChangeAt Go.RowKit
open Go.ChangeMaps (open_string shut_string)
set_option linter.unusedVariables false
theorem own : ownKnob Try.prog.godebug = none := by kernel_rfl
theorem laidOut : laidOutB Try.prog = true := by kernel_rfl
def IsRow (k : IntKind) (w : World) (a : Option Addr) (len cap : Nat) (zs : List Int) : Prop :=
  (a = none ∧ len = 0 ∧ cap = 0 ∧ zs = []) ∨
  ∃ x, a = some x ∧ len ≤ cap ∧ cap ≤ maxLen ∧ zs.length = cap ∧ (∀ i, i < zs.length → w.cell? (x.add i) = some (.int k (zs.getD i 0))) ∧ ∀ n ∈ zs, (Lit.int k n).wf = true
set_option maxRecDepth 100000 in
theorem lifted (os : Os) (started : os.Started) (H : Type) (enc : TypeId × Value → H) :
    ReturnsInHanded {} Try.checked os 6 .any (Rows.fnEntriesSpec.pre6 enc Try.prog Try.f6 Rows.fnEntriesRow.domain false) (Rows.fnEntriesSpec.post enc Try.prog Try.f6 false true false false) := by
  refine returnsInHanded_of_change_sized (C := Try.checked) own started (by kernel_rfl) Try.func6
    (ChangeSpec.witness6 (enc := enc) (C := Try.checked) false ⟨#[], #[.slice none 0 0, .slice none 0 0], []⟩ 8 (by kernel_rfl) (by kernel_rfl) (by kernel_rfl) (by kernel_rfl)) ?_
  intro W base args ds gs before hval0 hW hcnd hsz0 _
  have hsz : (DataW.weightsEach Try.prog (Try.f6.params.toList ++ Rows.fnEntriesSpec.plain.varTypes Try.prog) (ds ++ gs)).all (· ≤ reachBytes) = true := hsz0
  have hval : ∀ (j : Nat) t v, Try.f6.params[j]? = some t → args[j]? = some v → Value.okWide Try.prog W .any base t v := hval0
  have hW' := hW
  obtain ⟨p, q, hA0, hV, rfl, hfz, hnd⟩ := hW
  have hA : DataW.TrodAll enc Try.prog W 0 (fun _ => true) true Try.f6.params.toList args.toList ds p := hA0
  rw [Try.params6] at hA hval hsz
  obtain ⟨v0, vs0, d0, ds0, p0, q0, hargs, rfl, rfl, h0, r0⟩ := trodAll_cons hA
  obtain ⟨v1, vs1, d1, ds1, p1, q1, rfl, rfl, rfl, h1, r1⟩ := trodAll_cons r0
  obtain ⟨rfl, rfl, rfl⟩ := trodAll_nil r1
  obtain rfl : args = #[v0, v1] := by cases args; simp_all
  obtain ⟨rfl, rfl⟩ := trodVars_none hV
  obtain ⟨a0, len0, cap0, rfl⟩ := okWide_slice Try.underlying50 (hval 0 50 v0 rfl rfl)
  have k0 := h0
  have lt0 : ∀ x ∈ p0, x.block < W.heap.size := by obtain ⟨m, hm⟩ := k0; exact DataW.trod_lt m _ _ _ hm
  obtain ⟨z0, w0⟩ : ∃ zs, IsRow .u8 W a0 len0 cap0 zs := by
    obtain ⟨fuel, hf⟩ := h0
    rcases open_ints Try.underlying50 Try.underlying5 (by kernel_rfl) hf with ⟨hcs, _⟩ | ⟨x, l, c, zs, hcs, _, hl, hm, hz, _, hcell, hwz⟩
    · simp [Value.cells] at hcs
      obtain ⟨rfl, rfl, rfl⟩ := hcs
      exact ⟨[], .inl ⟨rfl, rfl, rfl, rfl⟩⟩
    · simp [Value.cells] at hcs
      obtain ⟨rfl, rfl, rfl⟩ := hcs
      exact ⟨zs, .inr ⟨_, rfl, hl, hm, by simpa using hz, hcell, hwz⟩⟩
  have y0 : len0 * 1 ≤ 140737488351232 := Go.Proofs.YtdkokfnnebdppaaW.PrintWords.sized_ints hsz (j := 0) (t := 50) rfl rfl Try.underlying50 Try.underlying5 (by kernel_rfl) (by kernel_rfl) h0
  obtain ⟨a1, len1, cap1, rfl⟩ := okWide_slice Try.underlying50 (hval 1 50 v1 rfl rfl)
  have k1 := h1
  have lt1 : ∀ x ∈ p1, x.block < W.heap.size := by obtain ⟨m, hm⟩ := k1; exact DataW.trod_lt m _ _ _ hm
  obtain ⟨z1, w1⟩ : ∃ zs, IsRow .u8 W a1 len1 cap1 zs := by
    obtain ⟨fuel, hf⟩ := h1
    rcases open_ints Try.underlying50 Try.underlying5 (by kernel_rfl) hf with ⟨hcs, _⟩ | ⟨x, l, c, zs, hcs, _, hl, hm, hz, _, hcell, hwz⟩
    · simp [Value.cells] at hcs
      obtain ⟨rfl, rfl, rfl⟩ := hcs
      exact ⟨[], .inl ⟨rfl, rfl, rfl, rfl⟩⟩
    · simp [Value.cells] at hcs
      obtain ⟨rfl, rfl, rfl⟩ := hcs
      exact ⟨zs, .inr ⟨_, rfl, hl, hm, by simpa using hz, hcell, hwz⟩⟩
  have y1 : len1 * 1 ≤ 140737488351232 := Go.Proofs.YtdkokfnnebdppaaW.PrintWords.sized_ints hsz (j := 1) (t := 50) rfl rfl Try.underlying50 Try.underlying5 (by kernel_rfl) (by kernel_rfl) h1
  clear hA0 hval0 hsz0 hsz
  refine (P.laws_FnEntries.walk Pure.FnEntries a0 len0 cap0 z0 a1 len1 cap1 z1 W w0 y0 w1 y1).mono fun e W' ⟨he, bel⟩ => ?_
  subst he
  exact ⟨_, rfl, _, _, _, [], _, [], hW', trodAll_mk1 (shut_bool Try.underlying4 _), (trodAll_cons_mk (Below.trod laidOut (by kernel_rfl) (of_decide_eq_true (by kernel_rfl)) k0 bel lt0) (trodAll_cons_mk (Below.trod laidOut (by kernel_rfl) (of_decide_eq_true (by kernel_rfl)) k1 bel lt1) trodAll_mk0)), rfl, bel.frame _, fun h => by cases h⟩
theorem over : Rows.fnEntriesRow.holds Try.pinned (OpenSpec.ofChange Rows.fnEntriesSpec) :=
  OpenClaim.holds_of_wide 6 Try.f6 rfl rfl rfl rfl rfl rfl rfl ⟨rfl, rfl, rfl, rfl, rfl⟩ rfl rfl rfl rfl rfl (by kernel_rfl) Try.func6 (by kernel_rfl)
    (of_decide_eq_true (by kernel_rfl)) (by unfold Func.isWrapper; first | (rw [if_pos (by decide +kernel)]; kernel_rfl) | (rw [if_neg (by decide +kernel)]; exact ⟨rfl, rfl⟩))
    (fun os started H enc _ => lifted os started H enc)
theorem proved : Rows.FnEntriesSaid := over
#print axioms proved
end Go.Proofs.Ytdkokfnnebdppaa.fnEntries
namespace Go.Proofs.Ytdkokfnnebdppaa
theorem fnEntries_holds : Rows.FnEntriesSaid := fnEntries.proved
end Go.Proofs.Ytdkokfnnebdppaa
