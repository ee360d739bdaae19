/-
  A part of the proof: its theorems say what each gives.
-/
import Derived.Test.YtababmnmkmgbbaaGreatKFw1
import Derived.Test.YtababmnmkmgbbaaGreatKFw2
import Derived.Test.YtababmnmkmgbbaaGreatKFw3
import Derived.Shelf.SlSortCmp.Whole1
set_option maxRecDepth 100000
set_option linter.unusedSimpArgs false
set_option linter.unusedVariables false
namespace Go.Proofs.YtababmnmkmgbbaaGreat
open Go Fw Go.RowKit Go.Lib Go.Sort
/-! The library's sort on rows that are written. -/
theorem sim_turn2 {σ : G} {H : Hp} {w w' : World} (hs : Sim σ H w) {id e' : Nat} {c c' : List AV} {cur' : Array Value} (hb : H.box id = some c) (hB : BelowD σ.base w w') (hoth : ∀ j, j < w.heap.size → j ≠ σ.blk id → w'.heap[j]? = w.heap[j]?)
    (hO : HasObj w'.heap[σ.blk id]? (σ.kd id) cur' e') (hc : c'.length ≤ cur'.size ∧ ∀ i, i < c'.length → VR σ w (c'.getD i .any) (cur'.getD i undef)) : Ext σ w σ w' ∧ Sim σ (H.upd id fun _ => c') w' := by
  obtain ⟨h1, h2, h3, cur, e, h4, h5, h6⟩ := hs.bx id c hb
  have hsz := hB.size
  have hE : Ext σ w σ w' := ⟨rfl, hB, Nat.le_refl _, fun _ _ h => h, fun b o' hf => .block (hoth b (hs.fzlt b o' hf) fun e => h3 o' (e ▸ hf)), fun _ _ => ⟨rfl, rfl⟩, fun t _ m hm => ⟨m, hm, Nat.le_refl _, fun _ => ⟨rfl, rfl⟩⟩⟩
  have hlook : ∀ j d, (H.upd id fun _ => c').box j = some d → (j = id ∧ d = c') ∨ (j ≠ id ∧ H.box j = some d) := by
    intro j d hj
    simp only [Hp.box, Hp.upd, lookup_updB] at hj
    split at hj
    · rename_i e; subst e
      rw [show H.bx.lookup j = some c from hb] at hj
      simp at hj; exact .inl ⟨rfl, hj.symm⟩
    · rename_i e; exact .inr ⟨e, hj⟩
  have hor : ∀ j d, (H.upd id fun _ => c').box j = some d → ∃ d', H.box j = some d' := by
    intro j d hj
    rcases hlook j d hj with ⟨rfl, _⟩ | ⟨_, hj⟩
    · exact ⟨c, hb⟩
    · exact ⟨d, hj⟩
  refine ⟨hE, Nat.le_trans hs.base hsz, fun b o' hf => Nat.lt_of_lt_of_le (hs.fzlt b o' hf) hsz, hs.tok, ?_, ?_, ?_, ?_, hs.tktk⟩
  · intro j d hj
    rcases hlook j d hj with ⟨rfl, rfl⟩ | ⟨hne, hj⟩
    · exact ⟨h1, h2, h3, cur', e', hO, hc.1, fun i hi => (hc.2 i hi).mono hE⟩
    · obtain ⟨g1, g2, g3, cu, e', g4, g5, g6⟩ := hs.bx j d hj
      exact ⟨g1, g2, g3, cu, e', by rw [hoth _ g4.lt (hs.bxbx j id d c hj hb hne)]; exact g4, g5, fun i hi => (g6 i hi).mono hE⟩
  · intro t' n e' k' ht
    obtain ⟨g1, xs, g2, g3⟩ := hs.tk t' n e' k' ht
    have hne := hs.bxtk id t' c _ hb ht
    refine ⟨g1, xs, g2.kept (row := some (σ.blk id)) ⟨hB.os, hB.tape, hB.output, hsz, fun j hj hne => hoth j hj (fun e => hne (by rw [e]))⟩ (.inr hne), g3⟩
  · intro i j ci cj hi hj hne
    obtain ⟨ci', hi'⟩ := hor i ci hi
    obtain ⟨cj', hj'⟩ := hor j cj hj
    exact hs.bxbx i j ci' cj' hi' hj' hne
  · intro i t' ci n hi ht
    obtain ⟨ci', hi'⟩ := hor i ci hi
    exact hs.bxtk i t' ci' n hi' ht
/-- The world that a sort leaves. -/
theorem heap_sorted {α : Type} [Inhabited α] (enc : α → Value) {w : World} {blk e m : Nat} {cur : Array Value} {d : Array α} {os : Array Obj} (hb : w.heap[blk]? = some (.cells cur e (0, 0))) (hd : d.size ≤ cur.size) :
    (sortWorld enc w blk 0 m d os).heap[blk]? = some (.cells (putCells enc 0 d cur) e (0, 0)) ∧ (∀ j, j < w.heap.size → j ≠ blk → (sortWorld enc w blk 0 m d os).heap[j]? = w.heap[j]?) ∧ w.heap.size ≤ (sortWorld enc w blk 0 m d os).heap.size := by
  have hlt : blk < w.heap.size := (Array.getElem?_eq_some_iff.1 hb).1
  unfold sortWorld grow putRow mapBlock Sort.ahead
  refine ⟨?_, fun j hj hne => ?_, by simp⟩
  · simp only
    rw [Array.getElem?_append_left (by simpa using hlt), Array.getElem?_modify, if_pos rfl, hb]
    rfl
  · simp only
    rw [Array.getElem?_append_left (by simpa using hj), Array.getElem?_modify, if_neg (Ne.symm hne)]
theorem putCells_get {α : Type} [Inhabited α] (enc : α → Value) (d : Array α) (cur : Array Value) (i : Nat) (hi : i < cur.size) : (putCells enc 0 d cur).getD i undef = if i < d.size then enc d[i]! else cur.getD i undef := by
  unfold putCells
  simp [Array.getD_eq_getD_getElem?, hi]
theorem putCells_size {α : Type} [Inhabited α] (enc : α → Value) (d : Array α) (cur : Array Value) : (putCells enc 0 d cur).size = cur.size := by simp [putCells]
/-- A world behind an older one: nothing old has turned. -/
theorem grow_of_below {w w' : World} (h : BelowD w.heap.size w w') : ∃ q os, w' = grow (w.drewN q) os := by
  refine ⟨w'.drawn - w.drawn, w'.heap.extract w.heap.size w'.heap.size, ?_⟩
  have hd := h.drawn
  have hs := h.size
  have e1 : w'.heap = w.heap ++ w'.heap.extract w.heap.size w'.heap.size := by
    refine Array.ext_getElem? fun i => ?_
    rcases Nat.lt_or_ge i w.heap.size with hi | hi
    · rw [Array.getElem?_append_left hi]; exact h.block i hi
    · rw [Array.getElem?_append_right hi, Array.getElem?_extract]
      split
      · congr 1; omega
      · rename_i hh; rw [Array.getElem?_eq_none]; omega
  cases hw : w with
  | mk heap tape drawn os output =>
  cases hw' : w' with
  | mk heap' tape' drawn' os' output' =>
  have h1 := h.os; have h2 := h.tape; have h3 := h.output
  rw [hw, hw'] at h1 h2 h3 hd e1
  simp only at h1 h2 h3 hd e1
  unfold grow World.drewN
  simp only [World.mk.injEq]
  exact ⟨e1, h2, by omega, h1, h3⟩
/-- The rule: a row of elements of one cell, sorted by a pure comparison. -/
theorem acalls_sort1 {P : Program} {ρ : Go.Shelf.Ren} (L : Go.Proofs.SlLaysF.n6 P ρ) (hcs : callB P (ρ.f 6) = true) {β : Type} (l : List β) (en : β → AV) (h1 : ∀ b ∈ l, (en b).one = true) (cf : β → β → Int)
    (hirr : ∀ a ∈ l, ¬ cf a a < 0) (htr : ∀ a ∈ l, ∀ b ∈ l, ∀ c ∈ l, cf a b < 0 → cf b c < 0 → cf a c < 0) (hnt : ∀ a ∈ l, ∀ b ∈ l, ∀ c ∈ l, ¬ cf a b < 0 → ¬ cf b c < 0 → ¬ cf a c < 0)
    (g : Nat) (cap : List AV) (hcmp : ∀ a ∈ l, ∀ b ∈ l, PureAt P g ([en a, en b] ++ cap) ⟨[], []⟩ (.con (.int .i64 (cf a b))))
    {id e : Nat} {H : Hp} (hb : H.box id = some (l.map en)) (h0 : 0 < l.length) (hsz : l.length < 4611686018427387904) :
    ACalls P (ρ.f 6) [.sl id l.length e 1, .fn g cap] H fun r H' => ∃ l' : List β, l'.Perm l ∧ l'.Pairwise (fun a b => ¬ cf b a < 0) ∧ H' = H.upd id fun _ => l'.map en := by
  refine ⟨hcs, fun σ w vs hs hv => ?_⟩
  obtain ⟨hvs, hvv⟩ := hv
  have hv0 := hvv 0 (by simp)
  have hv1 := hvv 1 (by simp)
  have hvs2 : vs = #[vs.getD 0 undef, vs.getD 1 undef] := by
    refine Array.ext (by simpa using hvs) fun i h1 h2 => ?_
    have : i = 0 ∨ i = 1 := by simp at h2; omega
    rcases this with rfl | rfl <;> simp [Array.getD_eq_getD_getElem?, h1]
  rw [hvs2]
  generalize vs.getD 0 undef = v0 at hv0
  generalize vs.getD 1 undef = v1 at hv1
  replace hv0 : VR σ w (.sl id l.length e 1) v0 := hv0
  replace hv1 : VR σ w (.fn g cap) v1 := hv1
  generalize hn : l.length = n at hv0
  cases hv0 with
  | sl0 => omega
  | sl1 => omega
  | sl _ _ _ _ c g1 g2 g3 g4 g5 =>
  cases hv1 with
  | fn _ _ cb hcb hcv =>
  obtain ⟨q1, q2, q3, cur, e2, q4, q5, q6⟩ := hs.bx id _ hb
  have hO := q4
  rw [g2] at q4
  obtain ⟨q4, rfl, q7⟩ := q4
  rw [List.length_map, hn] at q5 q6
  haveI : Inhabited (Fin n) := ⟨⟨0, g3⟩⟩
  let en' : Fin n → Value := fun i => cur.getD i.1 undef
  let d : Array (Fin n) := (List.finRange n).toArray
  have hds : d.size = n := by simp [d]
  have hdg : ∀ j (hj : j < n), d[j]! = ⟨j, hj⟩ := fun j hj => by
    rw [getElem!_pos d j (by rw [hds]; exact hj)]; simp [d]
  let dat : Fin n → β := fun i => l[i.1]'(by rw [hn]; exact i.2)
  have hmem : ∀ i : Fin n, dat i ∈ l := fun i => List.getElem_mem _
  have hH : Holds en' w (σ.blk id) 0 d := fun j hj => by
    rw [hds] at hj
    have hj' : j < cur.size := by omega
    refine ⟨?_, ?_⟩
    · rw [hdg j hj]; simp [World.cell?, q4, en', Array.getD_eq_getD_getElem?, hj']
    · simp [World.frozen?, q4]
  have hval : ∀ i : Fin n, VR σ w (en (dat i)) (en' i) := fun i => by
    have := q6 i.1 i.2
    have hi : i.1 < l.length := by rw [hn]; exact i.2
    rwa [List.getD_eq_getElem?_getD, List.getElem?_map, List.getElem?_eq_getElem hi] at this
  have hone : OneCell en' := fun i => by
    have := (hval i).one (h1 _ (hmem i))
    revert this
    generalize en' i = v
    intro this
    cases v <;> first | rfl | cases this
  have hblk : σ.blk id < w.heap.size := hO.lt
  have hcl : CmpLays1 P g cb en' (fun i j => cf (dat i) (dat j)) (σ.blk id) 0 d.size w := by
    intro m os dk hdk x y
    obtain ⟨a1, a2, a3⟩ := heap_sorted (m := m) (os := os) en' (d := dk) q4 (by omega)
    generalize hW : sortWorld en' w (σ.blk id) 0 m dk os = W at a1 a2 a3
    have hp := hcmp _ (hmem x) _ (hmem y)
    have hS : Sim (⟨W.heap.size, σ.fz, σ.next, σ.blk, σ.kd, fun _ => none, σ.tv⟩ : G) ⟨[], []⟩ W :=
      ⟨Nat.le_refl _, fun b o h => Nat.lt_of_lt_of_le (hs.fzlt b o h) a3, rfl, fun id cs h => by simp [Hp.box] at h, fun t n e k h => by simp [Hp.tok] at h, fun i j c d h => by simp [Hp.box] at h, fun i t c n h => by simp [Hp.box] at h, fun s t m n g h => by simp [Hp.tok] at h⟩
    have hX : VExt σ w (⟨W.heap.size, σ.fz, σ.next, σ.blk, σ.kd, fun _ => none, σ.tv⟩ : G) W :=
      ⟨Nat.le_refl _, fun _ _ h => h, fun b o hf => .block (a2 b (hs.fzlt b o hf) fun e => q3 o (e ▸ hf)), fun _ _ => ⟨rfl, rfl⟩, fun t _ m' hm' => by cases hm'⟩
    have hargs : VRs (⟨W.heap.size, σ.fz, σ.next, σ.blk, σ.kd, fun _ => none, σ.tv⟩ : G) W ([en (dat x), en (dat y)] ++ cap) (#[en' x, en' y] ++ cb) := by
      refine VRs.append ⟨rfl, fun i hi => ?_⟩ ⟨hcb, fun i hi => (hcv i hi).vmono hX⟩
      have : i = 0 ∨ i = 1 := by simp at hi; omega
      rcases this with rfl | rfl
      · exact (hval x).vmono hX
      · exact (hval y).vmono hX
    refine (hp.run _ W _ hS hargs).mono fun ee w2 ⟨r, H', σ', v, e1, ⟨e2', e3⟩, e4, e5, e6⟩ => ?_
    subst e1 e2'
    rw [vr_con e6]
    refine ⟨rfl, ?_⟩
    exact grow_of_below e4.below
  have hcon := Any.slices_SortFunc L en' hone (fun i j => cf (dat i) (dat j))
    ⟨fun x => by simp only [ltOf, decide_eq_false_iff_not]; exact hirr _ (hmem x),
     fun x y z a b => by simp only [ltOf, decide_eq_true_eq] at *; exact htr _ (hmem x) _ (hmem y) _ (hmem z) a b,
     fun x y z a b => by simp only [ltOf, decide_eq_false_iff_not] at *; exact hnt _ (hmem x) _ (hmem y) _ (hmem z) a b⟩
    g cb (σ.blk id) 0 c d w (fun args w => run_call (hcmp _ (hmem default) _ (hmem default)).ok args w) hcl hH hblk (by omega)
  rw [hds] at hcon
  refine hcon.mono fun ee w2 ⟨e1, d', m, os, hperm, hsort, hw2⟩ => ?_
  subst e1
  obtain ⟨p1, p2, p3⟩ := hperm
  rw [hds] at p1
  have hpl : d'.toList.Perm (List.finRange n) := by
    have e1 : (d'.extract 0 n).toList = d'.toList := by rw [Array.extract_eq_self_of_le (by omega)]
    have e2 : (d.extract 0 n).toList = List.finRange n := by
      rw [Array.extract_eq_self_of_le (by omega)]
    rwa [e1, e2] at p3
  have hlen : (d'.toList.map dat).length = n := by simp [p1]
  obtain ⟨a1, a2, a3⟩ := heap_sorted (m := m) (os := os) en' (d := d') q4 (by omega)
  rw [← hw2] at a1 a2 a3
  have hdr : w.drawn ≤ w2.drawn := by rw [hw2]; unfold sortWorld grow putRow mapBlock Sort.ahead; simp only; omega
  have hos : w2.os = w.os ∧ w2.tape = w.tape ∧ w2.output = w.output := by rw [hw2]; unfold sortWorld grow putRow mapBlock Sort.ahead; exact ⟨rfl, rfl, rfl⟩
  obtain ⟨hE, hS⟩ := sim_turn2 hs (w' := w2) (c' := (d'.toList.map dat).map en) (cur' := putCells en' 0 d' cur) (e' := e2) hb
    ⟨⟨hos.1, hos.2.1, hos.2.2, a3, fun j hj => a2 j (by have := hs.base; omega) (by omega)⟩, hdr⟩ a2
    (hO.turn (by rw [g2]; trivial) a1 (putCells_size _ _ _)) ⟨by rw [List.length_map, hlen, putCells_size]; exact q5, fun i hi => by
      rw [List.length_map, hlen] at hi
      rw [putCells_get _ _ _ _ (by omega), if_pos (by omega)]
      have hi2 : i < d'.toList.length := by simpa [p1] using hi
      rw [List.getD_eq_getElem?_getD, List.map_map, List.getElem?_map, List.getElem?_eq_getElem hi2]
      have := hval d'.toList[i]
      rw [getElem!_pos d' i (by omega)]
      simpa using this⟩
  refine ⟨_, _, σ, .tuple #[], rfl, ⟨d'.toList.map dat, ?_, ?_, rfl⟩, hE, hS, .any _⟩
  · have h3 := hpl.map dat
    have h4 : (List.finRange n).map dat = l := by
      refine List.ext_getElem (by simp [hn]) fun i h1 h2 => by simp [dat]
    rwa [h4] at h3
  · rw [List.pairwise_map, List.pairwise_iff_getElem]
    intro i j hi hj hij
    have hi' : i < n := by simpa [p1] using hi
    have hj' : j < n := by simpa [p1] using hj
    have := hsort i j (Nat.zero_le _) hij (by omega)
    rw [getElem!_pos d' i (by omega), getElem!_pos d' j (by omega)] at this
    simp only [ltOf, decide_eq_false_iff_not] at this
    simpa using this
end Go.Proofs.YtababmnmkmgbbaaGreat
