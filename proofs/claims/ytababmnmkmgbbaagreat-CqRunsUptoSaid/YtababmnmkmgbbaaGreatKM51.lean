/-
  A part of the proof: its theorems say what each gives.
-/
import Derived.Test.YtababmnmkmgbbaaGreatKM49
import Derived.Test.YtababmnmkmgbbaaGreatKQj
import Derived.Test.YtababmnmkmgbbaaGreatKFw1
import Derived.Test.YtababmnmkmgbbaaGreatKFw2
import Derived.Test.YtababmnmkmgbbaaGreatKFw3
set_option maxRecDepth 100000
set_option linter.unusedSimpArgs false
set_option linter.unusedVariables false
namespace Go.Proofs.YtababmnmkmgbbaaGreat
open Go Fw
/-! The bindings of an environment that was found are the binding itself. -/
def cleanB (y : List Val) : Prop := ∀ n : Nat, (y.getD n zV).k = 0 → y.getD n zV = zV
theorem clean_none : cleanB none24 := fun n _ => by
  unfold none24; rw [List.getD_eq_getElem?_getD, List.getElem?_replicate]; split <;> rfl
theorem clean_set {y : List Val} (h : cleanB y) (i : Nat) {v : Val} (hv : v.k ≠ 0) : cleanB (y.set i v) := fun n hn => by
  rw [getD_set] at hn ⊢
  split
  · rename_i e; rw [if_pos e] at hn; exact absurd hn hv
  · rename_i e; rw [if_neg e] at hn; exact h n hn
theorem fitsR_clean : ∀ (l : List Trm) (r out : List Val) {y : List Val}, fitsR out l r = some y → (∀ v ∈ r, v.k ≠ 0) → cleanB out → cleanB y
  | [], r, out, y, h, hk, hc => by
    rw [fitsR] at h
    · cases h; exact hc
    all_goals (intros; simp_all)
  | t :: l, [], out, y, h, hk, hc => by
    rw [fitsR] at h
    · cases h; exact hc
    all_goals (intros; simp_all)
  | t :: l, v :: r, out, y, h, hk, hc => by
    have hk2 : ∀ u ∈ r, u.k ≠ 0 := fun u hu => hk u (List.mem_cons_of_mem _ hu)
    rw [fitsR] at h
    split at h
    · split at h
      · exact fitsR_clean l r _ h hk2 (clean_set hc _ (hk v (List.mem_cons_self ..)))
      · split at h
        · exact fitsR_clean l r out h hk2 hc
        · cases h
    · split at h
      · exact fitsR_clean l r out h hk2 hc
      · cases h
theorem stepB_clean {b : List Rel} {m : Nat} {a : Atm} {l : List Atm} (h : okAtoms b m (a :: l)) {x y : List Val} (hx : x.length = m) (hc : cleanB x) (hy : y ∈ stepB b a x) : cleanB y := by
  obtain ⟨row, hr, h2⟩ := List.mem_filterMap.1 hy
  obtain ⟨h3, h4⟩ := h a (List.mem_cons_self ..)
  obtain ⟨h5, h6⟩ := h3 row hr
  rw [bindR_fits h5 (fun t ht hv => by rw [hx]; exact h4 t ht hv)] at h2
  exact fitsR_clean _ _ _ h2 h6 hc
theorem bfOut_clean {b : List Rel} {m : Nat} : ∀ (l : List Atm) (xs : List (List Val)), okAtoms b m l → (∀ x ∈ xs, x.length = m ∧ cleanB x) → ∀ y ∈ bfOut b l xs, cleanB y
  | [], xs, _, hx, y, hy => (hx y hy).2
  | a :: l, xs, ho, hx, y, hy => by
    rw [bfOut] at hy
    refine bfOut_clean l _ (okAtoms_tail ho) (fun z hz => ?_) y hy
    obtain ⟨x, hx1, hx2⟩ := List.mem_flatMap.1 hz
    exact ⟨(stepB_bound ho (hx x hx1).1 hx2).1, stepB_clean ho (hx x hx1).1 (hx x hx1).2 hx2⟩
def bndE (E : Env) : List Val := (List.range 24).map fun (i : Nat) => (E (i : Int)).getD zV
theorem bndE_envB {y : List Val} (h : y.length = 24) (hc : cleanB y) : bndE (envB y) = y := by
  unfold bndE
  refine List.ext_getElem (by simp [h]) fun i h1 h2 => ?_
  rw [List.getElem_map, List.getElem_range]
  unfold envB
  rw [if_pos ⟨by omega, by omega⟩, Int.toNat_natCast]
  have e : y.getD i zV = y[i] := by rw [List.getD_eq_getElem?_getD, List.getElem?_eq_getElem h2]; rfl
  by_cases h0 : (y.getD i zV).k = 0
  · rw [if_pos h0, ← e, hc i h0]; rfl
  · rw [if_neg h0, ← e]; rfl
theorem found_bnd {b : List Rel} {l : List Atm} (h : okAtoms b 24 l) : ∀ y ∈ bfOut b l [none24], bndE (envB y) = y := fun y hy =>
  bndE_envB (bfOut_bound l [none24] h (by simp [none24]) y hy).1 (bfOut_clean l [none24] h (fun x hx => by rw [List.mem_singleton.1 hx]; exact ⟨by simp [none24], clean_none⟩) y hy)
end Go.Proofs.YtababmnmkmgbbaaGreat
/-
  A part of the proof: its theorems say what each gives.
-/
set_option maxRecDepth 100000
set_option maxHeartbeats 4000000
set_option linter.unusedSimpArgs false
set_option linter.unusedVariables false
namespace Go.Proofs.YtababmnmkmgbbaaGreat
open Go Fw
/-! The law's bindings of an environment. -/
structure Bnd (es l : MEs) (E : Env) (cur : List Val) : Prop where
  sub : ∀ e ∈ l, e ∈ es
  nd : (l.map (·.2.2)).Nodup
  len : cur.length = 24
  a : ∀ n : Nat, n < 24 → (∃ e ∈ l, e.1 = .i (n : Int)) → cur.getD n zV = (E n).getD zV
  b : ∀ n : Nat, n < 24 → (¬ ∃ e ∈ l, e.1 = .i (n : Int)) → cur.getD n zV = zV
theorem Bnd.nil (es : MEs) (E : Env) : Bnd es [] E none24 := ⟨by simp, by simp, by simp [none24], by simp, fun n _ _ => by
  unfold none24; rw [List.getD_eq_getElem?_getD, List.getElem?_replicate]; split <;> rfl⟩
theorem Bnd.nd_step {es l : MEs} {E : Env} {cur : List Val} (h : Bnd es l E cur) {e : MK × AV × Nat} (hn : e.2.2 ∉ l.map (·.2.2)) : ((l ++ [e]).map (·.2.2)).Nodup := by
  rw [List.map_append, List.nodup_append]
  refine ⟨h.nd, by simp, fun a ha b hb => ?_⟩
  simp only [List.map_cons, List.map_nil, List.mem_singleton] at hb
  rw [hb]; exact fun e => hn (by rw [← e]; exact ha)
theorem Bnd.sub_step {es l : MEs} {E : Env} {cur : List Val} (h : Bnd es l E cur) {e : MK × AV × Nat} (he : e ∈ es) : ∀ q ∈ l ++ [e], q ∈ es := fun q hq => by
  rcases List.mem_append.1 hq with hq | hq
  · exact h.sub q hq
  · rw [List.mem_singleton.1 hq]; exact he
theorem nodup_le {l m : List Nat} (hn : l.Nodup) (hs : ∀ x ∈ l, x ∈ m) : l.length ≤ m.length := by
  induction l generalizing m with
  | nil => exact Nat.zero_le _
  | cons a l ih =>
    obtain ⟨h1, h2⟩ := List.nodup_cons.1 hn
    have hm := hs a (by simp)
    have h3 := ih (m := m.erase a) h2 fun x hx => (List.mem_erase_of_ne (fun e => h1 (by rw [← e]; exact hx))).2 (hs x (by simp [hx]))
    rw [List.length_erase_of_mem hm] at h3
    have := List.length_pos_of_mem hm
    simp; omega
theorem Bnd.len_le {es l : MEs} {E : Env} {cur : List Val} (h : Bnd es l E cur) : l.length ≤ es.length := by
  have := nodup_le (l := l.map (·.2.2)) (m := es.map (·.2.2)) h.nd (fun x hx => by
    obtain ⟨q, hq, rfl⟩ := List.mem_map.1 hx
    exact List.mem_map_of_mem (h.sub q hq))
  simpa using this
theorem Bnd.out {es l : MEs} {E : Env} {cur : List Val} (h : Bnd es l E cur) {n : Int} {v : AV} {st : Nat} (he : (.i n, v, st) ∈ es) (hn : st ∉ l.map (·.2.2)) (hr : ¬ (0 ≤ n ∧ n < 24)) : Bnd es (l ++ [(.i n, v, st)]) E cur where
  sub := h.sub_step he
  nd := h.nd_step hn
  len := h.len
  a m hm hx := h.a m hm (by
    obtain ⟨e, h1, h2⟩ := hx
    rcases List.mem_append.1 h1 with h1 | h1
    · exact ⟨e, h1, h2⟩
    · rw [List.mem_singleton.1 h1] at h2
      injection h2 with h2
      omega)
  b m hm hx := h.b m hm (fun ⟨e, h1, h2⟩ => hx ⟨e, List.mem_append_left _ h1, h2⟩)
theorem Bnd.step {es l : MEs} {E : Env} {cur : List Val} (h : Bnd es l E cur) {n : Nat} {w : Val} {v : AV} {st : Nat} (he : (.i (n : Int), v, st) ∈ es) (hn : st ∉ l.map (·.2.2)) (hr : n < 24) (hw : E n = some w) : Bnd es (l ++ [(.i (n : Int), v, st)]) E (cur.set n w) where
  sub := h.sub_step he
  nd := h.nd_step hn
  len := by rw [List.length_set]; exact h.len
  a m hm hx := by
    rw [getD_set]
    by_cases e : n = m
    · subst e
      rw [if_pos ⟨rfl, by rw [h.len]; exact hr⟩, hw]; rfl
    · rw [if_neg (fun h => e h.1)]
      refine h.a m hm ?_
      obtain ⟨e', h1, h2⟩ := hx
      rcases List.mem_append.1 h1 with h1 | h1
      · exact ⟨e', h1, h2⟩
      · rw [List.mem_singleton.1 h1] at h2
        injection h2 with h2
        omega
  b m hm hx := by
    have hne : ¬ n = m := fun e => hx ⟨_, List.mem_append_right _ (List.mem_singleton.2 rfl), by rw [e]⟩
    rw [getD_set, if_neg (fun h => hne h.1)]
    exact h.b m hm (fun ⟨e, h1, h2⟩ => hx ⟨e, List.mem_append_left _ h1, h2⟩)
theorem Bnd.done {es l : MEs} {E : Env} {cur : List Val} {c : Nat} (h : Bnd es l E cur) (hs : Stm es c) (hall : ∀ e ∈ es, e.2.2 ∈ l.map (·.2.2)) (hE : repM es E) : cur = bndE E := by
  unfold bndE
  refine List.ext_getElem (by simp [h.len]) fun i h1 h2 => ?_
  rw [List.getElem_map, List.getElem_range]
  have hi : i < 24 := by rw [← h.len]; exact h1
  have e0 : cur[i] = cur.getD i zV := by rw [List.getD_eq_getElem?_getD, List.getElem?_eq_getElem h1]; rfl
  rw [e0]
  by_cases hx : ∃ e ∈ l, e.1 = .i (i : Int)
  · exact h.a i hi hx
  · rw [h.b i hi hx]
    cases hEi : E (i : Int) with
    | none => rfl
    | some w =>
      have hm : mget (.i (i : Int)) es = some (cV w) := by rw [hE.2, hEi]; rfl
      obtain ⟨e, he, h3, _⟩ := mget_some hm
      obtain ⟨q, hq, h4⟩ := List.mem_map.1 (hall e he)
      have := pw_inj hs.2.1 q (h.sub q hq) e he h4
      subst this
      exact absurd ⟨q, hq, h3⟩ hx
theorem c_boundS (es : MEs) (ec : Nat) (E : Env) (H : Hp) (hE : repM es E) : ACalls Tryz.prog 49 [.mv es ec] H fun r H' => ∃ t, fresh H t ∧ r = .sl t 24 92 4 ∧ H' = ⟨(t, flat (encVs (bndE E))) :: H.bx, H.tk⟩ := by
  refine acalls_of (by kernel_rfl) Tryz.func49 rfl 25 Tryz.ntmps49 (by simp) [.tmp 2] rfl ?_
  ((repeat' (first | (refine awp_seq_k (fun K hK => ?_)) | (refine awp_block ?_) | (refine awp_reg _ rfl ?_; (try simp only [go_sem, Nat.reduceLT, Nat.reduceEqDiff, Nat.reduceLeDiff, Nat.reduceAdd, Nat.reduceMul, Int.reduceToNat, Nat.reducePow, ↓reduceIte, reduceCtorEq])) | (with_reducible apply And.intro) | (refine all_fresh fun id fr => ?_; (try have := NeI.of_fr fr)) | (refine all_stm fun hstm => ?_) | (refine hK _ ?_; clear hK; (try clear K)))); (all_goals (try ((omega)))))
  obtain ⟨it, hit⟩ : ∃ x, x = id := ⟨_, rfl⟩
  subst hit
  have frI := fr
  clear fr
  obtain ⟨m, hm0⟩ : ∃ x, x = id := ⟨_, rfl⟩
  subst hm0
  have frm := fr
  clear fr
  refine awp_loopKG (ι := MEs × List Val) [3, 8] (fun q => []) (fun q => ⟨(it, [.mv es ec, .nl (q.1.map (·.2.2)), .con (.int .i64 (ec : Int))]) :: (m, flat (encVs q.2)) :: H.bx, H.tk⟩) (fun q => Bnd es q.1 E q.2) (fun q => es.length - q.1.length) ([], none24) (by intro; simp only [keepT_cons, keepT_nil, List.cons_append, List.nil_append, lk, Nat.reduceEqDiff, ↓reduceIte, reduceCtorEq, Nat.reduceAdd]; rfl) ?_ ?_ ?_ ?_
  · exact Bnd.nil es E
  · (try simp only [go_sem, Nat.reduceLT, Nat.reduceEqDiff, Nat.reduceLeDiff, Nat.reduceAdd, Nat.reduceMul, Int.reduceToNat, Nat.reducePow, ↓reduceIte, reduceCtorEq])
  · exact weak_boxle (.refl _) (weak_boxle lec_none (.refl _))
  rintro ⟨l, cur⟩ hC
  simp only at hC
  have hne : ¬ it = m := fun e => (fresh_box frI).1 e.symm
  have hne2 : ¬ m = it := fun e => hne e.symm
  ((repeat' (first | (refine awp_seq_k (fun K hK => ?_)) | (refine awp_reg _ rfl ?_; (try simp only [go_sem, Nat.reduceLT, Nat.reduceEqDiff, Nat.reduceLeDiff, Nat.reduceAdd, Nat.reduceMul, Int.reduceToNat, Nat.reducePow, ↓reduceIte, reduceCtorEq, hne, hne2, ↓pkv, decide_true, decide_false, bls, if_true, if_false])) | (with_reducible apply And.intro))))
  · intro hall
    ((repeat' (first | (refine awp_seq_k (fun K hK => ?_)) | (refine awp_reg _ rfl ?_; (try simp only [go_sem, Nat.reduceLT, Nat.reduceEqDiff, Nat.reduceLeDiff, Nat.reduceAdd, Nat.reduceMul, Int.reduceToNat, Nat.reducePow, ↓reduceIte, reduceCtorEq, hne, hne2, ↓pkv, decide_true, decide_false, bls, if_true, if_false])) | (refine awp_cond _ rfl (fun hc => ?_) (fun hc => ?_) <;> (try (simp only [decide_eq_true_eq, decide_eq_false_iff_not, cds, Decidable.not_not, ite_or, ite_and] at hc))) | (refine awp_exit ?_; (try simp only [sq, bk, ↓reduceIte, Nat.reduceEqDiff, reduceCtorEq])) | (refine awp_ret ?_) | (refine hK _ ?_; clear hK; (try clear K)) | (refine kk (by assumption) ?_))))
    refine fin_any (x := .sl m 24 92 4) (H := ⟨(m, flat (encVs (bndE E))) :: H.bx, H.tk⟩) (by (try simp only [List.mem_singleton, forall_eq, List.mem_cons, List.not_mem_nil, or_false, forall_eq_or_imp, and_self, resOk])) rfl ?_ ⟨m, frm, rfl, rfl⟩
    rw [← hC.done hstm hall hE]
    exact weak_box (by show Hp.box ⟨(m, _) :: H.bx, H.tk⟩ it = none; rw [box_cons, if_neg hne2]; exact (fresh_box frI).2.1) (.refl _)
  · intro e he hns hfe
    obtain ⟨k, x, st⟩ := e
    obtain ⟨n, hn⟩ := hE.1 _ he
    simp only at hn
    subst hn
    have hx := mget_mem hstm.1 he
    rw [hE.2 n] at hx
    obtain ⟨w, hw, hwx⟩ := Option.map_eq_some_iff.1 hx
    simp only at hwx
    subst hwx
    simp only at hfe hns
    by_cases hr : 0 ≤ n ∧ n < 24
    · obtain ⟨j, rfl⟩ : ∃ j : Nat, n = j := ⟨n.toNat, by omega⟩
      have hj : j < 24 := by omega
      have hst := hC.step he hns hj hw
      have hsl := hst.len_le
      rw [List.length_append, List.length_singleton] at hsl
      have c1 : (0 ≤ (j : Int)) = True := eq_true (by omega)
      have c2 : ((j : Int) < 24) = True := eq_true (by omega)
      have q3 := flatV_set (show j < cur.length by rw [hC.len]; exact hj) w
      have q4 : (j * 4 + 4 ≤ (flat (encVs cur)).length) = True := eq_true (by rw [flat_vs, hC.len]; omega)
      ((repeat' (first | (refine awp_seq_k (fun K hK => ?_)) | (refine awp_block ?_) | (refine awp_reg _ rfl ?_; (try simp only [go_sem, Nat.reduceLT, Nat.reduceEqDiff, Nat.reduceLeDiff, Nat.reduceAdd, Nat.reduceMul, Int.reduceToNat, Nat.reducePow, ↓reduceIte, reduceCtorEq, hne, hne2, hfe, c1, c2, q3, q4, Nat.add_zero, ↓pkv, decide_true, decide_false, bls, if_true, if_false])) | (refine awp_cond _ rfl (fun hc => ?_) (fun hc => ?_) <;> (try (simp only [decide_eq_true_eq, decide_eq_false_iff_not, cds, Decidable.not_not, ite_or, ite_and] at hc))) | (refine awp_skip ?_; (try simp only [sq, bk, ↓reduceIte, Nat.reduceEqDiff, reduceCtorEq])) | (refine orAt_r 5 ?_; (try simp only [go_sem, Nat.reduceLT, Nat.reduceEqDiff, Nat.reduceLeDiff, Nat.reduceAdd, Nat.reduceMul, Int.reduceToNat, Nat.reducePow, ↓reduceIte, reduceCtorEq, hne, hne2, hfe, c1, c2, q3, q4, Nat.add_zero, ↓pkv, decide_true, decide_false, bls, if_true, if_false])) | (with_reducible apply And.intro) | (refine hK _ ?_; clear hK; (try clear K)))); (all_goals (try ((omega)))))
      refine ⟨(l ++ [(.i (j : Int), cV w, st)], cur.set j w), by simp only [List.length_append, List.length_singleton]; omega, hst, ?_⟩
      (refine st_le rfl ?_ (by ((try dsimp only); (try simp only [List.map_append, List.map_cons, List.map_nil,  List.length_append, List.length_cons, List.length_nil, Nat.zero_add]); repeat' ((with_reducible exact .refl _)))); (try simp only [go_sem, Nat.reduceLT, Nat.reduceEqDiff, Nat.reduceLeDiff, Nat.reduceAdd, Nat.reduceMul, Int.reduceToNat, Nat.reducePow, ↓reduceIte, reduceCtorEq, List.map_append, List.map_cons, List.map_nil]))
    · have hst := hC.out he hns hr
      have hsl := hst.len_le
      rw [List.length_append, List.length_singleton] at hsl
      by_cases h0 : 0 ≤ n
      · have c1 : (0 ≤ n) = True := eq_true h0
        have c2 : (n < 24) = False := eq_false (by omega)
        ((repeat' (first | (refine awp_seq_k (fun K hK => ?_)) | (refine awp_block ?_) | (refine awp_reg _ rfl ?_; (try simp only [go_sem, Nat.reduceLT, Nat.reduceEqDiff, Nat.reduceLeDiff, Nat.reduceAdd, Nat.reduceMul, Int.reduceToNat, Nat.reducePow, ↓reduceIte, reduceCtorEq, hne, hne2, hfe, c1, c2, ↓pkv, decide_true, decide_false, bls, if_true, if_false])) | (refine awp_cond _ rfl (fun hc => ?_) (fun hc => ?_) <;> (try (simp only [decide_eq_true_eq, decide_eq_false_iff_not, cds, Decidable.not_not, ite_or, ite_and] at hc))) | (refine awp_skip ?_; (try simp only [sq, bk, ↓reduceIte, Nat.reduceEqDiff, reduceCtorEq])) | (refine orAt_r 5 ?_; (try simp only [go_sem, Nat.reduceLT, Nat.reduceEqDiff, Nat.reduceLeDiff, Nat.reduceAdd, Nat.reduceMul, Int.reduceToNat, Nat.reducePow, ↓reduceIte, reduceCtorEq, hne, hne2, hfe, c1, c2, ↓pkv, decide_true, decide_false, bls, if_true, if_false])) | (refine hK _ ?_; clear hK; (try clear K)))))
        refine ⟨(l ++ [(.i n, cV w, st)], cur), by simp only [List.length_append, List.length_singleton]; omega, hst, ?_⟩
        (refine st_le rfl ?_ (by ((try dsimp only); (try simp only [List.map_append, List.map_cons, List.map_nil,  List.length_append, List.length_cons, List.length_nil, Nat.zero_add]); repeat' ((with_reducible exact .refl _)))); (try simp only [go_sem, Nat.reduceLT, Nat.reduceEqDiff, Nat.reduceLeDiff, Nat.reduceAdd, Nat.reduceMul, Int.reduceToNat, Nat.reducePow, ↓reduceIte, reduceCtorEq, List.map_append, List.map_cons, List.map_nil]))
      · have c1 : (0 ≤ n) = False := eq_false h0
        ((repeat' (first | (refine awp_seq_k (fun K hK => ?_)) | (refine awp_block ?_) | (refine awp_reg _ rfl ?_; (try simp only [go_sem, Nat.reduceLT, Nat.reduceEqDiff, Nat.reduceLeDiff, Nat.reduceAdd, Nat.reduceMul, Int.reduceToNat, Nat.reducePow, ↓reduceIte, reduceCtorEq, hne, hne2, hfe, c1, ↓pkv, decide_true, decide_false, bls, if_true, if_false])) | (refine awp_cond _ rfl (fun hc => ?_) (fun hc => ?_) <;> (try (simp only [decide_eq_true_eq, decide_eq_false_iff_not, cds, Decidable.not_not, ite_or, ite_and] at hc))) | (refine awp_skip ?_; (try simp only [sq, bk, ↓reduceIte, Nat.reduceEqDiff, reduceCtorEq])) | (refine orAt_r 5 ?_; (try simp only [go_sem, Nat.reduceLT, Nat.reduceEqDiff, Nat.reduceLeDiff, Nat.reduceAdd, Nat.reduceMul, Int.reduceToNat, Nat.reducePow, ↓reduceIte, reduceCtorEq, hne, hne2, hfe, c1, ↓pkv, decide_true, decide_false, bls, if_true, if_false])) | (refine hK _ ?_; clear hK; (try clear K)))))
        refine ⟨(l ++ [(.i n, cV w, st)], cur), by simp only [List.length_append, List.length_singleton]; omega, hst, ?_⟩
        (refine st_le rfl ?_ (by ((try dsimp only); (try simp only [List.map_append, List.map_cons, List.map_nil,  List.length_append, List.length_cons, List.length_nil, Nat.zero_add]); repeat' ((with_reducible exact .refl _)))); (try simp only [go_sem, Nat.reduceLT, Nat.reduceEqDiff, Nat.reduceLeDiff, Nat.reduceAdd, Nat.reduceMul, Int.reduceToNat, Nat.reducePow, ↓reduceIte, reduceCtorEq, List.map_append, List.map_cons, List.map_nil]))
theorem c_bound (es : MEs) (ec : Nat) (E : Env) (H : Hp) (hE : repM es E) : PureAt Tryz.prog 49 [.mv es ec] H (.list (encVs (bndE E)) none) :=
  ACalls.frz (c_boundS es ec E H hE) fun r H' ⟨t, h1, h2, h3⟩ => by
    subst h2 h3
    have hl : (encVs (bndE E)).length = 24 := by rw [encVs_length]; simp [bndE]
    refine .inr ⟨t, flat (encVs (bndE E)), .list (encVs (bndE E)) none, H, ?_, fle_slL (encVs_fits _) hl.symm, rfl, fleX_skip (fleX_refl h1.1), rfl, rfl⟩
    show ((t, _) :: H.bx).lookup t = _; simp
end Go.Proofs.YtababmnmkmgbbaaGreat
