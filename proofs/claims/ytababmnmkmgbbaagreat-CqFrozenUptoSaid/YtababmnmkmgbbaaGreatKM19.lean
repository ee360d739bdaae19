/-
  A part of the proof: its theorems say what each gives.
-/
import Derived.Test.YtababmnmkmgbbaaGreatKRm
import Derived.Test.YtababmnmkmgbbaaGreatKDk
import Derived.Test.YtababmnmkmgbbaaGreatKM12
set_option maxRecDepth 100000
set_option maxHeartbeats 4000000
set_option linter.unusedSimpArgs false
set_option linter.unusedVariables false
namespace Go.Proofs.YtababmnmkmgbbaaGreat
open Go Fw
/-! Package rel: copies. -/
theorem flat_rws (l : List (List Val)) : flat (encRws l) = encRws l := by
  induction l with
  | nil => rfl
  | cons x l ih => show (cRw x).cells ++ flat (encRws l) = _; rw [ih]; rfl
theorem flat_rw1 (x : List Val) : flat [AV.list (encVs x) none] = [AV.list (encVs x) none] := rfl
theorem flat_vs (l : List Val) : (flat (encVs l)).length = l.length * 4 := by rw [flat_len (k := 4) fun y hy => by obtain ⟨v, _, rfl⟩ := List.mem_map.1 hy; rfl, encVs_length]
abbrev zVc : List AV := [AV.con (.int .i64 0), .con (.int .i64 0), .con (.string ⟨#[]⟩), .con (.slice none 0 0)]
theorem flatV_take {x : List Val} {j : Nat} {v : Val} (h : x[j]? = some v) : List.take (j * 4) (flat (encVs (x.take j)) ++ (List.replicate (x.length - j) zVc).flatten) ++ [.con (.int .i64 v.k), .con (.int .i64 v.n), .con (.string v.s), .list (encFs v.fs) none] ++
      List.drop (j * 4 + 4) (flat (encVs (x.take j)) ++ (List.replicate (x.length - j) zVc).flatten) =
    flat (encVs (x.take (j + 1))) ++ (List.replicate (x.length - (j + 1)) zVc).flatten := by
  obtain ⟨hj, _⟩ := List.getElem?_eq_some_iff.1 h
  have hl : (flat (encVs (x.take j))).length = j * 4 := by rw [flat_vs, List.length_take]; congr 1; omega
  have e1 : x.length - j = (x.length - (j + 1)) + 1 := by omega
  rw [List.take_left' hl, e1, List.replicate_succ, List.flatten_cons, take_at h]
  have e2 : flat (encVs (x.take j ++ [v])) = flat (encVs (x.take j)) ++ (cV v).cells := by simp [encVs, flat]
  rw [e2, List.drop_append, List.drop_of_length_le (by rw [hl]; omega), List.nil_append, hl, show j * 4 + 4 - j * 4 = 4 by omega]
  rfl
theorem c_copiesS (l : List (List Val)) (H : Hp) (hl : gRws l) : ACalls Tryz.prog 254 [.list (encRws l) none] H
    fun r H' => ∃ ix, (l = [] ∨ H.box ix = none) ∧ r = .sl ix l.length 80 1 ∧ H' = ⟨hold ix (encRws l) H.bx, H.tk⟩ := by
  obtain ⟨h1, h2⟩ := hl
  refine acalls_of (by kernel_rfl) Tryz.func254 rfl 37 Tryz.ntmps254 (by simp) [.tmp 2] rfl ?_
  ((repeat' (first | (refine awp_seq_k (fun K hK => ?_)) | (refine awp_block ?_) | (refine awp_reg _ rfl ?_; (try simp only [go_sem, Nat.reduceLT, Nat.reduceAdd, ↓reduceIte, reduceCtorEq])) | (refine hK _ ?_; clear hK; (try clear K)))))
  refine awp_loopKG (ι := Nat × Nat) [8, 9] (fun q => [(3, .sl q.2 q.1 80 1), (10, .con (.int .i64 (q.1 : Int)))]) (fun q => ⟨hold q.2 (encRws (l.take q.1)) H.bx, H.tk⟩) (fun q => q.1 ≤ l.length ∧ (q.1 = 0 ∨ H.box q.2 = none)) (fun q => l.length - q.1) (0, 0) (by intro; simp only [keepT_cons, keepT_nil, List.cons_append, List.nil_append, lk, Nat.reduceEqDiff, ↓reduceIte]; rfl) ?_ ?_ ?_ ?_
  · exact ⟨by omega, .inl rfl⟩
  · exact ⟨AV.le_nil_sl _ _ _, .refl _, trivial⟩
  · exact .refl _
  rintro ⟨i, ix⟩ ⟨hi, hx0⟩
  simp only at hi hx0
  rcases Nat.lt_or_ge i l.length with hlt | hge
  · obtain ⟨x, hx, hm⟩ := at_lt hlt
    have hg := encRws_get hx
    obtain ⟨h3, h4⟩ := h2 x hm
    have hfx : hold ix (encRws (l.take i)) H.bx = hold ix (encRws (l.take i)) H.bx := rfl
    ((repeat' (first | (refine awp_seq_k (fun K hK => ?_)) | (refine awp_block ?_) | (refine awp_reg _ rfl ?_; (try simp only [go_sem, Nat.reduceLT, Nat.reduceEqDiff, Nat.reduceLeDiff, Nat.reduceAdd, ↓reduceIte, hg])) | (refine awp_cond _ rfl (fun hc => ?_) (fun hc => ?_) <;> (try (simp only [decide_eq_true_eq, decide_eq_false_iff_not] at hc)) <;> (try (exfalso; omega))) | (refine awp_skip ?_; (try simp only [sq])) | (with_reducible apply And.intro) | (refine all_fresh fun id fr => ?_) | (refine hK _ ?_; clear hK; (try clear K)))); (all_goals (try ((omega)))))
    obtain ⟨ic, hic⟩ : ∃ x, x = id := ⟨_, rfl⟩
    subst hic
    have frc := fr
    clear fr
    refine awp_loopKG (ι := Nat) [3, 5, 6, 8, 9, 10, 18] (fun q => [(19, .con (.int .i64 (q : Int)))]) (fun q => ⟨(ic, flat (encVs (x.take q)) ++ (List.replicate (x.length - q) [AV.con (.int .i64 0), .con (.int .i64 0), .con (.string ⟨#[]⟩), .con (.slice none 0 0)]).flatten) :: hold ix (encRws (l.take i)) H.bx, H.tk⟩) (fun q => q ≤ x.length) (fun q => x.length - q) 0 (by intro; simp only [keepT_cons, keepT_nil, List.cons_append, List.nil_append, lk, Nat.reduceEqDiff, ↓reduceIte]; rfl) ?_ ?_ ?_ ?_
    · omega
    · simp only [go_sem, Nat.reduceEqDiff, ↓reduceIte]
    · exact .refl _
    intro j hj
    rcases Nat.lt_or_ge j x.length with hlj | hgj
    · obtain ⟨v, hv, hmv⟩ := at_lt hlj
      have hg2 := encVs_at hv
      have hov := flatV_take hv
      have hlen : (flat (encVs (x.take j)) ++ (List.replicate (x.length - j) [AV.con (.int .i64 0), .con (.int .i64 0), .con (.string ⟨#[]⟩), .con (.slice none 0 0)]).flatten).length = x.length * 4 := by
        rw [List.length_append, flat_vs, List.length_take]; simp; omega
      ((repeat' (first | (refine awp_seq_k (fun K hK => ?_)) | (refine awp_block ?_) | (refine awp_reg _ rfl ?_; (try simp only [go_sem, Nat.reduceLT, Nat.reduceEqDiff, Nat.reduceLeDiff, Nat.reduceAdd, ↓reduceIte, hg2, wrap_succ j (by omega), hlen])) | (refine awp_cond _ rfl (fun hc => ?_) (fun hc => ?_) <;> (try (simp only [decide_eq_true_eq, decide_eq_false_iff_not] at hc)) <;> (try (exfalso; omega))) | (refine awp_skip ?_; (try simp only [sq])) | (refine PureAt.use (c_CopyV v _ (h4 v hmv).c) ?_ <;> (try simp only [go_sem, Nat.reduceAdd, ↓reduceIte, hov, hlen])) | (refine orAt_l ?_) | (with_reducible apply And.intro) | (refine hK _ ?_; clear hK; (try clear K)))); (all_goals (try ((omega)))))
      refine ⟨j + 1, by omega, by omega, ?_⟩
      (refine st_le rfl ?_ (by ((try dsimp only); repeat' ((with_reducible exact .refl _)))); (try simp only [go_sem, Nat.reduceEqDiff, ↓reduceIte]))
    · obtain rfl : j = x.length := by omega
      rw [List.take_length, Nat.sub_self, List.replicate_zero, List.flatten_nil, List.append_nil]
      refine awp_freezeSl 6 ic (xs := encVs x) [3, 5, 8, 9, 10, 18, 19] (by simp only [keepT_cons, keepT_nil, lk, Nat.reduceEqDiff, ↓reduceIte]; rfl) rfl ?_ rfl ?_ (encVs_fits x) ?_
      · simp only [go_sem, Nat.reduceEqDiff, ↓reduceIte]
      · exact frc.1
      have hz : i = 0 ↔ encRws (l.take i) = [] := by
        rw [← List.length_eq_zero_iff (l := encRws _), encRws_length, List.length_take]; omega
      have hlen : (encRws (l.take i)).length = i * 1 := by rw [encRws_length, List.length_take]; omega
      have hsl := slC_hold (id := ix) (bx := H.bx) (tk := H.tk) hz
      have hok := eq_true (slOk_hold (id := ix) (k := 1) (bx := H.bx) (tk := H.tk) hz hlen)
      have hdz : delZ i ix (hold ix (encRws (l.take i)) H.bx) = H.bx := by
        rcases hx0 with h0 | h0
        · subst h0; rfl
        · exact delZ_hold h0 hz
      have hh : hold (ix) (encRws (l.take i)) H.bx = hold ix (encRws (l.take i)) H.bx := rfl
      ((repeat' (first | (refine awp_seq_k (fun K hK => ?_)) | (refine awp_reg _ rfl ?_; (try simp only [go_sem, Nat.reduceLT, Nat.reduceEqDiff, Nat.reduceLeDiff, Nat.reduceAdd, Nat.reduceMul, ↓reduceIte, reduceCtorEq, hsl, hok, hdz, flat_rw1, wrap_succ i (by omega)])) | (refine awp_cond _ rfl (fun hc => ?_) (fun hc => ?_) <;> (try (simp only [decide_eq_true_eq, decide_eq_false_iff_not] at hc)) <;> (try (exfalso; omega))) | (refine awp_exit ?_; (try simp only [sq, bk, ↓reduceIte])) | (refine orAt_l ?_) | (with_reducible apply And.intro) | (refine all_fresh fun id fr => ?_) | (refine hK _ ?_; clear hK; (try clear K)) | (refine kk (by assumption) ?_))); (all_goals (try (first | omega | decide | (simp only [List.mem_cons, List.not_mem_nil, or_false, forall_eq, AV.cells, List.length_cons, List.length_nil, Nat.reduceAdd]; done)))))
      refine ⟨(i + 1, id), by simp only; omega, ⟨by simp only; omega, .inr (fresh_hold fr).1.1⟩, ?_⟩
      have hh : hold id (encRws (l.take (i + 1))) H.bx = (id, encRws (l.take i) ++ [cRw x]) :: H.bx := by
        rw [take_at hx, encRws_append]; exact hold_ne (by simp [encRws])
      (refine st_le rfl ?_ (by ((try dsimp only); (try simp only [hh,  ]); repeat' ((with_reducible exact .refl _)))); (try simp only [go_sem, Nat.reduceEqDiff, ↓reduceIte]))
  · obtain rfl : i = l.length := by omega
    rw [List.take_length]
    ((repeat' (first | (refine awp_seq_k (fun K hK => ?_)) | (refine awp_reg _ rfl ?_; (try simp only [go_sem, Nat.reduceLT, Nat.reduceEqDiff, Nat.reduceLeDiff, Nat.reduceAdd, ↓reduceIte, reduceCtorEq])) | (refine awp_cond _ rfl (fun hc => ?_) (fun hc => ?_) <;> (try (simp only [decide_eq_true_eq, decide_eq_false_iff_not] at hc)) <;> (try (exfalso; omega))) | (refine awp_exit ?_; (try simp only [sq, bk, ↓reduceIte])) | (refine awp_ret ?_) | (refine hK _ ?_; clear hK; (try clear K)) | (refine kk (by assumption) ?_))))
    refine fin_any (x := .sl ix l.length 80 1) (H := ⟨hold ix (encRws l) H.bx, H.tk⟩) (by (try simp only [forall_eq, resOk, List.mem_cons, List.not_mem_nil, or_false])) (by (try simp only [go_sem, ↓reduceIte])) (by ((try dsimp only); repeat' ((with_reducible exact .refl _)))) ?_
    exact ⟨ix, by rcases hx0 with h | h; exact .inl (List.eq_nil_of_length_eq_zero h); exact .inr h, rfl, rfl⟩
theorem c_copiesL (l : List (List Val)) (H : Hp) (hl : gRws l) : PureAt Tryz.prog 254 [.list (encRws l) none] H (.list (encRws l) none) :=
  ACalls.frzNZ (c_copiesS l H hl |>.mono fun r H' ⟨ix, h1, h2, h3⟩ => ⟨ix, 80, 1, by rw [encRws_length]; exact h2, encRws_fits l, by rw [flat_rws]; exact h3, by
    rcases h1 with rfl | h1
    · exact .inl rfl
    · rcases l with _ | ⟨x, l⟩
      · exact .inl rfl
      · exact .inr ⟨by rw [flat_rws]; simp [encRws], h1⟩⟩)
theorem c_relCopy (r : Rel) (H : Hp) (h : gRel r) : PureAt Tryz.prog 167 [cRel r] H (cRel r) := by
  have h1 := h.cols
  have h2 := h.key
  refine acalls_of (by kernel_rfl) Tryz.func167 rfl 16 Tryz.ntmps167 (by simp) [.cell 2 103] rfl ?_
  ((repeat' (first | (refine awp_mixed (id := 1) [0, 1, 2, 3, 4, 5, 6, 7, 9, 8, 10, 11, 12, 13, 14] [8, 10, 12, 14] [(8, []), (10, []), (12, []), (14, [])] (by kernel_rfl) (by kernel_rfl) ?_; (try simp only [go_sem, Nat.reduceLT, Nat.reduceEqDiff, Nat.reduceLeDiff, Nat.reduceAdd, ↓reduceIte, reduceCtorEq])) | (refine awp_seq_k (fun K hK => ?_)) | (refine awp_reg _ rfl ?_; (try simp only [go_sem, Nat.reduceLT, Nat.reduceEqDiff, Nat.reduceLeDiff, Nat.reduceAdd, ↓reduceIte])) | (refine awp_ret ?_) | (refine PureAt.use (c_copiesL r.rows _ h.rows) ?_ <;> (try simp only [go_sem, Nat.reduceLeDiff, Nat.reduceAdd, ↓reduceIte])) | (refine ⟨_, fun H => c_CloneLCol r.cols _ (by omega), ?_⟩ <;> (try simp only [go_sem, Nat.reduceLeDiff, Nat.reduceAdd])) | (refine ⟨_, fun H => c_CloneLStr r.key _ (by omega), ?_⟩ <;> (try simp only [go_sem, Nat.reduceLeDiff, Nat.reduceAdd])) | (refine orAt_l ?_) | (refine all_fresh fun id fr => ?_; (try have := NeI.of_fr fr)) | (refine hK _ ?_; clear hK; (try clear K)))))
  (refine fin_le (cRel r) (H) (by (try simp only [forall_eq, resOk, List.mem_cons, List.not_mem_nil, or_false]); (try simp only [go_sem, Nat.reduceEqDiff, Nat.reduceLeDiff, Nat.reduceAdd, ↓reduceIte])) (by (try simp only [go_sem, Nat.reduceEqDiff, ↓reduceIte]); (repeat' (first | exact .refl _ | exact AV.le_nil | exact AV.le_emp | exact AV.le_list _ _ | exact AV.le_any _ | exact lec_nil | refine AV.le_aggc rfl ?_ | refine AV.le_tupc rfl ?_ | refine lec_cons ?_ ?_))) (by ((try dsimp only); repeat' (first | with_reducible exact .refl _ | exact box_fresh (by assumption) | exact box_fr (fr_drop (by assumption)) | refine weak_box ?_ ?_))) ⟨rfl, rfl⟩)
abbrev zRel : Rel := ⟨⟨#[]⟩, [], [], []⟩
theorem findR_drop {b : List Rel} {nm : ByteArray} {i : Nat} (h : ∀ y ∈ b.take i, decide (y.nm = nm) = false) : findR b nm = findR (b.drop i) nm := by
  unfold findR
  conv => lhs; rw [← List.take_append_drop i b]
  rw [List.find?_append, List.find?_eq_none.2 (fun x hx => by rw [h x hx]; simp)]; rfl
theorem c_Find (b : List Rel) (nm : ByteArray) (H : Hp) (h : gBase b) : PureAt Tryz.prog 96 [.list (encRels b) none, .con (.string nm)] H (.tup [cRel ((findR b nm).getD zRel), .con (.bool (findR b nm).isSome)]) := by
  obtain ⟨h1, h2⟩ := h
  refine acalls_of (by kernel_rfl) Tryz.func96 rfl 22 Tryz.ntmps96 (by simp) [.cell 4 103, .tmp 5] rfl ?_
  ((repeat' (first | (refine awp_seq_k (fun K hK => ?_)) | (refine awp_block ?_) | (refine awp_reg _ rfl ?_; (try simp only [go_sem, Nat.reduceLT, Nat.reduceAdd, ↓reduceIte, reduceCtorEq])) | (refine all_fresh fun id fr => ?_) | (refine hK _ ?_; clear hK; (try clear K)))))
  refine awp_loopKH (ι := Nat) [1, 4, 8, 9] (fun i => [(10, .con (.int .i64 (i : Int)))]) (fun i => i ≤ b.length ∧ ∀ y ∈ b.take i, decide (y.nm = nm) = false) (fun i => b.length - i) 0 (by intro; simp only [keepT_cons, keepT_nil, List.cons_append, List.nil_append, lk, Nat.reduceEqDiff, ↓reduceIte, reduceCtorEq]; rfl) ⟨by omega, by simp⟩ (by ((simp only [go_sem, ↓reduceIte]; done))) ?_
  intro i ⟨hi, h0⟩
  rcases Nat.lt_or_ge i b.length with hlt | hge
  · obtain ⟨x, hx, hm⟩ := at_lt hlt
    have hg := encRels_get hx
    cases hv : decide (x.nm = nm)
    · have hv2 : (x.nm = nm) = False := eq_false (of_decide_eq_false hv)
      ((repeat' (first | (refine awp_seq_k (fun K hK => ?_)) | (refine awp_block ?_) | (refine awp_reg _ rfl ?_; (try simp only [go_sem, Nat.reduceLT, Nat.reduceEqDiff, Nat.reduceLeDiff, Nat.reduceAdd, ↓reduceIte, reduceCtorEq, wrap_succ i (by omega), hg, hv2, decide_false, bls])) | (refine awp_cond _ rfl (fun hc => ?_) (fun hc => ?_) <;> (try (simp only [decide_eq_true_eq, decide_eq_false_iff_not, cds] at hc)) <;> (try (exfalso; omega))) | (refine awp_skip ?_; (try simp only [sq, bk])) | (refine orAt_r 7 ?_; (try simp only [go_sem, Nat.reduceLT, Nat.reduceAdd, ↓reduceIte, bls])) | (with_reducible apply And.intro) | (refine hK _ ?_; clear hK; (try clear K)))); (all_goals (try ((omega)))))
      have h1 := take_step hx hv h0
      refine ⟨i + 1, by omega, ⟨by omega, by assumption⟩, ?_⟩
      (refine st_le rfl ?_ (by ((try dsimp only); repeat' ((with_reducible exact .refl _)))); (try simp only [go_sem, Nat.reduceEqDiff, ↓reduceIte, reduceCtorEq]))
    · have hv2 : (x.nm = nm) = True := eq_true (of_decide_eq_true hv)
      have e : findR b nm = some x := by rw [findR_drop h0, drop_at hx]; unfold findR; rw [List.find?_cons, hv]
      ((repeat' (first | (refine awp_seq_k (fun K hK => ?_)) | (refine awp_block ?_) | (refine awp_reg _ rfl ?_; (try simp only [go_sem, Nat.reduceLT, Nat.reduceEqDiff, Nat.reduceLeDiff, Nat.reduceAdd, ↓reduceIte, reduceCtorEq, hg, hv2, decide_true, bls])) | (refine awp_cond _ rfl (fun hc => ?_) (fun hc => ?_) <;> (try (simp only [decide_eq_true_eq, decide_eq_false_iff_not, cds] at hc)) <;> (try (exfalso; omega))) | (refine awp_skip ?_; (try simp only [sq])) | (refine awp_ret ?_; (try simp only [sq, bk])) | (refine PureAt.use (c_relCopy x _ (h2 x hm)) ?_ <;> (try simp only [go_sem, Nat.reduceLeDiff, Nat.reduceAdd, ↓reduceIte, bls])) | (refine orAt_r 7 ?_; (try simp only [go_sem, Nat.reduceLT, Nat.reduceAdd, ↓reduceIte, bls])) | (refine orAt_l ?_) | (with_reducible apply And.intro) | (refine hK _ ?_; clear hK; (try clear K)))); (all_goals (try ((omega)))))
      rw [e]
      (refine fin_le (.tup [cRel x, .con (.bool true)]) (H) (by (try simp only [forall_eq, resOk, List.mem_cons, List.not_mem_nil, or_false, forall_eq_or_imp]); (try simp only [go_sem, Nat.reduceEqDiff, Nat.reduceLeDiff, Nat.reduceAdd, ↓reduceIte])) (by (try simp only [go_sem, Nat.reduceEqDiff, ↓reduceIte]); (repeat' (first | exact .refl _ | exact AV.le_nil | exact AV.le_emp | exact AV.le_list _ _ | exact AV.le_any _ | exact lec_nil | refine AV.le_aggc rfl ?_ | refine AV.le_tupc rfl ?_ | refine lec_cons ?_ ?_))) (by ((try dsimp only); repeat' (first | with_reducible exact .refl _ | exact box_fresh (by assumption) | refine weak_box ?_ ?_))) ⟨rfl, rfl⟩)
  · obtain rfl : i = b.length := by omega
    have e : findR b nm = none := by rw [findR_drop h0, List.drop_length]; rfl
    ((repeat' (first | (refine awp_seq_k (fun K hK => ?_)) | (refine awp_reg _ rfl ?_; (try simp only [go_sem, Nat.reduceLT, Nat.reduceEqDiff, Nat.reduceLeDiff, Nat.reduceAdd, ↓reduceIte, reduceCtorEq])) | (refine awp_cond _ rfl (fun hc => ?_) (fun hc => ?_) <;> (try (simp only [decide_eq_true_eq, decide_eq_false_iff_not] at hc)) <;> (try (exfalso; omega))) | (refine awp_exit ?_; (try simp only [sq, bk, ↓reduceIte])) | (refine awp_ret ?_) | (refine hK _ ?_; clear hK; (try clear K)) | (refine kk (by assumption) ?_))))
    rw [e]
    (refine fin_le (.tup [cRel zRel, .con (.bool false)]) (H) (by (try simp only [forall_eq, resOk, List.mem_cons, List.not_mem_nil, or_false, forall_eq_or_imp]); (try simp only [go_sem, Nat.reduceEqDiff, Nat.reduceLeDiff, Nat.reduceAdd, ↓reduceIte])) (by (try simp only [go_sem, Nat.reduceEqDiff, ↓reduceIte]); (repeat' (first | exact .refl _ | exact AV.le_nil | refine AV.le_aggc rfl ?_ | refine AV.le_tupc rfl ?_ | refine lec_cons ?_ ?_))) (by ((try dsimp only); repeat' (first | with_reducible exact .refl _ | exact box_fresh (by assumption) | refine weak_box ?_ ?_))) ⟨rfl, rfl⟩)
end Go.Proofs.YtababmnmkmgbbaaGreat
/-
  A part of the proof: its theorems say what each gives.
-/
set_option maxRecDepth 100000
set_option linter.unusedSimpArgs false
set_option linter.unusedVariables false
namespace Go.Proofs.YtababmnmkmgbbaaGreat
open Go Fw
/-! The checks of package cq, in plain Lean. -/
abbrev zV : Val := .mk 0 0 ⟨#[]⟩ []
def termE (t : Trm) : Int := if t.var = true then (if cmpV t.v zV = 0 then (if t.n < 0 ∨ 24 ≤ t.n then 11 else 0) else 3) else if t.n = 0 then (if t.v.k < 1 ∨ 5 < t.v.k then 8 else checkE t.v) else 3
def argsE : List Col → List Trm → List Int → Int × List Int
  | c :: m, t :: l, ks => if termE t = 0 then (if t.var = true then (if ks.getD t.n.toNat 0 = 0 then argsE m l (ks.set t.n.toNat c.kd) else if ks.getD t.n.toNat 0 = c.kd then argsE m l ks else (8, ks))
      else if t.v.k = c.kd then argsE m l ks else (8, ks)) else (termE t, ks)
  | _, _, ks => (0, ks)
def atomE (b : List Rel) (a : Atm) (ks : List Int) : Int × List Int :=
  match findR b a.rel with
  | none => (15, ks)
  | some r => if a.args.length = r.cols.length then argsE r.cols a.args ks else (3, ks)
def atomsE (b : List Rel) : List Atm → List Int → Int × List Int
  | [], ks => (0, ks)
  | a :: l, ks => if (atomE b a ks).1 = 0 then atomsE b l (atomE b a ks).2 else atomE b a ks
def kinds0 : List Int := List.replicate 24 0
def kindsE (b : List Rel) (l : List Atm) : Int := if baseE b = 0 then (if 12 < l.length then 2 else (atomsE b l kinds0).1) else baseE b
def kindsL (b : List Rel) (l : List Atm) : List Int := (atomsE b l kinds0).2
def headTE (ks : List Int) : List Trm → Int
  | [] => 0
  | t :: l => if termE t = 0 then (if t.var = true ∧ ks.getD t.n.toNat 0 = 0 then 4 else headTE ks l) else termE t
def cqE (b : List Rel) (q : CQ) : Int := if kindsE b q.body = 0 then (if 12 < q.head.length then 2 else headTE (kindsL b q.body) q.head) else kindsE b q.body
end Go.Proofs.YtababmnmkmgbbaaGreat
