/-
  A part of the proof: its theorems say what each gives.
-/
import Derived.Test.YtababmnmkmgbbaaGreatKRl
import Derived.Test.YtababmnmkmgbbaaGreatKDc
set_option maxRecDepth 100000
set_option maxHeartbeats 4000000
set_option linter.unusedSimpArgs false
set_option linter.unusedVariables false
namespace Go.Proofs.YtababmnmkmgbbaaGreat
open Go Fw
/-! Package rel: relations and bases are checked. -/
theorem colI_lt {cols : List Col} {k : ByteArray} : colI cols k < cols.length ∨ cols.length = 0 := by
  unfold colI idxL
  cases h : cols.findIdx? (fun c => decide (c.nm = k)) with
  | none => simp only; omega
  | some i =>
    obtain ⟨hl, _⟩ := List.findIdx?_eq_some_iff_getElem.1 h
    simp only; omega
theorem keyAt_lt {cols : List Col} {k : ByteArray} (h : 0 < cols.length) : keyAt cols k < cols.length := by
  unfold keyAt
  rcases colI_lt (cols := cols) (k := k) with h1 | h1 <;> omega
theorem wrap01 : IntKind.i64.wrap (0 + 1) = 1 := by decide
theorem max_toNat (n : Int) : max 0 n = ((n.toNat : Nat) : Int) := by omega
theorem c_agree1 (r : Rel) (a b : List Val) (k : ByteArray) (H : Hp) (h : gRel r) (ha : gRow a) (hb : gRow b) (la : a.length = r.cols.length) (lb : b.length = r.cols.length) (h0 : 0 < r.cols.length) :
    PureAt Tryz.prog 260 [.con (.string k), .ro (cRel r).cells, .ro [cRw a], .ro [cRw b]] H
      (.con (.bool (!decide (cmpV (a.getD (keyAt r.cols k) (.mk 0 0 ⟨#[]⟩ [])) (b.getD (keyAt r.cols k) (.mk 0 0 ⟨#[]⟩ [])) = 0)))) := by
  have hk := keyAt_lt (k := k) h0
  obtain ⟨x, hx, hm⟩ := at_lt (show keyAt r.cols k < a.length by omega)
  obtain ⟨y, hy, hm2⟩ := at_lt (show keyAt r.cols k < b.length by omega)
  have hg := encVs_at hx
  have hg2 := encVs_at hy
  have e1 : a.getD (keyAt r.cols k) (.mk 0 0 ⟨#[]⟩ []) = x := by rw [List.getD_eq_getElem?_getD, hx]; rfl
  have e2 : b.getD (keyAt r.cols k) (.mk 0 0 ⟨#[]⟩ []) = y := by rw [List.getD_eq_getElem?_getD, hy]; rfl
  rw [e1, e2]
  unfold keyAt at *
  refine acalls_of (by kernel_rfl) Tryz.func260 rfl 24 Tryz.ntmps260 (by simp) [.tmp 5] rfl ?_
  ((repeat' (first | (refine awp_seq_k (fun K hK => ?_)) | (refine awp_reg _ rfl ?_; (try simp only [go_sem, Nat.reduceLT, Nat.reduceEqDiff, Nat.reduceLeDiff, Nat.reduceAdd, ↓reduceIte, reduceCtorEq])) | (refine awp_drawn (by kernel_rfl) (by kernel_rfl) ?_; (try simp only [go_sem, Nat.reduceLT, Nat.reduceEqDiff, Nat.reduceLeDiff, Nat.reduceAdd, ↓reduceIte, reduceCtorEq, hg, hg2])) | (refine awp_ret ?_) | (refine PureAt.use (c_Col r _ _ h) ?_ <;> (try simp only [go_sem, Nat.reduceLT, Nat.reduceAdd, max_toNat])) | (refine ⟨_, c_SameV x y _ (ha.2 x hm).z (hb.2 y hm2).z, ?_⟩ <;> (try simp only [go_sem])) | (refine orAt_l ?_) | (with_reducible apply And.intro) | (refine hK _ ?_; clear hK; (try clear K)))); (all_goals (try ((omega)))))
  ((all_goals (try refine fin_pure (by (try simp only [forall_eq, resOk, List.mem_cons, List.not_mem_nil, or_false])) ?_ (by ((try dsimp only); repeat' ((with_reducible exact .refl _)))))); (all_goals (try simp only [go_sem, ↓reduceIte])))
theorem c_agree (r : Rel) (a b : List Val) (H : Hp) (h : gRel r) (ha : gRow a) (hb : gRow b) (la : a.length = r.cols.length) (lb : b.length = r.cols.length) (h0 : 0 < r.cols.length) :
    PureAt Tryz.prog 170 [cRel r, cRw a, cRw b] H (.con (.bool (agreeB r a b))) := by
  have h1 := h.key
  refine acalls_of (by kernel_rfl) Tryz.func170 rfl 12 Tryz.ntmps170 (by simp) [.tmp 6] rfl ?_
  ((repeat' (first | (refine awp_seq_k (fun K hK => ?_)) | (refine awp_reg _ rfl ?_; (try simp only [go_sem, Nat.reduceLT, Nat.reduceEqDiff, Nat.reduceLeDiff, Nat.reduceAdd, ↓reduceIte, reduceCtorEq])) | (refine awp_ret ?_) | (refine PureAt.use (c_AnyStr r.key _ _ (fun k => !decide (cmpV (a.getD (keyAt r.cols k) (.mk 0 0 ⟨#[]⟩ [])) (b.getD (keyAt r.cols k) (.mk 0 0 ⟨#[]⟩ [])) = 0)) _ (by omega) (fun k _ => c_agree1 r a b k _ h ha hb la lb h0)) ?_ <;> (try simp only [go_sem])) | (refine orAt_r 3 ?_) | (refine orAt_r 4 ?_) | (refine orAt_r 5 ?_) | (refine orAt_l ?_) | (refine hK _ ?_; clear hK; (try clear K)))))
  ((all_goals (try refine fin_pure (by (try simp only [forall_eq, resOk, List.mem_cons, List.not_mem_nil, or_false])) ?_ (by ((try dsimp only); repeat' ((with_reducible exact .refl _)))))); (all_goals (try simp only [go_sem, ↓reduceIte, agreeB])))
theorem getLast_take {α : Type} {l : List α} {i : Nat} {x : α} (h : l[i]? = some x) : (l.take (i + 1)).getLast? = some x := by rw [take_at h]; simp
theorem rowE_len {cols : List Col} {l : List Val} (h : rowE cols l = 0) : l.length = cols.length := by
  unfold rowE at h; split at h
  · assumption
  · cases h
theorem headE_pos {r : Rel} (h : headE r = 0) : 0 < r.cols.length := by
  unfold headE at h
  split at h
  · cases h
  · split at h
    · cases h
    · omega
theorem rowsE_len {cols : List Col} : ∀ {pre l : List (List Val)}, rowsE cols pre l = 0 → ∀ x ∈ l, x.length = cols.length
  | _, [], _, x, hx => by cases hx
  | pre, y :: l, h, x, hx => by
    rw [rowsE] at h
    split at h
    · rename_i h0
      split at h
      · cases h
      · rcases List.mem_cons.1 hx with rfl | hx
        · exact rowE_len h0
        · exact rowsE_len h x hx
    · rename_i h0; exact absurd h h0
theorem c_relCheck (r : Rel) (H : Hp) (h : gRel r) : PureAt Tryz.prog 69 [cRel r] H (.con (.int .i64 (relE r))) := by
  obtain ⟨h1, h2⟩ := h.rows
  unfold relE
  refine acalls_of (by kernel_rfl) Tryz.func69 rfl 75 Tryz.ntmps69 (by simp) [.tmp 2] rfl ?_
  ((repeat' (first | (refine awp_seq_k (fun K hK => ?_)) | (refine awp_block ?_) | (refine awp_reg _ rfl ?_; (try simp only [go_sem, Nat.reduceLT, Nat.reduceEqDiff, Nat.reduceLeDiff, Nat.reduceAdd, ↓reduceIte, reduceCtorEq])) | (refine awp_cond _ rfl (fun hc => ?_) (fun hc => ?_) <;> (try (simp only [decide_eq_true_eq, decide_eq_false_iff_not, Decidable.not_not] at hc))) | (refine awp_skip ?_; (try simp only [sq])) | (refine awp_ret ?_; (try simp only [sq])) | (refine PureAt.use (c_head r _ h) ?_ <;> (try simp only [go_sem])) | (refine orAt_r 1 ?_) | (refine orAt_l ?_) | (refine hK _ ?_; clear hK; (try clear K)))))
  · (((all_goals (try refine fin_pure (by (try simp only [forall_eq, resOk, List.mem_cons, List.not_mem_nil, or_false])) ?_ (by ((try dsimp only); repeat' ((with_reducible exact .refl _)))))); (all_goals (try simp only [go_sem, ↓reduceIte])); (all_goals (try (((simp [*]; done)))))))
  · (((all_goals (try refine fin_pure (by (try simp only [forall_eq, resOk, List.mem_cons, List.not_mem_nil, or_false])) ?_ (by ((try dsimp only); repeat' ((with_reducible exact .refl _)))))); (all_goals (try simp only [go_sem, ↓reduceIte]))); (all_goals (try (((congr 2; grind))))))
  refine awp_loopKH (ι := Nat) [1, 21, 22] (fun i => [(23, .con (.int .i64 (i : Int)))]) (fun i => i ≤ r.rows.length ∧ rowsE r.cols (r.rows.take i) (r.rows.drop i) = rowsE r.cols [] r.rows) (fun i => r.rows.length - i) 0 (by intro; simp only [keepT_cons, keepT_nil, List.cons_append, List.nil_append, lk, Nat.reduceEqDiff, ↓reduceIte]; rfl) ⟨by omega, by simp⟩ (by ((simp only [go_sem, ↓reduceIte]; done))) ?_
  intro i ⟨hi, h0⟩
  rcases Nat.lt_or_ge i r.rows.length with hlt | hge
  · obtain ⟨x, hx, hm⟩ := at_lt hlt
    have hg := encRws_get hx
    rw [drop_at hx, rowsE] at h0
    rcases Nat.eq_zero_or_pos i with hi0 | hi0
    · subst hi0
      have hb0 : ((0 : Int) < 0) = False := eq_false (by omega)
      ((repeat' (first | (refine awp_seq_k (fun K hK => ?_)) | (refine awp_block ?_) | (refine awp_reg _ rfl ?_; (try simp only [go_sem, Nat.reduceLT, Nat.reduceEqDiff, Nat.reduceLeDiff, Nat.reduceAdd, Int.reduceToNat, ↓reduceIte, reduceCtorEq, wrap01, hg, hb0, ↓pkv, decide_false, bls])) | (refine awp_cond _ rfl (fun hc => ?_) (fun hc => ?_) <;> (try (simp only [decide_eq_true_eq, decide_eq_false_iff_not, cds, Decidable.not_not] at hc)) <;> (try (exfalso; omega))) | (refine awp_skip ?_; (try simp only [sq, bk])) | (refine awp_ret ?_; (try simp only [sq, bk])) | (refine PureAt.use (c_row r x _ h (h2 x hm)) ?_ <;> (try simp only [go_sem])) | (refine ⟨AV.any, fun hg => False.elim hg, ?_⟩; (try simp only [go_sem])) | (refine orAt_l ?_) | (with_reducible apply And.intro) | (refine hK _ ?_; clear hK; (try clear K)))); (all_goals (try (first | omega | (intro hh; simp only at hh ⊢; (done))))))
      · (((all_goals (try refine fin_pure (by (try simp only [forall_eq, resOk, List.mem_cons, List.not_mem_nil, or_false])) ?_ (by ((try dsimp only); repeat' ((with_reducible exact .refl _)))))); (all_goals (try simp only [go_sem, ↓reduceIte]))); (all_goals (try (((congr 2; grind))))))
      · refine ⟨0 + 1, by omega, ⟨by omega, by (rw [take_at hx]; simp at h0 ⊢; grind)⟩, ?_⟩
        (refine st_le rfl ?_ (by ((try dsimp only); repeat' ((with_reducible exact .refl _)))); (try simp only [go_sem, Nat.reduceEqDiff, Nat.reduceAdd, ↓reduceIte, reduceCtorEq]))
    · obtain ⟨j, rfl⟩ : ∃ j, i = j + 1 := ⟨i - 1, by omega⟩
      obtain ⟨y, hy, hm2⟩ := at_lt (show j < r.rows.length by omega)
      have hb0 : ((0 : Int) < ((j + 1 : Nat) : Int)) = True := eq_true (by omega)
      have hw : IntKind.i64.wrap (((j + 1 : Nat) : Int) - 1) = (j : Int) := by rw [wrap_id (by omega) (by omega)]; omega
      have hg2 := encRws_get hy
      rw [getLast_take hy] at h0
      ((repeat' (first | (refine awp_seq_k (fun K hK => ?_)) | (refine awp_block ?_) | (refine awp_reg _ rfl ?_; (try simp only [go_sem, Nat.reduceLT, Nat.reduceEqDiff, Nat.reduceLeDiff, Nat.reduceAdd, ↓reduceIte, reduceCtorEq, wrap_succ (j + 1) (by omega), hg, hg2, hb0, hw, ↓pkv, decide_true, bls])) | (refine awp_cond _ rfl (fun hc => ?_) (fun hc => ?_) <;> (try (simp only [decide_eq_true_eq, decide_eq_false_iff_not, Decidable.not_not] at hc)) <;> (try (exfalso; omega))) | (refine awp_skip ?_; (try simp only [sq, bk])) | (refine awp_ret ?_; (try simp only [sq, bk])) | (refine PureAt.use (c_row r x _ h (h2 x hm)) ?_ <;> (try simp only [go_sem])) | (refine ⟨_, c_relCmp y x _ (h2 y hm2) (h2 x hm), ?_⟩ <;> (try simp only [go_sem])) | (refine orAt_l ?_) | (with_reducible apply And.intro) | (refine hK _ ?_; clear hK; (try clear K)))); (all_goals (try ((omega)))))
      · (((all_goals (try refine fin_pure (by (try simp only [forall_eq, resOk, List.mem_cons, List.not_mem_nil, or_false])) ?_ (by ((try dsimp only); repeat' ((with_reducible exact .refl _)))))); (all_goals (try simp only [go_sem, ↓reduceIte]))); (all_goals (try (((congr 2; grind))))))
      · (((all_goals (try refine fin_pure (by (try simp only [forall_eq, resOk, List.mem_cons, List.not_mem_nil, or_false])) ?_ (by ((try dsimp only); repeat' ((with_reducible exact .refl _)))))); (all_goals (try simp only [go_sem, ↓reduceIte]))); (all_goals (try (((congr 2; grind))))))
      · refine ⟨(j + 1) + 1, by omega, ⟨by omega, by (rw [take_at hx]; grind)⟩, ?_⟩
        (refine st_le rfl ?_ (by ((try dsimp only); repeat' ((with_reducible exact .refl _)))); (try simp only [go_sem, Nat.reduceEqDiff, Nat.reduceAdd, ↓reduceIte, reduceCtorEq]))
  · obtain rfl : i = r.rows.length := by omega
    rw [List.drop_length, rowsE] at h0
    have hrows : ∀ x ∈ r.rows, x.length = r.cols.length := rowsE_len h0.symm
    by_cases hk0 : r.key.length = 0
    · have hk1 : ((r.key.length : Int) = 0) = True := eq_true (by omega)
      ((repeat' (first | (refine awp_seq_k (fun K hK => ?_)) | (refine awp_reg _ rfl ?_; (try simp only [go_sem, Nat.reduceLT, Nat.reduceEqDiff, Nat.reduceLeDiff, Nat.reduceAdd, ↓reduceIte, reduceCtorEq, hk1, decide_true, bls])) | (refine awp_cond _ rfl (fun hc => ?_) (fun hc => ?_) <;> (try (simp only [decide_eq_true_eq, decide_eq_false_iff_not, cds] at hc)) <;> (try (exfalso; omega))) | (refine awp_exit ?_; (try simp only [sq, bk, ↓reduceIte])) | (refine awp_ret ?_; (try simp only [sq])) | (refine hK _ ?_; clear hK; (try clear K)) | (refine kk (by assumption) ?_))))
      (((all_goals (try refine fin_pure (by (try simp only [forall_eq, resOk, List.mem_cons, List.not_mem_nil, or_false])) ?_ (by ((try dsimp only); repeat' ((with_reducible exact .refl _)))))); (all_goals (try simp only [go_sem, ↓reduceIte]))); (all_goals (try (((congr 2; grind))))))
    have hk1 : ((r.key.length : Int) = 0) = False := eq_false (by omega)
    ((repeat' (first | (refine awp_seq_k (fun K hK => ?_)) | (refine awp_block ?_) | (refine awp_reg _ rfl ?_; (try simp only [go_sem, Nat.reduceLT, Nat.reduceEqDiff, Nat.reduceLeDiff, Nat.reduceAdd, ↓reduceIte, reduceCtorEq, hk1, decide_false, bls])) | (refine awp_cond _ rfl (fun hc => ?_) (fun hc => ?_) <;> (try (simp only [decide_eq_true_eq, decide_eq_false_iff_not, cds] at hc)) <;> (try (exfalso; omega))) | (refine awp_skip ?_; (try simp only [sq])) | (refine awp_exit ?_; (try simp only [sq, bk, ↓reduceIte])) | (refine hK _ ?_; clear hK; (try clear K)) | (refine kk (by assumption) ?_))))
    have h9 : 0 < r.cols.length := headE_pos (by assumption)
    refine awp_loopKH (ι := Nat) [1, 53, 54] (fun i => [(55, .con (.int .i64 (i : Int)))]) (fun i => i ≤ r.rows.length ∧ pairsE r (r.rows.take i) (r.rows.drop i) = pairsE r [] r.rows) (fun i => r.rows.length - i) 0 (by intro; simp only [keepT_cons, keepT_nil, List.cons_append, List.nil_append, lk, Nat.reduceEqDiff, ↓reduceIte]; rfl) ⟨by omega, by simp⟩ (by ((simp only [go_sem, ↓reduceIte]; done))) ?_
    intro i ⟨hi, h3⟩
    rcases Nat.lt_or_ge i r.rows.length with hlt | hge
    · obtain ⟨x, hx, hm⟩ := at_lt hlt
      have hg := encRws_get hx
      have htl : (r.rows.take i).length = i := by rw [List.length_take]; omega
      rw [drop_at hx, pairsE] at h3
      ((repeat' (first | (refine awp_seq_k (fun K hK => ?_)) | (refine awp_block ?_) | (refine awp_reg _ rfl ?_; (try simp only [go_sem, Nat.reduceLT, Nat.reduceEqDiff, Nat.reduceLeDiff, Nat.reduceAdd, Int.reduceToNat, ↓reduceIte, reduceCtorEq, hg, encRws_take, htl])) | (refine awp_cond _ rfl (fun hc => ?_) (fun hc => ?_) <;> (try (simp only [decide_eq_true_eq, decide_eq_false_iff_not] at hc)) <;> (try (exfalso; omega))) | (refine awp_skip ?_; (try simp only [sq])) | (with_reducible apply And.intro) | (refine hK _ ?_; clear hK; (try clear K)))); (all_goals (try ((omega)))))
      refine awp_loopKH (ι := Nat) [1, 8, 53, 54, 55, 63, 64] (fun j => [(65, .con (.int .i64 (j : Int)))]) (fun j => j ≤ i ∧ ∀ y ∈ (r.rows.take i).take j, agreeB r x y = false) (fun j => i - j) 0 (by intro; simp only [keepT_cons, keepT_nil, List.cons_append, List.nil_append, lk, Nat.reduceEqDiff, ↓reduceIte]; rfl) ⟨by omega, by simp⟩ (by ((simp only [go_sem, ↓reduceIte]; done))) ?_
      intro j ⟨hj, h4⟩
      rcases Nat.lt_or_ge j i with hlj | hgj
      · obtain ⟨y, hy, hm2⟩ := at_lt (show j < (r.rows.take i).length by omega)
        have hg2 := encRws_get hy
        have hmy := List.mem_of_mem_take hm2
        cases hv : agreeB r x y
        all_goals
          have hcm := c_agree r x y
          rw [hv] at hcm
          ((repeat' (first | (refine awp_seq_k (fun K hK => ?_)) | (refine awp_block ?_) | (refine awp_reg _ rfl ?_; (try simp only [go_sem, Nat.reduceLT, Nat.reduceEqDiff, Nat.reduceLeDiff, Nat.reduceAdd, ↓reduceIte, hg2, wrap_succ j (by omega)])) | (refine awp_cond _ rfl (fun hc => ?_) (fun hc => ?_) <;> (try (simp only [decide_eq_true_eq, decide_eq_false_iff_not, cds] at hc)) <;> (try (exfalso; omega))) | (refine awp_skip ?_; (try simp only [sq, bk])) | (refine awp_ret ?_; (try simp only [sq, bk])) | (refine PureAt.use (hcm _ h (h2 x hm) (h2 y hmy) (hrows x hm) (hrows y hmy) h9) ?_) | (refine orAt_l ?_) | (with_reducible apply And.intro) | (refine hK _ ?_; clear hK; (try clear K)))); (all_goals (try ((omega)))))
        · have h5 := take_step hy hv h4
          refine ⟨j + 1, by omega, ⟨by omega, by assumption⟩, ?_⟩
          (refine st_le rfl ?_ (by ((try dsimp only); repeat' ((with_reducible exact .refl _)))); (try simp only [go_sem, Nat.reduceEqDiff, ↓reduceIte]))
        · have : (r.rows.take i).any (fun b => agreeB r x b) = true := List.any_eq_true.2 ⟨y, hm2, hv⟩
          (((all_goals (try refine fin_pure (by (try simp only [forall_eq, resOk, List.mem_cons, List.not_mem_nil, or_false])) ?_ (by ((try dsimp only); repeat' ((with_reducible exact .refl _)))))); (all_goals (try simp only [go_sem, ↓reduceIte]))); (all_goals (try (((congr 2; grind))))))
      · obtain rfl : j = i := by omega
        rw [List.take_take, Nat.min_self] at h4
        have : (r.rows.take j).any (fun b => agreeB r x b) = false := by rw [List.any_eq_false]; intro b hb; rw [h4 b hb]; simp
        ((repeat' (first | (refine awp_seq_k (fun K hK => ?_)) | (refine awp_reg _ rfl ?_; (try simp only [go_sem, Nat.reduceLT, Nat.reduceEqDiff, ↓reduceIte, reduceCtorEq, wrap_succ j (by omega)])) | (refine awp_cond _ rfl (fun hc => ?_) (fun hc => ?_) <;> (try (simp only [decide_eq_true_eq, decide_eq_false_iff_not] at hc)) <;> (try (exfalso; omega))) | (refine awp_exit ?_; (try simp only [sq, bk, ↓reduceIte])) | (refine hK _ ?_; clear hK; (try clear K)) | (refine kk (by assumption) ?_))))
        refine ⟨j + 1, by omega, ⟨by omega, by (rw [take_at hx]; grind)⟩, ?_⟩
        (refine st_le rfl ?_ (by ((try dsimp only); repeat' ((with_reducible exact .refl _)))); (try simp only [go_sem, Nat.reduceEqDiff, Nat.reduceAdd, ↓reduceIte, reduceCtorEq]))
    · obtain rfl : i = r.rows.length := by omega
      rw [List.drop_length, pairsE] at h3
      ((repeat' (first | (refine awp_seq_k (fun K hK => ?_)) | (refine awp_reg _ rfl ?_; (try simp only [go_sem, Nat.reduceLT, Nat.reduceEqDiff, Nat.reduceLeDiff, Nat.reduceAdd, ↓reduceIte])) | (refine awp_cond _ rfl (fun hc => ?_) (fun hc => ?_) <;> (try (simp only [decide_eq_true_eq, decide_eq_false_iff_not] at hc)) <;> (try (exfalso; omega))) | (refine awp_exit ?_; (try simp only [sq, bk, ↓reduceIte])) | (refine awp_ret ?_) | (refine hK _ ?_; clear hK; (try clear K)) | (refine kk (by assumption) ?_))))
      (((all_goals (try refine fin_pure (by (try simp only [forall_eq, resOk, List.mem_cons, List.not_mem_nil, or_false])) ?_ (by ((try dsimp only); repeat' ((with_reducible exact .refl _)))))); (all_goals (try simp only [go_sem, ↓reduceIte]))); (all_goals (try (((congr 2; grind))))))
theorem c_CheckBase (b : List Rel) (H : Hp) (h : gBase b) : PureAt Tryz.prog 39 [.list (encRels b) none] H (.con (.int .i64 (baseE b))) := by
  obtain ⟨h1, h2⟩ := h
  unfold baseE
  refine acalls_of (by kernel_rfl) Tryz.func39 rfl 35 Tryz.ntmps39 (by simp) [.tmp 2] rfl ?_
  ((repeat' (first | (refine awp_seq_k (fun K hK => ?_)) | (refine awp_block ?_) | (refine awp_reg _ rfl ?_; (try simp only [go_sem, Nat.reduceLT, Nat.reduceAdd, ↓reduceIte, reduceCtorEq])) | (refine awp_cond _ rfl (fun hc => ?_) (fun hc => ?_) <;> (try (simp only [decide_eq_true_eq, decide_eq_false_iff_not] at hc))) | (refine awp_skip ?_; (try simp only [sq])) | (refine awp_ret ?_; (try simp only [sq])) | (refine hK _ ?_; clear hK; (try clear K)))))
  · (((all_goals (try refine fin_pure (by (try simp only [forall_eq, resOk, List.mem_cons, List.not_mem_nil, or_false])) ?_ (by ((try dsimp only); repeat' ((with_reducible exact .refl _)))))); (all_goals (try simp only [go_sem, ↓reduceIte]))); (all_goals (try (((congr 2; grind))))))
  refine awp_loopKH (ι := Nat) [0, 9, 10] (fun i => [(11, .con (.int .i64 (i : Int)))]) (fun i => i ≤ b.length ∧ relsE (b.take i) (b.drop i) = relsE [] b) (fun i => b.length - i) 0 (by intro; simp only [keepT_cons, keepT_nil, List.cons_append, List.nil_append, lk, Nat.reduceEqDiff, ↓reduceIte, reduceCtorEq]; rfl) ⟨by omega, by simp⟩ (by ((simp only [go_sem, ↓reduceIte]; done))) ?_
  intro i ⟨hi, h0⟩
  rcases Nat.lt_or_ge i b.length with hlt | hge
  · obtain ⟨x, hx, hm⟩ := at_lt hlt
    have hg := encRels_get hx
    rw [drop_at hx, relsE] at h0
    rcases Nat.eq_zero_or_pos i with hi0 | hi0
    · subst hi0
      have hb0 : ((0 : Int) < 0) = False := eq_false (by omega)
      ((repeat' (first | (refine awp_seq_k (fun K hK => ?_)) | (refine awp_block ?_) | (refine awp_reg _ rfl ?_; (try simp only [go_sem, Nat.reduceLT, Nat.reduceEqDiff, Nat.reduceLeDiff, Nat.reduceAdd, Int.reduceToNat, ↓reduceIte, reduceCtorEq, wrap01, hg, bls])) | (refine awp_drawn (by kernel_rfl) (by kernel_rfl) ?_; (try simp only [go_sem, Nat.reduceLT, Nat.reduceEqDiff, Nat.reduceLeDiff, Nat.reduceAdd, ↓reduceIte, reduceCtorEq, hb0, ↓pkv, decide_false, bls])) | (refine awp_cond _ rfl (fun hc => ?_) (fun hc => ?_) <;> (try (simp only [decide_eq_true_eq, decide_eq_false_iff_not, cds, Decidable.not_not] at hc)) <;> (try (exfalso; omega))) | (refine awp_skip ?_; (try simp only [sq, bk])) | (refine awp_ret ?_; (try simp only [sq, bk])) | (refine PureAt.use (c_relCheck x _ (h2 x hm)) ?_ <;> (try simp only [go_sem])) | (refine orAt_r 4 ?_; (try simp only [go_sem, Nat.reduceLT, Nat.reduceEqDiff, Nat.reduceAdd, ↓reduceIte, bls])) | (refine orAt_l ?_) | (with_reducible apply And.intro) | (refine hK _ ?_; clear hK; (try clear K)))); (all_goals (try (first | omega | (intro hh; simp only at hh ⊢; (done))))))
      · (((all_goals (try refine fin_pure (by (try simp only [forall_eq, resOk, List.mem_cons, List.not_mem_nil, or_false])) ?_ (by ((try dsimp only); repeat' ((with_reducible exact .refl _)))))); (all_goals (try simp only [go_sem, ↓reduceIte]))); (all_goals (try (((congr 2; grind))))))
      · refine ⟨0 + 1, by omega, ⟨by omega, by (rw [take_at hx]; simp at h0 ⊢; grind)⟩, ?_⟩
        (refine st_le rfl ?_ (by ((try dsimp only); repeat' ((with_reducible exact .refl _)))); (try simp only [go_sem, Nat.reduceEqDiff, Nat.reduceAdd, ↓reduceIte, reduceCtorEq]))
    · obtain ⟨j, rfl⟩ : ∃ j, i = j + 1 := ⟨i - 1, by omega⟩
      obtain ⟨y, hy, hm2⟩ := at_lt (show j < b.length by omega)
      have hb0 : ((0 : Int) < ((j + 1 : Nat) : Int)) = True := eq_true (by omega)
      have hw : IntKind.i64.wrap (((j + 1 : Nat) : Int) - 1) = (j : Int) := by rw [wrap_id (by omega) (by omega)]; omega
      have hg2 := encRels_get hy
      rw [getLast_take hy] at h0
      ((repeat' (first | (refine awp_seq_k (fun K hK => ?_)) | (refine awp_block ?_) | (refine awp_reg _ rfl ?_; (try simp only [go_sem, Nat.reduceLT, Nat.reduceEqDiff, Nat.reduceLeDiff, Nat.reduceAdd, ↓reduceIte, reduceCtorEq, wrap_succ (j + 1) (by omega), hg, bls])) | (refine awp_drawn (by kernel_rfl) (by kernel_rfl) ?_; (try simp only [go_sem, Nat.reduceLT, Nat.reduceEqDiff, Nat.reduceLeDiff, Nat.reduceAdd, ↓reduceIte, reduceCtorEq, hg2, hb0, hw, lessS, ↓pkv, decide_true, bls])) | (refine awp_cond _ rfl (fun hc => ?_) (fun hc => ?_) <;> (try (simp only [decide_eq_true_eq, decide_eq_false_iff_not, cds, Decidable.not_not] at hc)) <;> (try (exfalso; omega))) | (refine awp_skip ?_; (try simp only [sq, bk])) | (refine awp_ret ?_; (try simp only [sq, bk])) | (refine PureAt.use (c_relCheck x _ (h2 x hm)) ?_ <;> (try simp only [go_sem])) | (refine orAt_r 4 ?_; (try simp only [go_sem, Nat.reduceLT, Nat.reduceEqDiff, Nat.reduceAdd, ↓reduceIte, bls])) | (refine orAt_l ?_) | (with_reducible apply And.intro) | (refine hK _ ?_; clear hK; (try clear K)))); (all_goals (try ((omega)))))
      · (((all_goals (try refine fin_pure (by (try simp only [forall_eq, resOk, List.mem_cons, List.not_mem_nil, or_false])) ?_ (by ((try dsimp only); repeat' ((with_reducible exact .refl _)))))); (all_goals (try simp only [go_sem, ↓reduceIte]))); (all_goals (try (((congr 2; grind))))))
      · (((all_goals (try refine fin_pure (by (try simp only [forall_eq, resOk, List.mem_cons, List.not_mem_nil, or_false])) ?_ (by ((try dsimp only); repeat' ((with_reducible exact .refl _)))))); (all_goals (try simp only [go_sem, ↓reduceIte]))); (all_goals (try (((congr 2; grind))))))
      · refine ⟨(j + 1) + 1, by omega, ⟨by omega, by (rw [take_at hx]; grind)⟩, ?_⟩
        (refine st_le rfl ?_ (by ((try dsimp only); repeat' ((with_reducible exact .refl _)))); (try simp only [go_sem, Nat.reduceEqDiff, Nat.reduceAdd, ↓reduceIte, reduceCtorEq]))
  · obtain rfl : i = b.length := by omega
    rw [List.drop_length, relsE] at h0
    ((repeat' (first | (refine awp_seq_k (fun K hK => ?_)) | (refine awp_reg _ rfl ?_; (try simp only [go_sem, Nat.reduceLT, Nat.reduceEqDiff, Nat.reduceLeDiff, Nat.reduceAdd, ↓reduceIte, reduceCtorEq])) | (refine awp_cond _ rfl (fun hc => ?_) (fun hc => ?_) <;> (try (simp only [decide_eq_true_eq, decide_eq_false_iff_not] at hc)) <;> (try (exfalso; omega))) | (refine awp_exit ?_; (try simp only [sq, bk, ↓reduceIte])) | (refine awp_ret ?_) | (refine hK _ ?_; clear hK; (try clear K)) | (refine kk (by assumption) ?_))))
    (((all_goals (try refine fin_pure (by (try simp only [forall_eq, resOk, List.mem_cons, List.not_mem_nil, or_false])) ?_ (by ((try dsimp only); repeat' ((with_reducible exact .refl _)))))); (all_goals (try simp only [go_sem, ↓reduceIte]))); (all_goals (try (((congr 2; grind))))))
end Go.Proofs.YtababmnmkmgbbaaGreat
