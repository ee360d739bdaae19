/-
  A part of the proof: its theorems say what each gives.
-/
import Derived.Test.YtababmnmkmgbbaaGreatKM26
set_option maxRecDepth 100000
set_option maxHeartbeats 4000000
set_option linter.unusedSimpArgs false
set_option linter.unusedVariables false
namespace Go.Proofs.YtababmnmkmgbbaaGreat
open Go Fw
/-! The reference: checks. -/
theorem c_zero (v : Val) (H : Hp) (h : sizeV v ≤ 4611686018427387904) : PureAt Tryz.prog 219 [cV v] H (.con (.bool (decide (cmpV v zV = 0)))) := by
  refine acalls_of (by kernel_rfl) Tryz.func219 rfl 6 Tryz.ntmps219 (by simp) [.tmp 2] rfl ?_
  ((repeat' (first | (refine awp_seq_k (fun K hK => ?_)) | (refine awp_reg _ rfl ?_; (try simp only [go_sem, Nat.reduceLT, Nat.reduceEqDiff, Nat.reduceLeDiff, Nat.reduceAdd, Nat.reduceMul, Int.reduceToNat, Nat.reducePow, ↓reduceIte, reduceCtorEq])) | (refine awp_ret ?_) | (refine PureAt.use (c_SameZ v _ h) ?_ <;> (try simp only [go_sem, Nat.reduceLT, Nat.reduceEqDiff, Nat.reduceLeDiff, Nat.reduceAdd, Nat.reduceMul, Int.reduceToNat, Nat.reducePow, ↓reduceIte, reduceCtorEq])) | (refine orAt_r 1 ?_) | (refine orAt_l ?_) | (refine hK _ ?_; clear hK; (try clear K)))))
  ((all_goals (try refine fin_pure (by (try simp only [List.mem_singleton, forall_eq, resOk, List.mem_cons, List.not_mem_nil, or_false, forall_eq_or_imp, and_self])) ?_ (by ((try dsimp only); repeat' ((with_reducible exact .refl _)))))); (all_goals (try simp only [go_sem, Nat.reduceLT, Nat.reduceEqDiff, Nat.reduceLeDiff, Nat.reduceAdd, Nat.reduceMul, Int.reduceToNat, Nat.reducePow, ↓reduceIte, reduceCtorEq])))
theorem c_IndexI (l : List Int) (v : Int) (H : Hp) (hn : l.length ≤ 4611686018427387904) : PureAt Tryz.prog 342 [.list (encIs l) none, .con (.int .i64 v)] H (.con (.int .i64 (idxL (fun x => decide (v = x)) l))) := by
  refine acalls_of (by kernel_rfl) Tryz.func342 rfl 19 Tryz.ntmps342 (by simp) [.tmp 4] rfl ?_
  ((repeat' (first | (refine awp_seq_k (fun K hK => ?_)) | (refine awp_block ?_) | (refine awp_reg _ rfl ?_; (try simp only [go_sem, Nat.reduceLT, Nat.reduceEqDiff, Nat.reduceLeDiff, Nat.reduceAdd, Nat.reduceMul, Int.reduceToNat, Nat.reducePow, ↓reduceIte, reduceCtorEq])) | (refine hK _ ?_; clear hK; (try clear K)))))
  refine awp_loopKH (ι := Nat) [0, 1, 7] (fun i => [(8, .con (.int .i64 (i : Int)))]) (fun i => i ≤ l.length ∧ ∀ y ∈ l.take i, decide (v = y) = false) (fun i => l.length - i) 0 (by intro; simp only [keepT_cons, keepT_nil, List.cons_append, List.nil_append, lk, Nat.reduceEqDiff, ↓reduceIte, reduceCtorEq, Nat.reduceAdd]; rfl) ⟨by omega, by simp⟩ (by ((simp only [go_sem, Nat.reduceLT, Nat.reduceEqDiff, Nat.reduceLeDiff, Nat.reduceAdd, Nat.reduceMul, Int.reduceToNat, Nat.reducePow, ↓reduceIte, reduceCtorEq]; done))) ?_
  intro i ⟨hi, h0⟩
  rcases Nat.lt_or_ge i l.length with hlt | hge
  · obtain ⟨x, hx, hm⟩ := at_lt hlt
    have hg : (encIs l).getD i .any = .con (.int .i64 x) := by simp [encIs, List.getD_eq_getElem?_getD, hx]
    have hcl : ((encIs l).getD i .any).cells.length = 1 := by rw [hg]; rfl
    cases hv : decide (v = x)
    · have hv2 : (v = x) = False := eq_false (of_decide_eq_false hv)
      ((repeat' (first | (refine awp_seq_k (fun K hK => ?_)) | (refine awp_block ?_) | (refine awp_reg _ rfl ?_; (try simp only [go_sem, Nat.reduceLT, Nat.reduceEqDiff, Nat.reduceLeDiff, Nat.reduceAdd, Nat.reduceMul, Int.reduceToNat, Nat.reducePow, ↓reduceIte, reduceCtorEq, wrap_succ i (by omega), hg, hv2])) | (refine awp_cond _ rfl (fun hc => ?_) (fun hc => ?_) <;> (try (simp only [decide_eq_true_eq, decide_eq_false_iff_not, cds, Decidable.not_not, ite_or, ite_and] at hc)) <;> (try (exfalso; omega))) | (refine awp_skip ?_; (try simp only [sq, bk, ↓reduceIte, Nat.reduceEqDiff, reduceCtorEq])) | (with_reducible apply And.intro) | (refine hK _ ?_; clear hK; (try clear K)))); (all_goals (try ((omega)))))
      have h1 := take_step hx hv h0
      refine ⟨i + 1, by omega, ⟨by omega, by assumption⟩, ?_⟩
      (refine st_le rfl ?_ (by ((try dsimp only); repeat' ((with_reducible exact .refl _)))); (try simp only [go_sem, Nat.reduceLT, Nat.reduceEqDiff, Nat.reduceLeDiff, Nat.reduceAdd, Nat.reduceMul, Int.reduceToNat, Nat.reducePow, ↓reduceIte, reduceCtorEq]))
    · have hv2 : (v = x) = True := eq_true (of_decide_eq_true hv)
      ((repeat' (first | (refine awp_seq_k (fun K hK => ?_)) | (refine awp_block ?_) | (refine awp_reg _ rfl ?_; (try simp only [go_sem, Nat.reduceLT, Nat.reduceEqDiff, Nat.reduceLeDiff, Nat.reduceAdd, Nat.reduceMul, Int.reduceToNat, Nat.reducePow, ↓reduceIte, reduceCtorEq, wrap_succ i (by omega), hg, hv2])) | (refine awp_cond _ rfl (fun hc => ?_) (fun hc => ?_) <;> (try (simp only [decide_eq_true_eq, decide_eq_false_iff_not, cds, Decidable.not_not, ite_or, ite_and] at hc)) <;> (try (exfalso; omega))) | (refine awp_skip ?_; (try simp only [sq, bk, ↓reduceIte, Nat.reduceEqDiff, reduceCtorEq])) | (refine awp_ret ?_; (try simp only [sq, bk, ↓reduceIte, Nat.reduceEqDiff, reduceCtorEq])) | (with_reducible apply And.intro) | (refine hK _ ?_; clear hK; (try clear K)))); (all_goals (try ((omega)))))
      rw [idxL_hit hx hv h0]
      ((all_goals (try refine fin_pure (by (try simp only [List.mem_singleton, forall_eq, resOk, List.mem_cons, List.not_mem_nil, or_false, forall_eq_or_imp, and_self])) ?_ (by ((try dsimp only); repeat' ((with_reducible exact .refl _)))))); (all_goals (try simp only [go_sem, Nat.reduceLT, Nat.reduceEqDiff, Nat.reduceLeDiff, Nat.reduceAdd, Nat.reduceMul, Int.reduceToNat, Nat.reducePow, ↓reduceIte, reduceCtorEq])))
  · obtain rfl : i = l.length := by omega
    rw [List.take_length] at h0
    ((repeat' (first | (refine awp_seq_k (fun K hK => ?_)) | (refine awp_reg _ rfl ?_; (try simp only [go_sem, Nat.reduceLT, Nat.reduceEqDiff, Nat.reduceLeDiff, Nat.reduceAdd, Nat.reduceMul, Int.reduceToNat, Nat.reducePow, ↓reduceIte, reduceCtorEq])) | (refine awp_cond _ rfl (fun hc => ?_) (fun hc => ?_) <;> (try (simp only [decide_eq_true_eq, decide_eq_false_iff_not, cds, Decidable.not_not, ite_or, ite_and] at hc)) <;> (try (exfalso; omega))) | (refine awp_exit ?_; (try simp only [sq, bk, ↓reduceIte, Nat.reduceEqDiff, reduceCtorEq])) | (refine awp_ret ?_) | (refine hK _ ?_; clear hK; (try clear K)) | (refine kk (by assumption) ?_))))
    ((all_goals (try refine fin_pure (by (try simp only [List.mem_singleton, forall_eq, resOk, List.mem_cons, List.not_mem_nil, or_false, forall_eq_or_imp, and_self])) ?_ (by ((try dsimp only); repeat' ((with_reducible exact .refl _)))))); (all_goals (try simp only [go_sem, Nat.reduceLT, Nat.reduceEqDiff, Nat.reduceLeDiff, Nat.reduceAdd, Nat.reduceMul, Int.reduceToNat, Nat.reducePow, ↓reduceIte, reduceCtorEq, idxL_miss h0])))
theorem c_HasI (l : List Int) (v : Int) (H : Hp) (hn : l.length ≤ 4611686018427387904) : PureAt Tryz.prog 293 [.list (encIs l) none, .con (.int .i64 v)] H (.con (.bool (l.any fun x => decide (v = x)))) := by
  refine acalls_of (by kernel_rfl) Tryz.func293 rfl 9 Tryz.ntmps293 (by simp) [.tmp 4] rfl ?_
  ((repeat' (first | (refine awp_seq_k (fun K hK => ?_)) | (refine awp_reg _ rfl ?_; (try simp only [go_sem, Nat.reduceLT, Nat.reduceEqDiff, Nat.reduceLeDiff, Nat.reduceAdd, Nat.reduceMul, Int.reduceToNat, Nat.reducePow, ↓reduceIte, reduceCtorEq])) | (refine awp_ret ?_) | (refine PureAt.use (c_IndexI l v _ hn) ?_ <;> (try simp only [go_sem, Nat.reduceLT, Nat.reduceEqDiff, Nat.reduceLeDiff, Nat.reduceAdd, Nat.reduceMul, Int.reduceToNat, Nat.reducePow, ↓reduceIte, reduceCtorEq])) | (refine orAt_l ?_) | (refine hK _ ?_; clear hK; (try clear K)))))
  ((all_goals (try refine fin_pure (by (try simp only [List.mem_singleton, forall_eq, resOk, List.mem_cons, List.not_mem_nil, or_false, forall_eq_or_imp, and_self])) ?_ (by ((try dsimp only); repeat' ((with_reducible exact .refl _)))))); (all_goals (try simp only [go_sem, Nat.reduceLT, Nat.reduceEqDiff, Nat.reduceLeDiff, Nat.reduceAdd, Nat.reduceMul, Int.reduceToNat, Nat.reducePow, ↓reduceIte, reduceCtorEq, idxL_any])))
theorem plain_eq (k : Int) : ([1, 2, 3, 4, 5] : List Int).any (fun x => decide (k = x)) = (decide (1 ≤ k) && decide (k ≤ 5)) := by
  simp only [List.any_cons, List.any_nil, Bool.or_false]
  rw [Bool.eq_iff_iff]
  simp
  omega
theorem c_plain (k : Int) (H : Hp) : PureAt Tryz.prog 220 [.con (.int .i64 k)] H (.con (.bool (decide (1 ≤ k) && decide (k ≤ 5)))) := by
  have h := fun H => c_HasI [1, 2, 3, 4, 5] k H (by decide)
  simp only [plain_eq] at h
  refine acalls_of (by kernel_rfl) Tryz.func220 rfl 6 Tryz.ntmps220 (by simp) [.tmp 2] rfl ?_
  ((repeat' (first | (refine awp_seq_k (fun K hK => ?_)) | (refine awp_reg _ rfl ?_; (try simp only [go_sem, Nat.reduceLT, Nat.reduceEqDiff, Nat.reduceLeDiff, Nat.reduceAdd, Nat.reduceMul, Int.reduceToNat, Nat.reducePow, ↓reduceIte, reduceCtorEq])) | (refine awp_ret ?_) | (refine PureAt.use (h _) ?_ <;> (try simp only [go_sem, Nat.reduceLT, Nat.reduceEqDiff, Nat.reduceLeDiff, Nat.reduceAdd, Nat.reduceMul, Int.reduceToNat, Nat.reducePow, ↓reduceIte, reduceCtorEq])) | (refine orAt_l ?_) | (with_reducible apply And.intro) | (refine hK _ ?_; clear hK; (try clear K)))); (all_goals (try ((decide)))))
  ((all_goals (try refine fin_pure (by (try simp only [List.mem_singleton, forall_eq, resOk, List.mem_cons, List.not_mem_nil, or_false, forall_eq_or_imp, and_self])) ?_ (by ((try dsimp only); repeat' ((with_reducible exact .refl _)))))); (all_goals (try simp only [go_sem, Nat.reduceLT, Nat.reduceEqDiff, Nat.reduceLeDiff, Nat.reduceAdd, Nat.reduceMul, Int.reduceToNat, Nat.reducePow, ↓reduceIte, reduceCtorEq])))
theorem c_relOf1 (r : Rel) (nm : ByteArray) (H : Hp) : PureAt Tryz.prog 198 [cRel r, .ro [.con (.string nm)]] H (.con (.bool (decide (r.nm = nm)))) := by
  refine acalls_of (by kernel_rfl) Tryz.func198 rfl 8 Tryz.ntmps198 (by simp) [.tmp 3] rfl ?_
  ((repeat' (first | (refine awp_seq_k (fun K hK => ?_)) | (refine awp_reg _ rfl ?_; (try simp only [go_sem, Nat.reduceLT, Nat.reduceEqDiff, Nat.reduceLeDiff, Nat.reduceAdd, Nat.reduceMul, Int.reduceToNat, Nat.reducePow, ↓reduceIte, reduceCtorEq])) | (refine awp_ret ?_) | (refine orAt_r 2 ?_) | (refine hK _ ?_; clear hK; (try clear K)))))
  ((all_goals (try refine fin_pure (by (try simp only [List.mem_singleton, forall_eq, resOk, List.mem_cons, List.not_mem_nil, or_false, forall_eq_or_imp, and_self])) ?_ (by ((try dsimp only); repeat' ((with_reducible exact .refl _)))))); (all_goals (try simp only [go_sem, Nat.reduceLT, Nat.reduceEqDiff, Nat.reduceLeDiff, Nat.reduceAdd, Nat.reduceMul, Int.reduceToNat, Nat.reducePow, ↓reduceIte, reduceCtorEq])))
theorem c_relOf (b : List Rel) (nm : ByteArray) (H : Hp) (h : gBase b) : PureAt Tryz.prog 93 [.list (encRels b) none, .con (.string nm)] H (.tup [cRel ((findR b nm).getD zRel), .con (.bool (findR b nm).isSome)]) := by
  have h1 := h.1
  have hx := fun H => c_IdxRel b 198 [.ro [.con (.string nm)]] (fun r => decide (r.nm = nm)) H (by omega) (fun r _ => c_relOf1 r nm _)
  by_cases h0 : 0 ≤ idxL (fun r : Rel => decide (r.nm = nm)) b
  · obtain ⟨r, e1, e2⟩ := idxL_get h0
    have e3 : findR b nm = some r := e2
    rw [e3]
    obtain ⟨n, hn⟩ : ∃ n : Nat, idxL (fun r : Rel => decide (r.nm = nm)) b = n := ⟨_, (Int.toNat_of_nonneg h0).symm⟩
    rw [hn, Int.toNat_natCast] at e1
    obtain ⟨hlt, _⟩ := List.getElem?_eq_some_iff.1 e1
    rw [hn] at hx
    have hg := encRels_get e1
    have hn2 : ((n : Int) < 0) = False := eq_false (by omega)
    refine acalls_of (by kernel_rfl) Tryz.func93 rfl 17 Tryz.ntmps93 (by simp) [.cell 4 103, .tmp 5] rfl ?_
    ((repeat' (first | (refine awp_seq_k (fun K hK => ?_)) | (refine awp_reg _ rfl ?_; (try simp only [go_sem, Nat.reduceLT, Nat.reduceEqDiff, Nat.reduceLeDiff, Nat.reduceAdd, Nat.reduceMul, Int.reduceToNat, Nat.reducePow, ↓reduceIte, reduceCtorEq, hg, hn2, ↓pkv, decide_true, decide_false, bls, if_true, if_false])) | (refine awp_cond _ rfl (fun hc => ?_) (fun hc => ?_) <;> (try (simp only [decide_eq_true_eq, decide_eq_false_iff_not, cds, Decidable.not_not, ite_or, ite_and] at hc))) | (refine awp_skip ?_; (try simp only [sq, bk, ↓reduceIte, Nat.reduceEqDiff, reduceCtorEq])) | (refine awp_ret ?_) | (refine PureAt.use (hx _) ?_ <;> (try simp only [go_sem, Nat.reduceLT, Nat.reduceEqDiff, Nat.reduceLeDiff, Nat.reduceAdd, Nat.reduceMul, Int.reduceToNat, Nat.reducePow, ↓reduceIte, reduceCtorEq, hg, hn2, ↓pkv, decide_true, decide_false, bls, if_true, if_false])) | (refine orAt_r 3 ?_) | (refine orAt_l ?_) | (with_reducible apply And.intro) | (refine all_fresh fun id fr => ?_) | (refine hK _ ?_; clear hK; (try clear K)))); (all_goals (try ((omega)))))
    (refine fin_le (.tup [cRel r, .con (.bool true)]) (H) (by (try simp only [List.mem_singleton, forall_eq, resOk, List.mem_cons, List.not_mem_nil, or_false, forall_eq_or_imp, and_self]); (try simp only [go_sem, Nat.reduceLT, Nat.reduceEqDiff, Nat.reduceLeDiff, Nat.reduceAdd, Nat.reduceMul, Int.reduceToNat, Nat.reducePow, ↓reduceIte, reduceCtorEq])) (by (try simp only [go_sem, Nat.reduceLT, Nat.reduceEqDiff, Nat.reduceLeDiff, Nat.reduceAdd, Nat.reduceMul, Int.reduceToNat, Nat.reducePow, ↓reduceIte, reduceCtorEq]); (repeat' (first | exact .refl _ | exact AV.le_nil | exact AV.le_emp | exact AV.le_list _ _ | exact AV.le_any _ | exact lec_nil | refine AV.le_aggc rfl ?_ | refine AV.le_tupc rfl ?_ | refine lec_cons ?_ ?_))) (by ((try dsimp only); repeat' (first | with_reducible exact .refl _ | exact box_fresh (by assumption) | refine weak_box ?_ ?_))) ⟨rfl, rfl⟩)
  · have e3 : findR b nm = none := by
      unfold findR
      have := idxL_any (fun r : Rel => decide (r.nm = nm)) b
      rw [decide_eq_false h0] at this
      rw [List.find?_eq_none]
      intro x hx
      have h2 := List.any_eq_false.1 this.symm x hx
      simpa using h2
    have hn2 : (idxL (fun r : Rel => decide (r.nm = nm)) b < 0) = True := eq_true (by omega)
    rw [e3]
    refine acalls_of (by kernel_rfl) Tryz.func93 rfl 17 Tryz.ntmps93 (by simp) [.cell 4 103, .tmp 5] rfl ?_
    ((repeat' (first | (refine awp_seq_k (fun K hK => ?_)) | (refine awp_reg _ rfl ?_; (try simp only [go_sem, Nat.reduceLT, Nat.reduceEqDiff, Nat.reduceLeDiff, Nat.reduceAdd, Nat.reduceMul, Int.reduceToNat, Nat.reducePow, ↓reduceIte, reduceCtorEq, hn2, ↓pkv, decide_true, decide_false, bls, if_true, if_false])) | (refine awp_cond _ rfl (fun hc => ?_) (fun hc => ?_) <;> (try (simp only [decide_eq_true_eq, decide_eq_false_iff_not, cds, Decidable.not_not, ite_or, ite_and] at hc))) | (refine awp_ret ?_; (try simp only [sq, bk, ↓reduceIte, Nat.reduceEqDiff, reduceCtorEq])) | (refine PureAt.use (hx _) ?_ <;> (try simp only [go_sem, Nat.reduceLT, Nat.reduceEqDiff, Nat.reduceLeDiff, Nat.reduceAdd, Nat.reduceMul, Int.reduceToNat, Nat.reducePow, ↓reduceIte, reduceCtorEq, hn2, ↓pkv, decide_true, decide_false, bls, if_true, if_false])) | (refine orAt_r 3 ?_) | (refine orAt_l ?_) | (refine all_fresh fun id fr => ?_) | (refine hK _ ?_; clear hK; (try clear K)))))
    (refine fin_le (.tup [cRel zRel, .con (.bool false)]) (H) (by (try simp only [List.mem_singleton, forall_eq, resOk, List.mem_cons, List.not_mem_nil, or_false, forall_eq_or_imp, and_self]); (try simp only [go_sem, Nat.reduceLT, Nat.reduceEqDiff, Nat.reduceLeDiff, Nat.reduceAdd, Nat.reduceMul, Int.reduceToNat, Nat.reducePow, ↓reduceIte, reduceCtorEq])) (by (try simp only [go_sem, Nat.reduceLT, Nat.reduceEqDiff, Nat.reduceLeDiff, Nat.reduceAdd, Nat.reduceMul, Int.reduceToNat, Nat.reducePow, ↓reduceIte, reduceCtorEq]); (repeat' (first | exact .refl _ | exact AV.le_nil | refine AV.le_aggc rfl ?_ | refine AV.le_tupc rfl ?_ | refine lec_cons ?_ ?_))) (by ((try dsimp only); repeat' (first | with_reducible exact .refl _ | exact box_fresh (by assumption) | refine weak_box ?_ ?_))) ⟨rfl, rfl⟩)
theorem c_termFault (t : Trm) (H : Hp) (h : gTrm t) : PureAt Tryz.prog 122 [cTrm t] H (.con (.int .i64 (termE t))) := by
  obtain ⟨h1, h2⟩ := h
  unfold termE
  refine acalls_of (by kernel_rfl) Tryz.func122 rfl 45 Tryz.ntmps122 (by simp) [.tmp 2] rfl ?_
  ((repeat' (first | (refine awp_seq_k (fun K hK => ?_)) | (refine awp_block ?_) | (refine awp_reg _ rfl ?_; (try simp only [go_sem, Nat.reduceLT, Nat.reduceEqDiff, Nat.reduceLeDiff, Nat.reduceAdd, Nat.reduceMul, Int.reduceToNat, Nat.reducePow, ↓reduceIte, reduceCtorEq])) | (refine awp_cond _ rfl (fun hc => ?_) (fun hc => ?_) <;> (try (simp only [decide_eq_true_eq, decide_eq_false_iff_not, cds, Decidable.not_not, ite_or, ite_and] at hc))) | (refine awp_skip ?_; (try simp only [sq, bk, ↓reduceIte, Nat.reduceEqDiff, reduceCtorEq])) | (refine awp_ret ?_; (try simp only [sq, bk, ↓reduceIte, Nat.reduceEqDiff, reduceCtorEq])) | (refine PureAt.use (c_plain _ _) ?_ <;> (try simp only [go_sem, Nat.reduceLT, Nat.reduceEqDiff, Nat.reduceLeDiff, Nat.reduceAdd, Nat.reduceMul, Int.reduceToNat, Nat.reducePow, ↓reduceIte, reduceCtorEq])) | (refine PureAt.use (c_CheckV t.v _ h2.z) ?_ <;> (try simp only [go_sem, Nat.reduceLT, Nat.reduceEqDiff, Nat.reduceLeDiff, Nat.reduceAdd, Nat.reduceMul, Int.reduceToNat, Nat.reducePow, ↓reduceIte, reduceCtorEq])) | (refine ⟨_, fun hg => ⟨?_, c_zero t.v _ h2.z⟩, ?_⟩ <;> (try simp only [go_sem, Nat.reduceLT, Nat.reduceEqDiff, Nat.reduceLeDiff, Nat.reduceAdd, Nat.reduceMul, Int.reduceToNat, Nat.reducePow, ↓reduceIte, reduceCtorEq])) | (refine orAt_r 1 ?_) | (refine orAt_l ?_) | (with_reducible apply And.intro) | (refine hK _ ?_; clear hK; (try clear K)))); (all_goals (try (first | omega | (intro hh; simp_all; done)))))
  all_goals (((all_goals (try refine fin_pure (by (try simp only [List.mem_singleton, forall_eq, resOk, List.mem_cons, List.not_mem_nil, or_false, forall_eq_or_imp, and_self])) ?_ (by ((try dsimp only); repeat' ((with_reducible exact .refl _)))))); (all_goals (try simp only [go_sem, Nat.reduceLT, Nat.reduceEqDiff, Nat.reduceLeDiff, Nat.reduceAdd, Nat.reduceMul, Int.reduceToNat, Nat.reducePow, ↓reduceIte, reduceCtorEq])); (all_goals (try (first | (simp [*]; done) | (simp_all; done))))); (all_goals (try (((congr 2; grind))))))
end Go.Proofs.YtababmnmkmgbbaaGreat
