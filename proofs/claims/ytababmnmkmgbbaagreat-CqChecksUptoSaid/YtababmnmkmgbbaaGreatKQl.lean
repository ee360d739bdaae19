/-
  A part of the proof: its theorems say what each gives.
-/
import Derived.Test.YtababmnmkmgbbaaGreatKQla
set_option maxRecDepth 100000
set_option maxHeartbeats 4000000
set_option linter.unusedSimpArgs false
set_option linter.unusedVariables false
namespace Go.Proofs.YtababmnmkmgbbaaGreat
open Go Fw
/-! The fact about conjunctive queries. -/
theorem c_v (n : Int) (H : Hp) : PureAt Tryz.prog 222 [.con (.int .i64 n)] H (cTrm ⟨true, n, zV⟩) := by
  refine acalls_of (by kernel_rfl) Tryz.func222 rfl 5 Tryz.ntmps222 (by simp) [.cell 2 197] rfl ?_
  ((repeat' (first | (refine awp_seq_k (fun K hK => ?_)) | (refine awp_reg _ rfl ?_; (try simp only [go_sem, Nat.reduceLT, Nat.reduceEqDiff, Nat.reduceLeDiff, Nat.reduceAdd, Nat.reduceMul, Int.reduceToNat, Nat.reducePow, ↓reduceIte, reduceCtorEq])) | (refine awp_ret ?_) | (refine all_fresh fun id fr => ?_) | (refine hK _ ?_; clear hK; (try clear K)))))
  (refine fin_le (cTrm ⟨true, n, zV⟩) (H) (by (try simp only [List.mem_singleton, forall_eq, resOk, List.mem_cons, List.not_mem_nil, or_false, forall_eq_or_imp, and_self]); (try simp only [go_sem, Nat.reduceLT, Nat.reduceEqDiff, Nat.reduceLeDiff, Nat.reduceAdd, Nat.reduceMul, Int.reduceToNat, Nat.reducePow, ↓reduceIte, reduceCtorEq])) (by (try simp only [go_sem, Nat.reduceLT, Nat.reduceEqDiff, Nat.reduceLeDiff, Nat.reduceAdd, Nat.reduceMul, Int.reduceToNat, Nat.reducePow, ↓reduceIte, reduceCtorEq]); (repeat' (first | exact .refl _ | exact AV.le_nil | refine AV.le_aggc rfl ?_ | refine lec_cons ?_ ?_))) (by ((try dsimp only); repeat' (first | with_reducible exact .refl _ | exact box_fresh (by assumption) | refine weak_box ?_ ?_))) ⟨rfl, rfl⟩)
theorem c_each (H : Hp) : PureAt Tryz.prog 123 [] H (cCQ eachQ) := by
  refine acalls_of (by kernel_rfl) Tryz.func123 rfl 8 Tryz.ntmps123 (by simp) [.cell 0 54] rfl ?_
  ((repeat' (first | (refine awp_seq_k (fun K hK => ?_)) | (refine awp_reg _ rfl ?_; (try simp only [go_sem, Nat.reduceLT, Nat.reduceEqDiff, Nat.reduceLeDiff, Nat.reduceAdd, Nat.reduceMul, Int.reduceToNat, Nat.reducePow, ↓reduceIte, reduceCtorEq])) | (refine awp_ret ?_) | (refine PureAt.use (c_v _ _) ?_ <;> (try simp only [go_sem, Nat.reduceLT, Nat.reduceEqDiff, Nat.reduceLeDiff, Nat.reduceAdd, Nat.reduceMul, Int.reduceToNat, Nat.reducePow, ↓reduceIte, reduceCtorEq])) | (refine orAt_l ?_) | (with_reducible apply And.intro) | (refine all_fresh fun id fr => ?_) | (refine hK _ ?_; clear hK; (try clear K)))); (all_goals (try ((decide)))))
  (refine fin_le (cCQ eachQ) (H) (by (try simp only [List.mem_singleton, forall_eq, resOk, List.mem_cons, List.not_mem_nil, or_false, forall_eq_or_imp, and_self]); (try simp only [go_sem, Nat.reduceLT, Nat.reduceEqDiff, Nat.reduceLeDiff, Nat.reduceAdd, Nat.reduceMul, Int.reduceToNat, Nat.reducePow, ↓reduceIte, reduceCtorEq])) (by (try simp only [go_sem, Nat.reduceLT, Nat.reduceEqDiff, Nat.reduceLeDiff, Nat.reduceAdd, Nat.reduceMul, Int.reduceToNat, Nat.reducePow, ↓reduceIte, reduceCtorEq]); (repeat' ((exact .refl _)))) (by ((try dsimp only); repeat' (first | with_reducible exact .refl _ | exact box_fresh (by assumption) | refine weak_box ?_ ?_))) ⟨rfl, rfl⟩)
theorem gV_num (n : Int) (h : okI n) : gV (numV2 n) := ⟨by rw [sizeV, sizeFs]; omega, by rw [numV]; exact ⟨h, trivial⟩⟩
theorem gBase_small : gBase smallB := by
  refine ⟨by decide, fun r hr => ?_⟩
  obtain rfl := List.mem_singleton.1 hr
  refine ⟨by decide, fun c hc => ?_, by decide, by decide, fun x hx => ?_⟩
  · obtain rfl := List.mem_singleton.1 hc
    unfold okI; decide
  · simp only [List.mem_cons, List.not_mem_nil, or_false] at hx
    rcases hx with rfl | rfl
    · exact ⟨by decide, fun v hv => by obtain rfl := List.mem_singleton.1 hv; exact gV_num 1 (by unfold okI; decide)⟩
    · exact ⟨by decide, fun v hv => by obtain rfl := List.mem_singleton.1 hv; exact gV_num 2 (by unfold okI; decide)⟩
theorem gTrm_zero : gTrm ⟨true, 0, zV⟩ := ⟨by unfold okI; decide, gV_zero⟩
theorem gTs_zero : gTs [⟨true, 0, zV⟩] := ⟨by decide, fun t ht => by obtain rfl := List.mem_singleton.1 ht; exact gTrm_zero⟩
theorem gCQ_each : gCQ eachQ := ⟨gTs_zero, by decide, fun a ha => by obtain rfl := List.mem_singleton.1 ha; exact gTs_zero⟩
theorem run_small : runE smallB eachQ = 0 ∧ (runL smallB eachQ).length = 2 := by decide +kernel
theorem c_found (H : Hp) : PureAt Tryz.prog 31 [] H (.con (.bool true)) := by
  have hr := fun H => c_cqRun smallB eachQ H gBase_small gCQ_each
  obtain ⟨h1, h2⟩ := run_small
  rw [h1] at hr
  generalize runL smallB eachQ = l at *
  have c1 : ((l.length : Int) = 2) = True := eq_true (by omega)
  refine acalls_of (by kernel_rfl) Tryz.func31 rfl 21 Tryz.ntmps31 (by simp) [.tmp 0] rfl ?_
  have hn : none24.length = 24 := rfl
  ((repeat' (first | (refine awp_seq_k (fun K hK => ?_)) | (refine awp_reg _ rfl ?_; (try simp only [go_sem, Nat.reduceLT, Nat.reduceEqDiff, Nat.reduceLeDiff, Nat.reduceAdd, Nat.reduceMul, Int.reduceToNat, Nat.reducePow, ↓reduceIte, reduceCtorEq, c1, ↓pickV_f, ↓pickV_t, decide_true, decide_false, not_true_eq_false, not_false_eq_true, Bool.not_true, Bool.not_false, Bool.true_or, Bool.false_or, Bool.or_true, Bool.or_false, Bool.false_and, Bool.and_false, Bool.true_and, Bool.and_true, true_implies, if_true, if_false])) | (refine awp_ret ?_) | (refine PureAt.use (c_small _) ?_) | (refine PureAt.use (c_each _) ?_) | (refine PureAt.use (hr _) ?_ <;> (try simp only [go_sem, Nat.reduceLT, Nat.reduceEqDiff, Nat.reduceLeDiff, Nat.reduceAdd, Nat.reduceMul, Int.reduceToNat, Nat.reducePow, ↓reduceIte, reduceCtorEq, c1, ↓pickV_f, ↓pickV_t, decide_true, decide_false, not_true_eq_false, not_false_eq_true, Bool.not_true, Bool.not_false, Bool.true_or, Bool.false_or, Bool.or_true, Bool.or_false, Bool.false_and, Bool.and_false, Bool.true_and, Bool.and_true, true_implies, if_true, if_false])) | (refine ⟨_, c_None _, ?_⟩ <;> (try simp only [go_sem, Nat.reduceLT, Nat.reduceEqDiff, Nat.reduceLeDiff, Nat.reduceAdd, Nat.reduceMul, Int.reduceToNat, Nat.reducePow, ↓reduceIte, reduceCtorEq, c1, ↓pickV_f, ↓pickV_t, decide_true, decide_false, not_true_eq_false, not_false_eq_true, Bool.not_true, Bool.not_false, Bool.true_or, Bool.false_or, Bool.or_true, Bool.or_false, Bool.false_and, Bool.and_false, Bool.true_and, Bool.and_true, true_implies, if_true, if_false])) | (refine orAt_l ?_) | (refine hK _ ?_; clear hK; (try clear K)))))
  ((all_goals (try refine fin_pure (by (try simp only [List.mem_singleton, forall_eq, resOk, List.mem_cons, List.not_mem_nil, or_false, forall_eq_or_imp, and_self])) ?_ (by ((try dsimp only); repeat' ((with_reducible exact .refl _)))))); (all_goals (try simp only [go_sem, Nat.reduceLT, Nat.reduceEqDiff, Nat.reduceLeDiff, Nat.reduceAdd, Nat.reduceMul, Int.reduceToNat, Nat.reducePow, ↓reduceIte, reduceCtorEq, hn])); (all_goals (try (((simp [*, hn]; done))))))
end Go.Proofs.YtababmnmkmgbbaaGreat
