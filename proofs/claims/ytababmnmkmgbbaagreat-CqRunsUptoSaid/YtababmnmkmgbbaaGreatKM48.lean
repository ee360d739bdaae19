/-
  A part of the proof: its theorems say what each gives.
-/
import Derived.Test.YtababmnmkmgbbaaGreatKQk
set_option maxRecDepth 100000
set_option maxHeartbeats 4000000
set_option linter.unusedSimpArgs false
set_option linter.unusedVariables false
namespace Go.Proofs.YtababmnmkmgbbaaGreat
open Go Fw
/-! The small base. -/
theorem AV.le_listc {xs ys : List AV} (hl : xs.length = ys.length) (h : ∀ i, i < xs.length → (xs.getD i .any).cells.length = (ys.getD i .any).cells.length ∧ (∀ z ∈ (ys.getD i .any).cells, z.one = true) ∧ ∀ j, j < (xs.getD i .any).cells.length → ((xs.getD i .any).cells.getD j .any).le ((ys.getD i .any).cells.getD j .any)) :
    (AV.list xs none).le (.list ys none) := by
  intro σ w v hv
  cases hv with
  | nil => obtain rfl := List.eq_nil_of_length_eq_zero hl.symm; exact .nil
  | odd a => obtain rfl := List.eq_nil_of_length_eq_zero hl.symm; exact .odd a
  | list _ b o c k vs hc hm hk hcell hvs =>
    have hxk : ∀ i, i < xs.length → (xs.getD i .any).cells.length = k := fun i hi => by
      rw [List.getD_eq_getElem?_getD, List.getElem?_eq_getElem hi]; exact (hk _ (List.getElem_mem _)).1
    rw [hl] at hc hcell ⊢
    refine .list ys b o c k vs hc hm (fun y hy => ?_) hcell fun i j hi hj => ?_
    · obtain ⟨i, hi, rfl⟩ := List.getElem_of_mem hy
      have hi2 : i < xs.length := by omega
      obtain ⟨g1, g2, _⟩ := h i hi2
      rw [hxk i hi2] at g1
      rw [List.getD_eq_getElem?_getD (l := ys), List.getElem?_eq_getElem hi] at g1 g2
      exact ⟨g1.symm, g2⟩
    · have hi2 : i < xs.length := by omega
      exact (h i hi2).2.2 j (by rw [hxk i hi2]; exact hj) σ w _ (hvs i j hi2 hj)
abbrev numV2 (n : Int) : Val := .mk 2 n ⟨#[]⟩ []
def smallB : List Rel := [⟨⟨#[97]⟩, [⟨⟨#[120]⟩, 2⟩], [], [[numV2 1], [numV2 2]]⟩]
def eachQ : CQ := ⟨[⟨true, 0, zV⟩], [⟨⟨#[97]⟩, [⟨true, 0, zV⟩]⟩]⟩
theorem c_num (n : Int) (H : Hp) : PureAt Tryz.prog 140 [.con (.int .i64 n)] H (cV (numV2 n)) := by
  refine acalls_of (by kernel_rfl) Tryz.func140 rfl 5 Tryz.ntmps140 (by simp) [.cell 2 92] rfl ?_
  ((repeat' (first | (refine awp_seq_k (fun K hK => ?_)) | (refine awp_reg _ rfl ?_; (try simp (maxSteps := 10000000) only [go_sem, Nat.reduceLT, Nat.reduceEqDiff, Nat.reduceLeDiff, Nat.reduceAdd, Nat.reduceMul, Int.reduceToNat, Nat.reducePow, ↓reduceIte, reduceCtorEq])) | (refine awp_ret ?_) | (refine all_fresh fun id fr => ?_) | (refine hK _ ?_; clear hK; (try clear K)))))
  (refine fin_le (cV (numV2 n)) (H) (by (try simp only [List.mem_singleton, forall_eq, resOk, List.mem_cons, List.not_mem_nil, or_false, forall_eq_or_imp, and_self]); (try simp (maxSteps := 10000000) only [go_sem, Nat.reduceLT, Nat.reduceEqDiff, Nat.reduceLeDiff, Nat.reduceAdd, Nat.reduceMul, Int.reduceToNat, Nat.reducePow, ↓reduceIte, reduceCtorEq])) (by (try simp (maxSteps := 10000000) only [go_sem, Nat.reduceLT, Nat.reduceEqDiff, Nat.reduceLeDiff, Nat.reduceAdd, Nat.reduceMul, Int.reduceToNat, Nat.reducePow, ↓reduceIte, reduceCtorEq]); (repeat' (first | exact .refl _ | exact AV.le_nil | refine AV.le_aggc rfl ?_ | refine lec_cons ?_ ?_))) (by ((try dsimp only); repeat' (first | with_reducible exact .refl _ | exact box_fresh (by assumption) | refine weak_box ?_ ?_))) ⟨rfl, rfl⟩)
theorem c_small (H : Hp) : PureAt Tryz.prog 95 [] H (.list (encRels smallB) none) := by
  refine acalls_of (by kernel_rfl) Tryz.func95 rfl 10 Tryz.ntmps95 (by simp) [.tmp 0] rfl ?_
  ((repeat' (first | (refine awp_seq_k (fun K hK => ?_)) | (refine awp_reg _ rfl ?_; (try simp (maxSteps := 10000000) only [go_sem, Nat.reduceLT, Nat.reduceEqDiff, Nat.reduceLeDiff, Nat.reduceAdd, Nat.reduceMul, Int.reduceToNat, Nat.reducePow, ↓reduceIte, reduceCtorEq])) | (refine awp_ret ?_) | (refine PureAt.use (c_num _ _) ?_ <;> (try simp (maxSteps := 10000000) only [go_sem, Nat.reduceLT, Nat.reduceEqDiff, Nat.reduceLeDiff, Nat.reduceAdd, Nat.reduceMul, Int.reduceToNat, Nat.reducePow, ↓reduceIte, reduceCtorEq])) | (refine orAt_l ?_) | (with_reducible apply And.intro) | (refine hK _ ?_; clear hK; (try clear K)))); (all_goals (try ((decide)))))
  refine fin_le (.list (encRels smallB) none) H (by (try simp only [List.mem_singleton, forall_eq, List.mem_cons, List.not_mem_nil, or_false, forall_eq_or_imp, and_self, resOk])) (AV.le_listc rfl fun i hi => ?_) (.refl _) ⟨rfl, rfl⟩
  obtain rfl : i = 0 := by simp at hi; omega
  refine ⟨rfl, fun z hz => ?_, fun j hj => ?_⟩
  · exact (encRels_fits smallB _ (List.mem_singleton.2 rfl)).2 z hz
  · match j, hj with
    | 0, _ => exact .refl _
    | 1, _ => exact .refl _
    | 2, _ => exact AV.le_nil
    | 3, _ => exact .refl _
end Go.Proofs.YtababmnmkmgbbaaGreat
/-
  A part of the proof: its theorems say what each gives.
-/
set_option maxRecDepth 100000
set_option maxHeartbeats 4000000
set_option linter.unusedSimpArgs false
set_option linter.unusedVariables false
namespace Go.Proofs.YtababmnmkmgbbaaGreat
open Go Fw
/-! The fact about conjunctive queries. -/
theorem c_v (n : Int) (H : Hp) : PureAt Tryz.prog 222 [.con (.int .i64 n)] H (cTrm ⟨true, n, zV⟩) := by
  refine acalls_of (by kernel_rfl) Tryz.func222 rfl 5 Tryz.ntmps222 (by simp) [.cell 2 197] rfl ?_
  ((repeat' (first | (refine awp_seq_k (fun K hK => ?_)) | (refine awp_reg _ rfl ?_; (try simp only [go_sem, Nat.reduceLT, Nat.reduceEqDiff, Nat.reduceLeDiff, Nat.reduceAdd, Nat.reduceMul, Int.reduceToNat, Nat.reducePow, ↓reduceIte, reduceCtorEq])) | (refine awp_ret ?_) | (refine all_fresh fun id fr => ?_) | (refine hK _ ?_; clear hK; (try clear K)))))
  (refine fin_le (cTrm ⟨true, n, zV⟩) (H) (by (try simp only [List.mem_singleton, forall_eq, resOk, List.mem_cons, List.not_mem_nil, or_false, forall_eq_or_imp, and_self]); (try simp only [go_sem, Nat.reduceLT, Nat.reduceEqDiff, Nat.reduceLeDiff, Nat.reduceAdd, Nat.reduceMul, Int.reduceToNat, Nat.reducePow, ↓reduceIte, reduceCtorEq])) (by (try simp only [go_sem, Nat.reduceLT, Nat.reduceEqDiff, Nat.reduceLeDiff, Nat.reduceAdd, Nat.reduceMul, Int.reduceToNat, Nat.reducePow, ↓reduceIte, reduceCtorEq]); (repeat' (first | exact .refl _ | exact AV.le_nil | refine AV.le_aggc rfl ?_ | refine lec_cons ?_ ?_))) (by ((try dsimp only); repeat' (first | with_reducible exact .refl _ | exact box_fresh (by assumption) | refine weak_box ?_ ?_))) ⟨rfl, rfl⟩)
theorem c_each (H : Hp) : PureAt Tryz.prog 123 [] H (cCQ eachQ) := by
  refine acalls_of (by kernel_rfl) Tryz.func123 rfl 8 Tryz.ntmps123 (by simp) [.cell 0 54] rfl ?_
  ((repeat' (first | (refine awp_seq_k (fun K hK => ?_)) | (refine awp_reg _ rfl ?_; (try simp only [go_sem, Nat.reduceLT, Nat.reduceEqDiff, Nat.reduceLeDiff, Nat.reduceAdd, Nat.reduceMul, Int.reduceToNat, Nat.reducePow, ↓reduceIte, reduceCtorEq])) | (refine awp_ret ?_) | (refine PureAt.use (c_v _ _) ?_ <;> (try simp only [go_sem, Nat.reduceLT, Nat.reduceEqDiff, Nat.reduceLeDiff, Nat.reduceAdd, Nat.reduceMul, Int.reduceToNat, Nat.reducePow, ↓reduceIte, reduceCtorEq])) | (refine orAt_l ?_) | (with_reducible apply And.intro) | (refine all_fresh fun id fr => ?_) | (refine hK _ ?_; clear hK; (try clear K)))); (all_goals (try ((decide)))))
  (refine fin_le (cCQ eachQ) (H) (by (try simp only [List.mem_singleton, forall_eq, resOk, List.mem_cons, List.not_mem_nil, or_false, forall_eq_or_imp, and_self]); (try simp only [go_sem, Nat.reduceLT, Nat.reduceEqDiff, Nat.reduceLeDiff, Nat.reduceAdd, Nat.reduceMul, Int.reduceToNat, Nat.reducePow, ↓reduceIte, reduceCtorEq])) (by (try simp only [go_sem, Nat.reduceLT, Nat.reduceEqDiff, Nat.reduceLeDiff, Nat.reduceAdd, Nat.reduceMul, Int.reduceToNat, Nat.reducePow, ↓reduceIte, reduceCtorEq]); (repeat' ((exact .refl _)))) (by ((try dsimp only); repeat' (first | with_reducible exact .refl _ | exact box_fresh (by assumption) | refine weak_box ?_ ?_))) ⟨rfl, rfl⟩)
theorem gV_num (n : Int) (h : okI n) : gV (numV2 n) := ⟨by rw [sizeV, sizeFs]; omega, by rw [numV]; exact ⟨h, trivial⟩⟩
theorem gBase_small : gBase smallB := by
  refine ⟨by decide, fun r hr => ?_⟩
  obtain rfl := List.mem_singleton.1 hr
  refine ⟨by decide, fun c hc => ?_, by decide, by decide, fun x hx => ?_⟩
  · obtain rfl := List.mem_singleton.1 hc
    unfold okI; decide
  · simp only [List.mem_cons, List.not_mem_nil, or_false] at hx
    rcases hx with rfl | rfl
    · exact ⟨by decide, fun v hv => by obtain rfl := List.mem_singleton.1 hv; exact gV_num 1 (by unfold okI; decide)⟩
    · exact ⟨by decide, fun v hv => by obtain rfl := List.mem_singleton.1 hv; exact gV_num 2 (by unfold okI; decide)⟩
theorem gTrm_zero : gTrm ⟨true, 0, zV⟩ := ⟨by unfold okI; decide, gV_zero⟩
theorem gTs_zero : gTs [⟨true, 0, zV⟩] := ⟨by decide, fun t ht => by obtain rfl := List.mem_singleton.1 ht; exact gTrm_zero⟩
theorem gCQ_each : gCQ eachQ := ⟨gTs_zero, by decide, fun a ha => by obtain rfl := List.mem_singleton.1 ha; exact gTs_zero⟩
theorem run_small : runE smallB eachQ = 0 ∧ (runL smallB eachQ).length = 2 := by decide +kernel
theorem c_found (H : Hp) : PureAt Tryz.prog 31 [] H (.con (.bool true)) := by
  have hr := fun H => c_cqRun smallB eachQ H gBase_small gCQ_each
  obtain ⟨h1, h2⟩ := run_small
  rw [h1] at hr
  generalize runL smallB eachQ = l at *
  have c1 : ((l.length : Int) = 2) = True := eq_true (by omega)
  refine acalls_of (by kernel_rfl) Tryz.func31 rfl 21 Tryz.ntmps31 (by simp) [.tmp 0] rfl ?_
  have hn : none24.length = 24 := rfl
  ((repeat' (first | (refine awp_seq_k (fun K hK => ?_)) | (refine awp_reg _ rfl ?_; (try simp only [go_sem, Nat.reduceLT, Nat.reduceEqDiff, Nat.reduceLeDiff, Nat.reduceAdd, Nat.reduceMul, Int.reduceToNat, Nat.reducePow, ↓reduceIte, reduceCtorEq, c1, ↓pkv, decide_true, decide_false, bls, if_true, if_false])) | (refine awp_ret ?_) | (refine PureAt.use (c_small _) ?_) | (refine PureAt.use (c_each _) ?_) | (refine PureAt.use (hr _) ?_ <;> (try simp only [go_sem, Nat.reduceLT, Nat.reduceEqDiff, Nat.reduceLeDiff, Nat.reduceAdd, Nat.reduceMul, Int.reduceToNat, Nat.reducePow, ↓reduceIte, reduceCtorEq, c1, ↓pkv, decide_true, decide_false, bls, if_true, if_false])) | (refine ⟨_, c_None _, ?_⟩ <;> (try simp only [go_sem, Nat.reduceLT, Nat.reduceEqDiff, Nat.reduceLeDiff, Nat.reduceAdd, Nat.reduceMul, Int.reduceToNat, Nat.reducePow, ↓reduceIte, reduceCtorEq, c1, ↓pkv, decide_true, decide_false, bls, if_true, if_false])) | (refine orAt_l ?_) | (refine hK _ ?_; clear hK; (try clear K)))))
  ((all_goals (try refine fin_pure (by (try simp only [List.mem_singleton, forall_eq, resOk, List.mem_cons, List.not_mem_nil, or_false, forall_eq_or_imp, and_self])) ?_ (by ((try dsimp only); repeat' ((with_reducible exact .refl _)))))); (all_goals (try simp only [go_sem, Nat.reduceLT, Nat.reduceEqDiff, Nat.reduceLeDiff, Nat.reduceAdd, Nat.reduceMul, Int.reduceToNat, Nat.reducePow, ↓reduceIte, reduceCtorEq, hn])); (all_goals (try (((simp [*, hn]; done))))))
end Go.Proofs.YtababmnmkmgbbaaGreat
