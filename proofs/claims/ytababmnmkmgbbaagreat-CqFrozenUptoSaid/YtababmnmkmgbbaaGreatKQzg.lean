/-
  A part of the proof: its theorems say what each gives.
-/
import Derived.Test.YtababmnmkmgbbaaGreatKQzf
set_option maxRecDepth 100000
set_option maxHeartbeats 4000000
set_option linter.unusedSimpArgs false
set_option linter.unusedVariables false
namespace Go.Proofs.YtababmnmkmgbbaaGreat
open Go Fw
/-! Whether a query is in another one; the law of frozen queries. -/
theorem c_ContP (b : List Rel) (p q : CQ) (H : Hp) (hb : gBase b) (hp : gCQ p) (hq : gCQ q) (ep : ¬ cqE b p = 0) : PureAt Tryz.prog 87 [.list (encRels b) none, cCQ p, cCQ q] H (.tup [.con (.bool false), .list (encRels []) none, .list (encVs []) none, .con (.int .i64 (cqE b p))]) := by
  have h2 := eq_false ep
  refine acalls_of (by kernel_rfl) Tryz.func87 rfl 39 Tryz.ntmps87 (by simp) [.tmp 6, .tmp 7, .tmp 8, .tmp 9] rfl ?_
  ((repeat' (first | (refine awp_seq_k (fun K hK => ?_)) | (refine awp_reg _ rfl ?_; (try simp (maxSteps := 10000000) only [go_sem, Nat.reduceLT, Nat.reduceEqDiff, Nat.reduceLeDiff, Nat.reduceAdd, Nat.reduceMul, Int.reduceToNat, Nat.reducePow, ↓reduceIte, reduceCtorEq, h2, ↓pkv, decide_true, decide_false, bls, if_true, if_false])) | (refine awp_cond _ rfl (fun hc => ?_) (fun hc => ?_) <;> (try (simp only [decide_eq_true_eq, decide_eq_false_iff_not, cds, Decidable.not_not, ite_or, ite_and] at hc))) | (refine awp_ret ?_; (try simp only [sq, bk, ↓reduceIte, Nat.reduceEqDiff, reduceCtorEq])) | (refine PureAt.use (c_cqCheck b p _ hb hp) ?_ <;> (try simp (maxSteps := 10000000) only [go_sem, Nat.reduceLT, Nat.reduceEqDiff, Nat.reduceLeDiff, Nat.reduceAdd, Nat.reduceMul, Int.reduceToNat, Nat.reducePow, ↓reduceIte, reduceCtorEq, h2, ↓pkv, decide_true, decide_false, bls, if_true, if_false])) | (refine orAt_r 4 ?_) | (refine orAt_r 5 ?_) | (refine orAt_l ?_) | (refine hK _ ?_; clear hK; (try clear K)))))
  (refine fin_le (.tup [.con (.bool false), .list (encRels []) none, .list (encVs []) none, .con (.int .i64 (cqE b p))]) (H) (by (try simp only [List.mem_singleton, forall_eq, resOk, List.mem_cons, List.not_mem_nil, or_false, forall_eq_or_imp, and_self])) (by (try simp (maxSteps := 10000000) only [go_sem, Nat.reduceLT, Nat.reduceEqDiff, Nat.reduceLeDiff, Nat.reduceAdd, Nat.reduceMul, Int.reduceToNat, Nat.reducePow, ↓reduceIte, reduceCtorEq]); (repeat' (first | exact .refl _ | exact AV.le_nil | refine AV.le_tupc rfl ?_ | refine lec_cons ?_ ?_))) (by ((try dsimp only); repeat' ((with_reducible exact .refl _)))) ⟨rfl, rfl⟩)
theorem c_ContQ (b : List Rel) (p q : CQ) (H : Hp) (hb : gBase b) (hp : gCQ p) (hq : gCQ q) (ep : cqE b p = 0) (eq : ¬ cqE b q = 0) : PureAt Tryz.prog 87 [.list (encRels b) none, cCQ p, cCQ q] H (.tup [.con (.bool false), .list (encRels []) none, .list (encVs []) none, .con (.int .i64 (cqE b q))]) := by
  have h2 := eq_false eq
  have hc1 := fun H => c_cqCheck b p H hb hp
  rw [ep] at hc1
  refine acalls_of (by kernel_rfl) Tryz.func87 rfl 39 Tryz.ntmps87 (by simp) [.tmp 6, .tmp 7, .tmp 8, .tmp 9] rfl ?_
  ((repeat' (first | (refine awp_seq_k (fun K hK => ?_)) | (refine awp_reg _ rfl ?_; (try simp (maxSteps := 10000000) only [go_sem, Nat.reduceLT, Nat.reduceEqDiff, Nat.reduceLeDiff, Nat.reduceAdd, Nat.reduceMul, Int.reduceToNat, Nat.reducePow, ↓reduceIte, reduceCtorEq, h2, ↓pkv, decide_true, decide_false, bls, if_true, if_false])) | (refine awp_cond _ rfl (fun hc => ?_) (fun hc => ?_) <;> (try (simp only [decide_eq_true_eq, decide_eq_false_iff_not, cds, Decidable.not_not, ite_or, ite_and] at hc))) | (refine awp_skip ?_; (try simp only [sq, bk, ↓reduceIte, Nat.reduceEqDiff, reduceCtorEq])) | (refine awp_ret ?_; (try simp only [sq, bk, ↓reduceIte, Nat.reduceEqDiff, reduceCtorEq])) | (refine PureAt.use (hc1 _) ?_ <;> (try simp (maxSteps := 10000000) only [go_sem, Nat.reduceLT, Nat.reduceEqDiff, Nat.reduceLeDiff, Nat.reduceAdd, Nat.reduceMul, Int.reduceToNat, Nat.reducePow, ↓reduceIte, reduceCtorEq, h2, ↓pkv, decide_true, decide_false, bls, if_true, if_false])) | (refine PureAt.use (c_cqCheck b q _ hb hq) ?_ <;> (try simp (maxSteps := 10000000) only [go_sem, Nat.reduceLT, Nat.reduceEqDiff, Nat.reduceLeDiff, Nat.reduceAdd, Nat.reduceMul, Int.reduceToNat, Nat.reducePow, ↓reduceIte, reduceCtorEq, h2, ↓pkv, decide_true, decide_false, bls, if_true, if_false])) | (refine orAt_r 4 ?_) | (refine orAt_r 5 ?_) | (refine orAt_l ?_) | (refine hK _ ?_; clear hK; (try clear K)))))
  (refine fin_le (.tup [.con (.bool false), .list (encRels []) none, .list (encVs []) none, .con (.int .i64 (cqE b q))]) (H) (by (try simp only [List.mem_singleton, forall_eq, resOk, List.mem_cons, List.not_mem_nil, or_false, forall_eq_or_imp, and_self])) (by (try simp (maxSteps := 10000000) only [go_sem, Nat.reduceLT, Nat.reduceEqDiff, Nat.reduceLeDiff, Nat.reduceAdd, Nat.reduceMul, Int.reduceToNat, Nat.reducePow, ↓reduceIte, reduceCtorEq]); (repeat' (first | exact .refl _ | exact AV.le_nil | refine AV.le_tupc rfl ?_ | refine lec_cons ?_ ?_))) (by ((try dsimp only); repeat' ((with_reducible exact .refl _)))) ⟨rfl, rfl⟩)
theorem c_ContL (b : List Rel) (p q : CQ) (H : Hp) (hb : gBase b) (hp : gCQ p) (hq : gCQ q) (ep : cqE b p = 0) (eq : cqE b q = 0) (hl : ¬ p.head.length = q.head.length) : PureAt Tryz.prog 87 [.list (encRels b) none, cCQ p, cCQ q] H (.tup [.con (.bool false), .list (encRels []) none, .list (encVs []) none, .con (.int .i64 8)]) := by
  have h2 : ((p.head.length : Int) = (q.head.length : Int)) = False := eq_false (by omega)
  have hc1 := fun H => c_cqCheck b p H hb hp
  rw [ep] at hc1
  have hc2 := fun H => c_cqCheck b q H hb hq
  rw [eq] at hc2
  refine acalls_of (by kernel_rfl) Tryz.func87 rfl 39 Tryz.ntmps87 (by simp) [.tmp 6, .tmp 7, .tmp 8, .tmp 9] rfl ?_
  ((repeat' (first | (refine awp_seq_k (fun K hK => ?_)) | (refine awp_reg _ rfl ?_; (try simp (maxSteps := 10000000) only [go_sem, Nat.reduceLT, Nat.reduceEqDiff, Nat.reduceLeDiff, Nat.reduceAdd, Nat.reduceMul, Int.reduceToNat, Nat.reducePow, ↓reduceIte, reduceCtorEq, h2, ↓pkv, decide_true, decide_false, bls, if_true, if_false])) | (refine awp_cond _ rfl (fun hc => ?_) (fun hc => ?_) <;> (try (simp only [decide_eq_true_eq, decide_eq_false_iff_not, cds, Decidable.not_not, ite_or, ite_and] at hc))) | (refine awp_skip ?_; (try simp only [sq, bk, ↓reduceIte, Nat.reduceEqDiff, reduceCtorEq])) | (refine awp_ret ?_; (try simp only [sq, bk, ↓reduceIte, Nat.reduceEqDiff, reduceCtorEq])) | (refine PureAt.use (hc1 _) ?_ <;> (try simp (maxSteps := 10000000) only [go_sem, Nat.reduceLT, Nat.reduceEqDiff, Nat.reduceLeDiff, Nat.reduceAdd, Nat.reduceMul, Int.reduceToNat, Nat.reducePow, ↓reduceIte, reduceCtorEq, h2, ↓pkv, decide_true, decide_false, bls, if_true, if_false])) | (refine PureAt.use (hc2 _) ?_ <;> (try simp (maxSteps := 10000000) only [go_sem, Nat.reduceLT, Nat.reduceEqDiff, Nat.reduceLeDiff, Nat.reduceAdd, Nat.reduceMul, Int.reduceToNat, Nat.reducePow, ↓reduceIte, reduceCtorEq, h2, ↓pkv, decide_true, decide_false, bls, if_true, if_false])) | (refine orAt_r 4 ?_) | (refine orAt_r 5 ?_) | (refine orAt_l ?_) | (refine hK _ ?_; clear hK; (try clear K)))))
  (refine fin_le (.tup [.con (.bool false), .list (encRels []) none, .list (encVs []) none, .con (.int .i64 8)]) (H) (by (try simp only [List.mem_singleton, forall_eq, resOk, List.mem_cons, List.not_mem_nil, or_false, forall_eq_or_imp, and_self])) (by (try simp (maxSteps := 10000000) only [go_sem, Nat.reduceLT, Nat.reduceEqDiff, Nat.reduceLeDiff, Nat.reduceAdd, Nat.reduceMul, Int.reduceToNat, Nat.reducePow, ↓reduceIte, reduceCtorEq]); (repeat' (first | exact .refl _ | exact AV.le_nil | refine AV.le_tupc rfl ?_ | refine lec_cons ?_ ?_))) (by ((try dsimp only); repeat' ((with_reducible exact .refl _)))) ⟨rfl, rfl⟩)
theorem c_ContY (b : List Rel) (p q : CQ) (H : Hp) (hb : gBase b) (hp : gCQ p) (hq : gCQ q) (ep : cqE b p = 0) (eq : cqE b q = 0) (hl : p.head.length = q.head.length) : PureAt Tryz.prog 87 [.list (encRels b) none, cCQ p, cCQ q] H
    (.tup [.con (.bool (inB b p q)), .list (encRels (if inE b p q = 0 ∧ inB b p q = false then fzB b p else [])) none, .list (encVs (if inE b p q = 0 ∧ inB b p q = false then fzH p else [])) none, .con (.int .i64 (inE b p q))]) := by
  have h2 : ((p.head.length : Int) = (q.head.length : Int)) = True := eq_true (by omega)
  have hc1 := fun H => c_cqCheck b p H hb hp
  rw [ep] at hc1
  have hc2 := fun H => c_cqCheck b q H hb hq
  rw [eq] at hc2
  have hwi := fun H => c_within b p q H hb hp hq ep eq
  generalize (if inE b p q = 0 ∧ inB b p q = false then fzB b p else []) = X at *
  generalize (if inE b p q = 0 ∧ inB b p q = false then fzH p else []) = Y at *
  refine acalls_of (by kernel_rfl) Tryz.func87 rfl 39 Tryz.ntmps87 (by simp) [.tmp 6, .tmp 7, .tmp 8, .tmp 9] rfl ?_
  ((repeat' (first | (refine awp_seq_k (fun K hK => ?_)) | (refine awp_reg _ rfl ?_; (try simp (maxSteps := 10000000) only [go_sem, Nat.reduceLT, Nat.reduceEqDiff, Nat.reduceLeDiff, Nat.reduceAdd, Nat.reduceMul, Int.reduceToNat, Nat.reducePow, ↓reduceIte, reduceCtorEq, h2, ↓pkv, decide_true, decide_false, bls, if_true, if_false])) | (refine awp_cond _ rfl (fun hc => ?_) (fun hc => ?_) <;> (try (simp only [decide_eq_true_eq, decide_eq_false_iff_not, cds, Decidable.not_not, ite_or, ite_and] at hc))) | (refine awp_skip ?_; (try simp only [sq, bk, ↓reduceIte, Nat.reduceEqDiff, reduceCtorEq])) | (refine awp_ret ?_) | (refine PureAt.use (hc1 _) ?_ <;> (try simp (maxSteps := 10000000) only [go_sem, Nat.reduceLT, Nat.reduceEqDiff, Nat.reduceLeDiff, Nat.reduceAdd, Nat.reduceMul, Int.reduceToNat, Nat.reducePow, ↓reduceIte, reduceCtorEq, h2, ↓pkv, decide_true, decide_false, bls, if_true, if_false])) | (refine PureAt.use (hc2 _) ?_ <;> (try simp (maxSteps := 10000000) only [go_sem, Nat.reduceLT, Nat.reduceEqDiff, Nat.reduceLeDiff, Nat.reduceAdd, Nat.reduceMul, Int.reduceToNat, Nat.reducePow, ↓reduceIte, reduceCtorEq, h2, ↓pkv, decide_true, decide_false, bls, if_true, if_false])) | (refine PureAt.use (hwi _) ?_ <;> (try simp (maxSteps := 10000000) only [go_sem, Nat.reduceLT, Nat.reduceEqDiff, Nat.reduceLeDiff, Nat.reduceAdd, Nat.reduceMul, Int.reduceToNat, Nat.reducePow, ↓reduceIte, reduceCtorEq, h2, ↓pkv, decide_true, decide_false, bls, if_true, if_false])) | (refine orAt_r 4 ?_) | (refine orAt_r 5 ?_) | (refine orAt_l ?_) | (refine hK _ ?_; clear hK; (try clear K)))))
  (refine fin_le (.tup [.con (.bool (inB b p q)), .list (encRels X) none, .list (encVs Y) none, .con (.int .i64 (inE b p q))]) (H) (by (try simp only [List.mem_singleton, forall_eq, resOk, List.mem_cons, List.not_mem_nil, or_false, forall_eq_or_imp, and_self])) (by (try simp (maxSteps := 10000000) only [go_sem, Nat.reduceLT, Nat.reduceEqDiff, Nat.reduceLeDiff, Nat.reduceAdd, Nat.reduceMul, Int.reduceToNat, Nat.reducePow, ↓reduceIte, reduceCtorEq]); (repeat' (first | exact .refl _ | exact AV.le_nil | exact AV.le_emp | exact AV.le_list _ _ | exact AV.le_any _ | exact lec_nil | refine AV.le_aggc rfl ?_ | refine AV.le_tupc rfl ?_ | refine lec_cons ?_ ?_))) (by ((try dsimp only); repeat' ((with_reducible exact .refl _)))) ⟨rfl, rfl⟩)
theorem c_In (b : List Rel) (p q : CQ) (H : Hp) (hb : gBase b) (hp : gCQ p) (hq : gCQ q) (ep : cqE b p = 0) (eq : cqE b q = 0) : PureAt Tryz.prog 86 [.list (encRels b) none, cCQ p, cCQ q] H (.tup [.con (.bool (inB b p q)), .con (.int .i64 (inE b p q))]) := by
  have hfz := fun H => c_Frozen b p H hb hp (rngQ_of ep)
  have hk : kindsE (fzB b p) q.body = 0 := by rw [kindsE_fz ep hp]; exact cqE_kinds eq
  have h12 := (kindsE_parts hk).2.1
  have hAM := fun id H fr => c_AllM (fzB b p) q.body id H fr (gBase_fz hb hp) hq.body (kindsE_ok hk) h12
  have hgd := fun ys (h : inL b p q = some ys) => in_good hb hp h
  have hcz : cqE (fzB b p) q = 0 := by rw [cqE_fz ep hp]; exact eq
  have hrow := fun ys (h : inL b p q = some ys) y (hy : y ∈ ys) => under_row hcz (y := y) (by rw [← allL_bf h]; exact hy)
  have hbd := fun ys (h : inL b p q = some ys) y (hy : y ∈ ys) => head_bound hcz y (by rw [← allL_bf h]; exact hy)
  change ∀ id H fr, ACalls _ _ _ _ (fun r H' => H' = H ∧ ((inL b p q = none ∧ _) ∨ ∃ ys ps, inL b p q = some ys ∧ _)) at hAM
  unfold inB inE
  cases hx : inL b p q with
  | none =>
    rw [hx] at hAM
    simp only [Option.isSome_none, Option.getD_none, Bool.false_eq_true, if_false, List.any_nil]
    refine acalls_of (by kernel_rfl) Tryz.func86 rfl 48 Tryz.ntmps86 (by simp) [.tmp 6, .tmp 7] rfl ?_
    ((repeat' (first | (refine awp_seq_k (fun K hK => ?_)) | (refine awp_reg _ rfl ?_; (try simp (maxSteps := 10000000) only [go_sem, Nat.reduceLT, Nat.reduceEqDiff, Nat.reduceLeDiff, Nat.reduceAdd, Nat.reduceMul, Int.reduceToNat, Nat.reducePow, ↓reduceIte, reduceCtorEq, ↓pkv, decide_true, decide_false, bls, if_true, if_false])) | (refine PureAt.use (hfz _) ?_ <;> (try simp (maxSteps := 10000000) only [go_sem, Nat.reduceLT, Nat.reduceEqDiff, Nat.reduceLeDiff, Nat.reduceAdd, Nat.reduceMul, Int.reduceToNat, Nat.reducePow, ↓reduceIte, reduceCtorEq, ↓pkv, decide_true, decide_false, bls, if_true, if_false])) | (refine orAt_r 4 ?_) | (refine orAt_r 5 ?_) | (refine orAt_l ?_) | (refine all_fresh fun id fr => ?_) | (refine hK _ ?_; clear hK; (try clear K)))))
    refine ACalls.mono (hAM id _ fr) (fun r H'' hx => ?_)
    obtain ⟨rfl, ⟨_, rfl⟩ | ⟨ys, ps, hx1, _⟩⟩ := hx
    rotate_left
    · cases hx1
    (try simp (maxSteps := 10000000) only [go_sem, Nat.reduceLT, Nat.reduceEqDiff, Nat.reduceLeDiff, Nat.reduceAdd, Nat.reduceMul, Int.reduceToNat, Nat.reducePow, ↓reduceIte, reduceCtorEq])
    ((repeat' (first | (refine awp_seq_k (fun K hK => ?_)) | (refine awp_block ?_) | (refine awp_reg _ rfl ?_; (try simp (maxSteps := 10000000) only [go_sem, Nat.reduceLT, Nat.reduceEqDiff, Nat.reduceLeDiff, Nat.reduceAdd, Nat.reduceMul, Int.reduceToNat, Nat.reducePow, ↓reduceIte, reduceCtorEq, ↓pkv, decide_true, decide_false, bls, if_true, if_false])) | (refine hK _ ?_; clear hK; (try clear K)))))
    refine awp_loopKH (ι := Nat) [5, 9, 11, 28, 29] (fun i => [(30, .con (.int .i64 (i : Int)))]) (fun i => i ≤ 0) (fun i => 0 - i) 0 (by intro; simp only [keepT_cons, keepT_nil, List.cons_append, List.nil_append, lk, Nat.reduceEqDiff, ↓reduceIte, reduceCtorEq, Nat.reduceAdd]; rfl) (by omega) (by ((simp (maxSteps := 10000000) only [go_sem, Nat.reduceLT, Nat.reduceEqDiff, Nat.reduceLeDiff, Nat.reduceAdd, Nat.reduceMul, Int.reduceToNat, Nat.reducePow, ↓reduceIte, reduceCtorEq]; done))) ?_
    intro i hi
    obtain rfl : i = 0 := by omega
    ((repeat' (first | (refine awp_seq_k (fun K hK => ?_)) | (refine awp_reg _ rfl ?_; (try simp (maxSteps := 10000000) only [go_sem, Nat.reduceLT, Nat.reduceEqDiff, Nat.reduceLeDiff, Nat.reduceAdd, Nat.reduceMul, Int.reduceToNat, Nat.reducePow, ↓reduceIte, reduceCtorEq])) | (refine awp_cond _ rfl (fun hc => ?_) (fun hc => ?_) <;> (try (simp only [decide_eq_true_eq, decide_eq_false_iff_not, cds, Decidable.not_not, ite_or, ite_and] at hc)) <;> (try (exfalso; omega))) | (refine awp_exit ?_; (try simp only [sq, bk, ↓reduceIte, Nat.reduceEqDiff, reduceCtorEq])) | (refine awp_ret ?_) | (refine hK _ ?_; clear hK; (try clear K)) | (refine kk (by assumption) ?_))))
    ((all_goals (try refine fin_pure (by (try simp only [List.mem_singleton, forall_eq, resOk, List.mem_cons, List.not_mem_nil, or_false, forall_eq_or_imp, and_self])) ?_ (by ((try dsimp only); repeat' ((with_reducible exact .refl _)))))); (all_goals (try simp (maxSteps := 10000000) only [go_sem, Nat.reduceLT, Nat.reduceEqDiff, Nat.reduceLeDiff, Nat.reduceAdd, Nat.reduceMul, Int.reduceToNat, Nat.reducePow, ↓reduceIte, reduceCtorEq])))
  | some ys =>
    obtain ⟨hyl, hyg⟩ := hgd ys hx
    have hrow := hrow ys hx
    have hbd := hbd ys hx
    rw [hx] at hAM
    simp only [Option.isSome_some, Option.getD_some, if_true]
    generalize hv : ys.any (fun y => decide (cmpR (q.head.map (valT y)) (fzH p) = 0)) = v
    refine acalls_of (by kernel_rfl) Tryz.func86 rfl 48 Tryz.ntmps86 (by simp) [.tmp 6, .tmp 7] rfl ?_
    ((repeat' (first | (refine awp_seq_k (fun K hK => ?_)) | (refine awp_reg _ rfl ?_; (try simp (maxSteps := 10000000) only [go_sem, Nat.reduceLT, Nat.reduceEqDiff, Nat.reduceLeDiff, Nat.reduceAdd, Nat.reduceMul, Int.reduceToNat, Nat.reducePow, ↓reduceIte, reduceCtorEq, ↓pkv, decide_true, decide_false, bls, if_true, if_false])) | (refine PureAt.use (hfz _) ?_ <;> (try simp (maxSteps := 10000000) only [go_sem, Nat.reduceLT, Nat.reduceEqDiff, Nat.reduceLeDiff, Nat.reduceAdd, Nat.reduceMul, Int.reduceToNat, Nat.reducePow, ↓reduceIte, reduceCtorEq, ↓pkv, decide_true, decide_false, bls, if_true, if_false])) | (refine orAt_r 4 ?_) | (refine orAt_r 5 ?_) | (refine orAt_l ?_) | (refine all_fresh fun id fr => ?_) | (refine hK _ ?_; clear hK; (try clear K)))))
    refine ACalls.mono (hAM id _ fr) (fun r H'' hx => ?_)
    obtain ⟨rfl, ⟨hx1, _⟩ | ⟨ys2, ps, hx1, hps, rfl⟩⟩ := hx
    · cases hx1
    injection hx1 with hx1
    subst hx1
    have hpl := hps.len
    (try simp (maxSteps := 10000000) only [go_sem, Nat.reduceLT, Nat.reduceEqDiff, Nat.reduceLeDiff, Nat.reduceAdd, Nat.reduceMul, Int.reduceToNat, Nat.reducePow, ↓reduceIte, reduceCtorEq])
    ((repeat' (first | (refine awp_seq_k (fun K hK => ?_)) | (refine awp_block ?_) | (refine awp_reg _ rfl ?_; (try simp (maxSteps := 10000000) only [go_sem, Nat.reduceLT, Nat.reduceEqDiff, Nat.reduceLeDiff, Nat.reduceAdd, Nat.reduceMul, Int.reduceToNat, Nat.reducePow, ↓reduceIte, reduceCtorEq, ↓pkv, decide_true, decide_false, bls, if_true, if_false])) | (refine hK _ ?_; clear hK; (try clear K)))))
    refine awp_loopKH (ι := Nat) [5, 9, 11, 28, 29] (fun i => [(30, .con (.int .i64 (i : Int)))]) (fun i => i ≤ ps.length ∧ (ys.take i).any (fun y => decide (cmpR (q.head.map (valT y)) (fzH p) = 0)) = false) (fun i => ps.length - i) 0 (by intro; simp only [keepT_cons, keepT_nil, List.cons_append, List.nil_append, lk, Nat.reduceEqDiff, ↓reduceIte, reduceCtorEq, Nat.reduceAdd]; rfl) ⟨by omega, by simp⟩ (by ((simp (maxSteps := 10000000) only [go_sem, Nat.reduceLT, Nat.reduceEqDiff, Nat.reduceLeDiff, Nat.reduceAdd, Nat.reduceMul, Int.reduceToNat, Nat.reducePow, ↓reduceIte, reduceCtorEq]; done))) ?_
    intro i ⟨hi, h0⟩
    rcases Nat.lt_or_ge i ps.length with hlt | hge
    · obtain ⟨y, hy, hym⟩ := at_lt (show i < ys.length by omega)
      obtain ⟨pp, hpp, hpr⟩ := hps.at hy
      have hg := encPs_get hpp
      obtain ⟨hy24, hygg⟩ := hyg y hym
      have hun := fun H => c_Under q.head pp.1 pp.2 (envB y) H hq.head hpr (fun t ht hv => by
        obtain ⟨g1, g2⟩ := hbd y hym t ht hv
        rw [envB_at g1, if_neg g2]; rfl)
      rw [hrow y hym] at hun
      have hcm := fun H => c_relCmp (q.head.map (valT y)) (fzH p) H (rowT_good hygg hq.head) (gRow_fzH hp)
      by_cases hz : cmpR (q.head.map (valT y)) (fzH p) = 0
      · have hv2 : v = true := by rw [← hv]; exact any_hit hy (decide_eq_true hz)
        subst hv2
        rw [hz] at hcm
        ((repeat' (first | (refine awp_seq_k (fun K hK => ?_)) | (refine awp_block ?_) | (refine awp_reg _ rfl ?_; (try simp (maxSteps := 10000000) only [go_sem, Nat.reduceLT, Nat.reduceEqDiff, Nat.reduceLeDiff, Nat.reduceAdd, Nat.reduceMul, Int.reduceToNat, Nat.reducePow, ↓reduceIte, reduceCtorEq, hg, ↓pkv, decide_true, decide_false, bls, if_true, if_false])) | (refine awp_cond _ rfl (fun hc => ?_) (fun hc => ?_) <;> (try (simp only [decide_eq_true_eq, decide_eq_false_iff_not, cds, Decidable.not_not, ite_or, ite_and] at hc)) <;> (try (exfalso; omega))) | (refine awp_skip ?_; (try simp only [sq, bk, ↓reduceIte, Nat.reduceEqDiff, reduceCtorEq])) | (refine awp_ret ?_; (try simp only [sq, bk, ↓reduceIte, Nat.reduceEqDiff, reduceCtorEq])) | (refine ⟨_, hun _, ?_⟩) | (refine ⟨_, hcm _, ?_⟩ <;> (try simp (maxSteps := 10000000) only [go_sem, Nat.reduceLT, Nat.reduceEqDiff, Nat.reduceLeDiff, Nat.reduceAdd, Nat.reduceMul, Int.reduceToNat, Nat.reducePow, ↓reduceIte, reduceCtorEq, hg, ↓pkv, decide_true, decide_false, bls, if_true, if_false])) | (with_reducible apply And.intro) | (refine hK _ ?_; clear hK; (try clear K)))); (all_goals (try ((omega)))))
        ((all_goals (try refine fin_pure (by (try simp only [List.mem_singleton, forall_eq, resOk, List.mem_cons, List.not_mem_nil, or_false, forall_eq_or_imp, and_self])) ?_ (by ((try dsimp only); repeat' ((with_reducible exact .refl _)))))); (all_goals (try simp (maxSteps := 10000000) only [go_sem, Nat.reduceLT, Nat.reduceEqDiff, Nat.reduceLeDiff, Nat.reduceAdd, Nat.reduceMul, Int.reduceToNat, Nat.reducePow, ↓reduceIte, reduceCtorEq])))
      · have hz2 := eq_false hz
        have h1 := any_step h0 hy (decide_eq_false hz)
        ((repeat' (first | (refine awp_seq_k (fun K hK => ?_)) | (refine awp_block ?_) | (refine awp_reg _ rfl ?_; (try simp (maxSteps := 10000000) only [go_sem, Nat.reduceLT, Nat.reduceEqDiff, Nat.reduceLeDiff, Nat.reduceAdd, Nat.reduceMul, Int.reduceToNat, Nat.reducePow, ↓reduceIte, reduceCtorEq, hg, hz2, wrap_succ i (by omega), ↓pkv, decide_true, decide_false, bls, if_true, if_false])) | (refine awp_cond _ rfl (fun hc => ?_) (fun hc => ?_) <;> (try (simp only [decide_eq_true_eq, decide_eq_false_iff_not, cds, Decidable.not_not, ite_or, ite_and] at hc)) <;> (try (exfalso; omega))) | (refine awp_skip ?_; (try simp only [sq, bk, ↓reduceIte, Nat.reduceEqDiff, reduceCtorEq])) | (refine ⟨_, hun _, ?_⟩) | (refine ⟨_, hcm _, ?_⟩ <;> (try simp (maxSteps := 10000000) only [go_sem, Nat.reduceLT, Nat.reduceEqDiff, Nat.reduceLeDiff, Nat.reduceAdd, Nat.reduceMul, Int.reduceToNat, Nat.reducePow, ↓reduceIte, reduceCtorEq, hg, hz2, wrap_succ i (by omega), ↓pkv, decide_true, decide_false, bls, if_true, if_false])) | (with_reducible apply And.intro) | (refine hK _ ?_; clear hK; (try clear K)))); (all_goals (try ((omega)))))
        refine ⟨i + 1, by omega, ⟨by omega, h1⟩, ?_⟩
        (refine st_le rfl ?_ (by ((try dsimp only); repeat' ((with_reducible exact .refl _)))); (try simp (maxSteps := 10000000) only [go_sem, Nat.reduceLT, Nat.reduceEqDiff, Nat.reduceLeDiff, Nat.reduceAdd, Nat.reduceMul, Int.reduceToNat, Nat.reducePow, ↓reduceIte, reduceCtorEq]))
    · obtain rfl : i = ps.length := by omega
      rw [hpl, List.take_length, hv] at h0
      subst h0
      ((repeat' (first | (refine awp_seq_k (fun K hK => ?_)) | (refine awp_reg _ rfl ?_; (try simp (maxSteps := 10000000) only [go_sem, Nat.reduceLT, Nat.reduceEqDiff, Nat.reduceLeDiff, Nat.reduceAdd, Nat.reduceMul, Int.reduceToNat, Nat.reducePow, ↓reduceIte, reduceCtorEq])) | (refine awp_cond _ rfl (fun hc => ?_) (fun hc => ?_) <;> (try (simp only [decide_eq_true_eq, decide_eq_false_iff_not, cds, Decidable.not_not, ite_or, ite_and] at hc)) <;> (try (exfalso; omega))) | (refine awp_exit ?_; (try simp only [sq, bk, ↓reduceIte, Nat.reduceEqDiff, reduceCtorEq])) | (refine awp_ret ?_) | (refine hK _ ?_; clear hK; (try clear K)) | (refine kk (by assumption) ?_))))
      ((all_goals (try refine fin_pure (by (try simp only [List.mem_singleton, forall_eq, resOk, List.mem_cons, List.not_mem_nil, or_false, forall_eq_or_imp, and_self])) ?_ (by ((try dsimp only); repeat' ((with_reducible exact .refl _)))))); (all_goals (try simp (maxSteps := 10000000) only [go_sem, Nat.reduceLT, Nat.reduceEqDiff, Nat.reduceLeDiff, Nat.reduceAdd, Nat.reduceMul, Int.reduceToNat, Nat.reducePow, ↓reduceIte, reduceCtorEq])))
end Go.Proofs.YtababmnmkmgbbaaGreat
