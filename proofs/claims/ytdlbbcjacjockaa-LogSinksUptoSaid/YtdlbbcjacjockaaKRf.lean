/-
  A part of the proof: its theorems say what each gives.
-/
import Derived.Test.YtdlbbcjacjockaaKRe
import Derived.Test.YtdlbbcjacjockaaKVg
set_option maxRecDepth 100000
set_option maxHeartbeats 8000000
set_option linter.unusedSimpArgs false
set_option linter.unusedVariables false
namespace Go.Proofs.Ytdlbbcjacjockaa
open Go Fw
/-! The reference: entries that are the same. -/
def eqN (p : Nat → Bool) (n m : Nat) : Bool := decide (n = m) && (List.range n).all p
theorem eqN_ne {p n m} (h : n ≠ m) : eqN p n m = false := by simp [eqN, h]
theorem eqN_no {p n i} (hi : i < n) (h : p i = false) : eqN p n n = false := by
  unfold eqN
  rw [Bool.and_eq_false_iff]; right
  rw [List.all_eq_false]
  exact ⟨i, List.mem_range.2 hi, by simp [h]⟩
theorem eqN_yes {p n} (h : ∀ i, i < n → p i = true) : eqN p n n = true := by
  unfold eqN
  simp only [decide_true, Bool.true_and, List.all_eq_true]
  exact fun i hi => h i (List.mem_range.1 hi)
theorem c_EqEntry (xs ys : List AV) (q : Nat) (p : Nat → Bool) (H : Hp) (hx : ∀ i, i < xs.length → ∃ a b, xs.getD i .any = .agg [.con (.int .i64 a), .list b none]) (hy : ∀ i, i < ys.length → ∃ a b, ys.getD i .any = .agg [.con (.int .i64 a), .list b none]) (hn : xs.length ≤ 4611686018427387904)
    (hp : ∀ i, i < xs.length → i < ys.length → ∀ H, PureAt Try.prog q [xs.getD i .any, ys.getD i .any] H (.con (.bool (p i)))) :
    PureAt Try.prog 40 [.list xs none, .list ys none, .fn q []] H (.con (.bool (eqN p xs.length ys.length))) := by
  refine acalls_of (by kernel_rfl) Try.func40 rfl 32 Try.ntmps40 (by simp) [.tmp 6] rfl ?_
  by_cases hl : xs.length = ys.length
  · have hl' : (xs.length : Int) = ys.length := by omega
    ((repeat' (first | (refine awp_seq_k (fun K hK => ?_)) | (refine awp_block ?_) | (refine awp_reg _ rfl ?_; (try simp only [go_sem, Nat.reduceLT, Nat.reduceEqDiff, Nat.reduceLeDiff, Nat.reduceAdd, Nat.reduceMul, Int.reduceToNat, Nat.reducePow, ↓reduceIte, reduceCtorEq])) | (refine awp_cond _ rfl (fun hc => ?_) (fun hc => ?_) <;> (try (simp only [decide_eq_true_eq, decide_eq_false_iff_not, Bool.or_eq_true, Bool.and_eq_true, Bool.not_eq_true', Bool.not_eq_false', Bool.or_eq_false_iff, Bool.and_eq_false_imp, Bool.not_eq_false, Bool.not_eq_true, Bool.not_true, Bool.not_false, Bool.true_eq_false, Bool.false_eq_true, not_true_eq_false, Decidable.not_not, ite_or, ite_and] at hc)) <;> (try (exfalso; omega))) | (refine awp_skip ?_; (try simp only [sq, bk, ↓reduceIte, Nat.reduceEqDiff, reduceCtorEq])) | (refine hK _ ?_; clear hK; (try clear K)))))
    refine awp_loop (ι := Nat) (fun i => ⟨32, [(1, .list ys none), (2, .fn q []), (15, .list xs none), (16, .con (.int .i64 xs.length)), (17, .con (.int .i64 (i : Int)))], H⟩)
      (fun i => i ≤ xs.length ∧ ∀ j, j < i → p j = true) (fun i => xs.length - i) 0 ⟨by omega, fun j hj => by omega⟩ ?_ ?_
    · (refine st_le rfl ?_ (by ((try dsimp only); repeat' ((with_reducible exact .refl _)))); (try simp only [go_sem, Nat.reduceLT, Nat.reduceEqDiff, Nat.reduceLeDiff, Nat.reduceAdd, Nat.reduceMul, Int.reduceToNat, Nat.reducePow, ↓reduceIte, reduceCtorEq]))
    intro i ⟨hi, h0⟩
    rcases Nat.lt_or_ge i xs.length with hlt | hge
    · obtain ⟨a1, a2, hg⟩ := hx i hlt
      obtain ⟨b1, b2, hg2⟩ := hy i (by omega)
      have hpi := hp i hlt (by omega)
      rw [hg, hg2] at hpi
      cases hv : p i
      all_goals
        rw [hv] at hpi
        ((repeat' (first | (refine awp_seq_k (fun K hK => ?_)) | (refine awp_block ?_) | (refine awp_reg _ rfl ?_; (try simp only [go_sem, Nat.reduceLT, Nat.reduceEqDiff, Nat.reduceLeDiff, Nat.reduceAdd, Nat.reduceMul, Int.reduceToNat, Nat.reducePow, ↓reduceIte, reduceCtorEq, wrap_succ i (by omega), hg, hg2])) | (refine awp_cond _ rfl (fun hc => ?_) (fun hc => ?_) <;> (try (simp only [decide_eq_true_eq, decide_eq_false_iff_not, Bool.or_eq_true, Bool.and_eq_true, Bool.not_eq_true', Bool.not_eq_false', Bool.or_eq_false_iff, Bool.and_eq_false_imp, Bool.not_eq_false, Bool.not_eq_true, Bool.not_true, Bool.not_false, Bool.true_eq_false, Bool.false_eq_true, not_true_eq_false, Decidable.not_not, ite_or, ite_and] at hc)) <;> (try (exfalso; omega))) | (refine awp_skip ?_; (try simp only [sq, bk, ↓reduceIte, Nat.reduceEqDiff, reduceCtorEq])) | (refine awp_ret ?_; (try simp only [sq, bk, ↓reduceIte, Nat.reduceEqDiff, reduceCtorEq])) | (refine PureAt.use (hpi _) ?_ <;> (try simp only [go_sem, Nat.reduceLT, Nat.reduceEqDiff, Nat.reduceLeDiff, Nat.reduceAdd, Nat.reduceMul, Int.reduceToNat, Nat.reducePow, ↓reduceIte, reduceCtorEq, wrap_succ i (by omega), hg, hg2])) | (refine orAt_r 9 ?_; (try simp only [go_sem, Nat.reduceLT, Nat.reduceEqDiff, Nat.reduceLeDiff, Nat.reduceAdd, Nat.reduceMul, Int.reduceToNat, Nat.reducePow, ↓reduceIte, reduceCtorEq, wrap_succ i (by omega), hg, hg2])) | (with_reducible apply And.intro) | (refine all_fresh fun id fr => ?_) | (refine hK _ ?_; clear hK; (try clear K)))); (all_goals (try ((omega)))))
      · have e : eqN p xs.length ys.length = false := by rw [← hl]; exact eqN_no hlt hv
        ((all_goals (try refine fin_pure (by (try simp only [List.mem_singleton, forall_eq, resOk, List.mem_cons, List.not_mem_nil, or_false, forall_eq_or_imp, and_self])) ?_ (by ((try dsimp only); repeat' (first | with_reducible exact .refl _ | exact box_fresh (by assumption) | refine weak_box ?_ ?_))))); (all_goals (try simp only [go_sem, Nat.reduceLT, Nat.reduceEqDiff, Nat.reduceLeDiff, Nat.reduceAdd, Nat.reduceMul, Int.reduceToNat, Nat.reducePow, ↓reduceIte, reduceCtorEq, e])))
      · refine ⟨i + 1, by omega, ⟨by omega, fun j hj => (by rcases Nat.lt_succ_iff_lt_or_eq.1 hj with h | rfl; exact h0 j h; exact hv)⟩, ?_⟩
        (refine st_le rfl ?_ (by ((try dsimp only); repeat' (first | with_reducible exact .refl _ | exact box_fresh (by assumption) | refine weak_box ?_ ?_))); (try simp only [go_sem, Nat.reduceLT, Nat.reduceEqDiff, Nat.reduceLeDiff, Nat.reduceAdd, Nat.reduceMul, Int.reduceToNat, Nat.reducePow, ↓reduceIte, reduceCtorEq]))
    · obtain rfl : i = xs.length := by omega
      have e : eqN p xs.length ys.length = true := by rw [← hl]; exact eqN_yes h0
      ((repeat' (first | (refine awp_seq_k (fun K hK => ?_)) | (refine awp_reg _ rfl ?_; (try simp only [go_sem, Nat.reduceLT, Nat.reduceEqDiff, Nat.reduceLeDiff, Nat.reduceAdd, Nat.reduceMul, Int.reduceToNat, Nat.reducePow, ↓reduceIte, reduceCtorEq])) | (refine awp_cond _ rfl (fun hc => ?_) (fun hc => ?_) <;> (try (simp only [decide_eq_true_eq, decide_eq_false_iff_not, Bool.or_eq_true, Bool.and_eq_true, Bool.not_eq_true', Bool.not_eq_false', Bool.or_eq_false_iff, Bool.and_eq_false_imp, Bool.not_eq_false, Bool.not_eq_true, Bool.not_true, Bool.not_false, Bool.true_eq_false, Bool.false_eq_true, not_true_eq_false, Decidable.not_not, ite_or, ite_and] at hc)) <;> (try (exfalso; omega))) | (refine awp_exit ?_; (try simp only [sq, bk, ↓reduceIte, Nat.reduceEqDiff, reduceCtorEq])) | (refine awp_ret ?_) | (refine hK _ ?_; clear hK; (try clear K)) | (refine kk (by assumption) ?_))))
      ((all_goals (try refine fin_pure (by (try simp only [List.mem_singleton, forall_eq, resOk, List.mem_cons, List.not_mem_nil, or_false, forall_eq_or_imp, and_self])) ?_ (by ((try dsimp only); repeat' ((with_reducible exact .refl _)))))); (all_goals (try simp only [go_sem, Nat.reduceLT, Nat.reduceEqDiff, Nat.reduceLeDiff, Nat.reduceAdd, Nat.reduceMul, Int.reduceToNat, Nat.reducePow, ↓reduceIte, reduceCtorEq, e])))
  · have hl' : ¬ (xs.length : Int) = ys.length := by omega
    ((repeat' (first | (refine awp_seq_k (fun K hK => ?_)) | (refine awp_reg _ rfl ?_; (try simp only [go_sem, Nat.reduceLT, Nat.reduceEqDiff, Nat.reduceLeDiff, Nat.reduceAdd, Nat.reduceMul, Int.reduceToNat, Nat.reducePow, ↓reduceIte, reduceCtorEq])) | (refine awp_cond _ rfl (fun hc => ?_) (fun hc => ?_) <;> (try (simp only [decide_eq_true_eq, decide_eq_false_iff_not, Bool.or_eq_true, Bool.and_eq_true, Bool.not_eq_true', Bool.not_eq_false', Bool.or_eq_false_iff, Bool.and_eq_false_imp, Bool.not_eq_false, Bool.not_eq_true, Bool.not_true, Bool.not_false, Bool.true_eq_false, Bool.false_eq_true, not_true_eq_false, Decidable.not_not, ite_or, ite_and] at hc)) <;> (try (exfalso; omega))) | (refine awp_ret ?_; (try simp only [sq, bk, ↓reduceIte, Nat.reduceEqDiff, reduceCtorEq])) | (refine hK _ ?_; clear hK; (try clear K)))))
    ((all_goals (try refine fin_pure (by (try simp only [List.mem_singleton, forall_eq, resOk, List.mem_cons, List.not_mem_nil, or_false, forall_eq_or_imp, and_self])) ?_ (by ((try dsimp only); repeat' ((with_reducible exact .refl _)))))); (all_goals (try simp only [go_sem, Nat.reduceLT, Nat.reduceEqDiff, Nat.reduceLeDiff, Nat.reduceAdd, Nat.reduceMul, Int.reduceToNat, Nat.reducePow, ↓reduceIte, reduceCtorEq, eqN_ne hl])))
theorem c_EqChange (xs ys : List AV) (q : Nat) (p : Nat → Bool) (H : Hp) (hx : ∀ i, i < xs.length → ∃ a b c, xs.getD i .any = .agg [.con (.string a), .con (.bool b), .list c none]) (hy : ∀ i, i < ys.length → ∃ a b c, ys.getD i .any = .agg [.con (.string a), .con (.bool b), .list c none]) (hn : xs.length ≤ 4611686018427387904)
    (hp : ∀ i, i < xs.length → i < ys.length → ∀ H, PureAt Try.prog q [xs.getD i .any, ys.getD i .any] H (.con (.bool (p i)))) :
    PureAt Try.prog 73 [.list xs none, .list ys none, .fn q []] H (.con (.bool (eqN p xs.length ys.length))) := by
  refine acalls_of (by kernel_rfl) Try.func73 rfl 32 Try.ntmps73 (by simp) [.tmp 6] rfl ?_
  by_cases hl : xs.length = ys.length
  · have hl' : (xs.length : Int) = ys.length := by omega
    ((repeat' (first | (refine awp_seq_k (fun K hK => ?_)) | (refine awp_block ?_) | (refine awp_reg _ rfl ?_; (try simp only [go_sem, Nat.reduceLT, Nat.reduceEqDiff, Nat.reduceLeDiff, Nat.reduceAdd, Nat.reduceMul, Int.reduceToNat, Nat.reducePow, ↓reduceIte, reduceCtorEq])) | (refine awp_cond _ rfl (fun hc => ?_) (fun hc => ?_) <;> (try (simp only [decide_eq_true_eq, decide_eq_false_iff_not, Bool.or_eq_true, Bool.and_eq_true, Bool.not_eq_true', Bool.not_eq_false', Bool.or_eq_false_iff, Bool.and_eq_false_imp, Bool.not_eq_false, Bool.not_eq_true, Bool.not_true, Bool.not_false, Bool.true_eq_false, Bool.false_eq_true, not_true_eq_false, Decidable.not_not, ite_or, ite_and] at hc)) <;> (try (exfalso; omega))) | (refine awp_skip ?_; (try simp only [sq, bk, ↓reduceIte, Nat.reduceEqDiff, reduceCtorEq])) | (refine hK _ ?_; clear hK; (try clear K)))))
    refine awp_loop (ι := Nat) (fun i => ⟨32, [(1, .list ys none), (2, .fn q []), (15, .list xs none), (16, .con (.int .i64 xs.length)), (17, .con (.int .i64 (i : Int)))], H⟩)
      (fun i => i ≤ xs.length ∧ ∀ j, j < i → p j = true) (fun i => xs.length - i) 0 ⟨by omega, fun j hj => by omega⟩ ?_ ?_
    · (refine st_le rfl ?_ (by ((try dsimp only); repeat' ((with_reducible exact .refl _)))); (try simp only [go_sem, Nat.reduceLT, Nat.reduceEqDiff, Nat.reduceLeDiff, Nat.reduceAdd, Nat.reduceMul, Int.reduceToNat, Nat.reducePow, ↓reduceIte, reduceCtorEq]))
    intro i ⟨hi, h0⟩
    rcases Nat.lt_or_ge i xs.length with hlt | hge
    · obtain ⟨a1, a2, a3, hg⟩ := hx i hlt
      obtain ⟨b1, b2, b3, hg2⟩ := hy i (by omega)
      have hpi := hp i hlt (by omega)
      rw [hg, hg2] at hpi
      cases hv : p i
      all_goals
        rw [hv] at hpi
        ((repeat' (first | (refine awp_seq_k (fun K hK => ?_)) | (refine awp_block ?_) | (refine awp_reg _ rfl ?_; (try simp only [go_sem, Nat.reduceLT, Nat.reduceEqDiff, Nat.reduceLeDiff, Nat.reduceAdd, Nat.reduceMul, Int.reduceToNat, Nat.reducePow, ↓reduceIte, reduceCtorEq, wrap_succ i (by omega), hg, hg2])) | (refine awp_cond _ rfl (fun hc => ?_) (fun hc => ?_) <;> (try (simp only [decide_eq_true_eq, decide_eq_false_iff_not, Bool.or_eq_true, Bool.and_eq_true, Bool.not_eq_true', Bool.not_eq_false', Bool.or_eq_false_iff, Bool.and_eq_false_imp, Bool.not_eq_false, Bool.not_eq_true, Bool.not_true, Bool.not_false, Bool.true_eq_false, Bool.false_eq_true, not_true_eq_false, Decidable.not_not, ite_or, ite_and] at hc)) <;> (try (exfalso; omega))) | (refine awp_skip ?_; (try simp only [sq, bk, ↓reduceIte, Nat.reduceEqDiff, reduceCtorEq])) | (refine awp_ret ?_; (try simp only [sq, bk, ↓reduceIte, Nat.reduceEqDiff, reduceCtorEq])) | (refine PureAt.use (hpi _) ?_ <;> (try simp only [go_sem, Nat.reduceLT, Nat.reduceEqDiff, Nat.reduceLeDiff, Nat.reduceAdd, Nat.reduceMul, Int.reduceToNat, Nat.reducePow, ↓reduceIte, reduceCtorEq, wrap_succ i (by omega), hg, hg2])) | (refine orAt_r 9 ?_; (try simp only [go_sem, Nat.reduceLT, Nat.reduceEqDiff, Nat.reduceLeDiff, Nat.reduceAdd, Nat.reduceMul, Int.reduceToNat, Nat.reducePow, ↓reduceIte, reduceCtorEq, wrap_succ i (by omega), hg, hg2])) | (with_reducible apply And.intro) | (refine all_fresh fun id fr => ?_) | (refine hK _ ?_; clear hK; (try clear K)))); (all_goals (try ((omega)))))
      · have e : eqN p xs.length ys.length = false := by rw [← hl]; exact eqN_no hlt hv
        ((all_goals (try refine fin_pure (by (try simp only [List.mem_singleton, forall_eq, resOk, List.mem_cons, List.not_mem_nil, or_false, forall_eq_or_imp, and_self])) ?_ (by ((try dsimp only); repeat' (first | with_reducible exact .refl _ | exact box_fresh (by assumption) | refine weak_box ?_ ?_))))); (all_goals (try simp only [go_sem, Nat.reduceLT, Nat.reduceEqDiff, Nat.reduceLeDiff, Nat.reduceAdd, Nat.reduceMul, Int.reduceToNat, Nat.reducePow, ↓reduceIte, reduceCtorEq, e])))
      · refine ⟨i + 1, by omega, ⟨by omega, fun j hj => (by rcases Nat.lt_succ_iff_lt_or_eq.1 hj with h | rfl; exact h0 j h; exact hv)⟩, ?_⟩
        (refine st_le rfl ?_ (by ((try dsimp only); repeat' (first | with_reducible exact .refl _ | exact box_fresh (by assumption) | refine weak_box ?_ ?_))); (try simp only [go_sem, Nat.reduceLT, Nat.reduceEqDiff, Nat.reduceLeDiff, Nat.reduceAdd, Nat.reduceMul, Int.reduceToNat, Nat.reducePow, ↓reduceIte, reduceCtorEq]))
    · obtain rfl : i = xs.length := by omega
      have e : eqN p xs.length ys.length = true := by rw [← hl]; exact eqN_yes h0
      ((repeat' (first | (refine awp_seq_k (fun K hK => ?_)) | (refine awp_reg _ rfl ?_; (try simp only [go_sem, Nat.reduceLT, Nat.reduceEqDiff, Nat.reduceLeDiff, Nat.reduceAdd, Nat.reduceMul, Int.reduceToNat, Nat.reducePow, ↓reduceIte, reduceCtorEq])) | (refine awp_cond _ rfl (fun hc => ?_) (fun hc => ?_) <;> (try (simp only [decide_eq_true_eq, decide_eq_false_iff_not, Bool.or_eq_true, Bool.and_eq_true, Bool.not_eq_true', Bool.not_eq_false', Bool.or_eq_false_iff, Bool.and_eq_false_imp, Bool.not_eq_false, Bool.not_eq_true, Bool.not_true, Bool.not_false, Bool.true_eq_false, Bool.false_eq_true, not_true_eq_false, Decidable.not_not, ite_or, ite_and] at hc)) <;> (try (exfalso; omega))) | (refine awp_exit ?_; (try simp only [sq, bk, ↓reduceIte, Nat.reduceEqDiff, reduceCtorEq])) | (refine awp_ret ?_) | (refine hK _ ?_; clear hK; (try clear K)) | (refine kk (by assumption) ?_))))
      ((all_goals (try refine fin_pure (by (try simp only [List.mem_singleton, forall_eq, resOk, List.mem_cons, List.not_mem_nil, or_false, forall_eq_or_imp, and_self])) ?_ (by ((try dsimp only); repeat' ((with_reducible exact .refl _)))))); (all_goals (try simp only [go_sem, Nat.reduceLT, Nat.reduceEqDiff, Nat.reduceLeDiff, Nat.reduceAdd, Nat.reduceMul, Int.reduceToNat, Nat.reducePow, ↓reduceIte, reduceCtorEq, e])))
  · have hl' : ¬ (xs.length : Int) = ys.length := by omega
    ((repeat' (first | (refine awp_seq_k (fun K hK => ?_)) | (refine awp_reg _ rfl ?_; (try simp only [go_sem, Nat.reduceLT, Nat.reduceEqDiff, Nat.reduceLeDiff, Nat.reduceAdd, Nat.reduceMul, Int.reduceToNat, Nat.reducePow, ↓reduceIte, reduceCtorEq])) | (refine awp_cond _ rfl (fun hc => ?_) (fun hc => ?_) <;> (try (simp only [decide_eq_true_eq, decide_eq_false_iff_not, Bool.or_eq_true, Bool.and_eq_true, Bool.not_eq_true', Bool.not_eq_false', Bool.or_eq_false_iff, Bool.and_eq_false_imp, Bool.not_eq_false, Bool.not_eq_true, Bool.not_true, Bool.not_false, Bool.true_eq_false, Bool.false_eq_true, not_true_eq_false, Decidable.not_not, ite_or, ite_and] at hc)) <;> (try (exfalso; omega))) | (refine awp_ret ?_; (try simp only [sq, bk, ↓reduceIte, Nat.reduceEqDiff, reduceCtorEq])) | (refine hK _ ?_; clear hK; (try clear K)))))
    ((all_goals (try refine fin_pure (by (try simp only [List.mem_singleton, forall_eq, resOk, List.mem_cons, List.not_mem_nil, or_false, forall_eq_or_imp, and_self])) ?_ (by ((try dsimp only); repeat' ((with_reducible exact .refl _)))))); (all_goals (try simp only [go_sem, Nat.reduceLT, Nat.reduceEqDiff, Nat.reduceLeDiff, Nat.reduceAdd, Nat.reduceMul, Int.reduceToNat, Nat.reducePow, ↓reduceIte, reduceCtorEq, eqN_ne hl])))
theorem c_relCmp (xs ys : List Val) (H : Hp) (hn : xs.length ≤ 4611686018427387904) (hm : ys.length ≤ 4611686018427387904) (hx : ∀ v ∈ xs, sizeV v ≤ 4611686018427387904) (hy : ∀ v ∈ ys, sizeV v ≤ 4611686018427387904) :
    PureAt Try.prog 75 [.list (encVs xs) none, .list (encVs ys) none] H (.con (.int .i64 (cmpN (fun i => cmpV (xs.getD i default) (ys.getD i default)) xs.length ys.length))) := by
  have hmn : (min (xs.length : Int) (ys.length : Int)) = ((min xs.length ys.length : Nat) : Int) := by omega
  have hcm : ∀ (i : Nat) (h1 : i < xs.length) (h2 : i < ys.length) H, PureAt Try.prog 104 [.agg [.con (.int .i64 xs[i].k), .con (.int .i64 xs[i].n), .con (.string xs[i].s), .list (encFs xs[i].fs) none], .agg [.con (.int .i64 ys[i].k), .con (.int .i64 ys[i].n), .con (.string ys[i].s), .list (encFs ys[i].fs) none]] H
      (.con (.int .i64 (cmpV (xs.getD i default) (ys.getD i default)))) := fun i h1 h2 H => by
    have h3 := c_Cmp xs[i] ys[i] H (hx _ (List.getElem_mem h1)) (hy _ (List.getElem_mem h2))
    rw [List.getD_eq_getElem?_getD, List.getElem?_eq_getElem h1, List.getD_eq_getElem?_getD, List.getElem?_eq_getElem h2]
    rwa [encV_eq, encV_eq] at h3
  generalize hcc : (fun i => cmpV (xs.getD i default) (ys.getD i default)) = c
  have hc' : ∀ i, cmpV (xs.getD i default) (ys.getD i default) = c i := fun i => by rw [← hcc]
  refine acalls_of (by kernel_rfl) Try.func75 rfl 33 Try.ntmps75 (by simp) [.tmp 4] rfl ?_
  ((repeat' (first | (refine awp_seq_k (fun K hK => ?_)) | (refine awp_block ?_) | (refine awp_reg _ rfl ?_; (try simp only [go_sem, Nat.reduceLT, Nat.reduceEqDiff, Nat.reduceLeDiff, Nat.reduceAdd, Nat.reduceMul, Int.reduceToNat, Nat.reducePow, ↓reduceIte, reduceCtorEq, hmn])) | (refine hK _ ?_; clear hK; (try clear K)))))
  refine awp_loop (ι := Nat) (fun i => ⟨33, [(0, .list (encVs xs) none), (1, .list (encVs ys) none), (11, .con (.int .i64 ((min xs.length ys.length : Nat) : Int))), (12, .con (.int .i64 (i : Int)))], H⟩)
    (fun i => i ≤ min xs.length ys.length ∧ ∀ j, j < i → c j = 0) (fun i => min xs.length ys.length - i) 0 ⟨by omega, fun j hj => by omega⟩ ?_ ?_
  · (refine st_le rfl ?_ (by ((try dsimp only); repeat' ((with_reducible exact .refl _)))); (try simp only [go_sem, Nat.reduceLT, Nat.reduceEqDiff, Nat.reduceLeDiff, Nat.reduceAdd, Nat.reduceMul, Int.reduceToNat, Nat.reducePow, ↓reduceIte, reduceCtorEq, hmn]))
  intro i ⟨hi, h0⟩
  rcases Nat.lt_or_ge i (min xs.length ys.length) with hlt | hge
  · have h1 : i < xs.length := by omega
    have h2 : i < ys.length := by omega
    have hci := hcm i h1 h2
    rw [hc'] at hci
    ((repeat' (first | (refine awp_seq_k (fun K hK => ?_)) | (refine awp_block ?_) | (refine awp_reg _ rfl ?_; (try simp only [go_sem, Nat.reduceLT, Nat.reduceEqDiff, Nat.reduceLeDiff, Nat.reduceAdd, Nat.reduceMul, Int.reduceToNat, Nat.reducePow, ↓reduceIte, reduceCtorEq, encVs_get h1, encVs_get h2, wrap_succ i (by omega)])) | (refine awp_drawn (by kernel_rfl) (by kernel_rfl) ?_; (try simp only [go_sem, Nat.reduceLT, Nat.reduceEqDiff, Nat.reduceLeDiff, Nat.reduceAdd, Nat.reduceMul, Int.reduceToNat, Nat.reducePow, ↓reduceIte, reduceCtorEq, encVs_get h1, encVs_get h2, wrap_succ i (by omega)])) | (refine awp_cond _ rfl (fun hc => ?_) (fun hc => ?_) <;> (try (simp only [decide_eq_true_eq, decide_eq_false_iff_not, Bool.or_eq_true, Bool.and_eq_true, Bool.not_eq_true', Bool.not_eq_false', Bool.or_eq_false_iff, Bool.and_eq_false_imp, Bool.not_eq_false, Bool.not_eq_true, Bool.not_true, Bool.not_false, Bool.true_eq_false, Bool.false_eq_true, not_true_eq_false, Decidable.not_not, ite_or, ite_and] at hc)) <;> (try (exfalso; omega))) | (refine awp_skip ?_; (try simp only [sq, bk, ↓reduceIte, Nat.reduceEqDiff, reduceCtorEq])) | (refine awp_ret ?_; (try simp only [sq, bk, ↓reduceIte, Nat.reduceEqDiff, reduceCtorEq])) | (refine ⟨_, hci _, ?_⟩ <;> (try simp only [go_sem, Nat.reduceLT, Nat.reduceEqDiff, Nat.reduceLeDiff, Nat.reduceAdd, Nat.reduceMul, Int.reduceToNat, Nat.reducePow, ↓reduceIte, reduceCtorEq, encVs_get h1, encVs_get h2, wrap_succ i (by omega)])) | (with_reducible apply And.intro) | (refine hK _ ?_; clear hK; (try clear K)))); (all_goals (try ((omega)))))
    · have e : cmpN c xs.length ys.length = c i := by
        unfold cmpN
        rw [firstE_hit (i := i) hlt hc h0, if_neg hc]
      ((all_goals (try refine fin_pure (by (try simp only [List.mem_singleton, forall_eq, resOk, List.mem_cons, List.not_mem_nil, or_false, forall_eq_or_imp, and_self])) ?_ (by ((try dsimp only); repeat' ((with_reducible exact .refl _)))))); (all_goals (try simp only [go_sem, Nat.reduceLT, Nat.reduceEqDiff, Nat.reduceLeDiff, Nat.reduceAdd, Nat.reduceMul, Int.reduceToNat, Nat.reducePow, ↓reduceIte, reduceCtorEq, e])))
    · refine ⟨i + 1, by omega, ⟨by omega, fun j hj => ?_⟩, ?_⟩
      · rcases Nat.lt_succ_iff_lt_or_eq.1 hj with h | rfl
        · exact h0 j h
        · assumption
      · (refine st_le rfl ?_ (by ((try dsimp only); repeat' ((with_reducible exact .refl _)))); (try simp only [go_sem, Nat.reduceLT, Nat.reduceEqDiff, Nat.reduceLeDiff, Nat.reduceAdd, Nat.reduceMul, Int.reduceToNat, Nat.reducePow, ↓reduceIte, reduceCtorEq]))
  · obtain rfl : i = min xs.length ys.length := by omega
    have e : cmpN c xs.length ys.length = cmpI xs.length ys.length := by
      unfold cmpN
      rw [firstE_miss fun j hj => h0 j (by omega), if_pos rfl]
    ((repeat' (first | (refine awp_seq_k (fun K hK => ?_)) | (refine awp_reg _ rfl ?_; (try simp only [go_sem, Nat.reduceLT, Nat.reduceEqDiff, Nat.reduceLeDiff, Nat.reduceAdd, Nat.reduceMul, Int.reduceToNat, Nat.reducePow, ↓reduceIte, reduceCtorEq])) | (refine awp_cond _ rfl (fun hc => ?_) (fun hc => ?_) <;> (try (simp only [decide_eq_true_eq, decide_eq_false_iff_not, Bool.or_eq_true, Bool.and_eq_true, Bool.not_eq_true', Bool.not_eq_false', Bool.or_eq_false_iff, Bool.and_eq_false_imp, Bool.not_eq_false, Bool.not_eq_true, Bool.not_true, Bool.not_false, Bool.true_eq_false, Bool.false_eq_true, not_true_eq_false, Decidable.not_not, ite_or, ite_and] at hc)) <;> (try (exfalso; omega))) | (refine awp_exit ?_; (try simp only [sq, bk, ↓reduceIte, Nat.reduceEqDiff, reduceCtorEq])) | (refine awp_ret ?_) | (refine PureAt.use (c_cmpCompare _ _ _) ?_ <;> (try simp only [go_sem, Nat.reduceLT, Nat.reduceEqDiff, Nat.reduceLeDiff, Nat.reduceAdd, Nat.reduceMul, Int.reduceToNat, Nat.reducePow, ↓reduceIte, reduceCtorEq])) | (refine hK _ ?_; clear hK; (try clear K)) | (refine kk (by assumption) ?_))))
    ((all_goals (try refine fin_pure (by (try simp only [List.mem_singleton, forall_eq, resOk, List.mem_cons, List.not_mem_nil, or_false, forall_eq_or_imp, and_self])) ?_ (by ((try dsimp only); repeat' ((with_reducible exact .refl _)))))); (all_goals (try simp only [go_sem, Nat.reduceLT, Nat.reduceEqDiff, Nat.reduceLeDiff, Nat.reduceAdd, Nat.reduceMul, Int.reduceToNat, Nat.reducePow, ↓reduceIte, reduceCtorEq, e])))
def rowC (a b : List Val) : Int := cmpN (fun i => cmpV (a.getD i default) (b.getD i default)) a.length b.length
instance : Inhabited Chg := ⟨⟨⟨#[]⟩, false, []⟩⟩
instance : Inhabited Ent := ⟨⟨0, []⟩⟩
def sameC (c d : Chg) : Bool := (decide (c.rel = d.rel) && (c.del == d.del)) && decide (rowC c.row d.row = 0)
def sameCs (l r : List Chg) : Bool := eqN (fun i => sameC (l.getD i default) (r.getD i default)) l.length r.length
def sameE (x y : Ent) : Bool := decide (x.no = y.no) && sameCs x.ch y.ch
def sameEs (l r : List Ent) : Bool := eqN (fun i => sameE (l.getD i default) (r.getD i default)) l.length r.length
theorem c_SameC1 (c d : Chg) (H : Hp) (hc1 : c.row.length ≤ 4611686018427387904) (hd1 : d.row.length ≤ 4611686018427387904) (hc2 : ∀ v ∈ c.row, sizeV v ≤ 4611686018427387904) (hd2 : ∀ v ∈ d.row, sizeV v ≤ 4611686018427387904) :
    PureAt Try.prog 74 [.agg [.con (.string c.rel), .con (.bool c.del), .list (encVs c.row) none], .agg [.con (.string d.rel), .con (.bool d.del), .list (encVs d.row) none]] H (.con (.bool (sameC c d))) := by
  have h1 := c_relCmp c.row d.row
  unfold sameC rowC
  generalize cmpN (fun i => cmpV (c.row.getD i default) (d.row.getD i default)) c.row.length d.row.length = z at *
  refine acalls_of (by kernel_rfl) Try.func74 rfl 25 Try.ntmps74 (by simp) [.tmp 4] rfl ?_
  ((repeat' (first | (refine awp_seq_k (fun K hK => ?_)) | (refine awp_reg _ rfl ?_; (try simp only [go_sem, Nat.reduceLT, Nat.reduceEqDiff, Nat.reduceLeDiff, Nat.reduceAdd, Nat.reduceMul, Int.reduceToNat, Nat.reducePow, ↓reduceIte, reduceCtorEq])) | (refine awp_ret ?_) | (refine ⟨_, fun hg => ⟨?_, h1 _ hc1 hd1 hc2 hd2⟩, ?_⟩ <;> (try simp only [go_sem, Nat.reduceLT, Nat.reduceEqDiff, Nat.reduceLeDiff, Nat.reduceAdd, Nat.reduceMul, Int.reduceToNat, Nat.reducePow, ↓reduceIte, reduceCtorEq])) | (refine orAt_r 2 ?_) | (refine orAt_r 3 ?_) | (refine hK _ ?_; clear hK; (try clear K)))); (all_goals (try ((omega)))))
  ((all_goals (try refine fin_pure (by (try simp only [List.mem_singleton, forall_eq, resOk, List.mem_cons, List.not_mem_nil, or_false, forall_eq_or_imp, and_self])) ?_ (by ((try dsimp only); repeat' ((with_reducible exact .refl _)))))); (all_goals (try simp only [go_sem, Nat.reduceLT, Nat.reduceEqDiff, Nat.reduceLeDiff, Nat.reduceAdd, Nat.reduceMul, Int.reduceToNat, Nat.reducePow, ↓reduceIte, reduceCtorEq])))
structure RangeC (c : Chg) : Prop where
  len : c.row.length ≤ 4611686018427387904
  row : ∀ v ∈ c.row, sizeV v ≤ 4611686018427387904
theorem c_SameCs (l r : List Chg) (H : Hp) (hl : l.length ≤ 4611686018427387904) (h1 : ∀ c ∈ l, RangeC c) (h2 : ∀ c ∈ r, RangeC c) :
    PureAt Try.prog 42 [.list (encCs l) none, .list (encCs r) none] H (.con (.bool (sameCs l r))) := by
  have h := fun H => c_EqChange (encCs l) (encCs r) 74 (fun i => sameC (l.getD i default) (r.getD i default)) H
    (fun i hi => ⟨_, _, _, encCs_get (by simpa [encCs] using hi)⟩) (fun i hi => ⟨_, _, _, encCs_get (by simpa [encCs] using hi)⟩) (by simpa [encCs] using hl)
    (fun i hi hj H => by
      have hi' : i < l.length := by simpa [encCs] using hi
      have hj' : i < r.length := by simpa [encCs] using hj
      rw [encCs_get hi', encCs_get hj', List.getD_eq_getElem?_getD, List.getElem?_eq_getElem hi', List.getD_eq_getElem?_getD, List.getElem?_eq_getElem hj']
      have a := h1 _ (List.getElem_mem hi')
      have b := h2 _ (List.getElem_mem hj')
      exact c_SameC1 _ _ H a.len b.len a.row b.row)
  rw [show (encCs l).length = l.length by simp [encCs], show (encCs r).length = r.length by simp [encCs]] at h
  refine acalls_of (by kernel_rfl) Try.func42 rfl 8 Try.ntmps42 (by simp) [.tmp 4] rfl ?_
  ((repeat' (first | (refine awp_seq_k (fun K hK => ?_)) | (refine awp_reg _ rfl ?_; (try simp only [go_sem, Nat.reduceLT, Nat.reduceEqDiff, Nat.reduceLeDiff, Nat.reduceAdd, Nat.reduceMul, Int.reduceToNat, Nat.reducePow, ↓reduceIte, reduceCtorEq])) | (refine awp_ret ?_) | (refine PureAt.use (h _) ?_ <;> (try simp only [go_sem, Nat.reduceLT, Nat.reduceEqDiff, Nat.reduceLeDiff, Nat.reduceAdd, Nat.reduceMul, Int.reduceToNat, Nat.reducePow, ↓reduceIte, reduceCtorEq])) | (refine hK _ ?_; clear hK; (try clear K)))))
  ((all_goals (try refine fin_pure (by (try simp only [List.mem_singleton, forall_eq, resOk, List.mem_cons, List.not_mem_nil, or_false, forall_eq_or_imp, and_self])) ?_ (by ((try dsimp only); repeat' ((with_reducible exact .refl _)))))); (all_goals (try simp only [go_sem, Nat.reduceLT, Nat.reduceEqDiff, Nat.reduceLeDiff, Nat.reduceAdd, Nat.reduceMul, Int.reduceToNat, Nat.reducePow, ↓reduceIte, reduceCtorEq, sameCs])))
theorem c_SameE1 (x y : Ent) (H : Hp) (h1 : RangeE x) (h2 : RangeE y) :
    PureAt Try.prog 41 [.agg [.con (.int .i64 x.no), .list (encCs x.ch) none], .agg [.con (.int .i64 y.no), .list (encCs y.ch) none]] H (.con (.bool (sameE x y))) := by
  have h := fun H => c_SameCs x.ch y.ch H h1.ch (fun c hc => ⟨(h1.row c hc).1, (h1.row c hc).2⟩) (fun c hc => ⟨(h2.row c hc).1, (h2.row c hc).2⟩)
  refine acalls_of (by kernel_rfl) Try.func41 rfl 17 Try.ntmps41 (by simp) [.tmp 4] rfl ?_
  ((repeat' (first | (refine awp_seq_k (fun K hK => ?_)) | (refine awp_reg _ rfl ?_; (try simp only [go_sem, Nat.reduceLT, Nat.reduceEqDiff, Nat.reduceLeDiff, Nat.reduceAdd, Nat.reduceMul, Int.reduceToNat, Nat.reducePow, ↓reduceIte, reduceCtorEq])) | (refine awp_ret ?_) | (refine ⟨_, fun hg => ⟨?_, h _⟩, ?_⟩ <;> (try simp only [go_sem, Nat.reduceLT, Nat.reduceEqDiff, Nat.reduceLeDiff, Nat.reduceAdd, Nat.reduceMul, Int.reduceToNat, Nat.reducePow, ↓reduceIte, reduceCtorEq])) | (refine orAt_r 2 ?_) | (refine orAt_r 3 ?_) | (refine hK _ ?_; clear hK; (try clear K)))); (all_goals (try ((omega)))))
  ((all_goals (try refine fin_pure (by (try simp only [List.mem_singleton, forall_eq, resOk, List.mem_cons, List.not_mem_nil, or_false, forall_eq_or_imp, and_self])) ?_ (by ((try dsimp only); repeat' ((with_reducible exact .refl _)))))); (all_goals (try simp only [go_sem, Nat.reduceLT, Nat.reduceEqDiff, Nat.reduceLeDiff, Nat.reduceAdd, Nat.reduceMul, Int.reduceToNat, Nat.reducePow, ↓reduceIte, reduceCtorEq, sameE])))
theorem c_SameEs (l r : List Ent) (H : Hp) (hl : l.length ≤ 4611686018427387904) (h1 : ∀ c ∈ l, RangeE c) (h2 : ∀ c ∈ r, RangeE c) :
    PureAt Try.prog 12 [.list (encEs l) none, .list (encEs r) none] H (.con (.bool (sameEs l r))) := by
  have h := fun H => c_EqEntry (encEs l) (encEs r) 41 (fun i => sameE (l.getD i default) (r.getD i default)) H
    (fun i hi => ⟨_, _, encEs_get (by simpa [encEs] using hi)⟩) (fun i hi => ⟨_, _, encEs_get (by simpa [encEs] using hi)⟩) (by simpa [encEs] using hl)
    (fun i hi hj H => by
      have hi' : i < l.length := by simpa [encEs] using hi
      have hj' : i < r.length := by simpa [encEs] using hj
      rw [encEs_get hi', encEs_get hj', List.getD_eq_getElem?_getD, List.getElem?_eq_getElem hi', List.getD_eq_getElem?_getD, List.getElem?_eq_getElem hj']
      exact c_SameE1 _ _ H (h1 _ (List.getElem_mem hi')) (h2 _ (List.getElem_mem hj')))
  rw [show (encEs l).length = l.length by simp [encEs], show (encEs r).length = r.length by simp [encEs]] at h
  refine acalls_of (by kernel_rfl) Try.func12 rfl 8 Try.ntmps12 (by simp) [.tmp 4] rfl ?_
  ((repeat' (first | (refine awp_seq_k (fun K hK => ?_)) | (refine awp_reg _ rfl ?_; (try simp only [go_sem, Nat.reduceLT, Nat.reduceEqDiff, Nat.reduceLeDiff, Nat.reduceAdd, Nat.reduceMul, Int.reduceToNat, Nat.reducePow, ↓reduceIte, reduceCtorEq])) | (refine awp_ret ?_) | (refine PureAt.use (h _) ?_ <;> (try simp only [go_sem, Nat.reduceLT, Nat.reduceEqDiff, Nat.reduceLeDiff, Nat.reduceAdd, Nat.reduceMul, Int.reduceToNat, Nat.reducePow, ↓reduceIte, reduceCtorEq])) | (refine hK _ ?_; clear hK; (try clear K)))))
  ((all_goals (try refine fin_pure (by (try simp only [List.mem_singleton, forall_eq, resOk, List.mem_cons, List.not_mem_nil, or_false, forall_eq_or_imp, and_self])) ?_ (by ((try dsimp only); repeat' ((with_reducible exact .refl _)))))); (all_goals (try simp only [go_sem, Nat.reduceLT, Nat.reduceEqDiff, Nat.reduceLeDiff, Nat.reduceAdd, Nat.reduceMul, Int.reduceToNat, Nat.reducePow, ↓reduceIte, reduceCtorEq, sameEs])))
end Go.Proofs.Ytdlbbcjacjockaa
