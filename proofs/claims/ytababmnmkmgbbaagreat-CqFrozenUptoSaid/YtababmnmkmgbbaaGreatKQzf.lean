/-
  A part of the proof: its theorems say what each gives.
-/
import Derived.Test.YtababmnmkmgbbaaGreatKQze
import Derived.Test.YtababmnmkmgbbaaGreatKQeq
import Derived.Test.YtababmnmkmgbbaaGreatKM49
set_option maxRecDepth 100000
set_option maxHeartbeats 4000000
set_option linter.unusedSimpArgs false
set_option linter.unusedVariables false
namespace Go.Proofs.YtababmnmkmgbbaaGreat
open Go Fw
/-! Bases that are equal; queries in queries. -/
theorem c_EqfRel (l m : List Rel) (q : Nat) (cap : List AV) (p : Rel → Rel → Bool) (H : Hp) (hn : l.length ≤ 4611686018427387904) (hn2 : m.length ≤ 4611686018427387904) (hp : ∀ x ∈ l, ∀ y ∈ m, PureAt Tryz.prog q (cRel x :: cRel y :: cap) H (.con (.bool (p x y)))) :
    PureAt Tryz.prog 56 [.list (encRels l) none, .list (encRels m) none, .fn q cap] H (.con (.bool (eqL p l m))) := by
  generalize hv : eqL p l m = v
  refine acalls_of (by kernel_rfl) Tryz.func56 rfl 32 Tryz.ntmps56 (by simp) [.tmp 6] rfl ?_
  by_cases hl : l.length = m.length
  · have hl2 : ((l.length : Int) = (m.length : Int)) = True := eq_true (by omega)
    ((repeat' (first | (refine awp_seq_k (fun K hK => ?_)) | (refine awp_block ?_) | (refine awp_reg _ rfl ?_; (try simp only [go_sem, Nat.reduceLT, Nat.reduceEqDiff, Nat.reduceAdd, ↓reduceIte, reduceCtorEq, hl2, decide_false, bls])) | (refine awp_condF rfl (by ((rfl))) ?_) | (refine awp_skip ?_; (try simp only [sq])) | (refine hK _ ?_; clear hK; (try clear K)))))
    refine awp_loopKH (ι := Nat) [1, 2, 15, 16] (fun i => [(17, .con (.int .i64 (i : Int)))]) (fun i => i ≤ l.length ∧ eqL p (l.drop i) (m.drop i) = v) (fun i => l.length - i) 0 (by intro; simp only [keepT_cons, keepT_nil, List.cons_append, List.nil_append, lk, Nat.reduceEqDiff, ↓reduceIte, reduceCtorEq]; rfl) ⟨by omega, by simpa using hv⟩ (by ((simp only [go_sem, ↓reduceIte]; done))) ?_
    intro i ⟨hi, h0⟩
    rcases Nat.lt_or_ge i l.length with hlt | hge
    · obtain ⟨x, hx, hm⟩ := at_lt hlt
      obtain ⟨y, hy, hm2⟩ := at_lt (show i < m.length by omega)
      have hg := encRels_get hx
      have hg2 := encRels_get hy
      have hpi := hp x hm y hm2
      cases hr : p x y
      all_goals
        rw [hr] at hpi
        ((repeat' (first | (refine awp_seq_k (fun K hK => ?_)) | (refine awp_block ?_) | (refine awp_reg _ rfl ?_; (try simp only [go_sem, Nat.reduceLT, Nat.reduceEqDiff, Nat.reduceLeDiff, Nat.reduceAdd, ↓reduceIte, wrap_succ i (by omega), hg, hg2])) | (refine awp_cond _ rfl (fun hc => ?_) (fun hc => ?_) <;> (try (simp only [decide_eq_true_eq, decide_eq_false_iff_not, cds] at hc)) <;> (try (exfalso; omega))) | (refine awp_skip ?_; (try simp only [sq, bk])) | (refine awp_ret ?_; (try simp only [sq, bk])) | (refine PureAt.use (hpi) ?_ <;> (try simp only [go_sem])) | (refine orAt_r 8 ?_; (try simp only [go_sem, Nat.reduceLT, Nat.reduceEqDiff, Nat.reduceAdd, ↓reduceIte])) | (refine orAt_r 9 ?_; (try simp only [go_sem, Nat.reduceLT, Nat.reduceAdd, ↓reduceIte])) | (refine orAt_l ?_) | (with_reducible apply And.intro) | (refine hK _ ?_; clear hK; (try clear K)))); (all_goals (try ((omega)))))
      · rw [eqL_miss h0 hx hy hr]
        ((all_goals (try refine fin_pure (by (try simp only [forall_eq, resOk, List.mem_cons, List.not_mem_nil, or_false])) ?_ (by ((try dsimp only); repeat' ((with_reducible exact .refl _)))))); (all_goals (try simp only [go_sem, ↓reduceIte])))
      · have h1 := eqL_step h0 hx hy hr
        refine ⟨i + 1, by omega, ⟨by omega, by assumption⟩, ?_⟩
        (refine st_le rfl ?_ (by ((try dsimp only); repeat' ((with_reducible exact .refl _)))); (try simp only [go_sem, Nat.reduceEqDiff, Nat.reduceAdd, ↓reduceIte, reduceCtorEq]))
    · obtain rfl : i = l.length := by omega
      ((repeat' (first | (refine awp_seq_k (fun K hK => ?_)) | (refine awp_reg _ rfl ?_; (try simp only [go_sem, Nat.reduceLT, Nat.reduceEqDiff, Nat.reduceLeDiff, Nat.reduceAdd, ↓reduceIte])) | (refine awp_cond _ rfl (fun hc => ?_) (fun hc => ?_) <;> (try (simp only [decide_eq_true_eq, decide_eq_false_iff_not] at hc)) <;> (try (exfalso; omega))) | (refine awp_exit ?_; (try simp only [sq, bk, ↓reduceIte])) | (refine awp_ret ?_) | (refine hK _ ?_; clear hK; (try clear K)) | (refine kk (by assumption) ?_))))
      rw [eqL_end h0 hl]
      ((all_goals (try refine fin_pure (by (try simp only [forall_eq, resOk, List.mem_cons, List.not_mem_nil, or_false])) ?_ (by ((try dsimp only); repeat' ((with_reducible exact .refl _)))))); (all_goals (try simp only [go_sem, ↓reduceIte])))
  · rw [eqL_ne hl] at hv
    subst hv
    have hl2 : ((l.length : Int) = (m.length : Int)) = False := eq_false (by omega)
    ((repeat' (first | (refine awp_seq_k (fun K hK => ?_)) | (refine awp_reg _ rfl ?_; (try simp only [go_sem, Nat.reduceLT, Nat.reduceEqDiff, Nat.reduceAdd, ↓reduceIte, reduceCtorEq, hl2, decide_true, bls])) | (refine awp_condT rfl (by ((rfl))) ?_) | (refine awp_ret ?_; (try simp only [sq])) | (refine hK _ ?_; clear hK; (try clear K)))))
    ((all_goals (try refine fin_pure (by (try simp only [forall_eq, resOk, List.mem_cons, List.not_mem_nil, or_false])) ?_ (by ((try dsimp only); repeat' ((with_reducible exact .refl _)))))); (all_goals (try simp only [go_sem, ↓reduceIte])))
def sameRws (a b : List (List Val)) : Bool := eqL (fun x y => decide (cmpR x y = 0)) a b
def sameRl (a b : Rel) : Bool := eqL sameCol a.cols b.cols && sameRws a.rows b.rows
def sameBs (a b : List Rel) : Bool := eqL (fun x y => decide (x.nm = y.nm) && sameRl x y) a b
theorem c_SameRel (a b : Rel) (H : Hp) (ha : gRel a) (hb : gRel b) : PureAt Tryz.prog 99 [cRel a, cRel b] H (.con (.bool (sameRl a b))) := by
  have h1 := fun H => c_EqualCol a.cols b.cols H ha.cols hb.cols
  have h2 := fun H => c_SameRows a.rows b.rows H ha.rows hb.rows
  unfold sameRl sameRws
  cases e1 : eqL sameCol a.cols b.cols
  · rw [e1] at h1
    refine acalls_of (by kernel_rfl) Tryz.func99 rfl 17 Tryz.ntmps99 (by simp) [.tmp 4] rfl ?_
    ((repeat' (first | (refine awp_seq_k (fun K hK => ?_)) | (refine awp_reg _ rfl ?_; (try simp only [go_sem, Nat.reduceLT, Nat.reduceEqDiff, Nat.reduceLeDiff, Nat.reduceAdd, Nat.reduceMul, Int.reduceToNat, Nat.reducePow, ↓reduceIte, reduceCtorEq, ↓pkv, decide_true, decide_false, bls, if_true, if_false])) | (refine awp_ret ?_) | (refine PureAt.use (h1 _) ?_ <;> (try simp only [go_sem, Nat.reduceLT, Nat.reduceEqDiff, Nat.reduceLeDiff, Nat.reduceAdd, Nat.reduceMul, Int.reduceToNat, Nat.reducePow, ↓reduceIte, reduceCtorEq, ↓pkv, decide_true, decide_false, bls, if_true, if_false])) | (refine ⟨_, fun hg => ⟨?_, h2 _⟩, ?_⟩ <;> (try simp only [go_sem, Nat.reduceLT, Nat.reduceEqDiff, Nat.reduceLeDiff, Nat.reduceAdd, Nat.reduceMul, Int.reduceToNat, Nat.reducePow, ↓reduceIte, reduceCtorEq, ↓pkv, decide_true, decide_false, bls, if_true, if_false])) | (refine orAt_r 2 ?_) | (refine orAt_r 3 ?_) | (refine orAt_l ?_) | (refine hK _ ?_; clear hK; (try clear K)))); (all_goals (try ((omega)))))
    ((all_goals (try refine fin_pure (by (try simp only [forall_eq, resOk, List.mem_cons, List.not_mem_nil, or_false])) ?_ (by ((try dsimp only); repeat' ((with_reducible exact .refl _)))))); (all_goals (try simp only [go_sem, ↓reduceIte])); (all_goals (try (((simp [*]; done))))))
  · rw [e1] at h1
    refine acalls_of (by kernel_rfl) Tryz.func99 rfl 17 Tryz.ntmps99 (by simp) [.tmp 4] rfl ?_
    ((repeat' (first | (refine awp_seq_k (fun K hK => ?_)) | (refine awp_reg _ rfl ?_; (try simp only [go_sem, Nat.reduceLT, Nat.reduceEqDiff, Nat.reduceLeDiff, Nat.reduceAdd, Nat.reduceMul, Int.reduceToNat, Nat.reducePow, ↓reduceIte, reduceCtorEq, ↓pkv, decide_true, decide_false, bls, if_true, if_false])) | (refine awp_ret ?_) | (refine PureAt.use (h1 _) ?_ <;> (try simp only [go_sem, Nat.reduceLT, Nat.reduceEqDiff, Nat.reduceLeDiff, Nat.reduceAdd, Nat.reduceMul, Int.reduceToNat, Nat.reducePow, ↓reduceIte, reduceCtorEq, ↓pkv, decide_true, decide_false, bls, if_true, if_false])) | (refine ⟨_, h2 _, ?_⟩ <;> (try simp only [go_sem, Nat.reduceLT, Nat.reduceEqDiff, Nat.reduceLeDiff, Nat.reduceAdd, Nat.reduceMul, Int.reduceToNat, Nat.reducePow, ↓reduceIte, reduceCtorEq, ↓pkv, decide_true, decide_false, bls, if_true, if_false])) | (refine orAt_r 2 ?_) | (refine orAt_r 3 ?_) | (refine orAt_l ?_) | (refine hK _ ?_; clear hK; (try clear K)))))
    ((all_goals (try refine fin_pure (by (try simp only [forall_eq, resOk, List.mem_cons, List.not_mem_nil, or_false])) ?_ (by ((try dsimp only); repeat' ((with_reducible exact .refl _)))))); (all_goals (try simp only [go_sem, ↓reduceIte])))
theorem c_SameBase1 (a b : Rel) (H : Hp) (ha : gRel a) (hb : gRel b) : PureAt Tryz.prog 98 [cRel a, cRel b] H (.con (.bool (decide (a.nm = b.nm) && sameRl a b))) := by
  have h1 := fun H => c_SameRel a b H ha hb
  by_cases e : a.nm = b.nm
  · have c1 := eq_true e
    refine acalls_of (by kernel_rfl) Tryz.func98 rfl 15 Tryz.ntmps98 (by simp) [.tmp 4] rfl ?_
    ((repeat' (first | (refine awp_seq_k (fun K hK => ?_)) | (refine awp_reg _ rfl ?_; (try simp only [go_sem, Nat.reduceLT, Nat.reduceEqDiff, Nat.reduceLeDiff, Nat.reduceAdd, Nat.reduceMul, Int.reduceToNat, Nat.reducePow, ↓reduceIte, reduceCtorEq, c1, ↓pkv, decide_true, decide_false, bls, if_true, if_false])) | (refine awp_ret ?_) | (refine ⟨_, h1 _, ?_⟩ <;> (try simp only [go_sem, Nat.reduceLT, Nat.reduceEqDiff, Nat.reduceLeDiff, Nat.reduceAdd, Nat.reduceMul, Int.reduceToNat, Nat.reducePow, ↓reduceIte, reduceCtorEq, c1, ↓pkv, decide_true, decide_false, bls, if_true, if_false])) | (refine orAt_r 2 ?_) | (refine orAt_r 3 ?_) | (refine hK _ ?_; clear hK; (try clear K)))))
    ((all_goals (try refine fin_pure (by (try simp only [forall_eq, resOk, List.mem_cons, List.not_mem_nil, or_false])) ?_ (by ((try dsimp only); repeat' ((with_reducible exact .refl _)))))); (all_goals (try simp only [go_sem, ↓reduceIte])); (all_goals (try (((simp [*]; done))))))
  · have c1 := eq_false e
    refine acalls_of (by kernel_rfl) Tryz.func98 rfl 15 Tryz.ntmps98 (by simp) [.tmp 4] rfl ?_
    ((repeat' (first | (refine awp_seq_k (fun K hK => ?_)) | (refine awp_reg _ rfl ?_; (try simp only [go_sem, Nat.reduceLT, Nat.reduceEqDiff, Nat.reduceLeDiff, Nat.reduceAdd, Nat.reduceMul, Int.reduceToNat, Nat.reducePow, ↓reduceIte, reduceCtorEq, c1, ↓pkv, decide_true, decide_false, bls, if_true, if_false])) | (refine awp_ret ?_) | (refine ⟨_, fun hg => ⟨?_, h1 _⟩, ?_⟩) | (refine orAt_r 2 ?_) | (refine orAt_r 3 ?_) | (refine hK _ ?_; clear hK; (try clear K)))); (all_goals (try ((omega)))))
    ((all_goals (try refine fin_pure (by (try simp only [forall_eq, resOk, List.mem_cons, List.not_mem_nil, or_false])) ?_ (by ((try dsimp only); repeat' ((with_reducible exact .refl _)))))); (all_goals (try simp only [go_sem, ↓reduceIte])); (all_goals (try (((simp [*]; done))))))
theorem c_SameBase (a b : List Rel) (H : Hp) (ha : gBase a) (hb : gBase b) : PureAt Tryz.prog 17 [.list (encRels a) none, .list (encRels b) none] H (.con (.bool (sameBs a b))) := by
  have h1 := ha.1
  have h2 := hb.1
  unfold sameBs
  refine acalls_of (by kernel_rfl) Tryz.func17 rfl 8 Tryz.ntmps17 (by simp) [.tmp 4] rfl ?_
  ((repeat' (first | (refine awp_seq_k (fun K hK => ?_)) | (refine awp_reg _ rfl ?_; (try simp only [go_sem, Nat.reduceLT, Nat.reduceEqDiff, Nat.reduceLeDiff, Nat.reduceAdd, Nat.reduceMul, Int.reduceToNat, Nat.reducePow, ↓reduceIte, reduceCtorEq])) | (refine awp_ret ?_) | (refine PureAt.use (c_EqfRel a b _ _ (fun x y => decide (x.nm = y.nm) && sameRl x y) _ (by omega) (by omega) (fun x hx y hy => c_SameBase1 x y _ (ha.2 x hx) (hb.2 y hy))) ?_ <;> (try simp only [go_sem, Nat.reduceLT, Nat.reduceEqDiff, Nat.reduceLeDiff, Nat.reduceAdd, Nat.reduceMul, Int.reduceToNat, Nat.reducePow, ↓reduceIte, reduceCtorEq])) | (refine orAt_l ?_) | (refine hK _ ?_; clear hK; (try clear K)))))
  ((all_goals (try refine fin_pure (by (try simp only [forall_eq, resOk, List.mem_cons, List.not_mem_nil, or_false])) ?_ (by ((try dsimp only); repeat' ((with_reducible exact .refl _)))))); (all_goals (try simp only [go_sem, ↓reduceIte])))
theorem sameBs_self (a : List Rel) : sameBs a a = true := eqL_self fun x _ => by
  unfold sameRl sameRws
  rw [eqL_self (fun c _ => by unfold sameCol; simp), sameRows_self]; simp
theorem gBase_nil : gBase [] := ⟨by simp, by simp⟩
theorem c_SameBaseZ (H : Hp) : PureAt Tryz.prog 17 [.list (encRels []) none, .con (.slice none 0 0)] H (.con (.bool true)) := by
  have h := c_SameBase [] [] H gBase_nil gBase_nil
  rw [sameBs_self] at h
  refine ACalls.args h rfl fun i hi => ?_
  match i, hi with
  | 0, _ => exact .refl _
  | 1, _ => exact AV.le_nil
theorem c_relCmpZ (H : Hp) : PureAt Tryz.prog 52 [.list (encVs []) none, .con (.slice none 0 0)] H (.con (.int .i64 0)) := by
  have h := c_relCmp [] [] H ⟨by simp, by simp⟩ ⟨by simp, by simp⟩
  rw [to_cmpR.self] at h
  refine ACalls.args h rfl fun i hi => ?_
  match i, hi with
  | 0, _ => exact .refl _
  | 1, _ => exact AV.le_nil
/-! cq.Freeze, within, Contains; the reference's In. -/
def frzE (b : List Rel) (w : CQ) : List Rel := if cqE b w = 0 then fzB b w else []
def frzV (b : List Rel) (w : CQ) : List Val := if cqE b w = 0 then fzH w else []
theorem c_Freeze (b : List Rel) (w : CQ) (H : Hp) (hb : gBase b) (hw : gCQ w) : PureAt Tryz.prog 84 [.list (encRels b) none, cCQ w] H (.tup [.list (encRels (frzE b w)) none, .list (encVs (frzV b w)) none, .con (.int .i64 (cqE b w))]) := by
  have hck := fun H => c_cqCheck b w H hb hw
  unfold frzE frzV
  by_cases h : cqE b w = 0
  · rw [if_pos h, if_pos h]
    rw [h] at hck ⊢
    refine acalls_of (by kernel_rfl) Tryz.func84 rfl 24 Tryz.ntmps84 (by simp) [.tmp 4, .tmp 5, .tmp 6] rfl ?_
    ((repeat' (first | (refine awp_seq_k (fun K hK => ?_)) | (refine awp_reg _ rfl ?_; (try simp only [go_sem, Nat.reduceLT, Nat.reduceEqDiff, Nat.reduceLeDiff, Nat.reduceAdd, Nat.reduceMul, Int.reduceToNat, Nat.reducePow, ↓reduceIte, reduceCtorEq, ↓pkv, decide_true, decide_false, bls, if_true, if_false])) | (refine awp_cond _ rfl (fun hc => ?_) (fun hc => ?_) <;> (try (simp only [decide_eq_true_eq, decide_eq_false_iff_not, cds, Decidable.not_not, ite_or, ite_and] at hc))) | (refine awp_skip ?_; (try simp only [sq, bk, ↓reduceIte, Nat.reduceEqDiff, reduceCtorEq])) | (refine awp_ret ?_) | (refine PureAt.use (hck _) ?_ <;> (try simp only [go_sem, Nat.reduceLT, Nat.reduceEqDiff, Nat.reduceLeDiff, Nat.reduceAdd, Nat.reduceMul, Int.reduceToNat, Nat.reducePow, ↓reduceIte, reduceCtorEq, ↓pkv, decide_true, decide_false, bls, if_true, if_false])) | (refine PureAt.use (c_freeze b w _ hb hw) ?_ <;> (try simp only [go_sem, Nat.reduceLT, Nat.reduceEqDiff, Nat.reduceLeDiff, Nat.reduceAdd, Nat.reduceMul, Int.reduceToNat, Nat.reducePow, ↓reduceIte, reduceCtorEq, ↓pkv, decide_true, decide_false, bls, if_true, if_false])) | (refine orAt_r 3 ?_) | (refine orAt_l ?_) | (refine hK _ ?_; clear hK; (try clear K)))))
    (refine fin_le (.tup [.list (encRels (fzB b w)) none, .list (encVs (fzH w)) none, .con (.int .i64 0)]) (H) (by (try simp only [List.mem_singleton, forall_eq, resOk, List.mem_cons, List.not_mem_nil, or_false, forall_eq_or_imp, and_self])) (by (try simp only [go_sem, Nat.reduceLT, Nat.reduceEqDiff, Nat.reduceLeDiff, Nat.reduceAdd, Nat.reduceMul, Int.reduceToNat, Nat.reducePow, ↓reduceIte, reduceCtorEq]); (repeat' (first | exact .refl _ | exact AV.le_nil | exact AV.le_emp | exact AV.le_list _ _ | exact AV.le_any _ | exact lec_nil | refine AV.le_aggc rfl ?_ | refine AV.le_tupc rfl ?_ | refine lec_cons ?_ ?_))) (by ((try dsimp only); repeat' ((with_reducible exact .refl _)))) ⟨rfl, rfl⟩)
  · rw [if_neg h, if_neg h]
    have h2 := eq_false h
    refine acalls_of (by kernel_rfl) Tryz.func84 rfl 24 Tryz.ntmps84 (by simp) [.tmp 4, .tmp 5, .tmp 6] rfl ?_
    ((repeat' (first | (refine awp_seq_k (fun K hK => ?_)) | (refine awp_reg _ rfl ?_; (try simp only [go_sem, Nat.reduceLT, Nat.reduceEqDiff, Nat.reduceLeDiff, Nat.reduceAdd, Nat.reduceMul, Int.reduceToNat, Nat.reducePow, ↓reduceIte, reduceCtorEq, h2, ↓pkv, decide_true, decide_false, bls, if_true, if_false])) | (refine awp_cond _ rfl (fun hc => ?_) (fun hc => ?_) <;> (try (simp only [decide_eq_true_eq, decide_eq_false_iff_not, cds, Decidable.not_not, ite_or, ite_and] at hc))) | (refine awp_ret ?_; (try simp only [sq, bk, ↓reduceIte, Nat.reduceEqDiff, reduceCtorEq])) | (refine PureAt.use (hck _) ?_ <;> (try simp only [go_sem, Nat.reduceLT, Nat.reduceEqDiff, Nat.reduceLeDiff, Nat.reduceAdd, Nat.reduceMul, Int.reduceToNat, Nat.reducePow, ↓reduceIte, reduceCtorEq, h2, ↓pkv, decide_true, decide_false, bls, if_true, if_false])) | (refine orAt_r 3 ?_) | (refine orAt_l ?_) | (refine hK _ ?_; clear hK; (try clear K)))))
    (refine fin_le (.tup [.list (encRels []) none, .list (encVs []) none, .con (.int .i64 (cqE b w))]) (H) (by (try simp only [List.mem_singleton, forall_eq, resOk, List.mem_cons, List.not_mem_nil, or_false, forall_eq_or_imp, and_self])) (by (try simp only [go_sem, Nat.reduceLT, Nat.reduceEqDiff, Nat.reduceLeDiff, Nat.reduceAdd, Nat.reduceMul, Int.reduceToNat, Nat.reducePow, ↓reduceIte, reduceCtorEq]); (repeat' (first | exact .refl _ | exact AV.le_nil | refine AV.le_tupc rfl ?_ | refine lec_cons ?_ ?_))) (by ((try dsimp only); repeat' ((with_reducible exact .refl _)))) ⟨rfl, rfl⟩)
def inL (b : List Rel) (p q : CQ) : Option (List (List Val)) := extL (fzB b p) q.body [none24]
def inE (b : List Rel) (p q : CQ) : Int := if (inL b p q).isSome = true then 0 else 6
def inB (b : List Rel) (p q : CQ) : Bool := ((inL b p q).getD []).any fun y => decide (cmpR (q.head.map (valT y)) (fzH p) = 0)
theorem any_step {α : Type} {p : α → Bool} {l : List α} {i : Nat} {x : α} (h : (l.take i).any p = false) (hx : l[i]? = some x) (hv : p x = false) : (l.take (i + 1)).any p = false := by
  rw [take_at hx, List.any_append, h]; simp [hv]
theorem any_hit {α : Type} {p : α → Bool} {l : List α} {i : Nat} {x : α} (hx : l[i]? = some x) (hv : p x = true) : l.any p = true := List.any_eq_true.2 ⟨x, List.mem_of_getElem? hx, hv⟩
theorem gRow_fzH {p : CQ} (hp : gCQ p) : gRow (fzH p) := rowT_good gRow_marks hp.head
theorem in_good {b : List Rel} {p q : CQ} (hb : gBase b) (hp : gCQ p) {ys : List (List Val)} (h : inL b p q = some ys) : ys.length ≤ 20000 ∧ ∀ y ∈ ys, y.length = 24 ∧ gRow y :=
  ⟨extL_len q.body [none24] h (by simp), extL_good (gBase_fz hb hp) q.body [none24] h fun x hx => by rw [List.mem_singleton.1 hx]; exact ⟨by simp [none24], gRow_none⟩⟩
theorem c_allFz (b : List Rel) (p q : CQ) (H : Hp) (hb : gBase b) (hp : gCQ p) (hq : gCQ q) (ep : cqE b p = 0) (eq : cqE b q = 0) :
    PureAt Tryz.prog 45 [.list (encRels (fzB b p)) none, .list (encAs q.body) none, .list (encVs none24) none] H (.tup [.list (encRws ((inL b p q).getD [])) none, .con (.int .i64 (inE b p q))]) := by
  have h := c_All (fzB b p) q.body none24 H (gBase_fz hb hp) hq.body gRow_none rfl
  have hk : kindsE (fzB b p) q.body = 0 := by rw [kindsE_fz ep hp]; exact cqE_kinds eq
  unfold allE allL at h
  rw [if_pos hk, if_pos hk] at h
  exact h
theorem c_within (b : List Rel) (p q : CQ) (H : Hp) (hb : gBase b) (hp : gCQ p) (hq : gCQ q) (ep : cqE b p = 0) (eq : cqE b q = 0) :
    PureAt Tryz.prog 179 [.list (encRels b) none, cCQ p, cCQ q] H (.tup [.con (.bool (inB b p q)), .list (encRels (if inE b p q = 0 ∧ inB b p q = false then fzB b p else [])) none, .list (encVs (if inE b p q = 0 ∧ inB b p q = false then fzH p else [])) none, .con (.int .i64 (inE b p q))]) := by
  have hfz := fun H => c_freeze b p H hb hp
  have hal := fun H => c_allFz b p q H hb hp hq ep eq
  have hgd := fun ys (h : inL b p q = some ys) => in_good hb hp h
  unfold inB
  unfold inE at hal ⊢
  cases hx : inL b p q with
  | none =>
    rw [hx] at hal
    simp only [Option.isSome_none, Option.getD_none, Bool.false_eq_true, if_false, List.any_nil] at hal ⊢
    refine acalls_of (by kernel_rfl) Tryz.func179 rfl 49 Tryz.ntmps179 (by simp) [.tmp 6, .tmp 7, .tmp 8, .tmp 9] rfl ?_
    ((repeat' (first | (refine awp_seq_k (fun K hK => ?_)) | (refine awp_reg _ rfl ?_; (try simp only [go_sem, Nat.reduceLT, Nat.reduceEqDiff, Nat.reduceLeDiff, Nat.reduceAdd, Nat.reduceMul, Int.reduceToNat, Nat.reducePow, ↓reduceIte, reduceCtorEq, ↓pkv, decide_true, decide_false, bls, if_true, if_false])) | (refine awp_drawn2 (by kernel_rfl) (by kernel_rfl) ?_; (try simp only [go_sem, Nat.reduceLT, Nat.reduceEqDiff, Nat.reduceLeDiff, Nat.reduceAdd, Nat.reduceMul, Int.reduceToNat, Nat.reducePow, ↓reduceIte, reduceCtorEq, ↓pkv, decide_true, decide_false, bls, if_true, if_false])) | (refine awp_cond _ rfl (fun hc => ?_) (fun hc => ?_) <;> (try (simp only [decide_eq_true_eq, decide_eq_false_iff_not, cds, Decidable.not_not, ite_or, ite_and] at hc)) <;> (try (exfalso; omega))) | (refine awp_ret ?_; (try simp only [sq, bk, ↓reduceIte, Nat.reduceEqDiff, reduceCtorEq])) | (refine PureAt.use (hfz _) ?_ <;> (try simp only [go_sem, Nat.reduceLT, Nat.reduceEqDiff, Nat.reduceLeDiff, Nat.reduceAdd, Nat.reduceMul, Int.reduceToNat, Nat.reducePow, ↓reduceIte, reduceCtorEq, ↓pkv, decide_true, decide_false, bls, if_true, if_false])) | (refine ⟨_, c_None _, ?_⟩) | (refine ⟨_, hal _, ?_⟩ <;> (try simp only [go_sem, Nat.reduceLT, Nat.reduceEqDiff, Nat.reduceLeDiff, Nat.reduceAdd, Nat.reduceMul, Int.reduceToNat, Nat.reducePow, ↓reduceIte, reduceCtorEq, ↓pkv, decide_true, decide_false, bls, if_true, if_false])) | (refine orAt_r 4 ?_) | (refine orAt_r 5 ?_) | (refine orAt_l ?_) | (refine hK _ ?_; clear hK; (try clear K)))))
    (refine fin_le (.tup [.con (.bool false), .list (encRels []) none, .list (encVs []) none, .con (.int .i64 6)]) (H) (by (try simp only [List.mem_singleton, forall_eq, resOk, List.mem_cons, List.not_mem_nil, or_false, forall_eq_or_imp, and_self])) (by (try simp only [go_sem, Nat.reduceLT, Nat.reduceEqDiff, Nat.reduceLeDiff, Nat.reduceAdd, Nat.reduceMul, Int.reduceToNat, Nat.reducePow, ↓reduceIte, reduceCtorEq]); (repeat' (first | exact .refl _ | exact AV.le_nil | refine AV.le_tupc rfl ?_ | refine lec_cons ?_ ?_))) (by ((try dsimp only); repeat' ((with_reducible exact .refl _)))) ⟨rfl, rfl⟩)
  | some ys =>
    obtain ⟨hyl, hyg⟩ := hgd ys hx
    rw [hx] at hal
    simp only [Option.isSome_some, Option.getD_some, if_true, true_and] at hal ⊢
    generalize hv : ys.any (fun y => decide (cmpR (q.head.map (valT y)) (fzH p) = 0)) = v
    refine acalls_of (by kernel_rfl) Tryz.func179 rfl 49 Tryz.ntmps179 (by simp) [.tmp 6, .tmp 7, .tmp 8, .tmp 9] rfl ?_
    ((repeat' (first | (refine awp_seq_k (fun K hK => ?_)) | (refine awp_block ?_) | (refine awp_reg _ rfl ?_; (try simp only [go_sem, Nat.reduceLT, Nat.reduceEqDiff, Nat.reduceLeDiff, Nat.reduceAdd, Nat.reduceMul, Int.reduceToNat, Nat.reducePow, ↓reduceIte, reduceCtorEq, ↓pkv, decide_true, decide_false, bls, if_true, if_false])) | (refine awp_drawn2 (by kernel_rfl) (by kernel_rfl) ?_; (try simp only [go_sem, Nat.reduceLT, Nat.reduceEqDiff, Nat.reduceLeDiff, Nat.reduceAdd, Nat.reduceMul, Int.reduceToNat, Nat.reducePow, ↓reduceIte, reduceCtorEq, ↓pkv, decide_true, decide_false, bls, if_true, if_false])) | (refine awp_cond _ rfl (fun hc => ?_) (fun hc => ?_) <;> (try (simp only [decide_eq_true_eq, decide_eq_false_iff_not, cds, Decidable.not_not, ite_or, ite_and] at hc))) | (refine awp_skip ?_; (try simp only [sq, bk, ↓reduceIte, Nat.reduceEqDiff, reduceCtorEq])) | (refine PureAt.use (hfz _) ?_ <;> (try simp only [go_sem, Nat.reduceLT, Nat.reduceEqDiff, Nat.reduceLeDiff, Nat.reduceAdd, Nat.reduceMul, Int.reduceToNat, Nat.reducePow, ↓reduceIte, reduceCtorEq, ↓pkv, decide_true, decide_false, bls, if_true, if_false])) | (refine ⟨_, c_None _, ?_⟩) | (refine ⟨_, hal _, ?_⟩ <;> (try simp only [go_sem, Nat.reduceLT, Nat.reduceEqDiff, Nat.reduceLeDiff, Nat.reduceAdd, Nat.reduceMul, Int.reduceToNat, Nat.reducePow, ↓reduceIte, reduceCtorEq, ↓pkv, decide_true, decide_false, bls, if_true, if_false])) | (refine orAt_r 4 ?_) | (refine orAt_r 5 ?_) | (refine orAt_l ?_) | (refine hK _ ?_; clear hK; (try clear K)))))
    refine awp_loopKH (ι := Nat) [5, 10, 11, 33, 34] (fun i => [(35, .con (.int .i64 (i : Int)))]) (fun i => i ≤ ys.length ∧ (ys.take i).any (fun y => decide (cmpR (q.head.map (valT y)) (fzH p) = 0)) = false) (fun i => ys.length - i) 0 (by intro; simp only [keepT_cons, keepT_nil, List.cons_append, List.nil_append, lk, Nat.reduceEqDiff, ↓reduceIte, reduceCtorEq, Nat.reduceAdd]; rfl) ⟨by omega, by simp⟩ (by ((simp only [go_sem, Nat.reduceLT, Nat.reduceEqDiff, Nat.reduceLeDiff, Nat.reduceAdd, Nat.reduceMul, Int.reduceToNat, Nat.reducePow, ↓reduceIte, reduceCtorEq]; done))) ?_
    intro i ⟨hi, h0⟩
    rcases Nat.lt_or_ge i ys.length with hlt | hge
    · obtain ⟨y, hy, hym⟩ := at_lt hlt
      have hg := encRws_get hy
      obtain ⟨hy24, hygg⟩ := hyg y hym
      have hro := fun H => c_Row q.head y H hq.head hygg
      have hcm := fun H => c_compare (q.head.map (valT y)) (fzH p) H (rowT_good hygg hq.head) (gRow_fzH hp)
      by_cases hz : cmpR (q.head.map (valT y)) (fzH p) = 0
      · have hv2 : v = true := by rw [← hv]; exact any_hit hy (decide_eq_true hz)
        subst hv2
        rw [hz] at hcm
        ((repeat' (first | (refine awp_seq_k (fun K hK => ?_)) | (refine awp_block ?_) | (refine awp_reg _ rfl ?_; (try simp only [go_sem, Nat.reduceLT, Nat.reduceEqDiff, Nat.reduceLeDiff, Nat.reduceAdd, Nat.reduceMul, Int.reduceToNat, Nat.reducePow, ↓reduceIte, reduceCtorEq, hg, ↓pkv, decide_true, decide_false, bls, if_true, if_false])) | (refine awp_cond _ rfl (fun hc => ?_) (fun hc => ?_) <;> (try (simp only [decide_eq_true_eq, decide_eq_false_iff_not, cds, Decidable.not_not, ite_or, ite_and] at hc)) <;> (try (exfalso; omega))) | (refine awp_skip ?_; (try simp only [sq, bk, ↓reduceIte, Nat.reduceEqDiff, reduceCtorEq])) | (refine awp_ret ?_; (try simp only [sq, bk, ↓reduceIte, Nat.reduceEqDiff, reduceCtorEq])) | (refine PureAt.use (hro _) ?_) | (refine PureAt.use (hcm _) ?_ <;> (try simp only [go_sem, Nat.reduceLT, Nat.reduceEqDiff, Nat.reduceLeDiff, Nat.reduceAdd, Nat.reduceMul, Int.reduceToNat, Nat.reducePow, ↓reduceIte, reduceCtorEq, hg, ↓pkv, decide_true, decide_false, bls, if_true, if_false])) | (refine orAt_l ?_) | (with_reducible apply And.intro) | (refine hK _ ?_; clear hK; (try clear K)))); (all_goals (try ((omega)))))
        (refine fin_le (.tup [.con (.bool true), .list (encRels []) none, .list (encVs []) none, .con (.int .i64 0)]) (H) (by (try simp only [List.mem_singleton, forall_eq, resOk, List.mem_cons, List.not_mem_nil, or_false, forall_eq_or_imp, and_self])) (by (try simp only [go_sem, Nat.reduceLT, Nat.reduceEqDiff, Nat.reduceLeDiff, Nat.reduceAdd, Nat.reduceMul, Int.reduceToNat, Nat.reducePow, ↓reduceIte, reduceCtorEq]); (repeat' (first | exact .refl _ | exact AV.le_nil | refine AV.le_tupc rfl ?_ | refine lec_cons ?_ ?_))) (by ((try dsimp only); repeat' ((with_reducible exact .refl _)))) ⟨rfl, rfl⟩)
      · have hz2 := eq_false hz
        have h1 := any_step h0 hy (decide_eq_false hz)
        ((repeat' (first | (refine awp_seq_k (fun K hK => ?_)) | (refine awp_block ?_) | (refine awp_reg _ rfl ?_; (try simp only [go_sem, Nat.reduceLT, Nat.reduceEqDiff, Nat.reduceLeDiff, Nat.reduceAdd, Nat.reduceMul, Int.reduceToNat, Nat.reducePow, ↓reduceIte, reduceCtorEq, hg, hz2, wrap_succ i (by omega), ↓pkv, decide_true, decide_false, bls, if_true, if_false])) | (refine awp_cond _ rfl (fun hc => ?_) (fun hc => ?_) <;> (try (simp only [decide_eq_true_eq, decide_eq_false_iff_not, cds, Decidable.not_not, ite_or, ite_and] at hc)) <;> (try (exfalso; omega))) | (refine awp_skip ?_; (try simp only [sq, bk, ↓reduceIte, Nat.reduceEqDiff, reduceCtorEq])) | (refine PureAt.use (hro _) ?_) | (refine PureAt.use (hcm _) ?_ <;> (try simp only [go_sem, Nat.reduceLT, Nat.reduceEqDiff, Nat.reduceLeDiff, Nat.reduceAdd, Nat.reduceMul, Int.reduceToNat, Nat.reducePow, ↓reduceIte, reduceCtorEq, hg, hz2, wrap_succ i (by omega), ↓pkv, decide_true, decide_false, bls, if_true, if_false])) | (refine orAt_l ?_) | (with_reducible apply And.intro) | (refine hK _ ?_; clear hK; (try clear K)))); (all_goals (try ((omega)))))
        refine ⟨i + 1, by omega, ⟨by omega, h1⟩, ?_⟩
        (refine st_le rfl ?_ (by ((try dsimp only); repeat' ((with_reducible exact .refl _)))); (try simp only [go_sem, Nat.reduceEqDiff, Nat.reduceAdd, ↓reduceIte, reduceCtorEq]))
    · obtain rfl : i = ys.length := by omega
      rw [List.take_length, hv] at h0
      subst h0
      ((repeat' (first | (refine awp_seq_k (fun K hK => ?_)) | (refine awp_reg _ rfl ?_; (try simp only [go_sem, Nat.reduceLT, Nat.reduceEqDiff, ↓reduceIte])) | (refine awp_cond _ rfl (fun hc => ?_) (fun hc => ?_) <;> (try (simp only [decide_eq_true_eq, decide_eq_false_iff_not] at hc)) <;> (try (exfalso; omega))) | (refine awp_exit ?_; (try simp only [sq, bk, ↓reduceIte])) | (refine awp_ret ?_; (try simp only [↓reduceIte, reduceCtorEq])) | (refine hK _ ?_; clear hK; (try clear K)) | (refine kk (by assumption) ?_))))
      (refine fin_le (.tup [.con (.bool false), .list (encRels (fzB b p)) none, .list (encVs (fzH p)) none, .con (.int .i64 0)]) (H) (by (try simp only [List.mem_singleton, forall_eq, resOk, List.mem_cons, List.not_mem_nil, or_false, forall_eq_or_imp, and_self])) (by (try simp only [go_sem, Nat.reduceLT, Nat.reduceEqDiff, Nat.reduceLeDiff, Nat.reduceAdd, Nat.reduceMul, Int.reduceToNat, Nat.reducePow, ↓reduceIte, reduceCtorEq]); (repeat' (first | exact .refl _ | exact AV.le_nil | exact AV.le_emp | exact AV.le_list _ _ | exact AV.le_any _ | exact lec_nil | refine AV.le_aggc rfl ?_ | refine AV.le_tupc rfl ?_ | refine lec_cons ?_ ?_))) (by ((try dsimp only); repeat' ((with_reducible exact .refl _)))) ⟨rfl, rfl⟩)
end Go.Proofs.YtababmnmkmgbbaaGreat
