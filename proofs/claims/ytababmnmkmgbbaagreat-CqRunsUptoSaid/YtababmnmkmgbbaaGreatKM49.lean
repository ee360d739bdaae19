/-
  A part of the proof: its theorems say what each gives.
-/
import Derived.Test.YtababmnmkmgbbaaGreatKQe
import Derived.Test.YtababmnmkmgbbaaGreatKM48
import Derived.Test.YtababmnmkmgbbaaGreatKM29
import Derived.Test.YtababmnmkmgbbaaGreatKQs
set_option maxRecDepth 100000
set_option maxHeartbeats 4000000
set_option linter.unusedSimpArgs false
set_option linter.unusedVariables false
namespace Go.Proofs.YtababmnmkmgbbaaGreat
open Go Fw
/-! The reference: a query is checked; the law of checks. -/
theorem kindsL_len (b : List Rel) (l : List Atm) : (kindsL b l).length = 24 := by unfold kindsL; rw [atomsE_len]; rfl
theorem c_CQFault (b : List Rel) (w : CQ) (H : Hp) (hb : gBase b) (hw : gCQ w) : PureAt Tryz.prog 33 [.list (encRels b) none, cCQ w] H (.con (.int .i64 (cqE b w))) := by
  obtain ⟨⟨h1, h2⟩, h3⟩ := hw
  by_cases hke : kindsE b w.body = 0
  rotate_left
  · have e : cqE b w = kindsE b w.body := by unfold cqE; rw [if_neg hke]
    have hkf : ∀ H, PureAt Tryz.prog 30 [.list (encRels b) none, .list (encAs w.body) none] H (.tup [.con (.map none), .con (.int .i64 (kindsE b w.body))]) := fun H => (c_KindsOf b w.body H hb h3).mono fun r H' h => by
      obtain ⟨g1, ⟨_, g2⟩ | ⟨g2, _⟩⟩ := h
      · exact ⟨g2, g1⟩
      · exact absurd g2 hke
    rw [e]
    refine acalls_of (by kernel_rfl) Tryz.func33 rfl 46 Tryz.ntmps33 (by simp) [.tmp 4] rfl ?_
    ((repeat' (first | (refine awp_seq_k (fun K hK => ?_)) | (refine awp_reg _ rfl ?_; (try simp only [go_sem, Nat.reduceLT, Nat.reduceEqDiff, Nat.reduceLeDiff, Nat.reduceAdd, Nat.reduceMul, Int.reduceToNat, Nat.reducePow, ↓reduceIte, reduceCtorEq, hke, ↓pkv, decide_true, decide_false, bls, if_true, if_false])) | (refine awp_cond _ rfl (fun hc => ?_) (fun hc => ?_) <;> (try (simp only [decide_eq_true_eq, decide_eq_false_iff_not, cds, Decidable.not_not, ite_or, ite_and] at hc))) | (refine awp_ret ?_; (try simp only [sq, bk, ↓reduceIte, Nat.reduceEqDiff, reduceCtorEq])) | (refine PureAt.use (hkf _) ?_ <;> (try simp only [go_sem, Nat.reduceLT, Nat.reduceEqDiff, Nat.reduceLeDiff, Nat.reduceAdd, Nat.reduceMul, Int.reduceToNat, Nat.reducePow, ↓reduceIte, reduceCtorEq, hke, ↓pkv, decide_true, decide_false, bls, if_true, if_false])) | (refine orAt_r 3 ?_) | (refine orAt_l ?_) | (refine hK _ ?_; clear hK; (try clear K)))))
    ((all_goals (try refine fin_pure (by (try simp only [List.mem_singleton, forall_eq, resOk, List.mem_cons, List.not_mem_nil, or_false, forall_eq_or_imp, and_self])) ?_ (by ((try dsimp only); repeat' ((with_reducible exact .refl _)))))); (all_goals (try simp only [go_sem, Nat.reduceLT, Nat.reduceEqDiff, Nat.reduceLeDiff, Nat.reduceAdd, Nat.reduceMul, Int.reduceToNat, Nat.reducePow, ↓reduceIte, reduceCtorEq])))
  unfold cqE
  rw [if_pos hke]
  have hkl := kindsL_len b w.body
  have hko := c_KindsOf b w.body
  generalize hks : kindsL b w.body = ks at *
  generalize hres : (if 12 < w.head.length then 2 else headTE ks w.head) = res
  refine acalls_of (by kernel_rfl) Tryz.func33 rfl 46 Tryz.ntmps33 (by simp) [.tmp 4] rfl ?_
  ((repeat' (first | (refine awp_seq_k (fun K hK => ?_)) | (refine awp_reg _ rfl ?_; (try simp only [go_sem, Nat.reduceLT, Nat.reduceEqDiff, Nat.reduceLeDiff, Nat.reduceAdd, Nat.reduceMul, Int.reduceToNat, Nat.reducePow, ↓reduceIte, reduceCtorEq, ↓pkv, decide_true, decide_false, bls, if_true, if_false])) | (refine orAt_r 3 ?_) | (refine orAt_l ?_) | (refine hK _ ?_; clear hK; (try clear K)))))
  refine ACalls.mono (hko _ hb h3) (fun r H' hx => ?_)
  obtain ⟨rfl, ⟨g1, _⟩ | ⟨_, es, c, hrep, rfl⟩⟩ := hx
  · exact absurd hke g1
  by_cases h12 : 12 < w.head.length
  · rw [if_pos h12] at hres
    subst hres
    have c1 : ((12 : Int) < (w.head.length : Int)) = True := eq_true (by omega)
    (try simp only [go_sem, Nat.reduceLT, Nat.reduceEqDiff, Nat.reduceLeDiff, Nat.reduceAdd, Nat.reduceMul, Int.reduceToNat, Nat.reducePow, ↓reduceIte, reduceCtorEq])
    ((repeat' (first | (refine awp_seq_k (fun K hK => ?_)) | (refine awp_reg _ rfl ?_; (try simp only [go_sem, Nat.reduceLT, Nat.reduceEqDiff, Nat.reduceLeDiff, Nat.reduceAdd, Nat.reduceMul, Int.reduceToNat, Nat.reducePow, ↓reduceIte, reduceCtorEq, c1, ↓pkv, decide_true, decide_false, bls, if_true, if_false])) | (refine awp_cond _ rfl (fun hc => ?_) (fun hc => ?_) <;> (try (simp only [decide_eq_true_eq, decide_eq_false_iff_not, cds, Decidable.not_not, ite_or, ite_and] at hc))) | (refine awp_skip ?_; (try simp only [sq, bk, ↓reduceIte, Nat.reduceEqDiff, reduceCtorEq])) | (refine awp_ret ?_; (try simp only [sq, bk, ↓reduceIte, Nat.reduceEqDiff, reduceCtorEq])) | (refine hK _ ?_; clear hK; (try clear K)))))
    ((all_goals (try refine fin_pure (by (try simp only [List.mem_singleton, forall_eq, resOk, List.mem_cons, List.not_mem_nil, or_false, forall_eq_or_imp, and_self])) ?_ (by ((try dsimp only); repeat' ((with_reducible exact .refl _)))))); (all_goals (try simp only [go_sem, Nat.reduceLT, Nat.reduceEqDiff, Nat.reduceLeDiff, Nat.reduceAdd, Nat.reduceMul, Int.reduceToNat, Nat.reducePow, ↓reduceIte, reduceCtorEq])))
  rw [if_neg h12] at hres
  have c1 : ((12 : Int) < (w.head.length : Int)) = False := eq_false (by omega)
  (try simp only [go_sem, Nat.reduceLT, Nat.reduceEqDiff, Nat.reduceLeDiff, Nat.reduceAdd, Nat.reduceMul, Int.reduceToNat, Nat.reducePow, ↓reduceIte, reduceCtorEq])
  ((repeat' (first | (refine awp_seq_k (fun K hK => ?_)) | (refine awp_block ?_) | (refine awp_reg _ rfl ?_; (try simp only [go_sem, Nat.reduceLT, Nat.reduceEqDiff, Nat.reduceLeDiff, Nat.reduceAdd, Nat.reduceMul, Int.reduceToNat, Nat.reducePow, ↓reduceIte, reduceCtorEq, c1, ↓pkv, decide_true, decide_false, bls, if_true, if_false])) | (refine awp_cond _ rfl (fun hc => ?_) (fun hc => ?_) <;> (try (simp only [decide_eq_true_eq, decide_eq_false_iff_not, cds, Decidable.not_not, ite_or, ite_and] at hc))) | (refine awp_skip ?_; (try simp only [sq, bk, ↓reduceIte, Nat.reduceEqDiff, reduceCtorEq])) | (refine hK _ ?_; clear hK; (try clear K)))))
  refine awp_loopKH (ι := Nat) [5, 25, 26] (fun i => [(27, .con (.int .i64 (i : Int)))]) (fun i => i ≤ w.head.length ∧ headTE ks (w.head.drop i) = res) (fun i => w.head.length - i) 0 (by intro; simp only [keepT_cons, keepT_nil, List.cons_append, List.nil_append, lk, Nat.reduceEqDiff, ↓reduceIte, reduceCtorEq, Nat.reduceAdd]; rfl) ⟨by omega, by simpa using hres⟩ (by ((simp only [go_sem, Nat.reduceLT, Nat.reduceEqDiff, Nat.reduceLeDiff, Nat.reduceAdd, Nat.reduceMul, Int.reduceToNat, Nat.reducePow, ↓reduceIte, reduceCtorEq]; done))) ?_
  intro i ⟨hi, h0⟩
  rcases Nat.lt_or_ge i w.head.length with hlt | hge
  · obtain ⟨x, hx, hm⟩ := at_lt hlt
    have hg := encTs_get hx
    rw [drop_at hx, headTE] at h0
    have ht := c_termFault x
    by_cases hte : termE x = 0
    · rw [hte] at ht
      rw [if_pos hte] at h0
      cases hv : x.var
      · rw [if_neg (by rw [hv]; simp)] at h0
        simp only [cTrm, hv] at ht
        ((repeat' (first | (refine awp_seq_k (fun K hK => ?_)) | (refine awp_block ?_) | (refine awp_reg _ rfl ?_; (try simp only [go_sem, Nat.reduceLT, Nat.reduceEqDiff, Nat.reduceLeDiff, Nat.reduceAdd, Nat.reduceMul, Int.reduceToNat, Nat.reducePow, ↓reduceIte, reduceCtorEq, wrap_succ i (by omega), hg, hv, ↓pkv, decide_true, decide_false, bls, if_true, if_false])) | (refine awp_cond _ rfl (fun hc => ?_) (fun hc => ?_) <;> (try (simp only [decide_eq_true_eq, decide_eq_false_iff_not, cds, Decidable.not_not, ite_or, ite_and] at hc)) <;> (try (exfalso; omega))) | (refine awp_skip ?_; (try simp only [sq, bk, ↓reduceIte, Nat.reduceEqDiff, reduceCtorEq])) | (refine PureAt.use (ht _ (h2 x hm)) ?_ <;> (try simp only [go_sem, Nat.reduceLT, Nat.reduceEqDiff, Nat.reduceLeDiff, Nat.reduceAdd, Nat.reduceMul, Int.reduceToNat, Nat.reducePow, ↓reduceIte, reduceCtorEq, wrap_succ i (by omega), hg, hv, ↓pkv, decide_true, decide_false, bls, if_true, if_false])) | (refine orAt_r 8 ?_; (try simp only [go_sem, Nat.reduceLT, Nat.reduceEqDiff, Nat.reduceLeDiff, Nat.reduceAdd, Nat.reduceMul, Int.reduceToNat, Nat.reducePow, ↓reduceIte, reduceCtorEq, wrap_succ i (by omega), hg, hv, ↓pkv, decide_true, decide_false, bls, if_true, if_false])) | (refine orAt_l ?_) | (with_reducible apply And.intro) | (refine hK _ ?_; clear hK; (try clear K)))); (all_goals (try (first | omega | (intro hh; simp only [Bool.or_eq_true, Bool.and_eq_true, Bool.not_eq_true', Bool.or_eq_false_iff, Bool.and_eq_false_iff, decide_eq_true_eq, decide_eq_false_iff_not, Bool.not_eq_false', bw, Bool.not_true, Bool.not_false, Bool.true_eq_false, Bool.false_eq_true, not_true_eq_false] at hh ⊢; (done))))))
        refine ⟨i + 1, by omega, ⟨by omega, by (exact h0)⟩, ?_⟩
        (refine st_le rfl ?_ (by ((try dsimp only); repeat' ((with_reducible exact .refl _)))); (try simp only [go_sem, Nat.reduceLT, Nat.reduceEqDiff, Nat.reduceLeDiff, Nat.reduceAdd, Nat.reduceMul, Int.reduceToNat, Nat.reducePow, ↓reduceIte, reduceCtorEq]))
      · obtain ⟨hn0, hn1⟩ := termE_var hte hv
        obtain ⟨n, hn⟩ : ∃ n : Nat, x.n = n := ⟨x.n.toNat, by omega⟩
        rw [hn] at h0 hn0 hn1
        rw [Int.toNat_natCast] at h0
        simp only [cTrm, hv, hn] at ht
        have q1 := hrep.2 n (by omega)
        have q2 : ∀ k : Int, mOk Tryz.prog 3 (.i k) es = True := fun k => eq_true (mOk_i ty_int3 hrep.1 k)
        by_cases hz : ks.getD n 0 = 0
        · rw [if_pos ⟨hv, hz⟩] at h0
          subst h0
          rw [hz] at q1
          ((repeat' (first | (refine awp_seq_k (fun K hK => ?_)) | (refine awp_block ?_) | (refine awp_reg _ rfl ?_; (try simp only [go_sem, Nat.reduceLT, Nat.reduceEqDiff, Nat.reduceLeDiff, Nat.reduceAdd, Nat.reduceMul, Int.reduceToNat, Nat.reducePow, ↓reduceIte, reduceCtorEq, wrap_succ i (by omega), hg, hv, hn, ↓q1, q2, ↓pkv, decide_true, decide_false, bls, if_true, if_false])) | (refine awp_cond _ rfl (fun hc => ?_) (fun hc => ?_) <;> (try (simp only [decide_eq_true_eq, decide_eq_false_iff_not, cds, Decidable.not_not, ite_or, ite_and] at hc)) <;> (try (exfalso; omega))) | (refine awp_skip ?_; (try simp only [sq, bk, ↓reduceIte, Nat.reduceEqDiff, reduceCtorEq])) | (refine awp_ret ?_; (try simp only [sq, bk, ↓reduceIte, Nat.reduceEqDiff, reduceCtorEq])) | (refine PureAt.use (ht _ (h2 x hm)) ?_ <;> (try simp only [go_sem, Nat.reduceLT, Nat.reduceEqDiff, Nat.reduceLeDiff, Nat.reduceAdd, Nat.reduceMul, Int.reduceToNat, Nat.reducePow, ↓reduceIte, reduceCtorEq, wrap_succ i (by omega), hg, hv, hn, ↓q1, q2, ↓pkv, decide_true, decide_false, bls, if_true, if_false])) | (refine orAt_r 8 ?_; (try simp only [go_sem, Nat.reduceLT, Nat.reduceEqDiff, Nat.reduceLeDiff, Nat.reduceAdd, Nat.reduceMul, Int.reduceToNat, Nat.reducePow, ↓reduceIte, reduceCtorEq, wrap_succ i (by omega), hg, hv, hn, ↓q1, q2, ↓pkv, decide_true, decide_false, bls, if_true, if_false])) | (refine orAt_l ?_) | (with_reducible apply And.intro) | (refine hK _ ?_; clear hK; (try clear K)))); (all_goals (try ((omega)))))
          ((all_goals (try refine fin_pure (by (try simp only [List.mem_singleton, forall_eq, resOk, List.mem_cons, List.not_mem_nil, or_false, forall_eq_or_imp, and_self])) ?_ (by ((try dsimp only); repeat' ((with_reducible exact .refl _)))))); (all_goals (try simp only [go_sem, Nat.reduceLT, Nat.reduceEqDiff, Nat.reduceLeDiff, Nat.reduceAdd, Nat.reduceMul, Int.reduceToNat, Nat.reducePow, ↓reduceIte, reduceCtorEq])))
        · rw [if_neg (fun h => hz h.2)] at h0
          have hz2 := eq_false hz
          ((repeat' (first | (refine awp_seq_k (fun K hK => ?_)) | (refine awp_block ?_) | (refine awp_reg _ rfl ?_; (try simp only [go_sem, Nat.reduceLT, Nat.reduceEqDiff, Nat.reduceLeDiff, Nat.reduceAdd, Nat.reduceMul, Int.reduceToNat, Nat.reducePow, ↓reduceIte, reduceCtorEq, wrap_succ i (by omega), hg, hv, hn, ↓q1, q2, hz2, ↓pkv, decide_true, decide_false, bls, if_true, if_false])) | (refine awp_cond _ rfl (fun hc => ?_) (fun hc => ?_) <;> (try (simp only [decide_eq_true_eq, decide_eq_false_iff_not, cds, Decidable.not_not, ite_or, ite_and] at hc)) <;> (try (exfalso; omega))) | (refine awp_skip ?_; (try simp only [sq, bk, ↓reduceIte, Nat.reduceEqDiff, reduceCtorEq])) | (refine PureAt.use (ht _ (h2 x hm)) ?_ <;> (try simp only [go_sem, Nat.reduceLT, Nat.reduceEqDiff, Nat.reduceLeDiff, Nat.reduceAdd, Nat.reduceMul, Int.reduceToNat, Nat.reducePow, ↓reduceIte, reduceCtorEq, wrap_succ i (by omega), hg, hv, hn, ↓q1, q2, hz2, ↓pkv, decide_true, decide_false, bls, if_true, if_false])) | (refine orAt_r 8 ?_; (try simp only [go_sem, Nat.reduceLT, Nat.reduceEqDiff, Nat.reduceLeDiff, Nat.reduceAdd, Nat.reduceMul, Int.reduceToNat, Nat.reducePow, ↓reduceIte, reduceCtorEq, wrap_succ i (by omega), hg, hv, hn, ↓q1, q2, hz2, ↓pkv, decide_true, decide_false, bls, if_true, if_false])) | (refine orAt_l ?_) | (with_reducible apply And.intro) | (refine hK _ ?_; clear hK; (try clear K)))); (all_goals (try ((omega)))))
          refine ⟨i + 1, by omega, ⟨by omega, by (exact h0)⟩, ?_⟩
          (refine st_le rfl ?_ (by ((try dsimp only); repeat' ((with_reducible exact .refl _)))); (try simp only [go_sem, Nat.reduceLT, Nat.reduceEqDiff, Nat.reduceLeDiff, Nat.reduceAdd, Nat.reduceMul, Int.reduceToNat, Nat.reducePow, ↓reduceIte, reduceCtorEq]))
    · rw [if_neg hte] at h0
      subst h0
      have hte2 := eq_false hte
      ((repeat' (first | (refine awp_seq_k (fun K hK => ?_)) | (refine awp_block ?_) | (refine awp_reg _ rfl ?_; (try simp only [go_sem, Nat.reduceLT, Nat.reduceEqDiff, Nat.reduceLeDiff, Nat.reduceAdd, Nat.reduceMul, Int.reduceToNat, Nat.reducePow, ↓reduceIte, reduceCtorEq, wrap_succ i (by omega), hg, hte2, ↓pkv, decide_true, decide_false, bls, if_true, if_false])) | (refine awp_cond _ rfl (fun hc => ?_) (fun hc => ?_) <;> (try (simp only [decide_eq_true_eq, decide_eq_false_iff_not, cds, Decidable.not_not, ite_or, ite_and] at hc)) <;> (try (exfalso; omega))) | (refine awp_skip ?_; (try simp only [sq, bk, ↓reduceIte, Nat.reduceEqDiff, reduceCtorEq])) | (refine awp_ret ?_; (try simp only [sq, bk, ↓reduceIte, Nat.reduceEqDiff, reduceCtorEq])) | (refine PureAt.use (ht _ (h2 x hm)) ?_ <;> (try simp only [go_sem, Nat.reduceLT, Nat.reduceEqDiff, Nat.reduceLeDiff, Nat.reduceAdd, Nat.reduceMul, Int.reduceToNat, Nat.reducePow, ↓reduceIte, reduceCtorEq, wrap_succ i (by omega), hg, hte2, ↓pkv, decide_true, decide_false, bls, if_true, if_false])) | (refine orAt_r 8 ?_; (try simp only [go_sem, Nat.reduceLT, Nat.reduceEqDiff, Nat.reduceLeDiff, Nat.reduceAdd, Nat.reduceMul, Int.reduceToNat, Nat.reducePow, ↓reduceIte, reduceCtorEq, wrap_succ i (by omega), hg, hte2, ↓pkv, decide_true, decide_false, bls, if_true, if_false])) | (refine orAt_l ?_) | (with_reducible apply And.intro) | (refine hK _ ?_; clear hK; (try clear K)))); (all_goals (try ((omega)))))
      ((all_goals (try refine fin_pure (by (try simp only [List.mem_singleton, forall_eq, resOk, List.mem_cons, List.not_mem_nil, or_false, forall_eq_or_imp, and_self])) ?_ (by ((try dsimp only); repeat' ((with_reducible exact .refl _)))))); (all_goals (try simp only [go_sem, Nat.reduceLT, Nat.reduceEqDiff, Nat.reduceLeDiff, Nat.reduceAdd, Nat.reduceMul, Int.reduceToNat, Nat.reducePow, ↓reduceIte, reduceCtorEq])))
  · obtain rfl : i = w.head.length := by omega
    rw [List.drop_length, headTE] at h0
    subst h0
    ((repeat' (first | (refine awp_seq_k (fun K hK => ?_)) | (refine awp_reg _ rfl ?_; (try simp only [go_sem, Nat.reduceLT, Nat.reduceEqDiff, Nat.reduceLeDiff, Nat.reduceAdd, Nat.reduceMul, Int.reduceToNat, Nat.reducePow, ↓reduceIte, reduceCtorEq])) | (refine awp_cond _ rfl (fun hc => ?_) (fun hc => ?_) <;> (try (simp only [decide_eq_true_eq, decide_eq_false_iff_not, cds, Decidable.not_not, ite_or, ite_and] at hc)) <;> (try (exfalso; omega))) | (refine awp_exit ?_; (try simp only [sq, bk, ↓reduceIte, Nat.reduceEqDiff, reduceCtorEq])) | (refine awp_ret ?_) | (refine hK _ ?_; clear hK; (try clear K)) | (refine kk (by assumption) ?_))))
    ((all_goals (try refine fin_pure (by (try simp only [List.mem_singleton, forall_eq, resOk, List.mem_cons, List.not_mem_nil, or_false, forall_eq_or_imp, and_self])) ?_ (by ((try dsimp only); repeat' ((with_reducible exact .refl _)))))); (all_goals (try simp only [go_sem, Nat.reduceLT, Nat.reduceEqDiff, Nat.reduceLeDiff, Nat.reduceAdd, Nat.reduceMul, Int.reduceToNat, Nat.reducePow, ↓reduceIte, reduceCtorEq])))
end Go.Proofs.YtababmnmkmgbbaaGreat
/-
  A part of the proof: its theorems say what each gives.
-/
set_option maxRecDepth 100000
set_option linter.unusedSimpArgs false
set_option linter.unusedVariables false
namespace Go.Proofs.YtababmnmkmgbbaaGreat
open Go Fw
/-! The reference's answers are cq.Run's, in plain Lean. -/
theorem valE_T {y : List Val} {t : Trm} (h : t.var = true → (0 ≤ t.n ∧ t.n < y.length) ∧ (atV y t).k ≠ 0) : valE (envB y) t = valT y t := by
  unfold valE valT
  by_cases hv : t.var = true
  · obtain ⟨h1, h2⟩ := h hv
    rw [if_pos hv, if_pos hv, envB_at h1, if_neg h2, if_pos h1]; rfl
  · rw [if_neg hv, if_neg hv]
theorem allL_bf {b : List Rel} {l : List Atm} {x : List Val} {ys : List (List Val)} (h : extL b l [x] = some ys) : ys = bfOut b l [x] := by
  rw [extL_eq] at h
  split at h
  · cases h; rfl
  · cases h
theorem under_row {b : List Rel} {q : CQ} (h : cqE b q = 0) {y : List Val} (hy : y ∈ bfOut b q.body [none24]) : q.head.map (valE (envB y)) = q.head.map (valT y) :=
  List.map_congr_left fun t ht => valE_T fun hv => head_bound h y hy t ht hv
theorem ran_ans {b : List Rel} {q : CQ} (h : cqE b q = 0) {ys : List (List Val)} (hy : extL b q.body [none24] = some ys) :
    ranL cmpR [] (ys.map fun y => q.head.map (valE (envB y))) = if 300 < (setU cmpR (ys.map fun y => q.head.map (valT y))).length then none else some (setU cmpR (ys.map fun y => q.head.map (valT y))) := by
  rw [ranL_nil]
  have e : (ys.map fun y => q.head.map (valE (envB y))) = ys.map fun y => q.head.map (valT y) := List.map_congr_left fun y hm => under_row h (by rw [← allL_bf hy]; exact hm)
  rw [e]
end Go.Proofs.YtababmnmkmgbbaaGreat
