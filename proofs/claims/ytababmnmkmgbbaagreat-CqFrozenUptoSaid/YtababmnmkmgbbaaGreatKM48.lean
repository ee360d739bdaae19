/-
  A part of the proof: its theorems say what each gives.
-/
import Derived.Test.YtababmnmkmgbbaaGreatKM40
import Derived.Test.YtababmnmkmgbbaaGreatKQe
set_option maxRecDepth 100000
set_option maxHeartbeats 4000000
set_option linter.unusedSimpArgs false
set_option linter.unusedVariables false
namespace Go.Proofs.YtababmnmkmgbbaaGreat
open Go Fw
/-! The fact about conjunctive queries. -/
theorem c_v (n : Int) (H : Hp) : PureAt Tryz.prog 222 [.con (.int .i64 n)] H (cTrm ⟨true, n, zV⟩) := by
  refine acalls_of (by kernel_rfl) Tryz.func222 rfl 5 Tryz.ntmps222 (by simp) [.cell 2 197] rfl ?_
  ((repeat' (first | (refine awp_seq_k (fun K hK => ?_)) | (refine awp_reg _ rfl ?_; (try simp only [go_sem, Nat.reduceLT, Nat.reduceEqDiff, Nat.reduceLeDiff, Nat.reduceAdd, ↓reduceIte, reduceCtorEq])) | (refine awp_ret ?_) | (refine all_fresh fun id fr => ?_) | (refine hK _ ?_; clear hK; (try clear K)))))
  (refine fin_le (cTrm ⟨true, n, zV⟩) (H) (by (try simp only [forall_eq, resOk, List.mem_cons, List.not_mem_nil, or_false]); (try simp only [go_sem, Nat.reduceEqDiff, Nat.reduceLeDiff, Nat.reduceAdd, ↓reduceIte])) (by (try simp only [go_sem, Nat.reduceEqDiff, ↓reduceIte]); (repeat' (first | exact .refl _ | exact AV.le_nil | refine AV.le_aggc rfl ?_ | refine lec_cons ?_ ?_))) (by ((try dsimp only); repeat' (first | with_reducible exact .refl _ | exact box_fresh (by assumption) | refine weak_box ?_ ?_))) ⟨rfl, rfl⟩)
theorem c_each (H : Hp) : PureAt Tryz.prog 123 [] H (cCQ eachQ) := by
  refine acalls_of (by kernel_rfl) Tryz.func123 rfl 8 Tryz.ntmps123 (by simp) [.cell 0 54] rfl ?_
  ((repeat' (first | (refine awp_seq_k (fun K hK => ?_)) | (refine awp_reg _ rfl ?_; (try simp only [go_sem, Nat.reduceLT, Nat.reduceEqDiff, Nat.reduceLeDiff, Nat.reduceAdd, Nat.reduceMul, ↓reduceIte, reduceCtorEq])) | (refine awp_ret ?_) | (refine PureAt.use (c_v _ _) ?_ <;> (try simp only [go_sem, Nat.reduceLeDiff, Nat.reduceAdd, ↓reduceIte])) | (refine orAt_l ?_) | (with_reducible apply And.intro) | (refine all_fresh fun id fr => ?_) | (refine hK _ ?_; clear hK; (try clear K)))); (all_goals (try ((decide)))))
  (refine fin_le (cCQ eachQ) (H) (by (try simp only [forall_eq, resOk, List.mem_cons, List.not_mem_nil, or_false]); (try simp only [go_sem, Nat.reduceLeDiff, Nat.reduceAdd, ↓reduceIte, reduceCtorEq])) (by (try simp only [go_sem, ↓reduceIte, reduceCtorEq]); (repeat' ((exact .refl _)))) (by ((try dsimp only); repeat' (first | with_reducible exact .refl _ | exact box_fresh (by assumption) | refine weak_box ?_ ?_))) ⟨rfl, rfl⟩)
theorem gV_num (n : Int) (h : okI n) : gV (numV2 n) := ⟨by rw [sizeV, sizeFs]; omega, by rw [numV]; exact ⟨h, trivial⟩⟩
theorem gBase_small : gBase smallB := by
  refine ⟨by decide, fun r hr => ?_⟩
  obtain rfl := List.mem_singleton.1 hr
  refine ⟨by decide, fun c hc => ?_, by decide, by decide, fun x hx => ?_⟩
  · obtain rfl := List.mem_singleton.1 hc
    unfold okI; decide
  · simp only [List.mem_cons, List.not_mem_nil, or_false] at hx
    rcases hx with rfl | rfl
    · exact ⟨by decide, fun v hv => by obtain rfl := List.mem_singleton.1 hv; exact gV_num 1 (by unfold okI; decide)⟩
    · exact ⟨by decide, fun v hv => by obtain rfl := List.mem_singleton.1 hv; exact gV_num 2 (by unfold okI; decide)⟩
theorem gTrm_zero : gTrm ⟨true, 0, zV⟩ := ⟨by unfold okI; decide, gV_zero⟩
theorem gTs_zero : gTs [⟨true, 0, zV⟩] := ⟨by decide, fun t ht => by obtain rfl := List.mem_singleton.1 ht; exact gTrm_zero⟩
theorem gCQ_each : gCQ eachQ := ⟨gTs_zero, by decide, fun a ha => by obtain rfl := List.mem_singleton.1 ha; exact gTs_zero⟩
theorem run_small : runE smallB eachQ = 0 ∧ (runL smallB eachQ).length = 2 := by decide +kernel
theorem c_found (H : Hp) : PureAt Tryz.prog 31 [] H (.con (.bool true)) := by
  have hr := fun H => c_cqRun smallB eachQ H gBase_small gCQ_each
  obtain ⟨h1, h2⟩ := run_small
  rw [h1] at hr
  generalize runL smallB eachQ = l at *
  have c1 : ((l.length : Int) = 2) = True := eq_true (by omega)
  refine acalls_of (by kernel_rfl) Tryz.func31 rfl 21 Tryz.ntmps31 (by simp) [.tmp 0] rfl ?_
  have hn : none24.length = 24 := rfl
  ((repeat' (first | (refine awp_seq_k (fun K hK => ?_)) | (refine awp_reg _ rfl ?_; (try simp only [go_sem, Nat.reduceLT, Nat.reduceEqDiff, ↓reduceIte, reduceCtorEq, c1, ↓pkv, decide_true, bls])) | (refine awp_ret ?_) | (refine PureAt.use (c_small _) ?_) | (refine PureAt.use (c_each _) ?_) | (refine PureAt.use (hr _) ?_ <;> (try simp only [go_sem, Nat.reduceLT, Nat.reduceAdd])) | (refine ⟨_, c_None _, ?_⟩ <;> (try simp only [go_sem, ↓reduceIte])) | (refine orAt_l ?_) | (refine hK _ ?_; clear hK; (try clear K)))))
  ((all_goals (try refine fin_pure (by (try simp only [forall_eq, resOk, List.mem_cons, List.not_mem_nil, or_false])) ?_ (by ((try dsimp only); repeat' ((with_reducible exact .refl _)))))); (all_goals (try simp only [go_sem, ↓reduceIte, hn])); (all_goals (try (((simp [*]; done))))))
end Go.Proofs.YtababmnmkmgbbaaGreat
/-
  A part of the proof: its theorems say what each gives.
-/
set_option maxRecDepth 100000
set_option maxHeartbeats 4000000
set_option linter.unusedSimpArgs false
set_option linter.unusedVariables false
namespace Go.Proofs.YtababmnmkmgbbaaGreat
open Go Fw
/-! The reference: a query is checked; the law of checks. -/
theorem kindsL_len (b : List Rel) (l : List Atm) : (kindsL b l).length = 24 := by unfold kindsL; rw [atomsE_len]; rfl
theorem c_CQFault (b : List Rel) (w : CQ) (H : Hp) (hb : gBase b) (hw : gCQ w) : PureAt Tryz.prog 33 [.list (encRels b) none, cCQ w] H (.con (.int .i64 (cqE b w))) := by
  obtain ⟨⟨h1, h2⟩, h3⟩ := hw
  by_cases hke : kindsE b w.body = 0
  rotate_left
  · have e : cqE b w = kindsE b w.body := by unfold cqE; rw [if_neg hke]
    have hkf : ∀ H, PureAt Tryz.prog 30 [.list (encRels b) none, .list (encAs w.body) none] H (.tup [.con (.map none), .con (.int .i64 (kindsE b w.body))]) := fun H => (c_KindsOf b w.body H hb h3).mono fun r H' h => by
      obtain ⟨g1, ⟨_, g2⟩ | ⟨g2, _⟩⟩ := h
      · exact ⟨g2, g1⟩
      · exact absurd g2 hke
    rw [e]
    refine acalls_of (by kernel_rfl) Tryz.func33 rfl 46 Tryz.ntmps33 (by simp) [.tmp 4] rfl ?_
    ((repeat' (first | (refine awp_seq_k (fun K hK => ?_)) | (refine awp_reg _ rfl ?_; (try simp only [go_sem, Nat.reduceLT, Nat.reduceEqDiff, Nat.reduceLeDiff, Nat.reduceAdd, ↓reduceIte, reduceCtorEq, hke, decide_true, bls])) | (refine awp_cond _ rfl (fun hc => ?_) (fun hc => ?_) <;> (try (simp only [cds] at hc))) | (refine awp_ret ?_; (try simp only [sq])) | (refine PureAt.use (hkf _) ?_ <;> (try simp only [go_sem, Nat.reduceLT, Nat.reduceAdd])) | (refine orAt_r 3 ?_) | (refine orAt_l ?_) | (refine hK _ ?_; clear hK; (try clear K)))))
    ((all_goals (try refine fin_pure (by (try simp only [forall_eq, resOk, List.mem_cons, List.not_mem_nil, or_false])) ?_ (by ((try dsimp only); repeat' ((with_reducible exact .refl _)))))); (all_goals (try simp only [go_sem, ↓reduceIte])))
  unfold cqE
  rw [if_pos hke]
  have hkl := kindsL_len b w.body
  have hko := c_KindsOf b w.body
  generalize hks : kindsL b w.body = ks at *
  generalize hres : (if 12 < w.head.length then 2 else headTE ks w.head) = res
  refine acalls_of (by kernel_rfl) Tryz.func33 rfl 46 Tryz.ntmps33 (by simp) [.tmp 4] rfl ?_
  ((repeat' (first | (refine awp_seq_k (fun K hK => ?_)) | (refine awp_reg _ rfl ?_; (try simp only [go_sem, Nat.reduceLT, Nat.reduceEqDiff, Nat.reduceLeDiff, Nat.reduceAdd, ↓reduceIte, reduceCtorEq, bls])) | (refine orAt_r 3 ?_) | (refine orAt_l ?_) | (refine hK _ ?_; clear hK; (try clear K)))))
  refine ACalls.mono (hko _ hb h3) (fun r H' hx => ?_)
  obtain ⟨rfl, ⟨g1, _⟩ | ⟨_, es, c, hrep, rfl⟩⟩ := hx
  · exact absurd hke g1
  by_cases h12 : 12 < w.head.length
  · rw [if_pos h12] at hres
    subst hres
    have c1 : ((12 : Int) < (w.head.length : Int)) = True := eq_true (by omega)
    (try simp only [go_sem, Nat.reduceLT, Nat.reduceLeDiff, Nat.reduceAdd, ↓reduceIte])
    ((repeat' (first | (refine awp_seq_k (fun K hK => ?_)) | (refine awp_reg _ rfl ?_; (try simp only [go_sem, Nat.reduceLT, Nat.reduceEqDiff, Nat.reduceLeDiff, Nat.reduceAdd, ↓reduceIte, reduceCtorEq, c1, decide_true, decide_false, bls])) | (refine awp_cond _ rfl (fun hc => ?_) (fun hc => ?_) <;> (try (simp only [cds] at hc))) | (refine awp_skip ?_; (try simp only [sq])) | (refine awp_ret ?_; (try simp only [sq])) | (refine hK _ ?_; clear hK; (try clear K)))))
    ((all_goals (try refine fin_pure (by (try simp only [forall_eq, resOk, List.mem_cons, List.not_mem_nil, or_false])) ?_ (by ((try dsimp only); repeat' ((with_reducible exact .refl _)))))); (all_goals (try simp only [go_sem, ↓reduceIte])))
  rw [if_neg h12] at hres
  have c1 : ((12 : Int) < (w.head.length : Int)) = False := eq_false (by omega)
  (try simp only [go_sem, Nat.reduceLT, Nat.reduceAdd])
  ((repeat' (first | (refine awp_seq_k (fun K hK => ?_)) | (refine awp_block ?_) | (refine awp_reg _ rfl ?_; (try simp only [go_sem, Nat.reduceLT, Nat.reduceEqDiff, Nat.reduceLeDiff, Nat.reduceAdd, ↓reduceIte, reduceCtorEq, c1, decide_false, bls])) | (refine awp_cond _ rfl (fun hc => ?_) (fun hc => ?_) <;> (try (simp only [cds] at hc))) | (refine awp_skip ?_; (try simp only [sq])) | (refine hK _ ?_; clear hK; (try clear K)))))
  refine awp_loopKH (ι := Nat) [5, 25, 26] (fun i => [(27, .con (.int .i64 (i : Int)))]) (fun i => i ≤ w.head.length ∧ headTE ks (w.head.drop i) = res) (fun i => w.head.length - i) 0 (by intro; simp only [keepT_cons, keepT_nil, List.cons_append, List.nil_append, lk, Nat.reduceEqDiff, ↓reduceIte]; rfl) ⟨by omega, by simpa using hres⟩ (by ((simp only [go_sem, ↓reduceIte]; done))) ?_
  intro i ⟨hi, h0⟩
  rcases Nat.lt_or_ge i w.head.length with hlt | hge
  · obtain ⟨x, hx, hm⟩ := at_lt hlt
    have hg := encTs_get hx
    rw [drop_at hx, headTE] at h0
    have ht := c_termFault x
    by_cases hte : termE x = 0
    · rw [hte] at ht
      rw [if_pos hte] at h0
      cases hv : x.var
      · rw [if_neg (by rw [hv]; simp)] at h0
        simp only [cTrm, hv] at ht
        ((repeat' (first | (refine awp_seq_k (fun K hK => ?_)) | (refine awp_block ?_) | (refine awp_reg _ rfl ?_; (try simp only [go_sem, Nat.reduceLT, Nat.reduceEqDiff, Nat.reduceLeDiff, Nat.reduceAdd, ↓reduceIte, reduceCtorEq, wrap_succ i (by omega), hg, hv, ↓pkv, decide_false, bls])) | (refine awp_cond _ rfl (fun hc => ?_) (fun hc => ?_) <;> (try (simp only [decide_eq_true_eq, decide_eq_false_iff_not, cds] at hc)) <;> (try (exfalso; omega))) | (refine awp_skip ?_; (try simp only [sq, bk])) | (refine PureAt.use (ht _ (h2 x hm)) ?_ <;> (try simp only [go_sem])) | (refine orAt_r 8 ?_; (try simp only [go_sem, Nat.reduceLT, Nat.reduceAdd, ↓reduceIte, bls])) | (refine orAt_l ?_) | (with_reducible apply And.intro) | (refine hK _ ?_; clear hK; (try clear K)))); (all_goals (try (first | omega | (intro hh; simp only at hh ⊢; (done))))))
        refine ⟨i + 1, by omega, ⟨by omega, by (exact h0)⟩, ?_⟩
        (refine st_le rfl ?_ (by ((try dsimp only); repeat' ((with_reducible exact .refl _)))); (try simp only [go_sem, Nat.reduceEqDiff, Nat.reduceAdd, ↓reduceIte, reduceCtorEq]))
      · obtain ⟨hn0, hn1⟩ := termE_var hte hv
        obtain ⟨n, hn⟩ : ∃ n : Nat, x.n = n := ⟨x.n.toNat, by omega⟩
        rw [hn] at h0 hn0 hn1
        rw [Int.toNat_natCast] at h0
        simp only [cTrm, hv, hn] at ht
        have q1 := hrep.2 n (by omega)
        have q2 : ∀ k : Int, mOk Tryz.prog 3 (.i k) es = True := fun k => eq_true (mOk_i ty_int3 hrep.1 k)
        by_cases hz : ks.getD n 0 = 0
        · rw [if_pos ⟨hv, hz⟩] at h0
          subst h0
          rw [hz] at q1
          ((repeat' (first | (refine awp_seq_k (fun K hK => ?_)) | (refine awp_block ?_) | (refine awp_reg _ rfl ?_; (try simp only [go_sem, Nat.reduceLT, Nat.reduceEqDiff, Nat.reduceLeDiff, Nat.reduceAdd, ↓reduceIte, reduceCtorEq, hg, hv, hn, ↓q1, q2, ↓pkv, decide_true, decide_false, bls])) | (refine awp_cond _ rfl (fun hc => ?_) (fun hc => ?_) <;> (try (simp only [decide_eq_true_eq, decide_eq_false_iff_not, cds] at hc)) <;> (try (exfalso; omega))) | (refine awp_skip ?_; (try simp only [sq])) | (refine awp_ret ?_; (try simp only [sq, bk])) | (refine PureAt.use (ht _ (h2 x hm)) ?_ <;> (try simp only [go_sem])) | (refine orAt_r 8 ?_; (try simp only [go_sem, Nat.reduceLT, Nat.reduceAdd, ↓reduceIte, bls])) | (refine orAt_l ?_) | (with_reducible apply And.intro) | (refine hK _ ?_; clear hK; (try clear K)))); (all_goals (try ((omega)))))
          ((all_goals (try refine fin_pure (by (try simp only [forall_eq, resOk, List.mem_cons, List.not_mem_nil, or_false])) ?_ (by ((try dsimp only); repeat' ((with_reducible exact .refl _)))))); (all_goals (try simp only [go_sem, ↓reduceIte])))
        · rw [if_neg (fun h => hz h.2)] at h0
          have hz2 := eq_false hz
          ((repeat' (first | (refine awp_seq_k (fun K hK => ?_)) | (refine awp_block ?_) | (refine awp_reg _ rfl ?_; (try simp only [go_sem, Nat.reduceLT, Nat.reduceEqDiff, Nat.reduceLeDiff, Nat.reduceAdd, ↓reduceIte, reduceCtorEq, wrap_succ i (by omega), hg, hv, hn, ↓q1, q2, hz2, ↓pkv, decide_false, bls])) | (refine awp_cond _ rfl (fun hc => ?_) (fun hc => ?_) <;> (try (simp only [decide_eq_true_eq, decide_eq_false_iff_not, cds] at hc)) <;> (try (exfalso; omega))) | (refine awp_skip ?_; (try simp only [sq, bk])) | (refine PureAt.use (ht _ (h2 x hm)) ?_ <;> (try simp only [go_sem])) | (refine orAt_r 8 ?_; (try simp only [go_sem, Nat.reduceLT, Nat.reduceAdd, ↓reduceIte, bls])) | (refine orAt_l ?_) | (with_reducible apply And.intro) | (refine hK _ ?_; clear hK; (try clear K)))); (all_goals (try ((omega)))))
          refine ⟨i + 1, by omega, ⟨by omega, by (exact h0)⟩, ?_⟩
          (refine st_le rfl ?_ (by ((try dsimp only); repeat' ((with_reducible exact .refl _)))); (try simp only [go_sem, Nat.reduceEqDiff, ↓reduceIte]))
    · rw [if_neg hte] at h0
      subst h0
      have hte2 := eq_false hte
      ((repeat' (first | (refine awp_seq_k (fun K hK => ?_)) | (refine awp_block ?_) | (refine awp_reg _ rfl ?_; (try simp only [go_sem, Nat.reduceLT, Nat.reduceEqDiff, Nat.reduceLeDiff, Nat.reduceAdd, ↓reduceIte, hg, hte2, decide_true, bls])) | (refine awp_cond _ rfl (fun hc => ?_) (fun hc => ?_) <;> (try (simp only [decide_eq_true_eq, decide_eq_false_iff_not, cds] at hc)) <;> (try (exfalso; omega))) | (refine awp_skip ?_; (try simp only [sq])) | (refine awp_ret ?_; (try simp only [sq, bk])) | (refine PureAt.use (ht _ (h2 x hm)) ?_ <;> (try simp only [go_sem])) | (refine orAt_r 8 ?_; (try simp only [go_sem, Nat.reduceLT, Nat.reduceAdd, ↓reduceIte, bls])) | (refine orAt_l ?_) | (with_reducible apply And.intro) | (refine hK _ ?_; clear hK; (try clear K)))); (all_goals (try ((omega)))))
      ((all_goals (try refine fin_pure (by (try simp only [forall_eq, resOk, List.mem_cons, List.not_mem_nil, or_false])) ?_ (by ((try dsimp only); repeat' ((with_reducible exact .refl _)))))); (all_goals (try simp only [go_sem, ↓reduceIte])))
  · obtain rfl : i = w.head.length := by omega
    rw [List.drop_length, headTE] at h0
    subst h0
    ((repeat' (first | (refine awp_seq_k (fun K hK => ?_)) | (refine awp_reg _ rfl ?_; (try simp only [go_sem, Nat.reduceLT, Nat.reduceEqDiff, Nat.reduceLeDiff, Nat.reduceAdd, ↓reduceIte, reduceCtorEq])) | (refine awp_cond _ rfl (fun hc => ?_) (fun hc => ?_) <;> (try (simp only [decide_eq_true_eq, decide_eq_false_iff_not] at hc)) <;> (try (exfalso; omega))) | (refine awp_exit ?_; (try simp only [sq, bk, ↓reduceIte])) | (refine awp_ret ?_) | (refine hK _ ?_; clear hK; (try clear K)) | (refine kk (by assumption) ?_))))
    ((all_goals (try refine fin_pure (by (try simp only [forall_eq, resOk, List.mem_cons, List.not_mem_nil, or_false])) ?_ (by ((try dsimp only); repeat' ((with_reducible exact .refl _)))))); (all_goals (try simp only [go_sem, ↓reduceIte])))
end Go.Proofs.YtababmnmkmgbbaaGreat
