/-
  A part of the proof: its theorems say what each gives.
-/
import Derived.Test.YtababmnmkmgbbaaGreatKM8
import Derived.Test.YtababmnmkmgbbaaGreatKM12
import Derived.Test.YtababmnmkmgbbaaGreatKDl
set_option maxRecDepth 100000
set_option maxHeartbeats 4000000
set_option linter.unusedSimpArgs false
set_option linter.unusedVariables false
namespace Go.Proofs.YtababmnmkmgbbaaGreat
open Go Fw
/-! Package rel: checks. -/
theorem c_CheckV (v : Val) (H : Hp) (h : sizeV v ≤ 4611686018427387904) : PureAt Tryz.prog 221 [cV v] H (.con (.int .i64 (checkE v))) := by
  rw [← encV_eq]; exact c_Check v H h
theorem c_CmpV (v u : Val) (H : Hp) (h : sizeV v ≤ 4611686018427387904) (h' : sizeV u ≤ 4611686018427387904) : PureAt Tryz.prog 154 [cV v, cV u] H (.con (.int .i64 (cmpV v u))) := by
  rw [← encV_eq, ← encV_eq]; exact c_Cmp v u H h h'
theorem c_SameV (v u : Val) (H : Hp) (h : sizeV v ≤ 4611686018427387904) (h' : sizeV u ≤ 4611686018427387904) : PureAt Tryz.prog 51 [cV v, cV u] H (.con (.bool (decide (cmpV v u = 0)))) := by
  refine acalls_of (by kernel_rfl) Tryz.func51 rfl 9 Tryz.ntmps51 (by simp) [.tmp 4] rfl ?_
  ((repeat' (first | (refine awp_seq_k (fun K hK => ?_)) | (refine awp_reg _ rfl ?_; (try simp only [go_sem, Nat.reduceLT, Nat.reduceEqDiff, Nat.reduceLeDiff, Nat.reduceAdd, ↓reduceIte, reduceCtorEq])) | (refine awp_ret ?_) | (refine PureAt.use (c_CmpV v u _ h h') ?_ <;> (try simp only [go_sem, Nat.reduceLT, ↓reduceIte])) | (refine orAt_r 2 ?_) | (refine orAt_r 3 ?_) | (refine orAt_l ?_) | (refine hK _ ?_; clear hK; (try clear K)))))
  ((all_goals (try refine fin_pure (by (try simp only [forall_eq, resOk, List.mem_cons, List.not_mem_nil, or_false])) ?_ (by ((try dsimp only); repeat' ((with_reducible exact .refl _)))))); (all_goals (try simp only [go_sem, ↓reduceIte])))
theorem c_Column (k : Int) (H : Hp) : PureAt Tryz.prog 258 [.con (.int .i64 k)] H (.con (.bool (decide (1 ≤ k) && decide (k ≤ 5)))) := by
  refine acalls_of (by kernel_rfl) Tryz.func258 rfl 9 Tryz.ntmps258 (by simp) [.tmp 2] rfl ?_
  ((repeat' (first | (refine awp_seq_k (fun K hK => ?_)) | (refine awp_reg _ rfl ?_; (try simp only [go_sem, Nat.reduceLT, Nat.reduceEqDiff, Nat.reduceAdd, ↓reduceIte, reduceCtorEq])) | (refine awp_ret ?_) | (refine hK _ ?_; clear hK; (try clear K)))))
  ((all_goals (try refine fin_pure (by (try simp only [forall_eq, resOk, List.mem_cons, List.not_mem_nil, or_false])) ?_ (by ((try dsimp only); repeat' ((with_reducible exact .refl _)))))); (all_goals (try simp only [go_sem, ↓reduceIte])))
theorem c_Col1 (c : Col) (nm : ByteArray) (H : Hp) : PureAt Tryz.prog 206 [cCol c, .ro [.con (.string nm)]] H (.con (.bool (decide (c.nm = nm)))) := by
  refine acalls_of (by kernel_rfl) Tryz.func206 rfl 8 Tryz.ntmps206 (by simp) [.tmp 3] rfl ?_
  ((repeat' (first | (refine awp_seq_k (fun K hK => ?_)) | (refine awp_reg _ rfl ?_; (try simp only [go_sem, Nat.reduceLT, Nat.reduceEqDiff, Nat.reduceLeDiff, Nat.reduceAdd, ↓reduceIte, reduceCtorEq])) | (refine awp_ret ?_) | (refine orAt_r 2 ?_) | (refine hK _ ?_; clear hK; (try clear K)))))
  ((all_goals (try refine fin_pure (by (try simp only [forall_eq, resOk, List.mem_cons, List.not_mem_nil, or_false])) ?_ (by ((try dsimp only); repeat' ((with_reducible exact .refl _)))))); (all_goals (try simp only [go_sem, ↓reduceIte])))
theorem c_Col (r : Rel) (nm : ByteArray) (H : Hp) (h : gRel r) : PureAt Tryz.prog 97 [cRel r, .con (.string nm)] H (.tup [.con (.int .i64 (max 0 (colI r.cols nm))), .con (.bool (decide (0 ≤ colI r.cols nm)))]) := by
  have h1 := h.cols
  refine acalls_of (by kernel_rfl) Tryz.func97 rfl 15 Tryz.ntmps97 (by simp) [.tmp 4, .tmp 5] rfl ?_
  ((repeat' (first | (refine awp_seq_k (fun K hK => ?_)) | (refine awp_reg _ rfl ?_; (try simp only [go_sem, Nat.reduceLT, Nat.reduceEqDiff, Nat.reduceLeDiff, Nat.reduceAdd, ↓reduceIte, reduceCtorEq])) | (refine awp_ret ?_) | (refine PureAt.use (c_IdxCol r.cols _ _ (fun c => decide (c.nm = nm)) _ (by omega) (fun x _ => c_Col1 x nm _)) ?_ <;> (try simp only [go_sem])) | (refine orAt_r 2 ?_) | (refine orAt_r 3 ?_) | (refine orAt_l ?_) | (refine hK _ ?_; clear hK; (try clear K)))))
  ((all_goals (try refine fin_pure (by (try simp only [forall_eq, resOk, List.mem_cons, List.not_mem_nil, or_false, forall_eq_or_imp, and_self])) ?_ (by ((try dsimp only); repeat' ((with_reducible exact .refl _)))))); (all_goals (try simp only [go_sem, Nat.reduceEqDiff, ↓reduceIte, colI])))
  all_goals rfl
theorem c_relCmp (a b : List Val) (H : Hp) (ha : gRow a) (hb : gRow b) : PureAt Tryz.prog 52 [cRw a, cRw b] H (.con (.int .i64 (cmpR a b))) := by
  obtain ⟨la, ga⟩ := ha
  obtain ⟨lb, gb⟩ := hb
  unfold cmpR
  generalize hv : cmpL cmpV a b = v
  refine acalls_of (by kernel_rfl) Tryz.func52 rfl 33 Tryz.ntmps52 (by simp) [.tmp 4] rfl ?_
  have hmin : min (a.length : Int) (b.length : Int) = ((min a.length b.length : Nat) : Int) := by omega
  ((repeat' (first | (refine awp_seq_k (fun K hK => ?_)) | (refine awp_block ?_) | (refine awp_reg _ rfl ?_; (try simp only [go_sem, Nat.reduceLT, Nat.reduceEqDiff, Nat.reduceAdd, ↓reduceIte, reduceCtorEq, hmin])) | (refine hK _ ?_; clear hK; (try clear K)))))
  refine awp_loopKH (ι := Nat) [0, 1, 11] (fun i => [(12, .con (.int .i64 (i : Int)))]) (fun i => i ≤ min a.length b.length ∧ cmpL cmpV (a.drop i) (b.drop i) = v) (fun i => min a.length b.length - i) 0 (by intro; simp only [keepT_cons, keepT_nil, List.cons_append, List.nil_append, lk, Nat.reduceEqDiff, ↓reduceIte, reduceCtorEq]; rfl) ⟨by omega, by simpa using hv⟩ (by ((simp only [go_sem, ↓reduceIte]; done))) ?_
  intro i ⟨hi, h0⟩
  rcases Nat.lt_or_ge i (min a.length b.length) with hlt | hge
  · obtain ⟨x, hx, hm⟩ := at_lt (show i < a.length by omega)
    obtain ⟨y, hy, hm2⟩ := at_lt (show i < b.length by omega)
    have hg := encVs_at hx
    have hg2 := encVs_at hy
    have hcm := c_CmpV x y
    by_cases hr : cmpV x y = 0
    · rw [hr] at hcm
      ((repeat' (first | (refine awp_seq_k (fun K hK => ?_)) | (refine awp_block ?_) | (refine awp_reg _ rfl ?_; (try simp only [go_sem, Nat.reduceLT, Nat.reduceEqDiff, ↓reduceIte, reduceCtorEq, wrap_succ i (by omega)])) | (refine awp_drawn (by kernel_rfl) (by kernel_rfl) ?_; (try simp only [go_sem, Nat.reduceLT, Nat.reduceEqDiff, Nat.reduceLeDiff, Nat.reduceAdd, ↓reduceIte, reduceCtorEq, hg, hg2])) | (refine awp_cond _ rfl (fun hc => ?_) (fun hc => ?_) <;> (try (simp only [decide_eq_true_eq, decide_eq_false_iff_not, cds] at hc)) <;> (try (exfalso; omega))) | (refine awp_skip ?_; (try simp only [sq, bk])) | (refine ⟨_, hcm _ (ga x hm).z (gb y hm2).z, ?_⟩ <;> (try simp only [go_sem])) | (with_reducible apply And.intro) | (refine hK _ ?_; clear hK; (try clear K)))); (all_goals (try ((omega)))))
      refine ⟨i + 1, by omega, ⟨by omega, cmpL_step h0 hx hy hr⟩, ?_⟩
      (refine st_le rfl ?_ (by ((try dsimp only); repeat' ((with_reducible exact .refl _)))); (try simp only [go_sem, Nat.reduceEqDiff, ↓reduceIte, reduceCtorEq]))
    · ((repeat' (first | (refine awp_seq_k (fun K hK => ?_)) | (refine awp_block ?_) | (refine awp_reg _ rfl ?_; (try simp only [go_sem, Nat.reduceLT, Nat.reduceEqDiff, ↓reduceIte, reduceCtorEq, hr])) | (refine awp_drawn (by kernel_rfl) (by kernel_rfl) ?_; (try simp only [go_sem, Nat.reduceLT, Nat.reduceEqDiff, Nat.reduceLeDiff, Nat.reduceAdd, ↓reduceIte, reduceCtorEq, hg, hg2])) | (refine awp_cond _ rfl (fun hc => ?_) (fun hc => ?_) <;> (try (simp only [decide_eq_true_eq, decide_eq_false_iff_not, cds] at hc)) <;> (try (exfalso; omega))) | (refine awp_skip ?_; (try simp only [sq])) | (refine awp_ret ?_; (try simp only [sq, bk])) | (refine ⟨_, hcm _ (ga x hm).z (gb y hm2).z, ?_⟩ <;> (try simp only [go_sem])) | (with_reducible apply And.intro) | (refine hK _ ?_; clear hK; (try clear K)))); (all_goals (try ((omega)))))
      rw [cmpL_hit h0 hx hy hr]
      ((all_goals (try refine fin_pure (by (try simp only [forall_eq, resOk, List.mem_cons, List.not_mem_nil, or_false])) ?_ (by ((try dsimp only); repeat' ((with_reducible exact .refl _)))))); (all_goals (try simp only [go_sem, ↓reduceIte])))
  · obtain rfl : i = min a.length b.length := by omega
    have he := cmpL_end h0 (by omega) (by omega) (by omega)
    have he2 : cmpI a.length b.length = v := by rw [he]; unfold cmpI; split <;> split <;> (try split) <;> omega
    ((repeat' (first | (refine awp_seq_k (fun K hK => ?_)) | (refine awp_reg _ rfl ?_; (try simp only [go_sem, Nat.reduceLT, Nat.reduceEqDiff, ↓reduceIte, reduceCtorEq])) | (refine awp_cond _ rfl (fun hc => ?_) (fun hc => ?_) <;> (try (simp only [decide_eq_true_eq, decide_eq_false_iff_not] at hc)) <;> (try (exfalso; omega))) | (refine awp_exit ?_; (try simp only [sq, bk, ↓reduceIte])) | (refine awp_ret ?_) | (refine PureAt.use (c_cmpCompare _ _ _) ?_ <;> (try simp only [go_sem])) | (refine orAt_l ?_) | (refine hK _ ?_; clear hK; (try clear K)) | (refine kk (by assumption) ?_))))
    ((all_goals (try refine fin_pure (by (try simp only [forall_eq, resOk, List.mem_cons, List.not_mem_nil, or_false])) ?_ (by ((try dsimp only); repeat' ((with_reducible exact .refl _)))))); (all_goals (try simp only [go_sem, ↓reduceIte, he2])))
theorem c_head1 (d c : Col) (H : Hp) : PureAt Tryz.prog 257 [cCol d, .ro [.con (.string c.nm), .con (.int .i64 c.kd)]] H (.con (.bool (decide (d.nm = c.nm)))) := by
  refine acalls_of (by kernel_rfl) Tryz.func257 rfl 9 Tryz.ntmps257 (by simp) [.tmp 3] rfl ?_
  ((repeat' (first | (refine awp_seq_k (fun K hK => ?_)) | (refine awp_reg _ rfl ?_; (try simp only [go_sem, Nat.reduceLT, Nat.reduceEqDiff, Nat.reduceLeDiff, Nat.reduceAdd, ↓reduceIte, reduceCtorEq])) | (refine awp_ret ?_) | (refine orAt_r 2 ?_) | (refine hK _ ?_; clear hK; (try clear K)))))
  ((all_goals (try refine fin_pure (by (try simp only [forall_eq, resOk, List.mem_cons, List.not_mem_nil, or_false])) ?_ (by ((try dsimp only); repeat' ((with_reducible exact .refl _)))))); (all_goals (try simp only [go_sem, ↓reduceIte])))
theorem c_head (r : Rel) (H : Hp) (h : gRel r) : PureAt Tryz.prog 168 [cRel r] H (.con (.int .i64 (headE r))) := by
  have h1 := h.cols
  have h2 := h.key
  unfold headE
  refine acalls_of (by kernel_rfl) Tryz.func168 rfl 73 Tryz.ntmps168 (by simp) [.tmp 2] rfl ?_
  ((repeat' (first | (refine awp_seq_k (fun K hK => ?_)) | (refine awp_block ?_) | (refine awp_reg _ rfl ?_; (try simp only [go_sem, Nat.reduceLT, Nat.reduceEqDiff, Nat.reduceLeDiff, Nat.reduceAdd, ↓reduceIte, reduceCtorEq])) | (refine awp_cond _ rfl (fun hc => ?_) (fun hc => ?_) <;> (try (simp only [decide_eq_true_eq, decide_eq_false_iff_not, cds] at hc))) | (refine awp_skip ?_; (try simp only [sq, bk])) | (refine awp_ret ?_; (try simp only [sq, bk])) | (refine PureAt.use (c_Name _ _) ?_ <;> (try simp only [go_sem])) | (refine orAt_r 1 ?_) | (refine orAt_l ?_) | (refine hK _ ?_; clear hK; (try clear K)))))
  · (((all_goals (try refine fin_pure (by (try simp only [forall_eq, resOk, List.mem_cons, List.not_mem_nil, or_false])) ?_ (by ((try dsimp only); repeat' ((with_reducible exact .refl _)))))); (all_goals (try simp only [go_sem, ↓reduceIte])); (all_goals (try (((simp [*]; done)))))))
  · (((all_goals (try refine fin_pure (by (try simp only [forall_eq, resOk, List.mem_cons, List.not_mem_nil, or_false])) ?_ (by ((try dsimp only); repeat' ((with_reducible exact .refl _)))))); (all_goals (try simp only [go_sem, ↓reduceIte])); (all_goals (try (((simp_all; done)))))))
  · (((all_goals (try refine fin_pure (by (try simp only [forall_eq, resOk, List.mem_cons, List.not_mem_nil, or_false])) ?_ (by ((try dsimp only); repeat' ((with_reducible exact .refl _)))))); (all_goals (try simp only [go_sem, ↓reduceIte]))); (all_goals (try (((congr 2; grind))))))
  refine awp_loopKH (ι := Nat) [1, 25, 26] (fun i => [(27, .con (.int .i64 (i : Int)))]) (fun i => i ≤ r.cols.length ∧ colsE (r.cols.take i) (r.cols.drop i) = colsE [] r.cols) (fun i => r.cols.length - i) 0 (by intro; simp only [keepT_cons, keepT_nil, List.cons_append, List.nil_append, lk, Nat.reduceEqDiff, ↓reduceIte]; rfl) ⟨by omega, by simp⟩ (by ((simp only [go_sem, ↓reduceIte]; done))) ?_
  intro i ⟨hi, h0⟩
  rcases Nat.lt_or_ge i r.cols.length with hlt | hge
  · obtain ⟨x, hx, hm⟩ := at_lt hlt
    have hg := encCols_get hx
    rw [drop_at hx, colsE] at h0
    ((repeat' (first | (refine awp_seq_k (fun K hK => ?_)) | (refine awp_block ?_) | (refine awp_reg _ rfl ?_; (try simp only [go_sem, Nat.reduceLT, Nat.reduceEqDiff, Nat.reduceLeDiff, Nat.reduceAdd, Int.reduceToNat, ↓reduceIte, reduceCtorEq, wrap_succ i (by omega), hg, encCols_take])) | (refine awp_cond _ rfl (fun hc => ?_) (fun hc => ?_) <;> (try (simp only [decide_eq_true_eq, decide_eq_false_iff_not, cds] at hc)) <;> (try (exfalso; omega))) | (refine awp_skip ?_; (try simp only [sq, bk])) | (refine awp_ret ?_; (try simp only [sq, bk])) | (refine PureAt.use (c_Name _ _) ?_ <;> (try simp only [go_sem])) | (refine PureAt.use (c_Column _ _) ?_ <;> (try simp only [go_sem])) | (refine PureAt.use (c_AnyCol (r.cols.take i) _ _ (fun d => decide (d.nm = x.nm)) _ (by rw [List.length_take]; omega) (fun d _ => c_head1 d x _)) ?_ <;> (try simp only [go_sem])) | (refine orAt_r 4 ?_; (try simp only [go_sem, Nat.reduceLT, Nat.reduceEqDiff, Nat.reduceAdd, ↓reduceIte])) | (refine orAt_l ?_) | (with_reducible apply And.intro) | (refine hK _ ?_; clear hK; (try clear K)))); (all_goals (try ((omega)))))
    · (((all_goals (try refine fin_pure (by (try simp only [forall_eq, resOk, List.mem_cons, List.not_mem_nil, or_false])) ?_ (by ((try dsimp only); repeat' ((with_reducible exact .refl _)))))); (all_goals (try simp only [go_sem, ↓reduceIte]))); (all_goals (try (((congr 2; grind))))))
    · (((all_goals (try refine fin_pure (by (try simp only [forall_eq, resOk, List.mem_cons, List.not_mem_nil, or_false])) ?_ (by ((try dsimp only); repeat' ((with_reducible exact .refl _)))))); (all_goals (try simp only [go_sem, ↓reduceIte]))); (all_goals (try (((congr 2; grind))))))
    · (((all_goals (try refine fin_pure (by (try simp only [forall_eq, resOk, List.mem_cons, List.not_mem_nil, or_false])) ?_ (by ((try dsimp only); repeat' ((with_reducible exact .refl _)))))); (all_goals (try simp only [go_sem, ↓reduceIte]))); (all_goals (try (((congr 2; grind))))))
    · refine ⟨i + 1, by omega, ⟨by omega, by (rw [take_at hx]; grind)⟩, ?_⟩
      (refine st_le rfl ?_ (by ((try dsimp only); repeat' ((with_reducible exact .refl _)))); (try simp only [go_sem, Nat.reduceEqDiff, ↓reduceIte, reduceCtorEq]))
  · obtain rfl : i = r.cols.length := by omega
    rw [List.drop_length, colsE] at h0
    ((repeat' (first | (refine awp_seq_k (fun K hK => ?_)) | (refine awp_block ?_) | (refine awp_reg _ rfl ?_; (try simp only [go_sem, Nat.reduceLT, Nat.reduceEqDiff, Nat.reduceLeDiff, Nat.reduceAdd, ↓reduceIte, reduceCtorEq])) | (refine awp_cond _ rfl (fun hc => ?_) (fun hc => ?_) <;> (try (simp only [decide_eq_true_eq, decide_eq_false_iff_not] at hc)) <;> (try (exfalso; omega))) | (refine awp_exit ?_; (try simp only [sq, bk, ↓reduceIte])) | (refine hK _ ?_; clear hK; (try clear K)) | (refine kk (by assumption) ?_))))
    refine awp_loopKH (ι := Nat) [1, 51, 52] (fun i => [(53, .con (.int .i64 (i : Int)))]) (fun i => i ≤ r.key.length ∧ keysE r.cols (r.key.take i) (r.key.drop i) = keysE r.cols [] r.key) (fun i => r.key.length - i) 0 (by intro; simp only [keepT_cons, keepT_nil, List.cons_append, List.nil_append, lk, Nat.reduceEqDiff, ↓reduceIte]; rfl) ⟨by omega, by simp⟩ (by ((simp only [go_sem, ↓reduceIte]; done))) ?_
    intro i ⟨hi, h3⟩
    rcases Nat.lt_or_ge i r.key.length with hlt | hge
    · obtain ⟨x, hx, hm⟩ := at_lt hlt
      have hg := encKeys_get hx
      rw [drop_at hx, keysE] at h3
      ((repeat' (first | (refine awp_seq_k (fun K hK => ?_)) | (refine awp_block ?_) | (refine awp_reg _ rfl ?_; (try simp only [go_sem, Nat.reduceLT, Nat.reduceEqDiff, Nat.reduceLeDiff, Nat.reduceAdd, Int.reduceToNat, ↓reduceIte, reduceCtorEq, wrap_succ i (by omega), hg, encKeys_take])) | (refine awp_cond _ rfl (fun hc => ?_) (fun hc => ?_) <;> (try (simp only [decide_eq_true_eq, decide_eq_false_iff_not, cds] at hc)) <;> (try (exfalso; omega))) | (refine awp_skip ?_; (try simp only [sq, bk])) | (refine awp_ret ?_; (try simp only [sq, bk])) | (refine PureAt.use (c_Col r _ _ h) ?_ <;> (try simp only [go_sem, Nat.reduceLT, Nat.reduceAdd])) | (refine PureAt.use (c_HasStr (r.key.take i) _ _ (by rw [List.length_take]; omega)) ?_) | (refine orAt_l ?_) | (with_reducible apply And.intro) | (refine hK _ ?_; clear hK; (try clear K)))); (all_goals (try ((omega)))))
      · (((all_goals (try refine fin_pure (by (try simp only [forall_eq, resOk, List.mem_cons, List.not_mem_nil, or_false])) ?_ (by ((try dsimp only); repeat' ((with_reducible exact .refl _)))))); (all_goals (try simp only [go_sem, ↓reduceIte]))); (all_goals (try (((congr 2; grind))))))
      · (((all_goals (try refine fin_pure (by (try simp only [forall_eq, resOk, List.mem_cons, List.not_mem_nil, or_false])) ?_ (by ((try dsimp only); repeat' ((with_reducible exact .refl _)))))); (all_goals (try simp only [go_sem, ↓reduceIte]))); (all_goals (try (((congr 2; grind))))))
      · refine ⟨i + 1, by omega, ⟨by omega, by (rw [take_at hx]; grind)⟩, ?_⟩
        (refine st_le rfl ?_ (by ((try dsimp only); repeat' ((with_reducible exact .refl _)))); (try simp only [go_sem, Nat.reduceEqDiff, Nat.reduceAdd, ↓reduceIte, reduceCtorEq]))
    · obtain rfl : i = r.key.length := by omega
      rw [List.drop_length, keysE] at h3
      ((repeat' (first | (refine awp_seq_k (fun K hK => ?_)) | (refine awp_reg _ rfl ?_; (try simp only [go_sem, Nat.reduceLT, Nat.reduceEqDiff, Nat.reduceLeDiff, Nat.reduceAdd, ↓reduceIte])) | (refine awp_cond _ rfl (fun hc => ?_) (fun hc => ?_) <;> (try (simp only [decide_eq_true_eq, decide_eq_false_iff_not] at hc)) <;> (try (exfalso; omega))) | (refine awp_exit ?_; (try simp only [sq, bk, ↓reduceIte])) | (refine awp_ret ?_) | (refine hK _ ?_; clear hK; (try clear K)) | (refine kk (by assumption) ?_))))
      (((all_goals (try refine fin_pure (by (try simp only [forall_eq, resOk, List.mem_cons, List.not_mem_nil, or_false])) ?_ (by ((try dsimp only); repeat' ((with_reducible exact .refl _)))))); (all_goals (try simp only [go_sem, ↓reduceIte]))); (all_goals (try (((congr 2; grind))))))
theorem c_row (r : Rel) (l : List Val) (H : Hp) (h : gRel r) (hl : gRow l) : PureAt Tryz.prog 169 [cRel r, cRw l] H (.con (.int .i64 (rowE r.cols l))) := by
  have h1 := h.cols
  obtain ⟨h2, h3⟩ := hl
  unfold rowE
  refine acalls_of (by kernel_rfl) Tryz.func169 rfl 41 Tryz.ntmps169 (by simp) [.tmp 4] rfl ?_
  ((repeat' (first | (refine awp_seq_k (fun K hK => ?_)) | (refine awp_block ?_) | (refine awp_reg _ rfl ?_; (try simp only [go_sem, Nat.reduceLT, Nat.reduceEqDiff, Nat.reduceLeDiff, Nat.reduceAdd, ↓reduceIte, reduceCtorEq])) | (refine awp_cond _ rfl (fun hc => ?_) (fun hc => ?_) <;> (try (simp only [decide_eq_true_eq, decide_eq_false_iff_not, Decidable.not_not] at hc))) | (refine awp_skip ?_; (try simp only [sq])) | (refine awp_ret ?_; (try simp only [sq])) | (refine orAt_r 2 ?_) | (refine hK _ ?_; clear hK; (try clear K)))))
  · (((all_goals (try refine fin_pure (by (try simp only [forall_eq, resOk, List.mem_cons, List.not_mem_nil, or_false])) ?_ (by ((try dsimp only); repeat' ((with_reducible exact .refl _)))))); (all_goals (try simp only [go_sem, ↓reduceIte]))); (all_goals (try (((congr 2; grind))))))
  have hll : l.length = r.cols.length := by omega
  refine awp_loopKH (ι := Nat) [2, 14, 15] (fun i => [(16, .con (.int .i64 (i : Int)))]) (fun i => i ≤ l.length ∧ valsE (r.cols.drop i) (l.drop i) = valsE r.cols l) (fun i => l.length - i) 0 (by intro; simp only [keepT_cons, keepT_nil, List.cons_append, List.nil_append, lk, Nat.reduceEqDiff, ↓reduceIte]; rfl) ⟨by omega, by simp⟩ (by ((simp only [go_sem, ↓reduceIte]; done))) ?_
  intro i ⟨hi, h0⟩
  rcases Nat.lt_or_ge i l.length with hlt | hge
  · obtain ⟨x, hx, hm⟩ := at_lt hlt
    obtain ⟨y, hy, hm2⟩ := at_lt (show i < r.cols.length by omega)
    have hg := encVs_at hx
    have hg2 := encCols_get hy
    rw [drop_at hx, drop_at hy, valsE] at h0
    ((repeat' (first | (refine awp_seq_k (fun K hK => ?_)) | (refine awp_block ?_) | (refine awp_reg _ rfl ?_; (try simp only [go_sem, Nat.reduceLT, Nat.reduceEqDiff, Nat.reduceLeDiff, Nat.reduceAdd, ↓reduceIte, wrap_succ i (by omega), hg])) | (refine awp_drawn (by kernel_rfl) (by kernel_rfl) ?_; (try simp only [go_sem, Nat.reduceLT, Nat.reduceEqDiff, Nat.reduceLeDiff, Nat.reduceAdd, ↓reduceIte, reduceCtorEq, hg2])) | (refine awp_cond _ rfl (fun hc => ?_) (fun hc => ?_) <;> (try (simp only [decide_eq_true_eq, decide_eq_false_iff_not, cds, Decidable.not_not] at hc)) <;> (try (exfalso; omega))) | (refine awp_skip ?_; (try simp only [sq, bk])) | (refine awp_ret ?_; (try simp only [sq, bk])) | (refine PureAt.use (c_CheckV x _ (h3 x hm).z) ?_ <;> (try simp only [go_sem])) | (refine orAt_r 6 ?_; (try simp only [go_sem, Nat.reduceLT, Nat.reduceEqDiff, Nat.reduceAdd, ↓reduceIte])) | (refine orAt_l ?_) | (with_reducible apply And.intro) | (refine hK _ ?_; clear hK; (try clear K)))); (all_goals (try ((omega)))))
    · (((all_goals (try refine fin_pure (by (try simp only [forall_eq, resOk, List.mem_cons, List.not_mem_nil, or_false])) ?_ (by ((try dsimp only); repeat' ((with_reducible exact .refl _)))))); (all_goals (try simp only [go_sem, ↓reduceIte])); (all_goals (try (((simp_all; done)))))))
    · (((all_goals (try refine fin_pure (by (try simp only [forall_eq, resOk, List.mem_cons, List.not_mem_nil, or_false])) ?_ (by ((try dsimp only); repeat' ((with_reducible exact .refl _)))))); (all_goals (try simp only [go_sem, ↓reduceIte])); (all_goals (try (((simp_all; done)))))))
    · refine ⟨i + 1, by omega, ⟨by omega, by (grind)⟩, ?_⟩
      (refine st_le rfl ?_ (by ((try dsimp only); repeat' ((with_reducible exact .refl _)))); (try simp only [go_sem, Nat.reduceEqDiff, ↓reduceIte, reduceCtorEq]))
  · obtain rfl : i = l.length := by omega
    rw [List.drop_length] at h0
    have : valsE r.cols l = 0 := by rw [← h0]; cases r.cols.drop l.length <;> rfl
    ((repeat' (first | (refine awp_seq_k (fun K hK => ?_)) | (refine awp_reg _ rfl ?_; (try simp only [go_sem, Nat.reduceLT, Nat.reduceEqDiff, Nat.reduceLeDiff, Nat.reduceAdd, ↓reduceIte, reduceCtorEq])) | (refine awp_cond _ rfl (fun hc => ?_) (fun hc => ?_) <;> (try (simp only [decide_eq_true_eq, decide_eq_false_iff_not] at hc)) <;> (try (exfalso; omega))) | (refine awp_exit ?_; (try simp only [sq, bk, ↓reduceIte])) | (refine awp_ret ?_) | (refine hK _ ?_; clear hK; (try clear K)) | (refine kk (by assumption) ?_))))
    (((all_goals (try refine fin_pure (by (try simp only [forall_eq, resOk, List.mem_cons, List.not_mem_nil, or_false])) ?_ (by ((try dsimp only); repeat' ((with_reducible exact .refl _)))))); (all_goals (try simp only [go_sem, ↓reduceIte])); (all_goals (try (((simp [*]; done)))))))
end Go.Proofs.YtababmnmkmgbbaaGreat
