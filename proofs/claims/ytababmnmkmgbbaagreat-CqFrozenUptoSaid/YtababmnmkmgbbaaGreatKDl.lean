/-
  A part of the proof: its theorems say what each gives.
-/
import Derived.Test.YtababmnmkmgbbaaGreatKM5
import Derived.Test.YtababmnmkmgbbaaGreatKFw1
import Derived.Test.YtababmnmkmgbbaaGreatKFw2
import Derived.Test.YtababmnmkmgbbaaGreatKFw3
import Derived.Test.YtababmnmkmgbbaaGreatKTy
set_option maxRecDepth 100000
set_option maxHeartbeats 4000000
set_option linter.unusedSimpArgs false
set_option linter.unusedVariables false
namespace Go.Proofs.YtababmnmkmgbbaaGreat
open Go Fw
/-! Functions of package slices. -/
theorem encVs_at {l : List Val} {i : Nat} {v : Val} (h : l[i]? = some v) : (encVs l).getD i .any = .agg [.con (.int .i64 v.k), .con (.int .i64 v.n), .con (.string v.s), .list (encFs v.fs) none] := by
  obtain ⟨hl, rfl⟩ := List.getElem?_eq_some_iff.1 h
  exact encVs_get hl
theorem c_IdxCol (l : List Col) (q : Nat) (cap : List AV) (p : Col → Bool) (H : Hp) (hn : l.length ≤ 4611686018427387904) (hp : ∀ x ∈ l, PureAt Tryz.prog q (cCol x :: cap) H (.con (.bool (p x)))) :
    PureAt Tryz.prog 205 [.list (encCols l) none, .fn q cap] H (.con (.int .i64 (idxL p l))) := by
  refine acalls_of (by kernel_rfl) Tryz.func205 rfl 19 Tryz.ntmps205 (by simp) [.tmp 4] rfl ?_
  ((repeat' (first | (refine awp_seq_k (fun K hK => ?_)) | (refine awp_block ?_) | (refine awp_reg _ rfl ?_; (try simp only [go_sem, Nat.reduceLT, Nat.reduceAdd, ↓reduceIte, reduceCtorEq])) | (refine hK _ ?_; clear hK; (try clear K)))))
  refine awp_loopKH (ι := Nat) [0, 1, 7] (fun i => [(8, .con (.int .i64 (i : Int)))]) (fun i => i ≤ l.length ∧ ∀ y ∈ l.take i, p y = false) (fun i => l.length - i) 0 (by intro; simp only [keepT_cons, keepT_nil, List.cons_append, List.nil_append, lk, Nat.reduceEqDiff, ↓reduceIte, reduceCtorEq]; rfl) ⟨by omega, by simp⟩ (by ((simp only [go_sem, ↓reduceIte]; done))) ?_
  intro i ⟨hi, h0⟩
  rcases Nat.lt_or_ge i l.length with hlt | hge
  · obtain ⟨x, hx, hm⟩ := at_lt hlt
    have hg := encCols_get hx
    have hpi := hp x hm
    cases hv : p x
    all_goals
      rw [hv] at hpi
      ((repeat' (first | (refine awp_seq_k (fun K hK => ?_)) | (refine awp_block ?_) | (refine awp_reg _ rfl ?_; (try simp only [go_sem, Nat.reduceLT, Nat.reduceEqDiff, Nat.reduceLeDiff, Nat.reduceAdd, ↓reduceIte, reduceCtorEq, wrap_succ i (by omega), hg])) | (refine awp_cond _ rfl (fun hc => ?_) (fun hc => ?_) <;> (try (simp only [decide_eq_true_eq, decide_eq_false_iff_not, cds] at hc)) <;> (try (exfalso; omega))) | (refine awp_skip ?_; (try simp only [sq, bk])) | (refine awp_ret ?_; (try simp only [sq, bk])) | (refine PureAt.use (hpi) ?_) | (refine orAt_l ?_) | (with_reducible apply And.intro) | (refine hK _ ?_; clear hK; (try clear K)))); (all_goals (try ((omega)))))
    · have h1 := take_step hx hv h0
      refine ⟨i + 1, by omega, ⟨by omega, by assumption⟩, ?_⟩
      (refine st_le rfl ?_ (by ((try dsimp only); repeat' ((with_reducible exact .refl _)))); (try simp only [go_sem, Nat.reduceEqDiff, ↓reduceIte, reduceCtorEq]))
    · rw [idxL_hit hx hv h0]
      ((all_goals (try refine fin_pure (by (try simp only [forall_eq, resOk, List.mem_cons, List.not_mem_nil, or_false])) ?_ (by ((try dsimp only); repeat' ((with_reducible exact .refl _)))))); (all_goals (try simp only [go_sem, ↓reduceIte])))
  · obtain rfl : i = l.length := by omega
    rw [List.take_length] at h0
    ((repeat' (first | (refine awp_seq_k (fun K hK => ?_)) | (refine awp_reg _ rfl ?_; (try simp only [go_sem, Nat.reduceLT, Nat.reduceEqDiff, Nat.reduceLeDiff, Nat.reduceAdd, ↓reduceIte, reduceCtorEq])) | (refine awp_cond _ rfl (fun hc => ?_) (fun hc => ?_) <;> (try (simp only [decide_eq_true_eq, decide_eq_false_iff_not] at hc)) <;> (try (exfalso; omega))) | (refine awp_exit ?_; (try simp only [sq, bk, ↓reduceIte])) | (refine awp_ret ?_) | (refine hK _ ?_; clear hK; (try clear K)) | (refine kk (by assumption) ?_))))
    ((all_goals (try refine fin_pure (by (try simp only [forall_eq, resOk, List.mem_cons, List.not_mem_nil, or_false])) ?_ (by ((try dsimp only); repeat' ((with_reducible exact .refl _)))))); (all_goals (try simp only [go_sem, ↓reduceIte, idxL_miss h0])))
theorem c_AnyCol (l : List Col) (q : Nat) (cap : List AV) (p : Col → Bool) (H : Hp) (hn : l.length ≤ 4611686018427387904) (hp : ∀ x ∈ l, PureAt Tryz.prog q (cCol x :: cap) H (.con (.bool (p x)))) :
    PureAt Tryz.prog 256 [.list (encCols l) none, .fn q cap] H (.con (.bool (l.any p))) := by
  refine acalls_of (by kernel_rfl) Tryz.func256 rfl 9 Tryz.ntmps256 (by simp) [.tmp 4] rfl ?_
  ((repeat' (first | (refine awp_seq_k (fun K hK => ?_)) | (refine awp_reg _ rfl ?_; (try simp only [go_sem, Nat.reduceLT, Nat.reduceEqDiff, Nat.reduceAdd, ↓reduceIte, reduceCtorEq])) | (refine awp_ret ?_) | (refine PureAt.use (c_IdxCol l q cap p _ hn hp) ?_ <;> (try simp only [go_sem, Nat.reduceLT, ↓reduceIte])) | (refine orAt_l ?_) | (refine hK _ ?_; clear hK; (try clear K)))))
  ((all_goals (try refine fin_pure (by (try simp only [forall_eq, resOk, List.mem_cons, List.not_mem_nil, or_false])) ?_ (by ((try dsimp only); repeat' ((with_reducible exact .refl _)))))); (all_goals (try simp only [go_sem, ↓reduceIte, idxL_any])))
theorem c_IdxRel (l : List Rel) (q : Nat) (cap : List AV) (p : Rel → Bool) (H : Hp) (hn : l.length ≤ 4611686018427387904) (hp : ∀ x ∈ l, PureAt Tryz.prog q (cRel x :: cap) H (.con (.bool (p x)))) :
    PureAt Tryz.prog 151 [.list (encRels l) none, .fn q cap] H (.con (.int .i64 (idxL p l))) := by
  refine acalls_of (by kernel_rfl) Tryz.func151 rfl 19 Tryz.ntmps151 (by simp) [.tmp 4] rfl ?_
  ((repeat' (first | (refine awp_seq_k (fun K hK => ?_)) | (refine awp_block ?_) | (refine awp_reg _ rfl ?_; (try simp only [go_sem, Nat.reduceLT, Nat.reduceAdd, ↓reduceIte, reduceCtorEq])) | (refine hK _ ?_; clear hK; (try clear K)))))
  refine awp_loopKH (ι := Nat) [0, 1, 7] (fun i => [(8, .con (.int .i64 (i : Int)))]) (fun i => i ≤ l.length ∧ ∀ y ∈ l.take i, p y = false) (fun i => l.length - i) 0 (by intro; simp only [keepT_cons, keepT_nil, List.cons_append, List.nil_append, lk, Nat.reduceEqDiff, ↓reduceIte, reduceCtorEq]; rfl) ⟨by omega, by simp⟩ (by ((simp only [go_sem, ↓reduceIte]; done))) ?_
  intro i ⟨hi, h0⟩
  rcases Nat.lt_or_ge i l.length with hlt | hge
  · obtain ⟨x, hx, hm⟩ := at_lt hlt
    have hg := encRels_get hx
    have hpi := hp x hm
    cases hv : p x
    all_goals
      rw [hv] at hpi
      ((repeat' (first | (refine awp_seq_k (fun K hK => ?_)) | (refine awp_block ?_) | (refine awp_reg _ rfl ?_; (try simp only [go_sem, Nat.reduceLT, Nat.reduceEqDiff, Nat.reduceLeDiff, Nat.reduceAdd, ↓reduceIte, reduceCtorEq, wrap_succ i (by omega), hg])) | (refine awp_cond _ rfl (fun hc => ?_) (fun hc => ?_) <;> (try (simp only [decide_eq_true_eq, decide_eq_false_iff_not, cds] at hc)) <;> (try (exfalso; omega))) | (refine awp_skip ?_; (try simp only [sq, bk])) | (refine awp_ret ?_; (try simp only [sq, bk])) | (refine PureAt.use (hpi) ?_) | (refine orAt_l ?_) | (with_reducible apply And.intro) | (refine hK _ ?_; clear hK; (try clear K)))); (all_goals (try ((omega)))))
    · have h1 := take_step hx hv h0
      refine ⟨i + 1, by omega, ⟨by omega, by assumption⟩, ?_⟩
      (refine st_le rfl ?_ (by ((try dsimp only); repeat' ((with_reducible exact .refl _)))); (try simp only [go_sem, Nat.reduceEqDiff, ↓reduceIte, reduceCtorEq]))
    · rw [idxL_hit hx hv h0]
      ((all_goals (try refine fin_pure (by (try simp only [forall_eq, resOk, List.mem_cons, List.not_mem_nil, or_false])) ?_ (by ((try dsimp only); repeat' ((with_reducible exact .refl _)))))); (all_goals (try simp only [go_sem, ↓reduceIte])))
  · obtain rfl : i = l.length := by omega
    rw [List.take_length] at h0
    ((repeat' (first | (refine awp_seq_k (fun K hK => ?_)) | (refine awp_reg _ rfl ?_; (try simp only [go_sem, Nat.reduceLT, Nat.reduceEqDiff, Nat.reduceLeDiff, Nat.reduceAdd, ↓reduceIte, reduceCtorEq])) | (refine awp_cond _ rfl (fun hc => ?_) (fun hc => ?_) <;> (try (simp only [decide_eq_true_eq, decide_eq_false_iff_not] at hc)) <;> (try (exfalso; omega))) | (refine awp_exit ?_; (try simp only [sq, bk, ↓reduceIte])) | (refine awp_ret ?_) | (refine hK _ ?_; clear hK; (try clear K)) | (refine kk (by assumption) ?_))))
    ((all_goals (try refine fin_pure (by (try simp only [forall_eq, resOk, List.mem_cons, List.not_mem_nil, or_false])) ?_ (by ((try dsimp only); repeat' ((with_reducible exact .refl _)))))); (all_goals (try simp only [go_sem, ↓reduceIte, idxL_miss h0])))
theorem c_IdxStr (l : List ByteArray) (q : Nat) (cap : List AV) (p : ByteArray → Bool) (H : Hp) (hn : l.length ≤ 4611686018427387904) (hp : ∀ x ∈ l, PureAt Tryz.prog q (cKey x :: cap) H (.con (.bool (p x)))) :
    PureAt Tryz.prog 321 [.list (encKeys l) none, .fn q cap] H (.con (.int .i64 (idxL p l))) := by
  refine acalls_of (by kernel_rfl) Tryz.func321 rfl 19 Tryz.ntmps321 (by simp) [.tmp 4] rfl ?_
  ((repeat' (first | (refine awp_seq_k (fun K hK => ?_)) | (refine awp_block ?_) | (refine awp_reg _ rfl ?_; (try simp only [go_sem, Nat.reduceLT, Nat.reduceAdd, ↓reduceIte, reduceCtorEq])) | (refine hK _ ?_; clear hK; (try clear K)))))
  refine awp_loopKH (ι := Nat) [0, 1, 7] (fun i => [(8, .con (.int .i64 (i : Int)))]) (fun i => i ≤ l.length ∧ ∀ y ∈ l.take i, p y = false) (fun i => l.length - i) 0 (by intro; simp only [keepT_cons, keepT_nil, List.cons_append, List.nil_append, lk, Nat.reduceEqDiff, ↓reduceIte, reduceCtorEq]; rfl) ⟨by omega, by simp⟩ (by ((simp only [go_sem, ↓reduceIte]; done))) ?_
  intro i ⟨hi, h0⟩
  rcases Nat.lt_or_ge i l.length with hlt | hge
  · obtain ⟨x, hx, hm⟩ := at_lt hlt
    have hg := encKeys_get hx
    have hpi := hp x hm
    cases hv : p x
    all_goals
      rw [hv] at hpi
      ((repeat' (first | (refine awp_seq_k (fun K hK => ?_)) | (refine awp_block ?_) | (refine awp_reg _ rfl ?_; (try simp only [go_sem, Nat.reduceLT, Nat.reduceEqDiff, Nat.reduceLeDiff, Nat.reduceAdd, ↓reduceIte, reduceCtorEq, wrap_succ i (by omega), hg])) | (refine awp_cond _ rfl (fun hc => ?_) (fun hc => ?_) <;> (try (simp only [decide_eq_true_eq, decide_eq_false_iff_not, cds] at hc)) <;> (try (exfalso; omega))) | (refine awp_skip ?_; (try simp only [sq, bk])) | (refine awp_ret ?_; (try simp only [sq, bk])) | (refine PureAt.use (hpi) ?_) | (refine orAt_l ?_) | (with_reducible apply And.intro) | (refine hK _ ?_; clear hK; (try clear K)))); (all_goals (try ((omega)))))
    · have h1 := take_step hx hv h0
      refine ⟨i + 1, by omega, ⟨by omega, by assumption⟩, ?_⟩
      (refine st_le rfl ?_ (by ((try dsimp only); repeat' ((with_reducible exact .refl _)))); (try simp only [go_sem, Nat.reduceEqDiff, ↓reduceIte, reduceCtorEq]))
    · rw [idxL_hit hx hv h0]
      ((all_goals (try refine fin_pure (by (try simp only [forall_eq, resOk, List.mem_cons, List.not_mem_nil, or_false])) ?_ (by ((try dsimp only); repeat' ((with_reducible exact .refl _)))))); (all_goals (try simp only [go_sem, ↓reduceIte])))
  · obtain rfl : i = l.length := by omega
    rw [List.take_length] at h0
    ((repeat' (first | (refine awp_seq_k (fun K hK => ?_)) | (refine awp_reg _ rfl ?_; (try simp only [go_sem, Nat.reduceLT, Nat.reduceEqDiff, Nat.reduceLeDiff, Nat.reduceAdd, ↓reduceIte, reduceCtorEq])) | (refine awp_cond _ rfl (fun hc => ?_) (fun hc => ?_) <;> (try (simp only [decide_eq_true_eq, decide_eq_false_iff_not] at hc)) <;> (try (exfalso; omega))) | (refine awp_exit ?_; (try simp only [sq, bk, ↓reduceIte])) | (refine awp_ret ?_) | (refine hK _ ?_; clear hK; (try clear K)) | (refine kk (by assumption) ?_))))
    ((all_goals (try refine fin_pure (by (try simp only [forall_eq, resOk, List.mem_cons, List.not_mem_nil, or_false])) ?_ (by ((try dsimp only); repeat' ((with_reducible exact .refl _)))))); (all_goals (try simp only [go_sem, ↓reduceIte, idxL_miss h0])))
theorem c_AnyStr (l : List ByteArray) (q : Nat) (cap : List AV) (p : ByteArray → Bool) (H : Hp) (hn : l.length ≤ 4611686018427387904) (hp : ∀ x ∈ l, PureAt Tryz.prog q (cKey x :: cap) H (.con (.bool (p x)))) :
    PureAt Tryz.prog 259 [.list (encKeys l) none, .fn q cap] H (.con (.bool (l.any p))) := by
  refine acalls_of (by kernel_rfl) Tryz.func259 rfl 9 Tryz.ntmps259 (by simp) [.tmp 4] rfl ?_
  ((repeat' (first | (refine awp_seq_k (fun K hK => ?_)) | (refine awp_reg _ rfl ?_; (try simp only [go_sem, Nat.reduceLT, Nat.reduceEqDiff, Nat.reduceAdd, ↓reduceIte, reduceCtorEq])) | (refine awp_ret ?_) | (refine PureAt.use (c_IdxStr l q cap p _ hn hp) ?_ <;> (try simp only [go_sem, Nat.reduceLT, ↓reduceIte])) | (refine orAt_l ?_) | (refine hK _ ?_; clear hK; (try clear K)))))
  ((all_goals (try refine fin_pure (by (try simp only [forall_eq, resOk, List.mem_cons, List.not_mem_nil, or_false])) ?_ (by ((try dsimp only); repeat' ((with_reducible exact .refl _)))))); (all_goals (try simp only [go_sem, ↓reduceIte, idxL_any])))
theorem c_IndexStr (l : List ByteArray) (v : ByteArray) (H : Hp) (hn : l.length ≤ 4611686018427387904) : PureAt Tryz.prog 171 [.list (encKeys l) none, cKey v] H (.con (.int .i64 (idxL (fun x => decide (v = x)) l))) := by
  refine acalls_of (by kernel_rfl) Tryz.func171 rfl 19 Tryz.ntmps171 (by simp) [.tmp 4] rfl ?_
  ((repeat' (first | (refine awp_seq_k (fun K hK => ?_)) | (refine awp_block ?_) | (refine awp_reg _ rfl ?_; (try simp only [go_sem, Nat.reduceLT, Nat.reduceAdd, ↓reduceIte, reduceCtorEq])) | (refine hK _ ?_; clear hK; (try clear K)))))
  refine awp_loopKH (ι := Nat) [0, 1, 7] (fun i => [(8, .con (.int .i64 (i : Int)))]) (fun i => i ≤ l.length ∧ ∀ y ∈ l.take i, decide (v = y) = false) (fun i => l.length - i) 0 (by intro; simp only [keepT_cons, keepT_nil, List.cons_append, List.nil_append, lk, Nat.reduceEqDiff, ↓reduceIte, reduceCtorEq]; rfl) ⟨by omega, by simp⟩ (by ((simp only [go_sem, ↓reduceIte]; done))) ?_
  intro i ⟨hi, h0⟩
  rcases Nat.lt_or_ge i l.length with hlt | hge
  · obtain ⟨x, hx, hm⟩ := at_lt hlt
    have hg := encKeys_get hx
    cases hv : decide (v = x)
    · have hv2 : (v = x) = False := eq_false (of_decide_eq_false hv)
      ((repeat' (first | (refine awp_seq_k (fun K hK => ?_)) | (refine awp_block ?_) | (refine awp_reg _ rfl ?_; (try simp only [go_sem, Nat.reduceLT, Nat.reduceEqDiff, Nat.reduceLeDiff, Nat.reduceAdd, ↓reduceIte, reduceCtorEq, wrap_succ i (by omega), hg, hv2])) | (refine awp_cond _ rfl (fun hc => ?_) (fun hc => ?_) <;> (try (simp only [decide_eq_true_eq, decide_eq_false_iff_not] at hc)) <;> (try (exfalso; omega))) | (refine awp_skip ?_; (try simp only [sq, bk])) | (with_reducible apply And.intro) | (refine hK _ ?_; clear hK; (try clear K)))); (all_goals (try ((omega)))))
      have h1 := take_step hx hv h0
      refine ⟨i + 1, by omega, ⟨by omega, by assumption⟩, ?_⟩
      (refine st_le rfl ?_ (by ((try dsimp only); repeat' ((with_reducible exact .refl _)))); (try simp only [go_sem, Nat.reduceEqDiff, ↓reduceIte, reduceCtorEq]))
    · have hv2 : (v = x) = True := eq_true (of_decide_eq_true hv)
      ((repeat' (first | (refine awp_seq_k (fun K hK => ?_)) | (refine awp_block ?_) | (refine awp_reg _ rfl ?_; (try simp only [go_sem, Nat.reduceLT, Nat.reduceEqDiff, Nat.reduceLeDiff, Nat.reduceAdd, ↓reduceIte, reduceCtorEq, hg, hv2])) | (refine awp_cond _ rfl (fun hc => ?_) (fun hc => ?_) <;> (try (simp only [decide_eq_true_eq, decide_eq_false_iff_not, cds] at hc)) <;> (try (exfalso; omega))) | (refine awp_skip ?_; (try simp only [sq])) | (refine awp_ret ?_; (try simp only [sq, bk])) | (with_reducible apply And.intro) | (refine hK _ ?_; clear hK; (try clear K)))); (all_goals (try ((omega)))))
      rw [idxL_hit hx hv h0]
      ((all_goals (try refine fin_pure (by (try simp only [forall_eq, resOk, List.mem_cons, List.not_mem_nil, or_false])) ?_ (by ((try dsimp only); repeat' ((with_reducible exact .refl _)))))); (all_goals (try simp only [go_sem, ↓reduceIte])))
  · obtain rfl : i = l.length := by omega
    rw [List.take_length] at h0
    ((repeat' (first | (refine awp_seq_k (fun K hK => ?_)) | (refine awp_reg _ rfl ?_; (try simp only [go_sem, Nat.reduceLT, Nat.reduceEqDiff, Nat.reduceLeDiff, Nat.reduceAdd, ↓reduceIte, reduceCtorEq])) | (refine awp_cond _ rfl (fun hc => ?_) (fun hc => ?_) <;> (try (simp only [decide_eq_true_eq, decide_eq_false_iff_not] at hc)) <;> (try (exfalso; omega))) | (refine awp_exit ?_; (try simp only [sq, bk, ↓reduceIte])) | (refine awp_ret ?_) | (refine hK _ ?_; clear hK; (try clear K)) | (refine kk (by assumption) ?_))))
    ((all_goals (try refine fin_pure (by (try simp only [forall_eq, resOk, List.mem_cons, List.not_mem_nil, or_false])) ?_ (by ((try dsimp only); repeat' ((with_reducible exact .refl _)))))); (all_goals (try simp only [go_sem, ↓reduceIte, idxL_miss h0])))
theorem c_HasStr (l : List ByteArray) (v : ByteArray) (H : Hp) (hn : l.length ≤ 4611686018427387904) : PureAt Tryz.prog 70 [.list (encKeys l) none, cKey v] H (.con (.bool (l.any fun x => decide (v = x)))) := by
  refine acalls_of (by kernel_rfl) Tryz.func70 rfl 9 Tryz.ntmps70 (by simp) [.tmp 4] rfl ?_
  ((repeat' (first | (refine awp_seq_k (fun K hK => ?_)) | (refine awp_reg _ rfl ?_; (try simp only [go_sem, Nat.reduceLT, Nat.reduceEqDiff, Nat.reduceAdd, ↓reduceIte, reduceCtorEq])) | (refine awp_ret ?_) | (refine PureAt.use (c_IndexStr l v _ hn) ?_ <;> (try simp only [go_sem, Nat.reduceLT, ↓reduceIte])) | (refine orAt_l ?_) | (refine hK _ ?_; clear hK; (try clear K)))))
  ((all_goals (try refine fin_pure (by (try simp only [forall_eq, resOk, List.mem_cons, List.not_mem_nil, or_false])) ?_ (by ((try dsimp only); repeat' ((with_reducible exact .refl _)))))); (all_goals (try simp only [go_sem, ↓reduceIte, idxL_any])))
theorem c_EqfRow (l m : List (List Val)) (q : Nat) (cap : List AV) (p : (List Val) → (List Val) → Bool) (H : Hp) (hn : l.length ≤ 4611686018427387904) (hn2 : m.length ≤ 4611686018427387904) (hp : ∀ x ∈ l, ∀ y ∈ m, PureAt Tryz.prog q (cRw x :: cRw y :: cap) H (.con (.bool (p x y)))) :
    PureAt Tryz.prog 146 [.list (encRws l) none, .list (encRws m) none, .fn q cap] H (.con (.bool (eqL p l m))) := by
  generalize hv : eqL p l m = v
  refine acalls_of (by kernel_rfl) Tryz.func146 rfl 32 Tryz.ntmps146 (by simp) [.tmp 6] rfl ?_
  by_cases hl : l.length = m.length
  · have hl2 : ((l.length : Int) = (m.length : Int)) = True := eq_true (by omega)
    ((repeat' (first | (refine awp_seq_k (fun K hK => ?_)) | (refine awp_block ?_) | (refine awp_reg _ rfl ?_; (try simp only [go_sem, Nat.reduceLT, Nat.reduceEqDiff, Nat.reduceAdd, ↓reduceIte, reduceCtorEq, hl2, decide_false, bls])) | (refine awp_condF rfl (by ((rfl))) ?_) | (refine awp_skip ?_; (try simp only [sq])) | (refine hK _ ?_; clear hK; (try clear K)))))
    refine awp_loopKH (ι := Nat) [1, 2, 15, 16] (fun i => [(17, .con (.int .i64 (i : Int)))]) (fun i => i ≤ l.length ∧ eqL p (l.drop i) (m.drop i) = v) (fun i => l.length - i) 0 (by intro; simp only [keepT_cons, keepT_nil, List.cons_append, List.nil_append, lk, Nat.reduceEqDiff, ↓reduceIte, reduceCtorEq]; rfl) ⟨by omega, by simpa using hv⟩ (by ((simp only [go_sem, ↓reduceIte]; done))) ?_
    intro i ⟨hi, h0⟩
    rcases Nat.lt_or_ge i l.length with hlt | hge
    · obtain ⟨x, hx, hm⟩ := at_lt hlt
      obtain ⟨y, hy, hm2⟩ := at_lt (show i < m.length by omega)
      have hg := encRws_get hx
      have hg2 := encRws_get hy
      have hpi := hp x hm y hm2
      cases hr : p x y
      all_goals
        rw [hr] at hpi
        ((repeat' (first | (refine awp_seq_k (fun K hK => ?_)) | (refine awp_block ?_) | (refine awp_reg _ rfl ?_; (try simp only [go_sem, Nat.reduceLT, Nat.reduceEqDiff, Nat.reduceLeDiff, Nat.reduceAdd, ↓reduceIte, wrap_succ i (by omega), hg, hg2])) | (refine awp_cond _ rfl (fun hc => ?_) (fun hc => ?_) <;> (try (simp only [decide_eq_true_eq, decide_eq_false_iff_not, cds] at hc)) <;> (try (exfalso; omega))) | (refine awp_skip ?_; (try simp only [sq, bk])) | (refine awp_ret ?_; (try simp only [sq, bk])) | (refine PureAt.use (hpi) ?_ <;> (try simp only [go_sem])) | (refine orAt_l ?_) | (with_reducible apply And.intro) | (refine hK _ ?_; clear hK; (try clear K)))); (all_goals (try ((omega)))))
      · rw [eqL_miss h0 hx hy hr]
        ((all_goals (try refine fin_pure (by (try simp only [forall_eq, resOk, List.mem_cons, List.not_mem_nil, or_false])) ?_ (by ((try dsimp only); repeat' ((with_reducible exact .refl _)))))); (all_goals (try simp only [go_sem, ↓reduceIte])))
      · have h1 := eqL_step h0 hx hy hr
        refine ⟨i + 1, by omega, ⟨by omega, by assumption⟩, ?_⟩
        (refine st_le rfl ?_ (by ((try dsimp only); repeat' ((with_reducible exact .refl _)))); (try simp only [go_sem, Nat.reduceEqDiff, Nat.reduceAdd, ↓reduceIte, reduceCtorEq]))
    · obtain rfl : i = l.length := by omega
      ((repeat' (first | (refine awp_seq_k (fun K hK => ?_)) | (refine awp_reg _ rfl ?_; (try simp only [go_sem, Nat.reduceLT, Nat.reduceEqDiff, Nat.reduceLeDiff, Nat.reduceAdd, ↓reduceIte])) | (refine awp_cond _ rfl (fun hc => ?_) (fun hc => ?_) <;> (try (simp only [decide_eq_true_eq, decide_eq_false_iff_not] at hc)) <;> (try (exfalso; omega))) | (refine awp_exit ?_; (try simp only [sq, bk, ↓reduceIte])) | (refine awp_ret ?_) | (refine hK _ ?_; clear hK; (try clear K)) | (refine kk (by assumption) ?_))))
      rw [eqL_end h0 hl]
      ((all_goals (try refine fin_pure (by (try simp only [forall_eq, resOk, List.mem_cons, List.not_mem_nil, or_false])) ?_ (by ((try dsimp only); repeat' ((with_reducible exact .refl _)))))); (all_goals (try simp only [go_sem, ↓reduceIte])))
  · rw [eqL_ne hl] at hv
    subst hv
    have hl2 : ((l.length : Int) = (m.length : Int)) = False := eq_false (by omega)
    ((repeat' (first | (refine awp_seq_k (fun K hK => ?_)) | (refine awp_reg _ rfl ?_; (try simp only [go_sem, Nat.reduceLT, Nat.reduceEqDiff, Nat.reduceAdd, ↓reduceIte, reduceCtorEq, hl2, decide_true, bls])) | (refine awp_condT rfl (by ((rfl))) ?_) | (refine awp_ret ?_; (try simp only [sq])) | (refine hK _ ?_; clear hK; (try clear K)))))
    ((all_goals (try refine fin_pure (by (try simp only [forall_eq, resOk, List.mem_cons, List.not_mem_nil, or_false])) ?_ (by ((try dsimp only); repeat' ((with_reducible exact .refl _)))))); (all_goals (try simp only [go_sem, ↓reduceIte])))
theorem c_CmpfVal (l m : List Val) (q : Nat) (cap : List AV) (c : Val → Val → Int) (H : Hp) (hn : l.length ≤ 4611686018427387904) (hn2 : m.length ≤ 4611686018427387904) (hp : ∀ x ∈ l, ∀ y ∈ m, PureAt Tryz.prog q (cV x :: cV y :: cap) H (.con (.int .i64 (c x y)))) :
    PureAt Tryz.prog 237 [.list (encVs l) none, .list (encVs m) none, .fn q cap] H (.con (.int .i64 (cmpL c l m))) := by
  generalize hv : cmpL c l m = v
  refine acalls_of (by kernel_rfl) Tryz.func237 rfl 39 Tryz.ntmps237 (by simp) [.tmp 6] rfl ?_
  ((repeat' (first | (refine awp_seq_k (fun K hK => ?_)) | (refine awp_block ?_) | (refine awp_reg _ rfl ?_; (try simp only [go_sem, Nat.reduceLT, Nat.reduceAdd, ↓reduceIte, reduceCtorEq])) | (refine hK _ ?_; clear hK; (try clear K)))))
  refine awp_loopKH (ι := Nat) [0, 1, 2, 11, 12] (fun i => [(13, .con (.int .i64 (i : Int)))]) (fun i => i ≤ l.length ∧ i ≤ m.length ∧ cmpL c (l.drop i) (m.drop i) = v) (fun i => l.length - i) 0 (by intro; simp only [keepT_cons, keepT_nil, List.cons_append, List.nil_append, lk, Nat.reduceEqDiff, ↓reduceIte, reduceCtorEq]; rfl) ⟨by omega, ⟨by omega, by simpa using hv⟩⟩ (by ((simp only [go_sem, ↓reduceIte]; done))) ?_
  intro i ⟨hi, hi2, h0⟩
  rcases Nat.lt_or_ge i l.length with hlt | hge
  · obtain ⟨x, hx, hm⟩ := at_lt hlt
    have hg := encVs_at hx
    rcases Nat.lt_or_ge i m.length with hlt2 | hge2
    · obtain ⟨y, hy, hm2⟩ := at_lt hlt2
      have hg2 := encVs_at hy
      have hpi := hp x hm y hm2
      have hq : ((m.length : Int) ≤ (i : Int)) = False := eq_false (by omega)
      by_cases hr : c x y = 0
      · rw [hr] at hpi
        ((repeat' (first | (refine awp_seq_k (fun K hK => ?_)) | (refine awp_block ?_) | (refine awp_reg _ rfl ?_; (try simp only [go_sem, Nat.reduceLT, Nat.reduceEqDiff, Nat.reduceLeDiff, Nat.reduceAdd, ↓reduceIte, reduceCtorEq, wrap_succ i (by omega), hg, hg2, hq])) | (refine awp_cond _ rfl (fun hc => ?_) (fun hc => ?_) <;> (try (simp only [decide_eq_true_eq, decide_eq_false_iff_not, cds] at hc)) <;> (try (exfalso; omega))) | (refine awp_skip ?_; (try simp only [sq, bk])) | (refine PureAt.use (hpi) ?_ <;> (try simp only [go_sem])) | (refine orAt_r 8 ?_; (try simp only [go_sem, Nat.reduceLT, Nat.reduceEqDiff, Nat.reduceAdd, ↓reduceIte])) | (refine orAt_r 9 ?_; (try simp only [go_sem, Nat.reduceLT, Nat.reduceAdd, ↓reduceIte])) | (refine orAt_l ?_) | (with_reducible apply And.intro) | (refine hK _ ?_; clear hK; (try clear K)))); (all_goals (try ((omega)))))
        refine ⟨i + 1, by omega, ⟨by omega, by omega, cmpL_step h0 hx hy hr⟩, ?_⟩
        (refine st_le rfl ?_ (by ((try dsimp only); repeat' ((with_reducible exact .refl _)))); (try simp only [go_sem, Nat.reduceEqDiff, Nat.reduceAdd, ↓reduceIte, reduceCtorEq]))
      · ((repeat' (first | (refine awp_seq_k (fun K hK => ?_)) | (refine awp_block ?_) | (refine awp_reg _ rfl ?_; (try simp only [go_sem, Nat.reduceLT, Nat.reduceEqDiff, Nat.reduceLeDiff, Nat.reduceAdd, ↓reduceIte, reduceCtorEq, hg, hg2, hq, hr])) | (refine awp_cond _ rfl (fun hc => ?_) (fun hc => ?_) <;> (try (simp only [decide_eq_true_eq, decide_eq_false_iff_not, cds] at hc)) <;> (try (exfalso; omega))) | (refine awp_skip ?_; (try simp only [sq])) | (refine awp_ret ?_; (try simp only [sq, bk])) | (refine PureAt.use (hpi) ?_ <;> (try simp only [go_sem])) | (refine orAt_r 8 ?_; (try simp only [go_sem, Nat.reduceLT, Nat.reduceEqDiff, Nat.reduceAdd, ↓reduceIte])) | (refine orAt_r 9 ?_; (try simp only [go_sem, Nat.reduceLT, Nat.reduceAdd, ↓reduceIte])) | (refine orAt_l ?_) | (with_reducible apply And.intro) | (refine hK _ ?_; clear hK; (try clear K)))); (all_goals (try ((omega)))))
        rw [cmpL_hit h0 hx hy hr]
        ((all_goals (try refine fin_pure (by (try simp only [forall_eq, resOk, List.mem_cons, List.not_mem_nil, or_false])) ?_ (by ((try dsimp only); repeat' ((with_reducible exact .refl _)))))); (all_goals (try simp only [go_sem, ↓reduceIte])))
    · have hq : ((m.length : Int) ≤ (i : Int)) = True := eq_true (by omega)
      have he := cmpL_end h0 hi hi2 (.inr (by omega))
      rw [if_neg (by omega), if_neg (by omega)] at he
      ((repeat' (first | (refine awp_seq_k (fun K hK => ?_)) | (refine awp_block ?_) | (refine awp_reg _ rfl ?_; (try simp only [go_sem, Nat.reduceLT, Nat.reduceEqDiff, Nat.reduceLeDiff, Nat.reduceAdd, ↓reduceIte, reduceCtorEq, hg, hq])) | (refine awp_cond _ rfl (fun hc => ?_) (fun hc => ?_) <;> (try (simp only [decide_eq_true_eq, decide_eq_false_iff_not, cds] at hc)) <;> (try (exfalso; omega))) | (refine awp_skip ?_; (try simp only [sq])) | (refine awp_ret ?_; (try simp only [sq, bk])) | (refine orAt_r 8 ?_; (try simp only [go_sem, Nat.reduceLT, Nat.reduceEqDiff, Nat.reduceAdd, ↓reduceIte])) | (with_reducible apply And.intro) | (refine hK _ ?_; clear hK; (try clear K)))); (all_goals (try ((omega)))))
      rw [he]
      ((all_goals (try refine fin_pure (by (try simp only [forall_eq, resOk, List.mem_cons, List.not_mem_nil, or_false])) ?_ (by ((try dsimp only); repeat' ((with_reducible exact .refl _)))))); (all_goals (try simp only [go_sem, ↓reduceIte])))
  · obtain rfl : i = l.length := by omega
    have he := cmpL_end h0 hi hi2 (.inl rfl)
    ((repeat' (first | (refine awp_seq_k (fun K hK => ?_)) | (refine awp_reg _ rfl ?_; (try simp only [go_sem, Nat.reduceLT, Nat.reduceEqDiff, ↓reduceIte, reduceCtorEq])) | (refine awp_cond _ rfl (fun hc => ?_) (fun hc => ?_) <;> (try (simp only [decide_eq_true_eq, decide_eq_false_iff_not] at hc)) <;> (try (exfalso; omega))) | (refine awp_skip ?_; (try simp only [sq])) | (refine awp_exit ?_; (try simp only [sq, bk, ↓reduceIte])) | (refine awp_ret ?_; (try simp only [sq])) | (refine hK _ ?_; clear hK; (try clear K)) | (refine kk (by assumption) ?_))))
    · rw [he, if_pos (by omega)]
      ((all_goals (try refine fin_pure (by (try simp only [forall_eq, resOk, List.mem_cons, List.not_mem_nil, or_false])) ?_ (by ((try dsimp only); repeat' ((with_reducible exact .refl _)))))); (all_goals (try simp only [go_sem, ↓reduceIte])))
    · rw [he, if_neg (by omega), if_pos (by omega)]
      ((all_goals (try refine fin_pure (by (try simp only [forall_eq, resOk, List.mem_cons, List.not_mem_nil, or_false])) ?_ (by ((try dsimp only); repeat' ((with_reducible exact .refl _)))))); (all_goals (try simp only [go_sem, ↓reduceIte])))
end Go.Proofs.YtababmnmkmgbbaaGreat
