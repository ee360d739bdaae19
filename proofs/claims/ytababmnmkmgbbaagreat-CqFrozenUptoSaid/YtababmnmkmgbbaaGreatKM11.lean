/-
  A part of the proof: its theorems say what each gives.
-/
import Derived.Test.YtababmnmkmgbbaaGreatKM5
import Derived.Test.YtababmnmkmgbbaaGreatKM10
set_option maxRecDepth 100000
set_option maxHeartbeats 4000000
set_option linter.unusedSimpArgs false
set_option linter.unusedVariables false
namespace Go.Proofs.YtababmnmkmgbbaaGreat
open Go Fw
theorem c_names_1 (nm nm' : ByteArray) (k n k' n' : Int) (s s' : ByteArray) (fs fs' : List AV) (H : Hp) :
    PureAt Tryz.prog 368 [.agg [.con (.string nm), .con (.int .i64 k), .con (.int .i64 n), .con (.string s), .list fs none], .ro [.con (.string nm'), .con (.int .i64 k'), .con (.int .i64 n'), .con (.string s'), .list fs' none]] H (.con (.bool (decide (nm = nm')))) := by
  refine acalls_of (by kernel_rfl) Tryz.func368 rfl 9 Tryz.ntmps368 (by simp) [.tmp 3] rfl ?_
  ((repeat' (first | (refine awp_seq_k (fun K hK => ?_)) | (refine awp_reg _ rfl ?_; (try simp only [go_sem, Nat.reduceLT, Nat.reduceEqDiff, Nat.reduceLeDiff, Nat.reduceAdd, ↓reduceIte, reduceCtorEq])) | (refine awp_ret ?_) | (refine orAt_r 2 ?_) | (refine hK _ ?_; clear hK; (try clear K)))))
  ((all_goals (try refine fin_pure (by (try simp only [forall_eq, resOk, List.mem_cons, List.not_mem_nil, or_false])) ?_ (by ((try dsimp only); repeat' ((with_reducible exact .refl _)))))); (all_goals (try simp only [go_sem, ↓reduceIte])))
/-- What the name at a place lacks. -/
def nameE (fs : List Fld) (i : Nat) : Int := if nameB (nmAt fs i) then if 0 ≤ idxF (fun j => decide (nmAt fs j = nmAt fs i)) i then 5 else 0 else 15
theorem c_Contains_names (fs : List Fld) (i : Nat) (hi : i ≤ fs.length) (hl : fs.length ≤ 4611686018427387904) (nm : ByteArray) (k n : Int) (s : ByteArray) (gs : List AV) (H : Hp) :
    PureAt Tryz.prog 367 [.list (encFs (fs.take i)) none, .fn 368 [.ro [.con (.string nm), .con (.int .i64 k), .con (.int .i64 n), .con (.string s), .list gs none]]] H (.con (.bool (decide (0 ≤ idxF (fun j => decide (nmAt fs j = nm)) i)))) := by
  have e : (encFs (fs.take i)).length = i := by rw [encFs_length, List.length_take]; omega
  have he : ∀ j, j < (encFs (fs.take i)).length → ∃ k n s gs, (encFs (fs.take i)).getD j .any = .agg [.con (.string (nmAt fs j)), .con (.int .i64 k), .con (.int .i64 n), .con (.string s), .list (encFs gs) none] := by
    intro j hj
    obtain ⟨k, n, s, gs, hf, hg⟩ := encFs_get_at (fs := fs.take i) (i := j) (by rw [encFs_length] at hj; exact hj)
    rw [nmAt_take (by omega)] at hg
    exact ⟨k, n, s, gs, hg⟩
  have := c_ContainsField (encFs (fs.take i)) 368 [.ro [.con (.string nm), .con (.int .i64 k), .con (.int .i64 n), .con (.string s), .list gs none]] (fun j => decide (nmAt fs j = nm)) H (fun j hj => by obtain ⟨k, n, s, gs, h⟩ := he j hj; exact ⟨_, _, _, _, _, h⟩) (by omega) (fun j hj => by
    obtain ⟨k', n', s', gs', h⟩ := he j hj
    rw [h]
    exact c_names_1 _ nm _ _ k n _ s _ gs H)
  rwa [e] at this
theorem c_names (fs : List Fld) (H : Hp) (hl : fs.length ≤ 4611686018427387904) : PureAt Tryz.prog 361 [.list (encFs fs) none] H (.con (.int .i64 (firstE (nameE fs) fs.length))) := by
  refine acalls_of (by kernel_rfl) Tryz.func361 rfl 22 Tryz.ntmps361 (by simp) [.tmp 2] rfl ?_
  ((repeat' (first | (refine awp_seq_k (fun K hK => ?_)) | (refine awp_block ?_) | (refine awp_reg _ rfl ?_; (try simp only [go_sem, Nat.reduceLT, Nat.reduceAdd, ↓reduceIte, reduceCtorEq])) | (refine hK _ ?_; clear hK; (try clear K)))))
  refine awp_loop (ι := Nat) (fun i => ⟨22, [(0, .list (encFs fs) none), (2, .con (.int .i64 0)), (5, .list (encFs fs) none), (6, .con (.int .i64 fs.length)), (7, .con (.int .i64 (i : Int)))], H⟩)
    (fun i => i ≤ fs.length ∧ ∀ j, j < i → nameE fs j = 0) (fun i => fs.length - i) 0 ⟨by omega, fun j hj => by omega⟩ ?_ ?_
  · (refine st_le rfl ?_ (by ((try dsimp only); repeat' ((with_reducible exact .refl _)))); (try simp only [go_sem, Nat.reduceEqDiff, ↓reduceIte, reduceCtorEq]))
  intro i ⟨hi, h0⟩
  rcases Nat.lt_or_ge i fs.length with hlt | hge
  · obtain ⟨k, n, s, gs, hf, hg⟩ := encFs_get_at hlt
    have hl : (encFs (fs.take i)).length = i := by rw [encFs_length, List.length_take]; omega
    ((repeat' (first | (refine awp_seq_k (fun K hK => ?_)) | (refine awp_block ?_) | (refine awp_reg _ rfl ?_; (try simp only [go_sem, Nat.reduceLT, Nat.reduceEqDiff, Nat.reduceLeDiff, Nat.reduceAdd, Int.reduceToNat, ↓reduceIte, reduceCtorEq, wrap_succ i (by omega), hg, encFs_take])) | (refine awp_cond _ rfl (fun hc => ?_) (fun hc => ?_) <;> (try (simp only [decide_eq_true_eq, decide_eq_false_iff_not, cds] at hc)) <;> (try (exfalso; omega))) | (refine awp_skip ?_; (try simp only [sq, bk])) | (refine awp_ret ?_; (try simp only [sq, bk])) | (refine PureAt.use (c_Name _ _) ?_ <;> (try simp only [go_sem])) | (refine PureAt.use (c_Contains_names fs i hi (by assumption) (nmAt fs i) k n s (encFs gs) _) ?_) | (refine orAt_r 4 ?_; (try simp only [go_sem, Nat.reduceLT, Nat.reduceEqDiff, Nat.reduceAdd, ↓reduceIte])) | (refine orAt_l ?_) | (with_reducible apply And.intro) | (refine hK _ ?_; clear hK; (try clear K)))); (all_goals (try ((omega)))))
    · have : nameE fs i = 15 := by unfold nameE; simp [*]
      ((all_goals (try refine fin_pure (by (try simp only [forall_eq, resOk, List.mem_cons, List.not_mem_nil, or_false])) ?_ (by ((try dsimp only); repeat' ((with_reducible exact .refl _)))))); (all_goals (try simp only [go_sem, ↓reduceIte, firstE_hit hlt (by omega) h0, this])))
    · have : nameE fs i = 5 := by unfold nameE; simp [*]
      ((all_goals (try refine fin_pure (by (try simp only [forall_eq, resOk, List.mem_cons, List.not_mem_nil, or_false])) ?_ (by ((try dsimp only); repeat' ((with_reducible exact .refl _)))))); (all_goals (try simp only [go_sem, ↓reduceIte, firstE_hit hlt (by omega) h0, this])))
    · have : nameE fs i = 0 := by unfold nameE; simp [*]
      refine ⟨i + 1, by omega, ⟨by omega, fun j hj => (by rcases Nat.lt_succ_iff_lt_or_eq.1 hj with h | rfl; exact h0 j h; exact this)⟩, ?_⟩
      (refine st_le rfl ?_ (by ((try dsimp only); repeat' ((with_reducible exact .refl _)))); (try simp only [go_sem, Nat.reduceEqDiff, ↓reduceIte, reduceCtorEq]))
  · obtain rfl : i = fs.length := by omega
    ((repeat' (first | (refine awp_seq_k (fun K hK => ?_)) | (refine awp_reg _ rfl ?_; (try simp only [go_sem, Nat.reduceLT, Nat.reduceEqDiff, Nat.reduceLeDiff, Nat.reduceAdd, ↓reduceIte, reduceCtorEq])) | (refine awp_cond _ rfl (fun hc => ?_) (fun hc => ?_) <;> (try (simp only [decide_eq_true_eq, decide_eq_false_iff_not] at hc)) <;> (try (exfalso; omega))) | (refine awp_exit ?_; (try simp only [sq, bk, ↓reduceIte])) | (refine awp_ret ?_) | (refine hK _ ?_; clear hK; (try clear K)) | (refine kk (by assumption) ?_))))
    ((all_goals (try refine fin_pure (by (try simp only [forall_eq, resOk, List.mem_cons, List.not_mem_nil, or_false])) ?_ (by ((try dsimp only); repeat' ((with_reducible exact .refl _)))))); (all_goals (try simp only [go_sem, ↓reduceIte, firstE_miss h0])))
end Go.Proofs.YtababmnmkmgbbaaGreat
/-
  A part of the proof: its theorems say what each gives.
-/
set_option maxRecDepth 100000
set_option maxHeartbeats 4000000
set_option linter.unusedSimpArgs false
set_option linter.unusedVariables false
namespace Go.Proofs.YtababmnmkmgbbaaGreat
open Go Fw
/-- What the name of an element or an entry at a place lacks. -/
def keyE (k : Int) (fs : List Fld) (i : Nat) : Int := if k = 8 then (if (nmAt fs i).size = 0 then 0 else 3) else if 4000 < ((nmAt fs i).size : Int) then 2 else
  if 0 < (i : Int) ∧ (Op.bytesLess (nmAt fs i).toList (nmAt fs (i - 1)).toList || decide (nmAt fs i = nmAt fs (i - 1))) = true then 9 else 0
theorem c_keys (k n : Int) (s : ByteArray) (fs : List Fld) (H : Hp) (hl : fs.length ≤ 4611686018427387904) :
    PureAt Tryz.prog 362 [.agg [.con (.int .i64 k), .con (.int .i64 n), .con (.string s), .list (encFs fs) none]] H (.con (.int .i64 (firstE (keyE k fs) fs.length))) := by
  refine acalls_of (by kernel_rfl) Tryz.func362 rfl 47 Tryz.ntmps362 (by simp) [.tmp 2] rfl ?_
  ((repeat' (first | (refine awp_seq_k (fun K hK => ?_)) | (refine awp_block ?_) | (refine awp_reg _ rfl ?_; (try simp only [go_sem, Nat.reduceLT, Nat.reduceEqDiff, Nat.reduceLeDiff, Nat.reduceAdd, ↓reduceIte, reduceCtorEq])) | (refine orAt_r 1 ?_) | (refine hK _ ?_; clear hK; (try clear K)))))
  refine awp_loop (ι := Nat) (fun i => ⟨47, [(1, .ro [.con (.int .i64 k), .con (.int .i64 n), .con (.string s), .list (encFs fs) none]), (2, .con (.int .i64 0)), (6, .list (encFs fs) none), (7, .con (.int .i64 fs.length)), (8, .con (.int .i64 (i : Int)))], H⟩)
    (fun i => i ≤ fs.length ∧ ∀ j, j < i → keyE k fs j = 0) (fun i => fs.length - i) 0 ⟨by omega, fun j hj => by omega⟩ ?_ ?_
  · (refine st_le rfl ?_ (by ((try dsimp only); repeat' ((with_reducible exact .refl _)))); (try simp only [go_sem, Nat.reduceEqDiff, ↓reduceIte, reduceCtorEq]))
  intro i ⟨hi, h0⟩
  rcases Nat.lt_or_ge i fs.length with hlt | hge
  · obtain ⟨k', n', s', gs, hf, hg⟩ := encFs_get_at hlt
    have hw : IntKind.i64.wrap ((i : Int) - 1) = (i : Int) - 1 := wrap_id (by omega) (by omega)
    have hp : ∃ k n s gs, (encFs fs).getD ((i : Int) - 1).toNat .any = .agg [.con (.string (nmAt fs (i - 1))), .con (.int .i64 k), .con (.int .i64 n), .con (.string s), .list (encFs gs) none] := by
      obtain ⟨k, n, s, gs, _, hg⟩ := encFs_get_at (fs := fs) (i := i - 1) (by omega)
      exact ⟨k, n, s, gs, by rw [show ((i : Int) - 1).toNat = i - 1 by omega]; exact hg⟩
    obtain ⟨k2, n2, s2, gs2, hg2⟩ := hp
    ((repeat' (first | (refine awp_seq_k (fun K hK => ?_)) | (refine awp_block ?_) | (refine awp_reg _ rfl ?_; (try simp only [go_sem, Nat.reduceLT, Nat.reduceEqDiff, Nat.reduceLeDiff, Nat.reduceAdd, ↓reduceIte, reduceCtorEq, wrap_succ i (by omega), hg])) | (refine awp_drawn (by kernel_rfl) (by kernel_rfl) ?_; (try simp only [go_sem, Nat.reduceLT, Nat.reduceEqDiff, Nat.reduceLeDiff, Nat.reduceAdd, ↓reduceIte, reduceCtorEq, hw, hg2])) | (refine awp_cond _ rfl (fun hc => ?_) (fun hc => ?_) <;> (try (simp only [decide_eq_true_eq, decide_eq_false_iff_not, cds] at hc)) <;> (try (exfalso; omega))) | (refine awp_skip ?_; (try simp only [sq, bk])) | (refine awp_ret ?_; (try simp only [sq, bk])) | (refine orAt_r 4 ?_; (try simp only [go_sem, Nat.reduceLT, Nat.reduceEqDiff, Nat.reduceAdd, ↓reduceIte])) | (with_reducible apply And.intro) | (refine hK _ ?_; clear hK; (try clear K)))); (all_goals (try (first | omega | (intro hh; simp only [decide_eq_true_eq] at hh ⊢; (omega))))))
    · have e : keyE k fs i = 3 := by unfold keyE; simp [*]
      ((all_goals (try refine fin_pure (by (try simp only [forall_eq, resOk, List.mem_cons, List.not_mem_nil, or_false])) ?_ (by ((try dsimp only); repeat' ((with_reducible exact .refl _)))))); (all_goals (try simp only [go_sem, ↓reduceIte, firstE_hit hlt (by omega) h0, e])))
    · have e : keyE k fs i = 0 := by unfold keyE; simp [*]
      refine ⟨i + 1, by omega, ⟨by omega, fun j hj => (by rcases Nat.lt_succ_iff_lt_or_eq.1 hj with h | rfl; exact h0 j h; exact e)⟩, ?_⟩
      (refine st_le rfl ?_ (by ((try dsimp only); repeat' ((with_reducible exact .refl _)))); (try simp only [go_sem, Nat.reduceEqDiff, ↓reduceIte, reduceCtorEq]))
    · have e : keyE k fs i = 2 := by unfold keyE; simp [*]
      ((all_goals (try refine fin_pure (by (try simp only [forall_eq, resOk, List.mem_cons, List.not_mem_nil, or_false])) ?_ (by ((try dsimp only); repeat' ((with_reducible exact .refl _)))))); (all_goals (try simp only [go_sem, ↓reduceIte, firstE_hit hlt (by omega) h0, e])))
    · have e : keyE k fs i = 9 := by unfold keyE; simp [*]; omega
      ((all_goals (try refine fin_pure (by (try simp only [forall_eq, resOk, List.mem_cons, List.not_mem_nil, or_false])) ?_ (by ((try dsimp only); repeat' ((with_reducible exact .refl _)))))); (all_goals (try simp only [go_sem, ↓reduceIte, firstE_hit hlt (by omega) h0, e])))
    · have e : keyE k fs i = 0 := by unfold keyE; simp [*]; intro hi; exact hc (by omega)
      refine ⟨i + 1, by omega, ⟨by omega, fun j hj => (by rcases Nat.lt_succ_iff_lt_or_eq.1 hj with h | rfl; exact h0 j h; exact e)⟩, ?_⟩
      (refine st_le rfl ?_ (by ((try dsimp only); repeat' ((with_reducible exact .refl _)))); (try simp only [go_sem, Nat.reduceEqDiff, ↓reduceIte, reduceCtorEq]))
  · obtain rfl : i = fs.length := by omega
    ((repeat' (first | (refine awp_seq_k (fun K hK => ?_)) | (refine awp_reg _ rfl ?_; (try simp only [go_sem, Nat.reduceLT, Nat.reduceEqDiff, Nat.reduceLeDiff, Nat.reduceAdd, ↓reduceIte, reduceCtorEq])) | (refine awp_cond _ rfl (fun hc => ?_) (fun hc => ?_) <;> (try (simp only [decide_eq_true_eq, decide_eq_false_iff_not] at hc)) <;> (try (exfalso; omega))) | (refine awp_exit ?_; (try simp only [sq, bk, ↓reduceIte])) | (refine awp_ret ?_) | (refine hK _ ?_; clear hK; (try clear K)) | (refine kk (by assumption) ?_))))
    ((all_goals (try refine fin_pure (by (try simp only [forall_eq, resOk, List.mem_cons, List.not_mem_nil, or_false])) ?_ (by ((try dsimp only); repeat' ((with_reducible exact .refl _)))))); (all_goals (try simp only [go_sem, ↓reduceIte, firstE_miss h0])))
/-- What the parts of a node lack. -/
def fieldsE (k : Int) (s : ByteArray) (fs : List Fld) : Int :=
  if k = 5 then (if 4000 < (s.size : Int) then 2 else 0)
  else if k = 6 then (if 24 < (fs.length : Int) then 2 else firstE (nameE fs) fs.length)
  else if k = 7 then (if (fs.length : Int) ≠ 1 then 3 else firstE (nameE fs) fs.length)
  else if k = 8 ∨ k = 9 then (if 200 < (fs.length : Int) then 2 else firstE (keyE k fs) fs.length)
  else 0
theorem c_fields (k n : Int) (s : ByteArray) (fs : List Fld) (H : Hp) (hl : fs.length ≤ 4611686018427387904) :
    PureAt Tryz.prog 345 [.agg [.con (.int .i64 k), .con (.int .i64 n), .con (.string s), .list (encFs fs) none]] H (.con (.int .i64 (fieldsE k s fs))) := by
  refine acalls_of (by kernel_rfl) Tryz.func345 rfl 38 Tryz.ntmps345 (by simp) [.tmp 2] rfl ?_
  ((repeat' (first | (refine awp_seq_k (fun K hK => ?_)) | (refine awp_block ?_) | (refine awp_reg _ rfl ?_; (try simp only [go_sem, Nat.reduceLT, Nat.reduceEqDiff, Nat.reduceLeDiff, Nat.reduceAdd, ↓reduceIte, reduceCtorEq])) | (refine awp_cond _ rfl (fun hc => ?_) (fun hc => ?_) <;> (try (simp only [decide_eq_true_eq, decide_eq_false_iff_not, Decidable.not_not] at hc)) <;> (try (exfalso; omega))) | (refine awp_skip ?_; (try simp only [sq, bk])) | (refine awp_ret ?_; (try simp only [sq, bk])) | (refine PureAt.use (c_names fs _ hl) ?_ <;> (try simp only [go_sem])) | (refine PureAt.use (c_keys k n s fs _ hl) ?_ <;> (try simp only [go_sem])) | (refine orAt_r 1 ?_) | (refine orAt_l ?_) | (refine hK _ ?_; clear hK; (try clear K)))))
  ((all_goals (try refine fin_pure (by (try simp only [forall_eq, resOk, List.mem_cons, List.not_mem_nil, or_false])) ?_ (by ((try dsimp only); repeat' ((with_reducible exact .refl _)))))); (all_goals (try simp only [go_sem, ↓reduceIte, fieldsE])); (all_goals (try (((simp [*]; done))))))
end Go.Proofs.YtababmnmkmgbbaaGreat
