/-
  A part of the proof: its theorems say what each gives.
-/
import Derived.Test.YtababmnmkmgbbaaGreatKTy
import Derived.Test.YtababmnmkmgbbaaGreatKFw1
import Derived.Test.YtababmnmkmgbbaaGreatKFw2
import Derived.Test.YtababmnmkmgbbaaGreatKFw3
import Derived.Test.YtababmnmkmgbbaaGreatKM4
set_option maxRecDepth 100000
set_option maxHeartbeats 4000000
set_option linter.unusedSimpArgs false
set_option linter.unusedVariables false
namespace Go.Proofs.YtababmnmkmgbbaaGreat
open Go Fw
def scalarB (k : Int) : Bool := decide (0 ≤ k) && decide (k ≤ 5) || decide (k = 11)
theorem c_Scalar (k : Int) (H : Hp) : PureAt Tryz.prog 360 [.con (.int .i64 k)] H (.con (.bool (scalarB k))) := by
  refine acalls_of (by kernel_rfl) Tryz.func360 rfl 13 Tryz.ntmps360 (by simp) [.tmp 2] rfl ?_
  ((repeat' (first | (refine awp_seq_k (fun K hK => ?_)) | (refine awp_reg _ rfl ?_; (try simp only [go_sem, Nat.reduceLT, Nat.reduceEqDiff, Nat.reduceAdd, ↓reduceIte, reduceCtorEq])) | (refine awp_ret ?_) | (with_reducible apply And.intro) | (refine hK _ ?_; clear hK; (try clear K)))); (all_goals (try (((intro hh; simp only [Bool.not_eq_true', Bool.and_eq_false_iff, decide_eq_false_iff_not] at hh ⊢; (omega)))))))
  ((all_goals (try refine fin_pure (by (try simp only [forall_eq, resOk, List.mem_cons, List.not_mem_nil, or_false])) ?_ (by ((try dsimp only); repeat' ((with_reducible exact .refl _)))))); (all_goals (try simp only [go_sem, ↓reduceIte, scalarB])))
def numberB (k n : Int) : Bool := if k = 1 then n = 0 ∨ n = 1 else if k = 2 then -9007199254740992 ≤ n ∧ n ≤ 9007199254740992 else if k = 4 then 0 ≤ n ∧ n ≤ 4194304 else if k = 11 then 0 ≤ n ∧ n ≤ 9007199254740992 else true
theorem c_number (k n : Int) (s : ByteArray) (fs : List AV) (H : Hp) : PureAt Tryz.prog 344 [.agg [.con (.int .i64 k), .con (.int .i64 n), .con (.string s), .list fs none]] H (.con (.bool (numberB k n))) := by
  refine acalls_of (by kernel_rfl) Tryz.func344 rfl 45 Tryz.ntmps344 (by simp) [.tmp 2] rfl ?_
  ((repeat' (first | (refine awp_seq_k (fun K hK => ?_)) | (refine awp_block ?_) | (refine awp_reg _ rfl ?_; (try simp only [go_sem, Nat.reduceLT, Nat.reduceEqDiff, Nat.reduceLeDiff, Nat.reduceAdd, ↓reduceIte, reduceCtorEq])) | (refine awp_cond _ rfl (fun hc => ?_) (fun hc => ?_) <;> (try (simp only [decide_eq_true_eq, decide_eq_false_iff_not] at hc))) | (refine awp_skip ?_; (try simp only [sq, bk])) | (refine awp_ret ?_; (try simp only [sq, bk])) | (refine orAt_r 1 ?_) | (with_reducible apply And.intro) | (refine hK _ ?_; clear hK; (try clear K)))); (all_goals (try (((intro hh; simp only [Bool.not_eq_true', decide_eq_false_iff_not] at hh ⊢; (omega)))))))
  ((all_goals (try refine fin_pure (by (try simp only [forall_eq, resOk, List.mem_cons, List.not_mem_nil, or_false])) ?_ (by ((try dsimp only); repeat' ((with_reducible exact .refl _)))))); (all_goals (try simp only [go_sem, ↓reduceIte, numberB])); (all_goals (try (((simp [*]; done))))))
def unusedB (k n : Int) (s : ByteArray) (fs : Nat) : Bool := !(decide (1 ≤ k) && decide (k ≤ 4) || decide (k = 11)) && decide (n ≠ 0) || decide (k ≠ 5) && decide (s.size ≠ 0) || scalarB k && decide (0 < fs)
theorem c_unused (k n : Int) (s : ByteArray) (fs : List AV) (H : Hp) : PureAt Tryz.prog 343 [.agg [.con (.int .i64 k), .con (.int .i64 n), .con (.string s), .list fs none]] H (.con (.bool (unusedB k n s fs.length))) := by
  refine acalls_of (by kernel_rfl) Tryz.func343 rfl 45 Tryz.ntmps343 (by simp) [.tmp 2] rfl ?_
  ((repeat' (first | (refine awp_seq_k (fun K hK => ?_)) | (refine awp_reg _ rfl ?_; (try simp only [go_sem, Nat.reduceLT, Nat.reduceEqDiff, Nat.reduceLeDiff, Nat.reduceAdd, ↓reduceIte, reduceCtorEq])) | (refine awp_ret ?_) | (refine ⟨_, fun hg => ⟨?_, c_Scalar _ _⟩, ?_⟩ <;> (try simp only [go_sem])) | (refine orAt_r 1 ?_) | (with_reducible apply And.intro) | (refine hK _ ?_; clear hK; (try clear K)))); (all_goals (try (first | omega | (intro hh; simp only [Bool.or_eq_true, Bool.and_eq_true, Bool.not_eq_true', Bool.or_eq_false_iff, Bool.and_eq_false_iff, decide_eq_true_eq, decide_eq_false_iff_not, Bool.not_eq_false'] at hh ⊢; (omega)) | (intro hh; simp_all; done)))))
  ((all_goals (try refine fin_pure (by (try simp only [forall_eq, resOk, List.mem_cons, List.not_mem_nil, or_false])) ?_ (by ((try dsimp only); repeat' ((with_reducible exact .refl _)))))); (all_goals (try simp only [go_sem, ↓reduceIte, unusedB])); (all_goals (try (((simp [*]; done))))))
end Go.Proofs.YtababmnmkmgbbaaGreat
/-
  A part of the proof: its theorems say what each gives.
-/
set_option maxRecDepth 100000
set_option maxHeartbeats 4000000
set_option linter.unusedSimpArgs false
set_option linter.unusedVariables false
namespace Go.Proofs.YtababmnmkmgbbaaGreat
open Go Fw

/-! Package value: names. -/
def nameC (c : Int) : Bool := (decide (97 ≤ c) && decide (c ≤ 122)) || (decide (48 ≤ c) && decide (c ≤ 57)) || decide (c = 45)
def nameB (s : ByteArray) : Bool := decide (0 < s.size) && decide (s.size ≤ 16) && decide (97 ≤ bt s 0) && decide (bt s 0 ≤ 122) && decide (∀ j, j < s.size → nameC (bt s (j : Nat)) = true)
theorem c_Name (s : ByteArray) (H : Hp) : PureAt Tryz.prog 255 [.con (.string s)] H (.con (.bool (nameB s))) := by
  refine acalls_of (by kernel_rfl) Tryz.func255 rfl 49 Tryz.ntmps255 (by simp) [.tmp 2] rfl ?_
  refine awp_seq_k fun K0 hK0 => ?_
  refine awp_reg _ rfl ?_
  simp only [go_sem, Nat.reduceLT, Nat.reduceEqDiff, Nat.reduceAdd, ↓reduceIte, reduceCtorEq]
  repeat' apply And.intro
  all_goals (skip)
  refine hK0 _ ?_; clear hK0
  refine awp_seq_k fun K1 hK1 => ?_
  refine awp_seq_k fun K2 hK2 => ?_
  refine awp_reg _ rfl ?_
  simp only [go_sem, Nat.reduceLT, Nat.reduceEqDiff, Nat.reduceAdd, ↓reduceIte, reduceCtorEq]
  repeat' apply And.intro
  all_goals (try (((intro hh; simp only [Bool.not_eq_true', Bool.or_eq_false_iff, decide_eq_false_iff_not] at hh ⊢; (omega)))))
  refine hK2 _ ?_; clear hK2
  refine awp_cond _ rfl (fun hc3 => ?_) (fun hc3 => ?_)
  · -- yes
    refine awp_seq_k fun K4 hK4 => ?_
    refine awp_reg _ rfl ?_
    simp only [go_sem, Nat.reduceLT, Nat.reduceEqDiff, ↓reduceIte, reduceCtorEq]
    repeat' apply And.intro
    all_goals (skip)
    refine hK4 _ ?_; clear hK4
    refine awp_ret ?_
    (try simp only [sq])
    have hr : nameB s = false := by
      simp only [Bool.or_eq_true, decide_eq_true_eq] at hc3
      unfold nameB
      simp only [Bool.and_eq_false_iff, decide_eq_false_iff_not]
      omega
    rw [hr]
    refine fin_pure ?_ ?_ ?_
    · (simp only [forall_eq, resOk, List.mem_cons, List.not_mem_nil, or_false])
    · simp only [go_sem, Nat.reduceEqDiff, ↓reduceIte]
    · exact .refl _
  · -- no
    refine awp_skip ?_
    (try simp only [sq])
    refine hK1 _ ?_; clear hK1
    simp only [Bool.or_eq_false_iff, decide_eq_false_iff_not] at hc3
    have hsz : s.size ≤ 16 := by omega
    refine awp_seq_k fun K5 hK5 => ?_
    refine awp_seq_k fun K6 hK6 => ?_
    refine awp_reg _ rfl ?_
    simp only [go_sem, Nat.reduceLT, Nat.reduceEqDiff, ↓reduceIte, reduceCtorEq]
    repeat' apply And.intro
    all_goals (skip)
    · simp only [maxLen]; omega
    refine hK6 _ ?_; clear hK6
    refine awp_block ?_
    -- LOOP: slots written: [2, 4, 25, 26, 27, 28, 29, 30, 31, 32, 33, 34, 35, 36, 37, 38, 39, 40, 41, 42, 43, 44, 45, 46, 47, 48]
    refine awp_loop (ι := Nat) (fun i => ⟨49, [(0, .con (.string s)), (23, .list (bytesA s) none), (24, .con (.int .i64 s.size)), (25, .con (.int .i64 (i : Int)))], H⟩) (fun i => i ≤ s.size ∧ ∀ j, j < i → nameC (bt s (j : Nat)) = true) (fun i => s.size - i) 0 ?_ ?_ ?_
    · exact ⟨by omega, fun j hj => by omega⟩
    · refine st_le rfl ?_ (.refl _)
      simp only [go_sem, Nat.reduceLT, Nat.reduceEqDiff, Nat.reduceLeDiff, Nat.reduceAdd, ↓reduceIte, reduceCtorEq]
    intro i hi
    obtain ⟨hi1, hi2⟩ := hi
    refine awp_seq_k fun K8 hK8 => ?_
    refine awp_reg _ rfl ?_
    simp only [go_sem, Nat.reduceLT, Nat.reduceEqDiff, ↓reduceIte, reduceCtorEq]
    repeat' apply And.intro
    all_goals (skip)
    refine hK8 _ ?_; clear hK8
    refine awp_seq_k fun K9 hK9 => ?_
    refine awp_cond _ rfl (fun hc10 => ?_) (fun hc10 => ?_)
    · -- yes
      refine awp_skip ?_
      (try simp only [sq, bk, ↓reduceIte])
      refine hK9 _ ?_; clear hK9
      have hlt : i < s.size := by simpa using hc10
      refine awp_seq_k fun K11 hK11 => ?_
      refine awp_block ?_
      refine awp_seq_k fun K12 hK12 => ?_
      refine awp_reg _ rfl ?_
      simp only [go_sem, Nat.reduceLT, Nat.reduceEqDiff, Nat.reduceLeDiff, Nat.reduceAdd, ↓reduceIte, reduceCtorEq, bytesA_get s i hlt]
      repeat' apply And.intro
      all_goals (try ((omega)))
      refine hK12 _ ?_; clear hK12
      refine awp_seq_k fun K13 hK13 => ?_
      refine awp_reg _ rfl ?_
      simp only [go_sem, Nat.reduceLT, Nat.reduceEqDiff, Nat.reduceLeDiff, Nat.reduceAdd, ↓reduceIte, reduceCtorEq]
      repeat' apply And.intro
      all_goals (try (((intro hh; simp only [Bool.and_eq_true, Bool.not_eq_true', Bool.or_eq_false_iff, Bool.and_eq_false_iff, decide_eq_true_eq, decide_eq_false_iff_not] at hh ⊢; (omega)))))
      refine hK13 _ ?_; clear hK13
      refine awp_cond _ rfl (fun hc14 => ?_) (fun hc14 => ?_)
      · -- yes
        refine awp_seq_k fun K15 hK15 => ?_
        refine awp_reg _ rfl ?_
        simp only [go_sem, Nat.reduceLT, Nat.reduceEqDiff, Nat.reduceLeDiff, Nat.reduceAdd, ↓reduceIte, reduceCtorEq]
        repeat' apply And.intro
        all_goals (skip)
        refine hK15 _ ?_; clear hK15
        refine awp_ret ?_
        (try simp only [sq, bk])
        have hnc : nameC (bt s (i : Int)) = false := by
          unfold nameC
          simp only [Bool.not_eq_true', Bool.or_eq_false_iff, Bool.and_eq_false_iff, decide_eq_false_iff_not] at hc14 ⊢
          exact hc14
        have hr : nameB s = false := by
          unfold nameB
          simp only [Bool.and_eq_false_iff, decide_eq_false_iff_not]
          exact .inr fun h => by rw [h i hlt] at hnc; cases hnc
        rw [hr]
        refine fin_pure ?_ ?_ ?_
        · (simp only [forall_eq, resOk, List.mem_cons, List.not_mem_nil, or_false])
        · simp only [go_sem, ↓reduceIte]
        · exact .refl _
      · -- no
        refine awp_skip ?_
        (try simp only [sq, bk])
        refine hK11 _ ?_; clear hK11
        refine awp_reg _ rfl ?_
        simp only [go_sem, Nat.reduceLT, Nat.reduceEqDiff, ↓reduceIte, reduceCtorEq, wrap_succ i (by omega)]
        repeat' apply And.intro
        all_goals (skip)
        (skip)
        refine ⟨i + 1, ?_, ?_, ?_⟩
        · omega
        · refine ⟨hlt, fun j hj => ?_⟩
          rcases Nat.lt_or_ge j i with h | h
          · exact hi2 j h
          · obtain rfl : j = i := by omega
            unfold nameC
            simp only [Bool.not_eq_false', Bool.or_eq_true, Bool.and_eq_true, decide_eq_true_eq] at hc14 ⊢
            exact hc14
        · refine st_le rfl ?_ (.refl _)
          simp only [go_sem, Nat.reduceEqDiff, ↓reduceIte, reduceCtorEq]
    · -- no
      refine awp_exit ?_
      (try simp only [sq, bk, ↓reduceIte])
      refine hK5 _ ?_; clear hK5
      refine awp_seq_k fun K16 hK16 => ?_
      refine awp_reg _ rfl ?_
      simp only [go_sem, Nat.reduceLT, Nat.reduceEqDiff, Nat.reduceLeDiff, Nat.reduceAdd, ↓reduceIte, reduceCtorEq]
      repeat' apply And.intro
      all_goals (skip)
      refine hK16 _ ?_; clear hK16
      refine awp_ret ?_
      (skip)
      have hr : nameB s = true := by
        simp only [decide_eq_false_iff_not] at hc10
        have he : i = s.size := by omega
        subst he
        unfold nameB
        simp only [Bool.and_eq_true, decide_eq_true_eq]
        exact ⟨⟨⟨⟨by omega, by omega⟩, by omega⟩, by omega⟩, hi2⟩
      rw [hr]
      refine fin_pure ?_ ?_ ?_
      · (simp only [forall_eq, resOk, List.mem_cons, List.not_mem_nil, or_false])
      · simp only [go_sem, Nat.reduceEqDiff, ↓reduceIte]
      · exact .refl _
end Go.Proofs.YtababmnmkmgbbaaGreat
