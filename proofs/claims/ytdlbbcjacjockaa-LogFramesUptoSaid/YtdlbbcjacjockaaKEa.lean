/-
  A part of the proof: its theorems say what each gives.
-/
import Derived.Test.YtdlbbcjacjockaaKLg
import Derived.Test.YtdlbbcjacjockaaKPc
import Derived.Test.YtdlbbcjacjockaaKFw1
import Derived.Test.YtdlbbcjacjockaaKFw2
set_option maxRecDepth 100000
set_option maxHeartbeats 8000000
set_option linter.unusedSimpArgs false
set_option linter.unusedVariables false
namespace Go.Proofs.Ytdlbbcjacjockaa
open Go Fw
/-! The reference's reader. -/
theorem c_tsome (n : Nat) (s : Rd) (id : Nat) (H : Hp) (hb : H.box id = some (rdA s)) (hl : s.1.length ≤ 1000000000) (hn : n < 18446744073709551616) :
    ACalls Try.prog 46 [.ptr id 0, .con (.int .u64 (n : Int))] H fun r H' => r = .list (encB (tSome n s).1) none ∧ H' = H.set id (rdA (tSome n s).2) := by
  have hu : IntKind.u64.wrap ((s.1.length : Nat) : Int) = (s.1.length : Int) := u64_nat (by omega)
  refine acalls_of (by kernel_rfl) Try.func46 rfl 36 Try.ntmps46 (by simp) [.tmp 4] rfl ?_
  by_cases h : s.1.length < n
  · have e : tSome n s = ([], ([], true)) := by unfold tSome; rw [if_pos h]
    rw [e]
    ((repeat' (first | (refine awp_seq_k (fun K hK => ?_)) | (refine awp_reg _ rfl ?_; (try simp only [go_sem, Nat.reduceLT, Nat.reduceEqDiff, Nat.reduceLeDiff, Nat.reduceAdd, Nat.reduceMul, Int.reduceToNat, Nat.reducePow, ↓reduceIte, reduceCtorEq, box_set hb, box_setB hb, hb, hu, upd_known hb])) | (refine awp_cond _ rfl (fun hc => ?_) (fun hc => ?_) <;> (try (simp only [decide_eq_true_eq, decide_eq_false_iff_not, Bool.or_eq_true, Bool.and_eq_true, Bool.not_eq_true', Bool.not_eq_false', Bool.or_eq_false_iff, Bool.and_eq_false_imp, Bool.not_eq_false, Bool.not_eq_true, Bool.not_true, Bool.not_false, Bool.true_eq_false, Bool.false_eq_true, not_true_eq_false, Decidable.not_not, ite_or, ite_and] at hc)) <;> (try (exfalso; omega))) | (refine awp_ret ?_; (try simp only [sq, bk, ↓reduceIte, Nat.reduceEqDiff, reduceCtorEq])) | (refine hK _ ?_; clear hK; (try clear K)))))
    exact fin_le (.list (encB []) none) (H.set id (rdA ([], true))) (by (try simp only [List.mem_singleton, forall_eq, List.mem_cons, List.not_mem_nil, or_false, forall_eq_or_imp, and_self, resOk])) (by simp only [go_sem, Nat.reduceLT, Nat.reduceEqDiff, Nat.reduceLeDiff, Nat.reduceAdd, Nat.reduceMul, Int.reduceToNat, Nat.reducePow, ↓reduceIte, reduceCtorEq]; exact AV.le_nil) (by ((try dsimp only); repeat' ((refine weak_set (by (repeat' (first | exact .refl _ | exact AV.le_nil | refine lec_cons ?_ ?_))))))) ⟨rfl, rfl⟩
  · have e : tSome n s = (s.1.take n, (s.1.drop n, s.2)) := by unfold tSome; rw [if_neg h]
    rw [e]
    ((repeat' (first | (refine awp_seq_k (fun K hK => ?_)) | (refine awp_reg _ rfl ?_; (try simp only [go_sem, Nat.reduceLT, Nat.reduceEqDiff, Nat.reduceLeDiff, Nat.reduceAdd, Nat.reduceMul, Int.reduceToNat, Nat.reducePow, ↓reduceIte, reduceCtorEq, box_set hb, box_setB hb, hb, hu, upd_known hb, encB_take, encB_drop, List.take_length])) | (refine awp_cond _ rfl (fun hc => ?_) (fun hc => ?_) <;> (try (simp only [decide_eq_true_eq, decide_eq_false_iff_not, Bool.or_eq_true, Bool.and_eq_true, Bool.not_eq_true', Bool.not_eq_false', Bool.or_eq_false_iff, Bool.and_eq_false_imp, Bool.not_eq_false, Bool.not_eq_true, Bool.not_true, Bool.not_false, Bool.true_eq_false, Bool.false_eq_true, not_true_eq_false, Decidable.not_not, ite_or, ite_and] at hc)) <;> (try (exfalso; omega))) | (refine awp_skip ?_; (try simp only [sq, bk, ↓reduceIte, Nat.reduceEqDiff, reduceCtorEq])) | (refine awp_ret ?_; (try simp only [sq, bk, ↓reduceIte, Nat.reduceEqDiff, reduceCtorEq])) | (with_reducible apply And.intro) | (refine hK _ ?_; clear hK; (try clear K)))); (all_goals (try ((omega)))))
    exact fin_le (.list (encB (s.1.take n)) none) (H.set id (rdA (s.1.drop n, s.2))) (by (try simp only [List.mem_singleton, forall_eq, List.mem_cons, List.not_mem_nil, or_false, forall_eq_or_imp, and_self, resOk])) (by simp only [go_sem, Nat.reduceLT, Nat.reduceEqDiff, Nat.reduceLeDiff, Nat.reduceAdd, Nat.reduceMul, Int.reduceToNat, Nat.reducePow, ↓reduceIte, reduceCtorEq]; (repeat' (first | exact .refl _ | exact AV.le_nil | exact AV.le_list _ _ | exact AV.le_any _ | exact lec_nil | refine AV.le_aggc rfl ?_ | refine AV.le_tupc rfl ?_ | refine lec_cons ?_ ?_))) (by ((try dsimp only); repeat' ((with_reducible exact .refl _)))) ⟨rfl, rfl⟩
theorem tSome_len (n : Nat) (s : Rd) : (tSome n s).2.1.length ≤ s.1.length := by
  unfold tSome
  split
  · simp
  · simp
theorem acc_step (acc x i : Nat) (hi : i ≤ 9) (hx : x < 128) : IntKind.u64.wrap ((acc : Int) + IntKind.u64.wrap ((x : Int) * 2 ^ (7 * i))) = (((acc + x * 128 ^ i) % 18446744073709551616 : Nat) : Int) := by
  have hp : (128 : Nat) ^ i = 2 ^ (7 * i) := by rw [show (128 : Nat) = 2 ^ 7 from rfl, ← Nat.pow_mul]
  have e : ((x : Int) * 2 ^ (7 * i)) = ((x * 128 ^ i : Nat) : Int) := by rw [hp]; push_cast; rfl
  rw [e, u64_wrap, u64_wrap]
  generalize x * 128 ^ i = m
  unfold u64
  omega
theorem c_tnumber (s : Rd) (id : Nat) (H : Hp) (hb : H.box id = some (rdA s)) (hl : s.1.length ≤ 1000000000) :
    ACalls Try.prog 45 [.ptr id 0] H fun r H' => r = .con (.int .u64 ((tNum s).1 : Nat)) ∧ H' = H.set id (rdA (tNum s).2) := by
  have hs0 := set_self hb
  refine acalls_of (by kernel_rfl) Try.func45 rfl 34 Try.ntmps45 (by simp) [.tmp 2] rfl ?_
  ((repeat' (first | (refine awp_seq_k (fun K hK => ?_)) | (refine awp_block ?_) | (refine awp_reg _ rfl ?_; (try simp only [go_sem, Nat.reduceLT, Nat.reduceEqDiff, Nat.reduceLeDiff, Nat.reduceAdd, Nat.reduceMul, Int.reduceToNat, Nat.reducePow, ↓reduceIte, reduceCtorEq])) | (refine hK _ ?_; clear hK; (try clear K)))))
  refine awp_loop (ι := Nat × Nat × Rd) (fun i => ⟨34, [(0, .ptr id 0), (3, .con (.int .u64 (i.2.1 : Nat))), (6, .con (.int .i64 (i.1 : Int)))], H.set id (rdA i.2.2)⟩)
    (fun i => i.1 ≤ 10 ∧ i.2.1 < 18446744073709551616 ∧ i.2.2.1.length ≤ s.1.length ∧ tNum s = tN (10 - i.1) i.1 i.2.1 i.2.2) (fun i => 10 - i.1) (0, 0, s) ⟨by omega, by simp, by simp, rfl⟩ ?_ ?_
  · simp only [hs0]
    (refine st_le rfl ?_ (by ((try dsimp only); repeat' ((with_reducible exact .refl _)))); (try simp only [go_sem, Nat.reduceLT, Nat.reduceEqDiff, Nat.reduceLeDiff, Nat.reduceAdd, Nat.reduceMul, Int.reduceToNat, Nat.reducePow, ↓reduceIte, reduceCtorEq]))
  intro ⟨i, acc, u⟩ ⟨hi, ha, hul, he⟩
  simp only at hi ha hul he
  have hb1 := box_set hb (rdA u)
  have hlen := tSome_len 1 u
  rcases Nat.lt_or_ge i 10 with hlt | hge
  · rw [show 10 - i = (10 - (i + 1)) + 1 by omega, tN] at he
    have hc1 := c_tsome 1 u id (H.set id (rdA u)) hb1 (by omega) (by omega)
    rw [set_set] at hc1
    cases hbad : (tSome 1 u).2.2 with
    | true =>
      rw [if_pos hbad] at he
      rw [he]
      ((repeat' (first | (refine awp_seq_k (fun K hK => ?_)) | (refine awp_block ?_) | (refine awp_reg _ rfl ?_; (try simp only [go_sem, Nat.reduceLT, Nat.reduceEqDiff, Nat.reduceLeDiff, Nat.reduceAdd, Nat.reduceMul, Int.reduceToNat, Nat.reducePow, ↓reduceIte, reduceCtorEq, box_set hb, hbad])) | (refine awp_condT rfl (by (first | rfl | (simp only [decide_eq_true_eq, decide_eq_false_iff_not, Bool.or_eq_true, Bool.and_eq_true, Bool.not_eq_true', Bool.not_eq_false', Bool.or_eq_false_iff, Bool.and_eq_false_imp, Bool.not_true, Bool.not_false, Bool.true_eq_false, Bool.false_eq_true, not_true_eq_false, Decidable.not_not, ite_or, ite_and, box_set hb, hbad]; omega))) ?_) | (refine awp_skip ?_; (try simp only [sq, bk, ↓reduceIte, Nat.reduceEqDiff, reduceCtorEq])) | (refine awp_ret ?_; (try simp only [sq, bk, ↓reduceIte, Nat.reduceEqDiff, reduceCtorEq])) | (refine ACalls.det (hc1) ?_ <;> (try simp only [go_sem, Nat.reduceLT, Nat.reduceEqDiff, Nat.reduceLeDiff, Nat.reduceAdd, Nat.reduceMul, Int.reduceToNat, Nat.reducePow, ↓reduceIte, reduceCtorEq, box_set hb, hbad])) | (refine hK _ ?_; clear hK; (try clear K)))))
      exact fin_le (.con (.int .u64 ((0 : Nat) : Int))) (H.set id (rdA (tSome 1 u).2)) (by (try simp only [List.mem_singleton, forall_eq, List.mem_cons, List.not_mem_nil, or_false, forall_eq_or_imp, and_self, resOk])) (by simp only [go_sem, Nat.reduceLT, Nat.reduceEqDiff, Nat.reduceLeDiff, Nat.reduceAdd, Nat.reduceMul, Int.reduceToNat, Nat.reducePow, ↓reduceIte, reduceCtorEq]) (by ((try dsimp only); repeat' ((with_reducible exact .refl _)))) ⟨rfl, rfl⟩
    | false =>
      rw [if_neg (by rw [hbad]; simp)] at he
      have hl1 : (tSome 1 u).1.length = 1 := by
        unfold tSome at hbad ⊢
        split
        · rename_i h; rw [if_pos h] at hbad; simp at hbad
        · simp; omega
      have hg := encB_get (l := (tSome 1 u).1) (i := 0) (by omega)
      have hcl := bAt_lt (tSome 1 u).1 0
      have hst := acc_step acc (bAt (tSome 1 u).1 0 % 128) i (by omega) (Nat.mod_lt _ (by omega))
      have hrm : ((bAt (tSome 1 u).1 0 : Nat) : Int).tmod 128 = ((bAt (tSome 1 u).1 0 % 128 : Nat) : Int) := by rw [Int.tmod_eq_emod_of_nonneg (by omega)]; omega
      have hcv : IntKind.u64.wrap ((bAt (tSome 1 u).1 0 % 128 : Nat) : Int) = ((bAt (tSome 1 u).1 0 % 128 : Nat) : Int) := u64_nat (by omega)
      have h7 : IntKind.i64.wrap (7 * (i : Int)) = ((7 * i : Nat) : Int) := by rw [wrap_id (by omega) (by omega)]; omega
      have hm := min64 (7 * i) (by omega)
      generalize bAt (tSome 1 u).1 0 = c at *
      by_cases hc8 : c < 128
      · rw [if_pos hc8] at he
        rw [he]
        ((repeat' (first | (refine awp_seq_k (fun K hK => ?_)) | (refine awp_block ?_) | (refine awp_reg _ rfl ?_; (try simp only [go_sem, Nat.reduceLT, Nat.reduceEqDiff, Nat.reduceLeDiff, Nat.reduceAdd, Nat.reduceMul, Int.reduceToNat, Nat.reducePow, ↓reduceIte, reduceCtorEq, box_set hb, hbad, hg, hl1, hrm, hcv, h7, hm, hst])) | (refine awp_condT rfl (by (first | rfl | (simp only [decide_eq_true_eq, decide_eq_false_iff_not, Bool.or_eq_true, Bool.and_eq_true, Bool.not_eq_true', Bool.not_eq_false', Bool.or_eq_false_iff, Bool.and_eq_false_imp, Bool.not_true, Bool.not_false, Bool.true_eq_false, Bool.false_eq_true, not_true_eq_false, Decidable.not_not, ite_or, ite_and, box_set hb, hbad, hg, hl1, hrm, hcv, h7, hm, hst]; omega))) ?_) | (refine awp_condF rfl (by ((rfl))) ?_) | (refine awp_skip ?_; (try simp only [sq, bk, ↓reduceIte, Nat.reduceEqDiff, reduceCtorEq])) | (refine awp_ret ?_; (try simp only [sq, bk, ↓reduceIte, Nat.reduceEqDiff, reduceCtorEq])) | (refine ACalls.det (hc1) ?_ <;> (try simp only [go_sem, Nat.reduceLT, Nat.reduceEqDiff, Nat.reduceLeDiff, Nat.reduceAdd, Nat.reduceMul, Int.reduceToNat, Nat.reducePow, ↓reduceIte, reduceCtorEq, box_set hb, hbad, hg, hl1, hrm, hcv, h7, hm, hst])) | (with_reducible apply And.intro) | (refine hK _ ?_; clear hK; (try clear K)))); (all_goals (try ((omega)))))
        exact fin_le (.con (.int .u64 (((acc + c % 128 * 128 ^ i) % 18446744073709551616 : Nat) : Int))) (H.set id (rdA (tSome 1 u).2)) (by (try simp only [List.mem_singleton, forall_eq, List.mem_cons, List.not_mem_nil, or_false, forall_eq_or_imp, and_self, resOk])) (by simp only [go_sem, Nat.reduceLT, Nat.reduceEqDiff, Nat.reduceLeDiff, Nat.reduceAdd, Nat.reduceMul, Int.reduceToNat, Nat.reducePow, ↓reduceIte, reduceCtorEq]) (by ((try dsimp only); repeat' ((with_reducible exact .refl _)))) ⟨rfl, rfl⟩
      · rw [if_neg hc8] at he
        ((repeat' (first | (refine awp_seq_k (fun K hK => ?_)) | (refine awp_block ?_) | (refine awp_reg _ rfl ?_; (try simp only [go_sem, Nat.reduceLT, Nat.reduceEqDiff, Nat.reduceLeDiff, Nat.reduceAdd, Nat.reduceMul, Int.reduceToNat, Nat.reducePow, ↓reduceIte, reduceCtorEq, box_set hb, hbad, hg, hl1, hrm, hcv, h7, hm, hst, wrap_succ i (by omega)])) | (refine awp_condT rfl (by (first | rfl | (simp only [decide_eq_true_eq, decide_eq_false_iff_not, Bool.or_eq_true, Bool.and_eq_true, Bool.not_eq_true', Bool.not_eq_false', Bool.or_eq_false_iff, Bool.and_eq_false_imp, Bool.not_true, Bool.not_false, Bool.true_eq_false, Bool.false_eq_true, not_true_eq_false, Decidable.not_not, ite_or, ite_and, box_set hb, hbad, hg, hl1, hrm, hcv, h7, hm, hst, wrap_succ i (by omega)]; omega))) ?_) | (refine awp_condF rfl (by (first | rfl | (simp only [decide_eq_true_eq, decide_eq_false_iff_not, Bool.or_eq_true, Bool.and_eq_true, Bool.not_eq_true', Bool.not_eq_false', Bool.or_eq_false_iff, Bool.and_eq_false_imp, Bool.not_true, Bool.not_false, Bool.true_eq_false, Bool.false_eq_true, not_true_eq_false, Decidable.not_not, ite_or, ite_and, box_set hb, hbad, hg, hl1, hrm, hcv, h7, hm, hst, wrap_succ i (by omega)]; omega))) ?_) | (refine awp_skip ?_; (try simp only [sq, bk, ↓reduceIte, Nat.reduceEqDiff, reduceCtorEq])) | (refine ACalls.det (hc1) ?_ <;> (try simp only [go_sem, Nat.reduceLT, Nat.reduceEqDiff, Nat.reduceLeDiff, Nat.reduceAdd, Nat.reduceMul, Int.reduceToNat, Nat.reducePow, ↓reduceIte, reduceCtorEq, box_set hb, hbad, hg, hl1, hrm, hcv, h7, hm, hst, wrap_succ i (by omega)])) | (with_reducible apply And.intro) | (refine hK _ ?_; clear hK; (try clear K)))); (all_goals (try ((omega)))))
        refine ⟨(i + 1, (acc + c % 128 * 128 ^ i) % 18446744073709551616, (tSome 1 u).2), by simp only; omega, ⟨by simp only; omega, Nat.mod_lt _ (by omega), by simp only; omega, by rw [he, show 10 - (i + 1) = 9 - i by omega]⟩, ?_⟩
        (refine st_le rfl ?_ (by ((try dsimp only); repeat' ((with_reducible exact .refl _)))); (try simp only [go_sem, Nat.reduceLT, Nat.reduceEqDiff, Nat.reduceLeDiff, Nat.reduceAdd, Nat.reduceMul, Int.reduceToNat, Nat.reducePow, ↓reduceIte, reduceCtorEq]))
  · obtain rfl : i = 10 := by omega
    rw [Nat.sub_self, tN] at he
    ((repeat' (first | (refine awp_seq_k (fun K hK => ?_)) | (refine awp_reg _ rfl ?_; (try simp only [go_sem, Nat.reduceLT, Nat.reduceEqDiff, Nat.reduceLeDiff, Nat.reduceAdd, Nat.reduceMul, Int.reduceToNat, Nat.reducePow, ↓reduceIte, reduceCtorEq, box_set hb, hb1])) | (refine awp_condF rfl (by ((rfl))) ?_) | (refine awp_exit ?_; (try simp only [sq, bk, ↓reduceIte, Nat.reduceEqDiff, reduceCtorEq])) | (refine awp_ret ?_) | (refine hK _ ?_; clear hK; (try clear K)) | (refine kk (by assumption) ?_))))
    have e10 : tNum s = (0, (u.1, true)) := he
    rw [e10]
    exact fin_le (.con (.int .u64 ((0 : Nat) : Int))) (H.set id (rdA (u.1, true))) (by (try simp only [List.mem_singleton, forall_eq, List.mem_cons, List.not_mem_nil, or_false, forall_eq_or_imp, and_self, resOk])) (by simp only [go_sem, Nat.reduceLT, Nat.reduceEqDiff, Nat.reduceLeDiff, Nat.reduceAdd, Nat.reduceMul, Int.reduceToNat, Nat.reducePow, ↓reduceIte, reduceCtorEq]) (by ((try dsimp only); repeat' ((with_reducible exact .refl _)))) ⟨rfl, rfl⟩
end Go.Proofs.Ytdlbbcjacjockaa
