/-
  A part of the proof: its theorems say what each gives.
-/
import Derived.Test.YtdlbbcjacjockaaKLf
import Derived.Laws.Bits64b
set_option maxRecDepth 100000
set_option maxHeartbeats 4000000
set_option linter.unusedSimpArgs false
set_option linter.unusedVariables false
namespace Go.Proofs.Ytdlbbcjacjockaa
open Go Fw
/-! The reader of the program. -/
abbrev rdA (s : Rd) : List AV := [.list (encB s.1) none, .con (.bool s.2)]
theorem and127 (c : Nat) (h : c < 256) : Go.bits .and .u8 (c : Int) 127 = ((c % 128 : Nat) : Int) := by
  have key : ∀ x : Fin 256, Go.bits .and .u8 (x.val : Int) 127 = ((x.val % 128 : Nat) : Int) := by decide +kernel
  exact key ⟨c, h⟩
theorem acc_or {i acc c : Nat} (hi : i ≤ 9) (ha : acc < 128 ^ i) (hc : c < 128) (h9 : i = 9 → c ≤ 1) :
    Go.bits .or .u64 (acc : Int) (IntKind.u64.wrap (IntKind.u64.wrap (c : Int) * 2 ^ min (7 * i) 64)) = ((acc + 128 ^ i * c : Nat) : Int) := by
  have hp : (128 : Nat) ^ i = 2 ^ (7 * i) := by rw [show (128 : Nat) = 2 ^ 7 from rfl, ← Nat.pow_mul]
  have hlt : 128 ^ i * c < 18446744073709551616 := by
    rcases Nat.lt_or_ge i 9 with h | h
    · have h1 : 128 ^ i ≤ 128 ^ 8 := Nat.pow_le_pow_right (by omega) (by omega)
      have h2 : 128 ^ i * c ≤ 128 ^ 8 * 128 := Nat.mul_le_mul h1 (by omega)
      omega
    · obtain rfl : i = 9 := by omega
      have := h9 rfl
      have h2 : 128 ^ 9 * c ≤ 128 ^ 9 * 1 := Nat.mul_le_mul_left _ this
      omega
  have halt : acc < 18446744073709551616 := by
    have h1 : 128 ^ i ≤ 128 ^ 9 := Nat.pow_le_pow_right (by omega) hi
    omega
  rw [min64 _ (by omega), u64_nat (by omega)]
  have e : ((c : Int) * 2 ^ (7 * i)) = ((128 ^ i * c : Nat) : Int) := by rw [hp]; push_cast; rw [Int.mul_comm]
  rw [e, u64_nat hlt, bits_or_u64_nat _ _ halt hlt]
  congr 1
  rw [Nat.or_comm, hp, ← Nat.two_pow_add_eq_or_of_lt (by rw [← hp]; exact ha), Nat.add_comm]
theorem rdN_step {f i : Nat} {b : Byt} (h : 0 < b.length) : rdN (f + 1) i b = if i = 9 ∧ 1 < bAt b 0 then none else if bAt b 0 < 128 then some (bAt b 0, b.drop 1, decide (bAt b 0 = 0) && decide (0 < i)) else
    (rdN f (i + 1) (b.drop 1)).map fun p => (bAt b 0 % 128 + 128 * p.1, p.2.1, p.2.2) := by
  cases b with
  | nil => simp at h
  | cons c r => rw [rdN]; rfl
theorem c_rdnumber (s : Rd) (id : Nat) (H : Hp) (hb : H.box id = some (rdA s)) (hl : s.1.length ≤ 1000000000) :
    ACalls Try.prog 69 [.ptr id 0] H fun r H' => r = .con (.int .u64 ((rNum s).1 : Nat)) ∧ H' = H.set id (rdA (rNum s).2) := by
  obtain ⟨b, bad⟩ := s
  simp only at hl
  refine acalls_of (by kernel_rfl) Try.func69 rfl 72 Try.ntmps69 (by simp) [.tmp 2] rfl ?_
  ((repeat' (first | (refine awp_seq_k (fun K hK => ?_)) | (refine awp_block ?_) | (refine awp_reg _ rfl ?_; (try simp only [go_sem, Nat.reduceLT, Nat.reduceEqDiff, Nat.reduceLeDiff, Nat.reduceAdd, Nat.reduceMul, Int.reduceToNat, Nat.reducePow, ↓reduceIte, reduceCtorEq])) | (refine hK _ ?_; clear hK; (try clear K)))))
  refine awp_loop (ι := Nat × Nat) (fun i => ⟨72, [(0, .ptr id 0), (3, .con (.int .u64 (i.2 : Nat))), (6, .con (.int .i64 (i.1 : Int)))], H⟩)
    (fun i => i.1 ≤ 10 ∧ i.2 < 128 ^ i.1 ∧ rdN 10 0 b = (rdN (10 - i.1) i.1 (b.drop i.1)).map fun p => (i.2 + 128 ^ i.1 * p.1, p.2.1, p.2.2)) (fun i => 10 - i.1) (0, 0) ⟨by omega, by simp, by simp⟩ ?_ ?_
  · (refine st_le rfl ?_ (by ((try dsimp only); repeat' ((with_reducible exact .refl _)))); (try simp only [go_sem, Nat.reduceLT, Nat.reduceEqDiff, Nat.reduceLeDiff, Nat.reduceAdd, Nat.reduceMul, Int.reduceToNat, Nat.reducePow, ↓reduceIte, reduceCtorEq]))
  intro ⟨i, acc⟩ ⟨hi, ha, he⟩
  simp only at hi ha he
  have fail : rdN 10 0 b = none → rNum (b, bad) = (0, ([], true)) := fun h => by unfold rNum; simp only [h]
  rcases Nat.lt_or_ge i 10 with hlt | hge
  · rcases Nat.lt_or_ge i b.length with hb1 | hb1
    · have g1 := encB_get hb1
      have hcl := bAt_lt b i
      have hst := rdN_step (f := 9 - i) (i := i) (b := b.drop i) (by simp; omega)
      have e0 : bAt (b.drop i) 0 = bAt b i := by unfold bAt; simp [List.getD_eq_getElem?_getD]
      rw [e0, show 9 - i + 1 = 10 - i by omega, List.drop_drop] at hst
      rw [hst] at he
      by_cases h9 : i = 9 ∧ 1 < bAt b i
      · rw [if_pos h9] at he
        have hf := fail he
        obtain ⟨h90, h91⟩ := h9
        ((repeat' (first | (refine awp_seq_k (fun K hK => ?_)) | (refine awp_block ?_) | (refine awp_reg _ rfl ?_; (try simp only [go_sem, Nat.reduceLT, Nat.reduceEqDiff, Nat.reduceLeDiff, Nat.reduceAdd, Nat.reduceMul, Int.reduceToNat, Nat.reducePow, ↓reduceIte, reduceCtorEq, hb, g1, upd_known hb, box_set hb])) | (refine awp_cond _ rfl (fun hc => ?_) (fun hc => ?_) <;> (try (simp only [decide_eq_true_eq, decide_eq_false_iff_not, Bool.or_eq_true, Bool.and_eq_true, Bool.not_eq_true', Bool.not_eq_false', Bool.or_eq_false_iff, Bool.and_eq_false_imp, Bool.not_eq_false, Bool.not_eq_true, Bool.not_true, Bool.not_false, Bool.true_eq_false, Bool.false_eq_true, not_true_eq_false, Decidable.not_not, ite_or, ite_and] at hc)) <;> (try (exfalso; omega))) | (refine awp_skip ?_; (try simp only [sq, bk, ↓reduceIte, Nat.reduceEqDiff, reduceCtorEq])) | (refine awp_exit ?_; (try simp only [sq, bk, ↓reduceIte, Nat.reduceEqDiff, reduceCtorEq])) | (refine awp_ret ?_) | (with_reducible apply And.intro) | (refine hK _ ?_; clear hK; (try clear K)) | (refine kk (by assumption) ?_))); (all_goals (try ((omega)))))
        rw [hf]
        refine fin_le (.con (.int .u64 ((0 : Nat) : Int))) (H.set id (rdA ([], true))) (by simp [resOk]) (by simp only [go_sem, Nat.reduceLT, Nat.reduceEqDiff, Nat.reduceLeDiff, Nat.reduceAdd, Nat.reduceMul, Int.reduceToNat, Nat.reducePow, ↓reduceIte, reduceCtorEq]) (by ((try dsimp only); repeat' ((refine weak_set (by (repeat' (first | exact .refl _ | exact AV.le_nil | refine lec_cons ?_ ?_))))))) ⟨rfl, rfl⟩
      · rw [if_neg h9] at he
        have hor := acc_or (c := bAt b i % 128) (by omega) ha (Nat.mod_lt _ (by omega)) (fun e => by omega)
        have hw7 : IntKind.i64.wrap (7 * (i : Int)) = ((7 * i : Nat) : Int) := by rw [wrap_id (by omega) (by omega)]; omega
        by_cases hc0 : bAt b i < 128
        · rw [if_pos hc0] at he
          have hm := Nat.mod_eq_of_lt hc0
          have hz1 : decide (((bAt b i : Nat) : Int) = 0) = decide (bAt b i = 0) := by rw [decide_eq_decide]; omega
          have hz2 : decide ((0 : Int) < (i : Int)) = decide (0 < i) := by rw [decide_eq_decide]; omega
          have hres : rNum (b, bad) = (acc + 128 ^ i * bAt b i, (b.drop (i + 1), bad || (decide (bAt b i = 0) && decide (0 < i)))) := by unfold rNum; simp only [he]; rfl
          rw [hm] at hor
          ((repeat' (first | (refine awp_seq_k (fun K hK => ?_)) | (refine awp_block ?_) | (refine awp_reg _ rfl ?_; (try simp only [go_sem, Nat.reduceLT, Nat.reduceEqDiff, Nat.reduceLeDiff, Nat.reduceAdd, Nat.reduceMul, Int.reduceToNat, Nat.reducePow, ↓reduceIte, reduceCtorEq, hb, g1, upd_known hb, box_set hb, and127 _ hcl, hm, hw7, hor, wrap_succ i (by omega), encB_take, encB_drop, List.take_length, hz1, hz2])) | (refine awp_cond _ rfl (fun hc => ?_) (fun hc => ?_) <;> (try (simp only [decide_eq_true_eq, decide_eq_false_iff_not, Bool.or_eq_true, Bool.and_eq_true, Bool.not_eq_true', Bool.not_eq_false', Bool.or_eq_false_iff, Bool.and_eq_false_imp, Bool.not_eq_false, Bool.not_eq_true, Bool.not_true, Bool.not_false, Bool.true_eq_false, Bool.false_eq_true, not_true_eq_false, Decidable.not_not, ite_or, ite_and] at hc)) <;> (try (exfalso; omega))) | (refine awp_skip ?_; (try simp only [sq, bk, ↓reduceIte, Nat.reduceEqDiff, reduceCtorEq])) | (refine awp_ret ?_; (try simp only [sq, bk, ↓reduceIte, Nat.reduceEqDiff, reduceCtorEq])) | (with_reducible apply And.intro) | (refine hK _ ?_; clear hK; (try clear K)))); (all_goals (try (first | omega | (intro hh; simp only [Bool.or_eq_true, Bool.and_eq_true, Bool.not_eq_true', Bool.or_eq_false_iff, Bool.and_eq_false_iff, decide_eq_true_eq, decide_eq_false_iff_not, Bool.not_eq_false', bw, Bool.not_true, Bool.not_false, Bool.true_eq_false, Bool.false_eq_true, not_true_eq_false] at hh ⊢; (omega)) | (intro hh; simp_all; done)))))
          rw [hres]
          exact fin_le (.con (.int .u64 ((acc + 128 ^ i * bAt b i : Nat) : Int))) (H.set id (rdA (b.drop (i + 1), bad || (decide (bAt b i = 0) && decide (0 < i))))) (by simp [resOk]) (by simp only [go_sem, Nat.reduceLT, Nat.reduceEqDiff, Nat.reduceLeDiff, Nat.reduceAdd, Nat.reduceMul, Int.reduceToNat, Nat.reducePow, ↓reduceIte, reduceCtorEq]) (by ((try dsimp only); repeat' ((with_reducible exact .refl _)))) ⟨rfl, rfl⟩
        · rw [if_neg hc0] at he
          ((repeat' (first | (refine awp_seq_k (fun K hK => ?_)) | (refine awp_block ?_) | (refine awp_reg _ rfl ?_; (try simp only [go_sem, Nat.reduceLT, Nat.reduceEqDiff, Nat.reduceLeDiff, Nat.reduceAdd, Nat.reduceMul, Int.reduceToNat, Nat.reducePow, ↓reduceIte, reduceCtorEq, hb, g1, upd_known hb, box_set hb, and127 _ hcl, hw7, hor, wrap_succ i (by omega), encB_take, encB_drop])) | (refine awp_cond _ rfl (fun hc => ?_) (fun hc => ?_) <;> (try (simp only [decide_eq_true_eq, decide_eq_false_iff_not, Bool.or_eq_true, Bool.and_eq_true, Bool.not_eq_true', Bool.not_eq_false', Bool.or_eq_false_iff, Bool.and_eq_false_imp, Bool.not_eq_false, Bool.not_eq_true, Bool.not_true, Bool.not_false, Bool.true_eq_false, Bool.false_eq_true, not_true_eq_false, Decidable.not_not, ite_or, ite_and] at hc)) <;> (try (exfalso; omega))) | (refine awp_skip ?_; (try simp only [sq, bk, ↓reduceIte, Nat.reduceEqDiff, reduceCtorEq])) | (with_reducible apply And.intro) | (refine hK _ ?_; clear hK; (try clear K)))); (all_goals (try ((omega)))))
          refine ⟨(i + 1, acc + 128 ^ i * (bAt b i % 128)), by simp only; omega, ⟨by simp only; omega, ?_, ?_⟩, ?_⟩
          · simp only
            have h1 : bAt b i % 128 ≤ 127 := by omega
            have h2 := Nat.mul_le_mul_left (128 ^ i) h1
            rw [Nat.pow_succ]; omega
          · rw [he, show 10 - (i + 1) = 9 - i by omega, Option.map_map]
            congr 1
            funext p
            simp only [Function.comp, Nat.pow_succ, Prod.mk.injEq, and_true]
            rw [Nat.mul_add, Nat.add_assoc, Nat.mul_assoc]
          · (refine st_le rfl ?_ (by ((try dsimp only); repeat' ((with_reducible exact .refl _)))); (try simp only [go_sem, Nat.reduceLT, Nat.reduceEqDiff, Nat.reduceLeDiff, Nat.reduceAdd, Nat.reduceMul, Int.reduceToNat, Nat.reducePow, ↓reduceIte, reduceCtorEq]))
    · have : b.drop i = [] := List.drop_eq_nil_of_le hb1
      have hn : ∀ f i, rdN f i [] = none := fun f i => by cases f <;> rfl
      rw [this, hn] at he
      have hf := fail he
      ((repeat' (first | (refine awp_seq_k (fun K hK => ?_)) | (refine awp_block ?_) | (refine awp_reg _ rfl ?_; (try simp only [go_sem, Nat.reduceLT, Nat.reduceEqDiff, Nat.reduceLeDiff, Nat.reduceAdd, Nat.reduceMul, Int.reduceToNat, Nat.reducePow, ↓reduceIte, reduceCtorEq, hb, upd_known hb, box_set hb])) | (refine awp_cond _ rfl (fun hc => ?_) (fun hc => ?_) <;> (try (simp only [decide_eq_true_eq, decide_eq_false_iff_not, Bool.or_eq_true, Bool.and_eq_true, Bool.not_eq_true', Bool.not_eq_false', Bool.or_eq_false_iff, Bool.and_eq_false_imp, Bool.not_eq_false, Bool.not_eq_true, Bool.not_true, Bool.not_false, Bool.true_eq_false, Bool.false_eq_true, not_true_eq_false, Decidable.not_not, ite_or, ite_and] at hc)) <;> (try (exfalso; omega))) | (refine awp_skip ?_; (try simp only [sq, bk, ↓reduceIte, Nat.reduceEqDiff, reduceCtorEq])) | (refine awp_exit ?_; (try simp only [sq, bk, ↓reduceIte, Nat.reduceEqDiff, reduceCtorEq])) | (refine awp_ret ?_) | (refine hK _ ?_; clear hK; (try clear K)) | (refine kk (by assumption) ?_))))
      rw [hf]
      exact fin_le (.con (.int .u64 ((0 : Nat) : Int))) (H.set id (rdA ([], true))) (by simp [resOk]) (by simp only [go_sem, Nat.reduceLT, Nat.reduceEqDiff, Nat.reduceLeDiff, Nat.reduceAdd, Nat.reduceMul, Int.reduceToNat, Nat.reducePow, ↓reduceIte, reduceCtorEq]) (by ((try dsimp only); repeat' ((refine weak_set (by (repeat' (first | exact .refl _ | exact AV.le_nil | refine lec_cons ?_ ?_))))))) ⟨rfl, rfl⟩
  · obtain rfl : i = 10 := by omega
    have hf := fail (by rw [he]; rfl)
    ((repeat' (first | (refine awp_seq_k (fun K hK => ?_)) | (refine awp_reg _ rfl ?_; (try simp only [go_sem, Nat.reduceLT, Nat.reduceEqDiff, Nat.reduceLeDiff, Nat.reduceAdd, Nat.reduceMul, Int.reduceToNat, Nat.reducePow, ↓reduceIte, reduceCtorEq, hb, upd_known hb, box_set hb])) | (refine awp_cond _ rfl (fun hc => ?_) (fun hc => ?_) <;> (try (simp only [decide_eq_true_eq, decide_eq_false_iff_not, Bool.or_eq_true, Bool.and_eq_true, Bool.not_eq_true', Bool.not_eq_false', Bool.or_eq_false_iff, Bool.and_eq_false_imp, Bool.not_eq_false, Bool.not_eq_true, Bool.not_true, Bool.not_false, Bool.true_eq_false, Bool.false_eq_true, not_true_eq_false, Decidable.not_not, ite_or, ite_and] at hc)) <;> (try (exfalso; omega))) | (refine awp_exit ?_; (try simp only [sq, bk, ↓reduceIte, Nat.reduceEqDiff, reduceCtorEq])) | (refine awp_ret ?_) | (refine hK _ ?_; clear hK; (try clear K)) | (refine kk (by assumption) ?_))))
    rw [hf]
    exact fin_le (.con (.int .u64 ((0 : Nat) : Int))) (H.set id (rdA ([], true))) (by simp [resOk]) (by simp only [go_sem, Nat.reduceLT, Nat.reduceEqDiff, Nat.reduceLeDiff, Nat.reduceAdd, Nat.reduceMul, Int.reduceToNat, Nat.reducePow, ↓reduceIte, reduceCtorEq]) (by ((try dsimp only); repeat' ((refine weak_set (by (repeat' (first | exact .refl _ | exact AV.le_nil | refine lec_cons ?_ ?_))))))) ⟨rfl, rfl⟩
theorem rNum_lt (s : Rd) : (rNum s).1 < 18446744073709551616 := by
  have hN : ∀ f i b p, rdN f i b = some p → i + f = 10 → p.1 < 2 ^ (64 - 7 * i) := by
    intro f
    induction f with
    | zero => intro i b p h; simp [rdN] at h
    | succ f ih =>
      intro i b p h hi
      cases b with
      | nil => simp [rdN] at h
      | cons c r =>
        rw [rdN] at h
        split at h
        · cases h
        · rename_i h9
          split at h
          · rename_i hc
            injection h with h; subst h
            simp only
            by_cases e : i = 9
            · subst e
              have : c.toNat ≤ 1 := by omega
              simp; omega
            · have : 2 ^ 7 ≤ 2 ^ (64 - 7 * i) := Nat.pow_le_pow_right (by omega) (by omega)
              omega
          · rename_i hc
            have e : i ≠ 9 := fun e => h9 ⟨e, by omega⟩
            cases hr : rdN f (i + 1) r with
            | none => rw [hr] at h; cases h
            | some q =>
              rw [hr] at h
              simp only [Option.map_some, Option.some.injEq] at h
              subst h
              have := ih (i + 1) r q hr (by omega)
              simp only
              have e2 : 2 ^ (64 - 7 * i) = 128 * 2 ^ (64 - 7 * (i + 1)) := by
                rw [show 64 - 7 * i = 7 + (64 - 7 * (i + 1)) by omega, Nat.pow_add]
              omega
  unfold rNum
  cases h : rdN 10 0 s.1 with
  | none => simp
  | some p => exact hN 10 0 s.1 p h rfl
theorem rdN_len : ∀ f i b p, rdN f i b = some p → p.2.1.length ≤ b.length := by
  intro f
  induction f with
  | zero => intro i b p h; simp [rdN] at h
  | succ f ih =>
    intro i b p h
    cases b with
    | nil => simp [rdN] at h
    | cons c r =>
      rw [rdN] at h
      split at h
      · cases h
      · split at h
        · injection h with h; subst h; simp
        · cases hr : rdN f (i + 1) r with
          | none => rw [hr] at h; cases h
          | some q =>
            rw [hr] at h
            simp only [Option.map_some, Option.some.injEq] at h
            subst h
            have := ih (i + 1) r q hr
            simp only [List.length_cons]; omega
theorem rNum_len (s : Rd) : (rNum s).2.1.length ≤ s.1.length := by
  unfold rNum
  cases h : rdN 10 0 s.1 with
  | none => simp
  | some p => exact rdN_len _ _ _ p h
theorem rMany_le (s : Rd) : (rMany s).1 ≤ (rMany s).2.1.length ∧ (rMany s).2.1.length ≤ s.1.length := by
  have := rNum_len s
  unfold rMany
  simp only
  split
  · simp only; omega
  · omega
theorem c_rdmany (s : Rd) (id : Nat) (H : Hp) (hb : H.box id = some (rdA s)) (hl : s.1.length ≤ 1000000000) :
    ACalls Try.prog 70 [.ptr id 0] H fun r H' => r = .con (.int .i64 ((rMany s).1 : Nat)) ∧ H' = H.set id (rdA (rMany s).2) := by
  have h1 := rNum_len s
  have h2 := rNum_lt s
  have hu : IntKind.u64.wrap (((rNum s).2.1.length : Nat) : Int) = ((rNum s).2.1.length : Int) := u64_nat (by omega)
  have hrm : rMany s = if (rNum s).2.1.length < (rNum s).1 then (0, ((rNum s).2.1, true)) else rNum s := rfl
  refine acalls_of (by kernel_rfl) Try.func70 rfl 19 Try.ntmps70 (by simp) [.tmp 2] rfl ?_
  ((repeat' (first | (refine awp_seq_k (fun K hK => ?_)) | (refine awp_reg _ rfl ?_; (try simp only [go_sem, Nat.reduceLT, Nat.reduceEqDiff, Nat.reduceLeDiff, Nat.reduceAdd, Nat.reduceMul, Int.reduceToNat, Nat.reducePow, ↓reduceIte, reduceCtorEq, box_set hb, hu])) | (refine awp_cond _ rfl (fun hc => ?_) (fun hc => ?_) <;> (try (simp only [decide_eq_true_eq, decide_eq_false_iff_not, Bool.or_eq_true, Bool.and_eq_true, Bool.not_eq_true', Bool.not_eq_false', Bool.or_eq_false_iff, Bool.and_eq_false_imp, Bool.not_eq_false, Bool.not_eq_true, Bool.not_true, Bool.not_false, Bool.true_eq_false, Bool.false_eq_true, not_true_eq_false, Decidable.not_not, ite_or, ite_and] at hc))) | (refine awp_skip ?_; (try simp only [sq, bk, ↓reduceIte, Nat.reduceEqDiff, reduceCtorEq])) | (refine awp_ret ?_; (try simp only [sq, bk, ↓reduceIte, Nat.reduceEqDiff, reduceCtorEq])) | (refine ACalls.det (c_rdnumber s id H hb hl) ?_ <;> (try simp only [go_sem, Nat.reduceLT, Nat.reduceEqDiff, Nat.reduceLeDiff, Nat.reduceAdd, Nat.reduceMul, Int.reduceToNat, Nat.reducePow, ↓reduceIte, reduceCtorEq, box_set hb, hu])) | (refine hK _ ?_; clear hK; (try clear K)))))
  · rw [hrm, if_pos (by omega)]
    exact fin_le (.con (.int .i64 ((0 : Nat) : Int))) (H.set id (rdA ((rNum s).2.1, true))) (by simp [resOk]) (by simp only [go_sem, Nat.reduceLT, Nat.reduceEqDiff, Nat.reduceLeDiff, Nat.reduceAdd, Nat.reduceMul, Int.reduceToNat, Nat.reducePow, ↓reduceIte, reduceCtorEq]) (by ((try dsimp only); repeat' ((with_reducible exact .refl _)))) ⟨rfl, rfl⟩
  · rw [hrm, if_neg (by omega)]
    exact fin_le (.con (.int .i64 ((rNum s).1 : Nat))) (H.set id (rdA (rNum s).2)) (by simp [resOk]) (by simp only [go_sem, Nat.reduceLT, Nat.reduceEqDiff, Nat.reduceLeDiff, Nat.reduceAdd, Nat.reduceMul, Int.reduceToNat, Nat.reducePow, ↓reduceIte, reduceCtorEq, wrap_nat (rNum s).1 (by omega)]) (by ((try dsimp only); repeat' ((with_reducible exact .refl _)))) ⟨rfl, rfl⟩
@[go_sem] theorem strOfNums_enc (l : Byt) : strOfNums ((encB l).map byteN) = bs l := by
  unfold strOfNums encB bs
  congr 2
  rw [List.map_map, List.map_map]
  conv => rhs; rw [← List.map_id l]
  refine List.map_congr_left fun b _ => ?_
  simp only [Function.comp, cU8, byteN, Int.toNat_natCast, id]
  exact UInt8.ofNat_toNat
@[go_sem] theorem encB_isB (l : Byt) : (∀ y, y ∈ encB l → isB y) = True := eq_true fun y hy => by obtain ⟨b, _, rfl⟩ := List.mem_map.1 hy; exact True.intro
theorem rText_eq (s : Rd) : rText s = ((rMany s).2.1.take (rMany s).1, ((rMany s).2.1.drop (rMany s).1, (rMany s).2.2)) := rfl
theorem c_rdtext (s : Rd) (id : Nat) (H : Hp) (hb : H.box id = some (rdA s)) (hl : s.1.length ≤ 1000000000) :
    ACalls Try.prog 71 [.ptr id 0] H fun r H' => r = .con (.string (bs (rText s).1)) ∧ H' = H.set id (rdA (rText s).2) := by
  obtain ⟨h1, h2⟩ := rMany_le s
  refine acalls_of (by kernel_rfl) Try.func71 rfl 24 Try.ntmps71 (by simp) [.tmp 2] rfl ?_
  ((repeat' (first | (refine awp_seq_k (fun K hK => ?_)) | (refine awp_reg _ rfl ?_; (try simp only [go_sem, Nat.reduceLT, Nat.reduceEqDiff, Nat.reduceLeDiff, Nat.reduceAdd, Nat.reduceMul, Int.reduceToNat, Nat.reducePow, ↓reduceIte, reduceCtorEq, box_set hb, encB_take, encB_drop, List.take_length])) | (refine awp_ret ?_) | (refine ACalls.det (c_rdmany s id H hb hl) ?_ <;> (try simp only [go_sem, Nat.reduceLT, Nat.reduceEqDiff, Nat.reduceLeDiff, Nat.reduceAdd, Nat.reduceMul, Int.reduceToNat, Nat.reducePow, ↓reduceIte, reduceCtorEq, box_set hb, encB_take, encB_drop, List.take_length])) | (with_reducible apply And.intro) | (refine hK _ ?_; clear hK; (try clear K)))); (all_goals (try ((omega)))))
  rw [rText_eq]
  exact fin_le (.con (.string (bs ((rMany s).2.1.take (rMany s).1)))) (H.set id (rdA ((rMany s).2.1.drop (rMany s).1, (rMany s).2.2))) (by simp [resOk]) (by simp only [go_sem, Nat.reduceLT, Nat.reduceEqDiff, Nat.reduceLeDiff, Nat.reduceAdd, Nat.reduceMul, Int.reduceToNat, Nat.reducePow, ↓reduceIte, reduceCtorEq]) (by ((try dsimp only); repeat' ((with_reducible exact .refl _)))) ⟨rfl, rfl⟩
theorem unz_odd (n : Nat) (h : n < 18446744073709551616) : IntKind.i64.wrap (Go.bits .xor .u64 (if IntKind.u64.signed = true then -1 else IntKind.u64.max) ((n / 2 : Nat) : Int)) = -((n / 2 : Nat) : Int) - 1 := by
  rw [show (if IntKind.u64.signed = true then -1 else IntKind.u64.max) = ((2 ^ 64 - 1 : Nat) : Int) from by decide, bits_xor_u64_nat _ _ (by decide) (by omega), Lib.xor_ones64 _ (by omega), IntWalk.i64_left]
  unfold RowKit.wrap64
  omega
theorem rText_len (s : Rd) : (rText s).2.1.length ≤ s.1.length := by
  have := rMany_le s
  rw [rText_eq]; simp only [List.length_drop]; omega
theorem c_rdvalue (s : Rd) (rid : Nat) (H : Hp) (hb : H.box rid = some (rdA s)) (hl : s.1.length ≤ 1000000000) :
    ACalls Try.prog 72 [.ptr rid 0] H fun r H' => r = cV (rVal s).1 ∧ H' = H.set rid (rdA (rVal s).2) := by
  have h1 := rNum_lt s
  have h2 := rNum_lt (rNum s).2
  have h3 := rNum_len s
  have hu := unz_odd (rNum (rNum s).2).1 h2
  have ha := Lib.u64_and1 ((rNum (rNum s).2).1 : Int) (by omega) (by omega)
  have hv : rVal s = if 12 < (rNum s).1 then (.mk 0 0 ⟨#[]⟩ [], ((rNum s).2.1, true)) else
    if (rNum s).1 = 5 then (.mk 5 0 (bs (rText (rNum s).2).1) [], (rText (rNum s).2).2) else
    (.mk (rNum s).1 (unzig (rNum (rNum s).2).1) ⟨#[]⟩ [], (rNum (rNum s).2).2) := rfl
  have hk : ¬ 12 < (rNum s).1 → IntKind.i64.wrap (((rNum s).1 : Nat) : Int) = ((rNum s).1 : Int) := fun h => wrap_nat (rNum s).1 (by omega)
  have hn : IntKind.i64.wrap (((rNum (rNum s).2).1 / 2 : Nat) : Int) = (((rNum (rNum s).2).1 / 2 : Nat) : Int) := wrap_id (by omega) (by omega)
  have hle : ∀ (a b : Int) (s : ByteArray), (AV.agg [.con (.int .i64 a), .con (.int .i64 b), .con (.string s), .con (.slice none 0 0)]).le (cV (.mk a b s [])) := fun a b s => AV.le_aggc rfl (lec_cons (.refl _) (lec_cons (.refl _) (lec_cons (.refl _) (lec_cons (by simp only [Val.fs, encFs]; exact AV.le_nil) lec_nil))))
  refine acalls_of (by kernel_rfl) Try.func72 rfl 39 Try.ntmps72 (by simp) [.cell 2 50] rfl ?_
  by_cases h12 : 12 < (rNum s).1
  · rw [if_pos h12] at hv
    rw [hv]
    ((repeat' (first | (refine awp_seq_k (fun K hK => ?_)) | (refine awp_reg _ rfl ?_; (try simp only [go_sem, Nat.reduceLT, Nat.reduceEqDiff, Nat.reduceLeDiff, Nat.reduceAdd, Nat.reduceMul, Int.reduceToNat, Nat.reducePow, ↓reduceIte, reduceCtorEq, box_set hb, hb, box_setB hb])) | (refine awp_cond _ rfl (fun hc => ?_) (fun hc => ?_) <;> (try (simp only [decide_eq_true_eq, decide_eq_false_iff_not, Bool.or_eq_true, Bool.and_eq_true, Bool.not_eq_true', Bool.not_eq_false', Bool.or_eq_false_iff, Bool.and_eq_false_imp, Bool.not_eq_false, Bool.not_eq_true, Bool.not_true, Bool.not_false, Bool.true_eq_false, Bool.false_eq_true, not_true_eq_false, Decidable.not_not, ite_or, ite_and] at hc)) <;> (try (exfalso; omega))) | (refine awp_ret ?_; (try simp only [sq, bk, ↓reduceIte, Nat.reduceEqDiff, reduceCtorEq])) | (refine ACalls.det (c_rdnumber s rid _ ?_ hl) ?_; (focus ((simp only [go_sem, Nat.reduceLT, Nat.reduceEqDiff, Nat.reduceLeDiff, Nat.reduceAdd, Nat.reduceMul, Int.reduceToNat, Nat.reducePow, ↓reduceIte, reduceCtorEq, hb]); done)); (try simp only [go_sem, Nat.reduceLT, Nat.reduceEqDiff, Nat.reduceLeDiff, Nat.reduceAdd, Nat.reduceMul, Int.reduceToNat, Nat.reducePow, ↓reduceIte, reduceCtorEq, box_set hb, hb, box_setB hb])) | (refine all_fresh fun id fr => ?_; (try have := NeI.of_box fr (by assumption))) | (refine hK _ ?_; clear hK; (try clear K)))))
    exact fin_le _ (H.set rid (rdA ((rNum s).2.1, true))) (by (try simp only [List.mem_singleton, forall_eq, List.mem_cons, List.not_mem_nil, or_false, forall_eq_or_imp, and_self, resOk]); (try simp only [go_sem, Nat.reduceLT, Nat.reduceEqDiff, Nat.reduceLeDiff, Nat.reduceAdd, Nat.reduceMul, Int.reduceToNat, Nat.reducePow, ↓reduceIte, reduceCtorEq])) (by simp only [go_sem, Nat.reduceLT, Nat.reduceEqDiff, Nat.reduceLeDiff, Nat.reduceAdd, Nat.reduceMul, Int.reduceToNat, Nat.reducePow, ↓reduceIte, reduceCtorEq]; exact hle _ _ _) (by ((try dsimp only); repeat' (first | exact set_none (fresh.box (by assumption)) | refine weak_set (by (repeat' (first | exact lec_nil | exact .refl _))) | refine weak_box ?_ ?_))) ⟨rfl, rfl⟩
  · rw [if_neg h12] at hv
    have hk := hk h12
    by_cases h5 : (rNum s).1 = 5
    · rw [if_pos h5] at hv
      rw [hv]
      ((repeat' (first | (refine awp_seq_k (fun K hK => ?_)) | (refine awp_reg _ rfl ?_; (try simp only [go_sem, Nat.reduceLT, Nat.reduceEqDiff, Nat.reduceLeDiff, Nat.reduceAdd, Nat.reduceMul, Int.reduceToNat, Nat.reducePow, ↓reduceIte, reduceCtorEq, box_set hb, hb, box_setB hb, hk])) | (refine awp_cond _ rfl (fun hc => ?_) (fun hc => ?_) <;> (try (simp only [decide_eq_true_eq, decide_eq_false_iff_not, Bool.or_eq_true, Bool.and_eq_true, Bool.not_eq_true', Bool.not_eq_false', Bool.or_eq_false_iff, Bool.and_eq_false_imp, Bool.not_eq_false, Bool.not_eq_true, Bool.not_true, Bool.not_false, Bool.true_eq_false, Bool.false_eq_true, not_true_eq_false, Decidable.not_not, ite_or, ite_and] at hc)) <;> (try (exfalso; omega))) | (refine awp_skip ?_; (try simp only [sq, bk, ↓reduceIte, Nat.reduceEqDiff, reduceCtorEq])) | (refine awp_ret ?_; (try simp only [sq, bk, ↓reduceIte, Nat.reduceEqDiff, reduceCtorEq])) | (refine ACalls.det (c_rdnumber s rid _ ?_ hl) ?_; (focus ((simp only [go_sem, Nat.reduceLT, Nat.reduceEqDiff, Nat.reduceLeDiff, Nat.reduceAdd, Nat.reduceMul, Int.reduceToNat, Nat.reducePow, ↓reduceIte, reduceCtorEq, hb]); done)); (try simp only [go_sem, Nat.reduceLT, Nat.reduceEqDiff, Nat.reduceLeDiff, Nat.reduceAdd, Nat.reduceMul, Int.reduceToNat, Nat.reducePow, ↓reduceIte, reduceCtorEq, box_set hb, hb, box_setB hb, hk])) | (refine ACalls.det (c_rdtext (rNum s).2 rid _ ?_ (by omega)) ?_; (focus ((simp only [go_sem, Nat.reduceLT, Nat.reduceEqDiff, Nat.reduceLeDiff, Nat.reduceAdd, Nat.reduceMul, Int.reduceToNat, Nat.reducePow, ↓reduceIte, reduceCtorEq, box_setB hb, box_set hb]); done)); (try simp only [go_sem, Nat.reduceLT, Nat.reduceEqDiff, Nat.reduceLeDiff, Nat.reduceAdd, Nat.reduceMul, Int.reduceToNat, Nat.reducePow, ↓reduceIte, reduceCtorEq, box_set hb, hb, box_setB hb, hk])) | (refine orAt_l ?_) | (refine all_fresh fun id fr => ?_; (try have := NeI.of_fr fr); (try have := NeI.of_box fr (by assumption)); (try have := NeI.of_setB (fr_drop fr) (by assumption))) | (refine hK _ ?_; clear hK; (try clear K)))))
      exact fin_le _ (H.set rid (rdA (rText (rNum s).2).2)) (by (try simp only [List.mem_singleton, forall_eq, List.mem_cons, List.not_mem_nil, or_false, forall_eq_or_imp, and_self, resOk]); (try simp only [go_sem, Nat.reduceLT, Nat.reduceEqDiff, Nat.reduceLeDiff, Nat.reduceAdd, Nat.reduceMul, Int.reduceToNat, Nat.reducePow, ↓reduceIte, reduceCtorEq])) (by simp only [go_sem, Nat.reduceLT, Nat.reduceEqDiff, Nat.reduceLeDiff, Nat.reduceAdd, Nat.reduceMul, Int.reduceToNat, Nat.reducePow, ↓reduceIte, reduceCtorEq]; rw [h5]; exact hle _ _ _) (by ((try dsimp only); repeat' (first | exact set_none (fresh.box (by assumption)) | exact set_any (fr_drop (by assumption)).1 | refine weak_set (by (repeat' (first | exact lec_nil | exact .refl _))) | refine weak_box ?_ ?_))) ⟨rfl, rfl⟩
    · rw [if_neg h5] at hv
      rw [hv]
      by_cases ho : (rNum (rNum s).2).1 % 2 = 1
      · ((repeat' (first | (refine awp_seq_k (fun K hK => ?_)) | (refine awp_reg _ rfl ?_; (try simp only [go_sem, Nat.reduceLT, Nat.reduceEqDiff, Nat.reduceLeDiff, Nat.reduceAdd, Nat.reduceMul, Int.reduceToNat, Nat.reducePow, ↓reduceIte, reduceCtorEq, box_set hb, hb, box_setB hb, hk, hn, hu, ha])) | (refine awp_cond _ rfl (fun hc => ?_) (fun hc => ?_) <;> (try (simp only [decide_eq_true_eq, decide_eq_false_iff_not, Bool.or_eq_true, Bool.and_eq_true, Bool.not_eq_true', Bool.not_eq_false', Bool.or_eq_false_iff, Bool.and_eq_false_imp, Bool.not_eq_false, Bool.not_eq_true, Bool.not_true, Bool.not_false, Bool.true_eq_false, Bool.false_eq_true, not_true_eq_false, Decidable.not_not, ite_or, ite_and] at hc)) <;> (try (exfalso; omega))) | (refine awp_skip ?_; (try simp only [sq, bk, ↓reduceIte, Nat.reduceEqDiff, reduceCtorEq])) | (refine awp_ret ?_; (try simp only [sq, bk, ↓reduceIte, Nat.reduceEqDiff, reduceCtorEq])) | (refine ACalls.det (c_rdnumber s rid _ ?_ hl) ?_; (focus ((simp only [go_sem, Nat.reduceLT, Nat.reduceEqDiff, Nat.reduceLeDiff, Nat.reduceAdd, Nat.reduceMul, Int.reduceToNat, Nat.reducePow, ↓reduceIte, reduceCtorEq, hb]); done)); (try simp only [go_sem, Nat.reduceLT, Nat.reduceEqDiff, Nat.reduceLeDiff, Nat.reduceAdd, Nat.reduceMul, Int.reduceToNat, Nat.reducePow, ↓reduceIte, reduceCtorEq, box_set hb, hb, box_setB hb, hk, hn, hu, ha])) | (refine ACalls.det (c_rdnumber (rNum s).2 rid _ ?_ (by omega)) ?_; (focus ((simp only [go_sem, Nat.reduceLT, Nat.reduceEqDiff, Nat.reduceLeDiff, Nat.reduceAdd, Nat.reduceMul, Int.reduceToNat, Nat.reducePow, ↓reduceIte, reduceCtorEq, box_setB hb, box_set hb]); done)); (try simp only [go_sem, Nat.reduceLT, Nat.reduceEqDiff, Nat.reduceLeDiff, Nat.reduceAdd, Nat.reduceMul, Int.reduceToNat, Nat.reducePow, ↓reduceIte, reduceCtorEq, box_set hb, hb, box_setB hb, hk, hn, hu, ha])) | (refine orAt_l ?_) | (with_reducible apply And.intro) | (refine all_fresh fun id fr => ?_; (try have := NeI.of_fr fr); (try have := NeI.of_box fr (by assumption)); (try have := NeI.of_setB (fr_drop fr) (by assumption))) | (refine hK _ ?_; clear hK; (try clear K)))); (all_goals (try ((omega)))))
        exact fin_le _ (H.set rid (rdA (rNum (rNum s).2).2)) (by (try simp only [List.mem_singleton, forall_eq, List.mem_cons, List.not_mem_nil, or_false, forall_eq_or_imp, and_self, resOk]); (try simp only [go_sem, Nat.reduceLT, Nat.reduceEqDiff, Nat.reduceLeDiff, Nat.reduceAdd, Nat.reduceMul, Int.reduceToNat, Nat.reducePow, ↓reduceIte, reduceCtorEq])) (by simp only [go_sem, Nat.reduceLT, Nat.reduceEqDiff, Nat.reduceLeDiff, Nat.reduceAdd, Nat.reduceMul, Int.reduceToNat, Nat.reducePow, ↓reduceIte, reduceCtorEq, hu]; rw [show unzig (rNum (rNum s).2).1 = -(((rNum (rNum s).2).1 / 2 : Nat) : Int) - 1 from if_pos ho]; exact hle _ _ _) (by ((try dsimp only); repeat' (first | exact set_none (fresh.box (by assumption)) | exact set_any (fr_drop (by assumption)).1 | refine weak_set (by (repeat' (first | exact lec_nil | exact .refl _))) | refine weak_box ?_ ?_))) ⟨rfl, rfl⟩
      · ((repeat' (first | (refine awp_seq_k (fun K hK => ?_)) | (refine awp_reg _ rfl ?_; (try simp only [go_sem, Nat.reduceLT, Nat.reduceEqDiff, Nat.reduceLeDiff, Nat.reduceAdd, Nat.reduceMul, Int.reduceToNat, Nat.reducePow, ↓reduceIte, reduceCtorEq, box_set hb, hb, box_setB hb, hk, hn, hu, ha])) | (refine awp_cond _ rfl (fun hc => ?_) (fun hc => ?_) <;> (try (simp only [decide_eq_true_eq, decide_eq_false_iff_not, Bool.or_eq_true, Bool.and_eq_true, Bool.not_eq_true', Bool.not_eq_false', Bool.or_eq_false_iff, Bool.and_eq_false_imp, Bool.not_eq_false, Bool.not_eq_true, Bool.not_true, Bool.not_false, Bool.true_eq_false, Bool.false_eq_true, not_true_eq_false, Decidable.not_not, ite_or, ite_and] at hc)) <;> (try (exfalso; omega))) | (refine awp_skip ?_; (try simp only [sq, bk, ↓reduceIte, Nat.reduceEqDiff, reduceCtorEq])) | (refine awp_ret ?_; (try simp only [sq, bk, ↓reduceIte, Nat.reduceEqDiff, reduceCtorEq])) | (refine ACalls.det (c_rdnumber s rid _ ?_ hl) ?_; (focus ((simp only [go_sem, Nat.reduceLT, Nat.reduceEqDiff, Nat.reduceLeDiff, Nat.reduceAdd, Nat.reduceMul, Int.reduceToNat, Nat.reducePow, ↓reduceIte, reduceCtorEq, hb]); done)); (try simp only [go_sem, Nat.reduceLT, Nat.reduceEqDiff, Nat.reduceLeDiff, Nat.reduceAdd, Nat.reduceMul, Int.reduceToNat, Nat.reducePow, ↓reduceIte, reduceCtorEq, box_set hb, hb, box_setB hb, hk, hn, hu, ha])) | (refine ACalls.det (c_rdnumber (rNum s).2 rid _ ?_ (by omega)) ?_; (focus ((simp only [go_sem, Nat.reduceLT, Nat.reduceEqDiff, Nat.reduceLeDiff, Nat.reduceAdd, Nat.reduceMul, Int.reduceToNat, Nat.reducePow, ↓reduceIte, reduceCtorEq, box_setB hb, box_set hb]); done)); (try simp only [go_sem, Nat.reduceLT, Nat.reduceEqDiff, Nat.reduceLeDiff, Nat.reduceAdd, Nat.reduceMul, Int.reduceToNat, Nat.reducePow, ↓reduceIte, reduceCtorEq, box_set hb, hb, box_setB hb, hk, hn, hu, ha])) | (refine orAt_l ?_) | (with_reducible apply And.intro) | (refine all_fresh fun id fr => ?_; (try have := NeI.of_fr fr); (try have := NeI.of_box fr (by assumption)); (try have := NeI.of_setB (fr_drop fr) (by assumption))) | (refine hK _ ?_; clear hK; (try clear K)))); (all_goals (try ((omega)))))
        exact fin_le _ (H.set rid (rdA (rNum (rNum s).2).2)) (by (try simp only [List.mem_singleton, forall_eq, List.mem_cons, List.not_mem_nil, or_false, forall_eq_or_imp, and_self, resOk]); (try simp only [go_sem, Nat.reduceLT, Nat.reduceEqDiff, Nat.reduceLeDiff, Nat.reduceAdd, Nat.reduceMul, Int.reduceToNat, Nat.reducePow, ↓reduceIte, reduceCtorEq])) (by simp only [go_sem, Nat.reduceLT, Nat.reduceEqDiff, Nat.reduceLeDiff, Nat.reduceAdd, Nat.reduceMul, Int.reduceToNat, Nat.reducePow, ↓reduceIte, reduceCtorEq]; rw [show unzig (rNum (rNum s).2).1 = (((rNum (rNum s).2).1 / 2 : Nat) : Int) from if_neg ho]; exact hle _ _ _) (by ((try dsimp only); repeat' (first | exact set_none (fresh.box (by assumption)) | exact set_any (fr_drop (by assumption)).1 | refine weak_set (by (repeat' (first | exact lec_nil | exact .refl _))) | refine weak_box ?_ ?_))) ⟨rfl, rfl⟩
end Go.Proofs.Ytdlbbcjacjockaa
