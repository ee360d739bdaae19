/-
  A part of the proof: its theorems say what each gives.
-/
import Derived.Test.YtdlbbcjacjockaaKLe
import Derived.Test.YtdlbbcjacjockaaKVf
set_option maxRecDepth 100000
set_option maxHeartbeats 4000000
set_option linter.unusedSimpArgs false
set_option linter.unusedVariables false
namespace Go.Proofs.Ytdlbbcjacjockaa
open Go Fw
/-! Bytes: Clone, Equal, Sum. -/
theorem c_CloneB (l : Byt) (hl : l.length ≤ 1000000000) (H : Hp) : ACalls Try.prog 14 [.list (encB l) none] H
    (fun r H' => ∃ t, fresh H t ∧ r = .list (encB l) (some t) ∧ H' = ⟨H.bx, (t, l.length, 5, 1) :: H.tk⟩) := by
  refine acalls_niltok 5 1 (R := fun r H' => (l = [] ∧ r = .con (.slice none 0 0) ∧ H' = H) ∨ ∃ t, fresh H t ∧ r = .list (encB l) (some t) ∧ H' = ⟨H.bx, (t, l.length, 5, 1) :: H.tk⟩) ?_ (fun r H' h => by
    rcases h with ⟨rfl, rfl, rfl⟩ | h
    · exact .inr ⟨rfl, fun t ht => ⟨t, ht, rfl, rfl⟩⟩
    · exact .inl h)
  refine acalls_of (by kernel_rfl) Try.func14 rfl 8 Try.ntmps14 (by simp) [.tmp 2] rfl ?_
  ((repeat' (first | (refine awp_seq_k (fun K hK => ?_)) | (refine awp_reg _ rfl ?_; (try simp only [go_sem, Nat.reduceLT, Nat.reduceEqDiff, Nat.reduceLeDiff, Nat.reduceAdd, Nat.reduceMul, Int.reduceToNat, Nat.reducePow, ↓reduceIte, reduceCtorEq])) | (refine awp_cond _ rfl (fun hc => ?_) (fun hc => ?_)) | (refine awp_skip ?_; (try simp only [sq, bk, ↓reduceIte, Nat.reduceEqDiff, reduceCtorEq])) | (refine awp_ret ?_; (try simp only [sq, bk, ↓reduceIte, Nat.reduceEqDiff, reduceCtorEq])) | (refine orAt_r 5 ?_) | (with_reducible apply And.intro) | (refine all_fresh fun id fr => ?_) | (refine all_nil fun b hb => ?_) | (refine hK _ ?_; clear hK; (try clear K)))); (all_goals (try ((omega)))))
  · refine fin_any (x := .con (.slice none 0 0)) (H := H) (by (try simp only [List.mem_singleton, forall_eq, resOk, List.mem_cons, List.not_mem_nil, or_false, forall_eq_or_imp, and_self])) (by (try simp only [go_sem, Nat.reduceLT, Nat.reduceEqDiff, Nat.reduceLeDiff, Nat.reduceAdd, Nat.reduceMul, Int.reduceToNat, Nat.reducePow, ↓reduceIte, reduceCtorEq])) (by ((try dsimp only); repeat' ((with_reducible exact .refl _)))) ?_
    exact .inl ⟨by have := hb hc; unfold encB at this; simpa using this, rfl, rfl⟩
  · refine fin_any (x := .list (encB l) (some id)) (H := ⟨H.bx, (id, l.length, 5, 1) :: H.tk⟩) (by (try simp only [List.mem_singleton, forall_eq, resOk, List.mem_cons, List.not_mem_nil, or_false, forall_eq_or_imp, and_self])) (by (try simp only [go_sem, Nat.reduceLT, Nat.reduceEqDiff, Nat.reduceLeDiff, Nat.reduceAdd, Nat.reduceMul, Int.reduceToNat, Nat.reducePow, ↓reduceIte, reduceCtorEq])) (by ((try dsimp only); (try simp only [ List.length_append, List.length_cons, List.length_nil, Nat.zero_add]); repeat' (((refine weak_tokeq (by (rfl))))))) ?_
    exact .inr ⟨id, fr, rfl, rfl⟩
theorem take_succ_eq {a b : Byt} {i : Nat} (ha : i < a.length) (hb : i < b.length) (h : a.take i = b.take i) (he : bAt a i = bAt b i) : a.take (i + 1) = b.take (i + 1) := by
  rw [List.take_succ_eq_append_getElem ha, List.take_succ_eq_append_getElem hb, h]
  simp only [bAt, List.getD_eq_getElem?_getD, List.getElem?_eq_getElem ha, List.getElem?_eq_getElem hb, Option.getD_some] at he
  rw [UInt8.toNat_inj.1 he]
theorem c_EqualB (a b : Byt) (H : Hp) (ha : a.length ≤ 1000000000) (hb : b.length ≤ 1000000000) : PureAt Try.prog 47 [.list (encB a) none, .list (encB b) none] H (.con (.bool (decide (a = b)))) := by
  refine acalls_of (by kernel_rfl) Try.func47 rfl 26 Try.ntmps47 (by simp) [.tmp 4] rfl ?_
  ((repeat' (first | (refine awp_seq_k (fun K hK => ?_)) | (refine awp_block ?_) | (refine awp_reg _ rfl ?_; (try simp only [go_sem, Nat.reduceLT, Nat.reduceEqDiff, Nat.reduceLeDiff, Nat.reduceAdd, Nat.reduceMul, Int.reduceToNat, Nat.reducePow, ↓reduceIte, reduceCtorEq])) | (refine awp_cond _ rfl (fun hc => ?_) (fun hc => ?_) <;> (try (simp only [decide_eq_true_eq, decide_eq_false_iff_not, Bool.or_eq_true, Bool.and_eq_true, Bool.not_eq_true', Bool.not_eq_false', Bool.or_eq_false_iff, Bool.and_eq_false_imp, Bool.not_eq_false, Bool.not_eq_true, Bool.not_true, Bool.not_false, Bool.true_eq_false, Bool.false_eq_true, not_true_eq_false, Decidable.not_not, ite_or, ite_and] at hc))) | (refine awp_skip ?_; (try simp only [sq, bk, ↓reduceIte, Nat.reduceEqDiff, reduceCtorEq])) | (refine awp_ret ?_; (try simp only [sq, bk, ↓reduceIte, Nat.reduceEqDiff, reduceCtorEq])) | (refine hK _ ?_; clear hK; (try clear K)))))
  · have : a ≠ b := fun e => hc (by rw [e])
    ((all_goals (try refine fin_pure (by (try simp only [List.mem_singleton, forall_eq, resOk, List.mem_cons, List.not_mem_nil, or_false, forall_eq_or_imp, and_self])) ?_ (by ((try dsimp only); repeat' ((with_reducible exact .refl _)))))); (all_goals (try simp only [go_sem, Nat.reduceLT, Nat.reduceEqDiff, Nat.reduceLeDiff, Nat.reduceAdd, Nat.reduceMul, Int.reduceToNat, Nat.reducePow, ↓reduceIte, reduceCtorEq, this])); (all_goals (try (((simp [*, this]; done))))))
  have hl : a.length = b.length := by omega
  refine awp_loop (ι := Nat) (fun i => ⟨26, [(0, .list (encB a) none), (1, .list (encB b) none), (12, .con (.int .i64 a.length)), (13, .con (.int .i64 (i : Int)))], H⟩) (fun i => i ≤ a.length ∧ a.take i = b.take i) (fun i => a.length - i) 0 ⟨by omega, rfl⟩ ?_ ?_
  · (refine st_le rfl ?_ (by ((try dsimp only); repeat' ((with_reducible exact .refl _)))); (try simp only [go_sem, Nat.reduceLT, Nat.reduceEqDiff, Nat.reduceLeDiff, Nat.reduceAdd, Nat.reduceMul, Int.reduceToNat, Nat.reducePow, ↓reduceIte, reduceCtorEq]))
  intro i ⟨hi, he⟩
  rcases Nat.lt_or_ge i a.length with hlt | hge
  · have g1 := encB_get hlt
    have g2 := encB_get (l := b) (i := i) (by omega)
    ((repeat' (first | (refine awp_seq_k (fun K hK => ?_)) | (refine awp_block ?_) | (refine awp_reg _ rfl ?_; (try simp only [go_sem, Nat.reduceLT, Nat.reduceEqDiff, Nat.reduceLeDiff, Nat.reduceAdd, Nat.reduceMul, Int.reduceToNat, Nat.reducePow, ↓reduceIte, reduceCtorEq, g1, g2, wrap_succ i (by omega)])) | (refine awp_drawn (by kernel_rfl) (by kernel_rfl) ?_; (try simp only [go_sem, Nat.reduceLT, Nat.reduceEqDiff, Nat.reduceLeDiff, Nat.reduceAdd, Nat.reduceMul, Int.reduceToNat, Nat.reducePow, ↓reduceIte, reduceCtorEq, g1, g2, wrap_succ i (by omega)])) | (refine awp_cond _ rfl (fun hc => ?_) (fun hc => ?_) <;> (try (simp only [decide_eq_true_eq, decide_eq_false_iff_not, Bool.or_eq_true, Bool.and_eq_true, Bool.not_eq_true', Bool.not_eq_false', Bool.or_eq_false_iff, Bool.and_eq_false_imp, Bool.not_eq_false, Bool.not_eq_true, Bool.not_true, Bool.not_false, Bool.true_eq_false, Bool.false_eq_true, not_true_eq_false, Decidable.not_not, ite_or, ite_and] at hc)) <;> (try (exfalso; omega))) | (refine awp_skip ?_; (try simp only [sq, bk, ↓reduceIte, Nat.reduceEqDiff, reduceCtorEq])) | (refine awp_ret ?_; (try simp only [sq, bk, ↓reduceIte, Nat.reduceEqDiff, reduceCtorEq])) | (with_reducible apply And.intro) | (refine hK _ ?_; clear hK; (try clear K)))); (all_goals (try ((omega)))))
    · have : a ≠ b := fun e => hc (by rw [e])
      ((all_goals (try refine fin_pure (by (try simp only [List.mem_singleton, forall_eq, resOk, List.mem_cons, List.not_mem_nil, or_false, forall_eq_or_imp, and_self])) ?_ (by ((try dsimp only); repeat' ((with_reducible exact .refl _)))))); (all_goals (try simp only [go_sem, Nat.reduceLT, Nat.reduceEqDiff, Nat.reduceLeDiff, Nat.reduceAdd, Nat.reduceMul, Int.reduceToNat, Nat.reducePow, ↓reduceIte, reduceCtorEq, this])); (all_goals (try (((simp [*, this]; done))))))
    · refine ⟨i + 1, by omega, ⟨by omega, take_succ_eq hlt (by omega) he (by omega)⟩, ?_⟩
      (refine st_le rfl ?_ (by ((try dsimp only); repeat' ((with_reducible exact .refl _)))); (try simp only [go_sem, Nat.reduceLT, Nat.reduceEqDiff, Nat.reduceLeDiff, Nat.reduceAdd, Nat.reduceMul, Int.reduceToNat, Nat.reducePow, ↓reduceIte, reduceCtorEq]))
  · obtain rfl : i = a.length := by omega
    have : a = b := by rw [List.take_length, hl, List.take_length] at he; exact he
    ((repeat' (first | (refine awp_seq_k (fun K hK => ?_)) | (refine awp_reg _ rfl ?_; (try simp only [go_sem, Nat.reduceLT, Nat.reduceEqDiff, Nat.reduceLeDiff, Nat.reduceAdd, Nat.reduceMul, Int.reduceToNat, Nat.reducePow, ↓reduceIte, reduceCtorEq])) | (refine awp_cond _ rfl (fun hc => ?_) (fun hc => ?_) <;> (try (simp only [decide_eq_true_eq, decide_eq_false_iff_not, Bool.or_eq_true, Bool.and_eq_true, Bool.not_eq_true', Bool.not_eq_false', Bool.or_eq_false_iff, Bool.and_eq_false_imp, Bool.not_eq_false, Bool.not_eq_true, Bool.not_true, Bool.not_false, Bool.true_eq_false, Bool.false_eq_true, not_true_eq_false, Decidable.not_not, ite_or, ite_and] at hc)) <;> (try (exfalso; omega))) | (refine awp_exit ?_; (try simp only [sq, bk, ↓reduceIte, Nat.reduceEqDiff, reduceCtorEq])) | (refine awp_ret ?_) | (refine hK _ ?_; clear hK; (try clear K)) | (refine kk (by assumption) ?_))))
    ((all_goals (try refine fin_pure (by (try simp only [List.mem_singleton, forall_eq, resOk, List.mem_cons, List.not_mem_nil, or_false, forall_eq_or_imp, and_self])) ?_ (by ((try dsimp only); repeat' ((with_reducible exact .refl _)))))); (all_goals (try simp only [go_sem, Nat.reduceLT, Nat.reduceEqDiff, Nat.reduceLeDiff, Nat.reduceAdd, Nat.reduceMul, Int.reduceToNat, Nat.reducePow, ↓reduceIte, reduceCtorEq, this])); (all_goals (try (((simp [*, this]; done))))))
theorem xor_u32 (a b : Nat) (ha : a < 4294967296) (hb : b < 256) : Go.bits .xor .u32 (a : Int) (IntKind.u32.wrap (b : Int)) = ((a ^^^ b : Nat) : Int) := by
  have hx : a ^^^ b < 2 ^ 32 := Nat.xor_lt_two_pow (by omega) (by omega)
  have hw : IntKind.u32.wrap (b : Int) = (b : Int) := by simp [IntKind.wrap, IntKind.signed, IntKind.bits]; omega
  have h1 : (BitVec.ofInt 32 (a : Int)).toNat = a := by
    rw [BitVec.ofInt_natCast, BitVec.toNat_ofNat]; exact Nat.mod_eq_of_lt (by omega)
  have h2 : (BitVec.ofInt 32 (b : Int)).toNat = b := by
    rw [BitVec.ofInt_natCast, BitVec.toNat_ofNat]; exact Nat.mod_eq_of_lt (by omega)
  rw [hw]
  show IntKind.u32.wrap ((BitVec.ofInt 32 (a : Int) ^^^ BitVec.ofInt 32 (b : Int)).toNat : Int) = _
  rw [BitVec.toNat_xor, h1, h2]
  simp [IntKind.wrap, IntKind.signed, IntKind.bits]; omega
theorem u32_wrap (n : Nat) : IntKind.u32.wrap ((n : Int) * 16777619) = ((n * 16777619 % 4294967296 : Nat) : Int) := by
  simp [IntKind.wrap, IntKind.signed, IntKind.bits]
theorem sum0 : ((2166136261 : Nat) : Int) = 2166136261 := rfl
theorem sumG_snoc (h : Nat) {b : Byt} {i : Nat} (hi : i < b.length) : sumG h (b.take (i + 1)) = (sumG h (b.take i) ^^^ bAt b i) * 16777619 % 4294967296 := by
  rw [List.take_succ_eq_append_getElem hi, sumG_append]
  simp only [sumG, bAt, List.getD_eq_getElem?_getD, List.getElem?_eq_getElem hi, Option.getD_some]
theorem c_Sum (b : Byt) (H : Hp) (hb : b.length ≤ 1000000000) : PureAt Try.prog 19 [.list (encB b) none] H (.con (.int .i64 (sumB b))) := by
  refine acalls_of (by kernel_rfl) Try.func19 rfl 20 Try.ntmps19 (by simp) [.tmp 2] rfl ?_
  ((repeat' (first | (refine awp_seq_k (fun K hK => ?_)) | (refine awp_block ?_) | (refine awp_reg _ rfl ?_; (try simp only [go_sem, Nat.reduceLT, Nat.reduceEqDiff, Nat.reduceLeDiff, Nat.reduceAdd, Nat.reduceMul, Int.reduceToNat, Nat.reducePow, ↓reduceIte, reduceCtorEq])) | (refine hK _ ?_; clear hK; (try clear K)))))
  refine awp_loop (ι := Nat) (fun i => ⟨20, [(3, .con (.int .u32 (sumB (b.take i)))), (6, .list (encB b) none), (7, .con (.int .i64 b.length)), (8, .con (.int .i64 (i : Int)))], H⟩) (fun i => i ≤ b.length) (fun i => b.length - i) 0 (by omega) ?_ ?_
  · (refine st_le rfl ?_ (by ((try dsimp only); repeat' ((with_reducible exact .refl _)))); (try simp only [go_sem, Nat.reduceLT, Nat.reduceEqDiff, Nat.reduceLeDiff, Nat.reduceAdd, Nat.reduceMul, Int.reduceToNat, Nat.reducePow, ↓reduceIte, reduceCtorEq, List.take_zero, sumB, sumG, sum0]))
  intro i hi
  rcases Nat.lt_or_ge i b.length with hlt | hge
  · have g1 := encB_get hlt
    have hsn := sumG_snoc 2166136261 hlt
    ((repeat' (first | (refine awp_seq_k (fun K hK => ?_)) | (refine awp_block ?_) | (refine awp_reg _ rfl ?_; (try simp only [go_sem, Nat.reduceLT, Nat.reduceEqDiff, Nat.reduceLeDiff, Nat.reduceAdd, Nat.reduceMul, Int.reduceToNat, Nat.reducePow, ↓reduceIte, reduceCtorEq, g1, wrap_succ i (by omega)])) | (refine awp_cond _ rfl (fun hc => ?_) (fun hc => ?_) <;> (try (simp only [decide_eq_true_eq, decide_eq_false_iff_not, Bool.or_eq_true, Bool.and_eq_true, Bool.not_eq_true', Bool.not_eq_false', Bool.or_eq_false_iff, Bool.and_eq_false_imp, Bool.not_eq_false, Bool.not_eq_true, Bool.not_true, Bool.not_false, Bool.true_eq_false, Bool.false_eq_true, not_true_eq_false, Decidable.not_not, ite_or, ite_and] at hc)) <;> (try (exfalso; omega))) | (refine awp_skip ?_; (try simp only [sq, bk, ↓reduceIte, Nat.reduceEqDiff, reduceCtorEq])) | (with_reducible apply And.intro) | (refine hK _ ?_; clear hK; (try clear K)))); (all_goals (try ((omega)))))
    refine ⟨i + 1, by omega, by omega, ?_⟩
    unfold sumB
    rw [hsn]
    have hs := sumG_lt (h := 2166136261) (by omega) (b.take i)
    (refine st_le rfl ?_ (by ((try dsimp only); repeat' ((with_reducible exact .refl _)))); (try simp only [go_sem, Nat.reduceLT, Nat.reduceEqDiff, Nat.reduceLeDiff, Nat.reduceAdd, Nat.reduceMul, Int.reduceToNat, Nat.reducePow, ↓reduceIte, reduceCtorEq, xor_u32 _ _ hs (bAt_lt b i), u32_wrap]))
  · obtain rfl : i = b.length := by omega
    ((repeat' (first | (refine awp_seq_k (fun K hK => ?_)) | (refine awp_reg _ rfl ?_; (try simp only [go_sem, Nat.reduceLT, Nat.reduceEqDiff, Nat.reduceLeDiff, Nat.reduceAdd, Nat.reduceMul, Int.reduceToNat, Nat.reducePow, ↓reduceIte, reduceCtorEq, List.take_length])) | (refine awp_cond _ rfl (fun hc => ?_) (fun hc => ?_) <;> (try (simp only [decide_eq_true_eq, decide_eq_false_iff_not, Bool.or_eq_true, Bool.and_eq_true, Bool.not_eq_true', Bool.not_eq_false', Bool.or_eq_false_iff, Bool.and_eq_false_imp, Bool.not_eq_false, Bool.not_eq_true, Bool.not_true, Bool.not_false, Bool.true_eq_false, Bool.false_eq_true, not_true_eq_false, Decidable.not_not, ite_or, ite_and] at hc)) <;> (try (exfalso; omega))) | (refine awp_exit ?_; (try simp only [sq, bk, ↓reduceIte, Nat.reduceEqDiff, reduceCtorEq])) | (refine awp_ret ?_) | (refine hK _ ?_; clear hK; (try clear K)) | (refine kk (by assumption) ?_))))
    have h1 := sumB_lt b
    ((all_goals (try refine fin_pure (by (try simp only [List.mem_singleton, forall_eq, resOk, List.mem_cons, List.not_mem_nil, or_false, forall_eq_or_imp, and_self])) ?_ (by ((try dsimp only); repeat' ((with_reducible exact .refl _)))))); (all_goals (try simp only [go_sem, Nat.reduceLT, Nat.reduceEqDiff, Nat.reduceLeDiff, Nat.reduceAdd, Nat.reduceMul, Int.reduceToNat, Nat.reducePow, ↓reduceIte, reduceCtorEq, wrap_nat (sumB b) (by omega)])))
/-! Values and entries. -/
theorem c_Check' (v : Val) (H : Hp) (h : sizeV v ≤ 4611686018427387904) : PureAt Try.prog 37 [.agg [.con (.int .i64 v.k), .con (.int .i64 v.n), .con (.string v.s), .list (encFs v.fs) none]] H (.con (.int .i64 (checkE v))) := by
  have := c_Check v H h
  rwa [encV_eq] at this
theorem c_scalar (v : Val) (H : Hp) (h : sizeV v ≤ 4611686018427387904) : PureAt Try.prog 50 [.agg [.con (.int .i64 v.k), .con (.int .i64 v.n), .con (.string v.s), .list (encFs v.fs) none]] H (.con (.bool (scalB v))) := by
  refine acalls_of (by kernel_rfl) Try.func50 rfl 21 Try.ntmps50 (by simp) [.tmp 2] rfl ?_
  ((repeat' (first | (refine awp_seq_k (fun K hK => ?_)) | (refine awp_reg _ rfl ?_; (try simp only [go_sem, Nat.reduceLT, Nat.reduceEqDiff, Nat.reduceLeDiff, Nat.reduceAdd, Nat.reduceMul, Int.reduceToNat, Nat.reducePow, ↓reduceIte, reduceCtorEq])) | (refine awp_ret ?_) | (refine ⟨_, fun hg => ⟨?_, c_Check' v _ h⟩, ?_⟩ <;> (try simp only [go_sem, Nat.reduceLT, Nat.reduceEqDiff, Nat.reduceLeDiff, Nat.reduceAdd, Nat.reduceMul, Int.reduceToNat, Nat.reducePow, ↓reduceIte, reduceCtorEq])) | (refine orAt_r 1 ?_) | (with_reducible apply And.intro) | (refine hK _ ?_; clear hK; (try clear K)))); (all_goals (try (first | omega | (intro hh; simp only [Bool.or_eq_true, Bool.and_eq_true, Bool.not_eq_true', Bool.or_eq_false_iff, Bool.and_eq_false_iff, decide_eq_true_eq, decide_eq_false_iff_not, Bool.not_eq_false', bw, Bool.not_true, Bool.not_false, Bool.true_eq_false, Bool.false_eq_true, not_true_eq_false] at hh ⊢; (omega))))))
  ((all_goals (try refine fin_pure (by (try simp only [List.mem_singleton, forall_eq, resOk, List.mem_cons, List.not_mem_nil, or_false, forall_eq_or_imp, and_self])) ?_ (by ((try dsimp only); repeat' ((with_reducible exact .refl _)))))); (all_goals (try simp only [go_sem, Nat.reduceLT, Nat.reduceEqDiff, Nat.reduceLeDiff, Nat.reduceAdd, Nat.reduceMul, Int.reduceToNat, Nat.reducePow, ↓reduceIte, reduceCtorEq, scalB])))
theorem c_logCheck1 (v : Val) (H : Hp) (h : sizeV v ≤ 4611686018427387904) : PureAt Try.prog 49 [.agg [.con (.int .i64 v.k), .con (.int .i64 v.n), .con (.string v.s), .list (encFs v.fs) none]] H (.con (.bool (!scalB v))) := by
  refine acalls_of (by kernel_rfl) Try.func49 rfl 6 Try.ntmps49 (by simp) [.tmp 2] rfl ?_
  ((repeat' (first | (refine awp_seq_k (fun K hK => ?_)) | (refine awp_reg _ rfl ?_; (try simp only [go_sem, Nat.reduceLT, Nat.reduceEqDiff, Nat.reduceLeDiff, Nat.reduceAdd, Nat.reduceMul, Int.reduceToNat, Nat.reducePow, ↓reduceIte, reduceCtorEq])) | (refine awp_ret ?_) | (refine PureAt.use (c_scalar v _ h) ?_ <;> (try simp only [go_sem, Nat.reduceLT, Nat.reduceEqDiff, Nat.reduceLeDiff, Nat.reduceAdd, Nat.reduceMul, Int.reduceToNat, Nat.reducePow, ↓reduceIte, reduceCtorEq])) | (refine orAt_r 1 ?_) | (refine hK _ ?_; clear hK; (try clear K)))))
  ((all_goals (try refine fin_pure (by (try simp only [List.mem_singleton, forall_eq, resOk, List.mem_cons, List.not_mem_nil, or_false, forall_eq_or_imp, and_self])) ?_ (by ((try dsimp only); repeat' ((with_reducible exact .refl _)))))); (all_goals (try simp only [go_sem, Nat.reduceLT, Nat.reduceEqDiff, Nat.reduceLeDiff, Nat.reduceAdd, Nat.reduceMul, Int.reduceToNat, Nat.reducePow, ↓reduceIte, reduceCtorEq])))
theorem c_IndexVal (xs : List AV) (q : Nat) (cap : List AV) (p : Nat → Bool) (H : Hp) (hx : ∀ i, i < xs.length → ∃ a b c d, xs.getD i .any = .agg [a, b, c, d]) (hn : xs.length ≤ 4611686018427387904)
    (hp : ∀ i, i < xs.length → PureAt Try.prog q ((xs.getD i .any) :: cap) H (.con (.bool (p i)))) :
    PureAt Try.prog 78 [.list xs none, .fn q cap] H (.con (.int .i64 (idxF p xs.length))) := by
  refine acalls_of (by kernel_rfl) Try.func78 rfl 19 Try.ntmps78 (by simp) [.tmp 4] rfl ?_
  ((repeat' (first | (refine awp_seq_k (fun K hK => ?_)) | (refine awp_block ?_) | (refine awp_reg _ rfl ?_; (try simp only [go_sem, Nat.reduceLT, Nat.reduceEqDiff, Nat.reduceLeDiff, Nat.reduceAdd, Nat.reduceMul, Int.reduceToNat, Nat.reducePow, ↓reduceIte, reduceCtorEq])) | (refine hK _ ?_; clear hK; (try clear K)))))
  refine awp_loop (ι := Nat) (fun i => ⟨19, [(0, .list xs none), (1, .fn q cap), (7, .con (.int .i64 xs.length)), (8, .con (.int .i64 (i : Int)))], H⟩) (fun i => i ≤ xs.length ∧ ∀ j, j < i → p j = false) (fun i => xs.length - i) 0 ⟨by omega, fun j hj => by omega⟩ ?_ ?_
  · (refine st_le rfl ?_ (by ((try dsimp only); repeat' ((with_reducible exact .refl _)))); (try simp only [go_sem, Nat.reduceLT, Nat.reduceEqDiff, Nat.reduceLeDiff, Nat.reduceAdd, Nat.reduceMul, Int.reduceToNat, Nat.reducePow, ↓reduceIte, reduceCtorEq]))
  intro i ⟨hi, h0⟩
  rcases Nat.lt_or_ge i xs.length with hlt | hge
  · obtain ⟨a, b, c, d, hg⟩ := hx i hlt
    have hpi := hp i hlt
    rw [hg] at hpi
    cases hv : p i
    all_goals
      rw [hv] at hpi
      ((repeat' (first | (refine awp_seq_k (fun K hK => ?_)) | (refine awp_block ?_) | (refine awp_reg _ rfl ?_; (try simp only [go_sem, Nat.reduceLT, Nat.reduceEqDiff, Nat.reduceLeDiff, Nat.reduceAdd, Nat.reduceMul, Int.reduceToNat, Nat.reducePow, ↓reduceIte, reduceCtorEq, wrap_succ i (by omega), hg])) | (refine awp_cond _ rfl (fun hc => ?_) (fun hc => ?_) <;> (try (simp only [decide_eq_true_eq, decide_eq_false_iff_not, Bool.or_eq_true, Bool.and_eq_true, Bool.not_eq_true', Bool.not_eq_false', Bool.or_eq_false_iff, Bool.and_eq_false_imp, Bool.not_eq_false, Bool.not_eq_true, Bool.not_true, Bool.not_false, Bool.true_eq_false, Bool.false_eq_true, not_true_eq_false, Decidable.not_not, ite_or, ite_and] at hc)) <;> (try (exfalso; omega))) | (refine awp_skip ?_; (try simp only [sq, bk, ↓reduceIte, Nat.reduceEqDiff, reduceCtorEq])) | (refine awp_ret ?_; (try simp only [sq, bk, ↓reduceIte, Nat.reduceEqDiff, reduceCtorEq])) | (refine PureAt.use (hpi) ?_) | (with_reducible apply And.intro) | (refine hK _ ?_; clear hK; (try clear K)))); (all_goals (try ((omega)))))
    · refine ⟨i + 1, by omega, ⟨by omega, fun j hj => (by rcases Nat.lt_succ_iff_lt_or_eq.1 hj with h | rfl; exact h0 j h; exact hv)⟩, ?_⟩
      (refine st_le rfl ?_ (by ((try dsimp only); repeat' ((with_reducible exact .refl _)))); (try simp only [go_sem, Nat.reduceLT, Nat.reduceEqDiff, Nat.reduceLeDiff, Nat.reduceAdd, Nat.reduceMul, Int.reduceToNat, Nat.reducePow, ↓reduceIte, reduceCtorEq]))
    · rw [idxF_hit hlt hv h0]
      ((all_goals (try refine fin_pure (by (try simp only [List.mem_singleton, forall_eq, resOk, List.mem_cons, List.not_mem_nil, or_false, forall_eq_or_imp, and_self])) ?_ (by ((try dsimp only); repeat' ((with_reducible exact .refl _)))))); (all_goals (try simp only [go_sem, Nat.reduceLT, Nat.reduceEqDiff, Nat.reduceLeDiff, Nat.reduceAdd, Nat.reduceMul, Int.reduceToNat, Nat.reducePow, ↓reduceIte, reduceCtorEq])))
  · obtain rfl : i = xs.length := by omega
    ((repeat' (first | (refine awp_seq_k (fun K hK => ?_)) | (refine awp_reg _ rfl ?_; (try simp only [go_sem, Nat.reduceLT, Nat.reduceEqDiff, Nat.reduceLeDiff, Nat.reduceAdd, Nat.reduceMul, Int.reduceToNat, Nat.reducePow, ↓reduceIte, reduceCtorEq])) | (refine awp_cond _ rfl (fun hc => ?_) (fun hc => ?_) <;> (try (simp only [decide_eq_true_eq, decide_eq_false_iff_not, Bool.or_eq_true, Bool.and_eq_true, Bool.not_eq_true', Bool.not_eq_false', Bool.or_eq_false_iff, Bool.and_eq_false_imp, Bool.not_eq_false, Bool.not_eq_true, Bool.not_true, Bool.not_false, Bool.true_eq_false, Bool.false_eq_true, not_true_eq_false, Decidable.not_not, ite_or, ite_and] at hc)) <;> (try (exfalso; omega))) | (refine awp_exit ?_; (try simp only [sq, bk, ↓reduceIte, Nat.reduceEqDiff, reduceCtorEq])) | (refine awp_ret ?_) | (refine hK _ ?_; clear hK; (try clear K)) | (refine kk (by assumption) ?_))))
    ((all_goals (try refine fin_pure (by (try simp only [List.mem_singleton, forall_eq, resOk, List.mem_cons, List.not_mem_nil, or_false, forall_eq_or_imp, and_self])) ?_ (by ((try dsimp only); repeat' ((with_reducible exact .refl _)))))); (all_goals (try simp only [go_sem, Nat.reduceLT, Nat.reduceEqDiff, Nat.reduceLeDiff, Nat.reduceAdd, Nat.reduceMul, Int.reduceToNat, Nat.reducePow, ↓reduceIte, reduceCtorEq, idxF_miss h0])))
theorem c_ContainsVal (xs : List AV) (q : Nat) (cap : List AV) (p : Nat → Bool) (H : Hp) (hx : ∀ i, i < xs.length → ∃ a b c d, xs.getD i .any = .agg [a, b, c, d]) (hn : xs.length ≤ 4611686018427387904)
    (hp : ∀ i, i < xs.length → PureAt Try.prog q ((xs.getD i .any) :: cap) H (.con (.bool (p i)))) :
    PureAt Try.prog 48 [.list xs none, .fn q cap] H (.con (.bool (decide (0 ≤ idxF p xs.length)))) := by
  refine acalls_of (by kernel_rfl) Try.func48 rfl 9 Try.ntmps48 (by simp) [.tmp 4] rfl ?_
  ((repeat' (first | (refine awp_seq_k (fun K hK => ?_)) | (refine awp_reg _ rfl ?_; (try simp only [go_sem, Nat.reduceLT, Nat.reduceEqDiff, Nat.reduceLeDiff, Nat.reduceAdd, Nat.reduceMul, Int.reduceToNat, Nat.reducePow, ↓reduceIte, reduceCtorEq])) | (refine awp_ret ?_) | (refine PureAt.use (c_IndexVal xs q cap p _ hx hn hp) ?_ <;> (try simp only [go_sem, Nat.reduceLT, Nat.reduceEqDiff, Nat.reduceLeDiff, Nat.reduceAdd, Nat.reduceMul, Int.reduceToNat, Nat.reducePow, ↓reduceIte, reduceCtorEq])) | (refine hK _ ?_; clear hK; (try clear K)))))
  ((all_goals (try refine fin_pure (by (try simp only [List.mem_singleton, forall_eq, resOk, List.mem_cons, List.not_mem_nil, or_false, forall_eq_or_imp, and_self])) ?_ (by ((try dsimp only); repeat' ((with_reducible exact .refl _)))))); (all_goals (try simp only [go_sem, Nat.reduceLT, Nat.reduceEqDiff, Nat.reduceLeDiff, Nat.reduceAdd, Nat.reduceMul, Int.reduceToNat, Nat.reducePow, ↓reduceIte, reduceCtorEq])))
theorem idxF_any {α : Type} [Inhabited α] (l : List α) (p : α → Bool) : decide (0 ≤ idxF (fun j => p (l.getD j default)) l.length) = l.any p := by
  rw [Bool.eq_iff_iff]
  simp only [decide_eq_true_eq, List.any_eq_true]
  constructor
  · intro h
    unfold idxF at h
    split at h
    · rename_i i hi
      rw [List.find?_range_eq_some] at hi
      have hlt : i < l.length := List.mem_range.1 hi.2.1
      refine ⟨l[i], List.getElem_mem hlt, ?_⟩
      have := hi.1
      rwa [List.getD_eq_getElem?_getD, List.getElem?_eq_getElem hlt] at this
    · omega
  · rintro ⟨a, ha, hp⟩
    rcases Int.lt_or_le (idxF (fun j => p (l.getD j default)) l.length) 0 with h | h
    · exfalso
      unfold idxF at h
      split at h
      · omega
      · rename_i hn
        rw [List.find?_range_eq_none] at hn
        obtain ⟨i, hi, rfl⟩ := List.getElem_of_mem ha
        have := hn i hi
        rw [List.getD_eq_getElem?_getD, List.getElem?_eq_getElem hi] at this
        simp at this
        rw [hp] at this; cases this
    · exact h
instance : Inhabited Val := ⟨.mk 0 0 ⟨#[]⟩ []⟩
theorem c_logAny (row : List Val) (H : Hp) (h : ∀ v ∈ row, sizeV v ≤ 4611686018427387904) (hl : row.length ≤ 4611686018427387904) :
    PureAt Try.prog 48 [.list (encVs row) none, .fn 49 []] H (.con (.bool (!row.all scalB))) := by
  have := c_ContainsVal (encVs row) 49 [] (fun j => !scalB (row.getD j default)) H (fun i hi => ⟨_, _, _, _, encVs_get (by simpa [encVs] using hi)⟩) (by simpa [encVs] using hl) (fun i hi => by
    have hi' : i < row.length := by simpa [encVs] using hi
    rw [encVs_get hi', List.getD_eq_getElem?_getD, List.getElem?_eq_getElem hi']
    exact c_logCheck1 _ H (h _ (List.getElem_mem hi')))
  rw [encVs_length, idxF_any row (fun v => !scalB v)] at this
  rwa [show (!row.all scalB) = row.any (fun v => !scalB v) by rw [List.not_all_eq_any_not]]
structure RangeE (x : Ent) : Prop where
  ch : x.ch.length ≤ 4611686018427387904
  row : ∀ c ∈ x.ch, c.row.length ≤ 4611686018427387904 ∧ ∀ v ∈ c.row, sizeV v ≤ 4611686018427387904
theorem c_logCheck (x : Ent) (H : Hp) (hw : WfE x) (hs : SmallE x) (hr : RangeE x) : PureAt Try.prog 18 [cE x] H (.con (.int .i64 (entE x))) := by
  refine acalls_of (by kernel_rfl) Try.func18 rfl 46 Try.ntmps18 (by simp) [.tmp 2] rfl ?_
  ((repeat' (first | (refine awp_seq_k (fun K hK => ?_)) | (refine awp_block ?_) | (refine awp_reg _ rfl ?_; (try simp only [go_sem, Nat.reduceLT, Nat.reduceEqDiff, Nat.reduceLeDiff, Nat.reduceAdd, Nat.reduceMul, Int.reduceToNat, Nat.reducePow, ↓reduceIte, reduceCtorEq])) | (refine awp_cond _ rfl (fun hc => ?_) (fun hc => ?_) <;> (try (simp only [decide_eq_true_eq, decide_eq_false_iff_not, Bool.or_eq_true, Bool.and_eq_true, Bool.not_eq_true', Bool.not_eq_false', Bool.or_eq_false_iff, Bool.and_eq_false_imp, Bool.not_eq_false, Bool.not_eq_true, Bool.not_true, Bool.not_false, Bool.true_eq_false, Bool.false_eq_true, not_true_eq_false, Decidable.not_not, ite_or, ite_and] at hc))) | (refine awp_skip ?_; (try simp only [sq, bk, ↓reduceIte, Nat.reduceEqDiff, reduceCtorEq])) | (refine awp_ret ?_; (try simp only [sq, bk, ↓reduceIte, Nat.reduceEqDiff, reduceCtorEq])) | (refine orAt_r 1 ?_) | (with_reducible apply And.intro) | (refine hK _ ?_; clear hK; (try clear K)))); (all_goals (try (((intro hh; simp only [Bool.or_eq_true, Bool.and_eq_true, Bool.not_eq_true', Bool.or_eq_false_iff, Bool.and_eq_false_iff, decide_eq_true_eq, decide_eq_false_iff_not, Bool.not_eq_false', bw, Bool.not_true, Bool.not_false, Bool.true_eq_false, Bool.false_eq_true, not_true_eq_false] at hh ⊢; (omega)))))))
  · have : entE x = 11 := by unfold entE; rw [if_pos (by omega)]
    ((all_goals (try refine fin_pure (by (try simp only [List.mem_singleton, forall_eq, resOk, List.mem_cons, List.not_mem_nil, or_false, forall_eq_or_imp, and_self])) ?_ (by ((try dsimp only); repeat' ((with_reducible exact .refl _)))))); (all_goals (try simp only [go_sem, Nat.reduceLT, Nat.reduceEqDiff, Nat.reduceLeDiff, Nat.reduceAdd, Nat.reduceMul, Int.reduceToNat, Nat.reducePow, ↓reduceIte, reduceCtorEq, this])))
  · have : entE x = 2 := by unfold entE; rw [if_neg (by omega), if_pos (by omega)]
    ((all_goals (try refine fin_pure (by (try simp only [List.mem_singleton, forall_eq, resOk, List.mem_cons, List.not_mem_nil, or_false, forall_eq_or_imp, and_self])) ?_ (by ((try dsimp only); repeat' ((with_reducible exact .refl _)))))); (all_goals (try simp only [go_sem, Nat.reduceLT, Nat.reduceEqDiff, Nat.reduceLeDiff, Nat.reduceAdd, Nat.reduceMul, Int.reduceToNat, Nat.reducePow, ↓reduceIte, reduceCtorEq, this])))
  refine awp_loop (ι := Nat) (fun i => ⟨46, [(1, .ro [.con (.int .i64 x.no), .list (encCs x.ch) none]), (18, .list (encCs x.ch) none), (19, .con (.int .i64 x.ch.length)), (20, .con (.int .i64 (i : Int)))], H⟩)
    (fun i => i ≤ x.ch.length ∧ firstL chE (x.ch.take i) = 0) (fun i => x.ch.length - i) 0 ⟨by omega, rfl⟩ ?_ ?_
  · (refine st_le rfl ?_ (by ((try dsimp only); repeat' ((with_reducible exact .refl _)))); (try simp only [go_sem, Nat.reduceLT, Nat.reduceEqDiff, Nat.reduceLeDiff, Nat.reduceAdd, Nat.reduceMul, Int.reduceToNat, Nat.reducePow, ↓reduceIte, reduceCtorEq]))
  intro i ⟨hi, h0⟩
  have hrow := hr.row
  rcases Nat.lt_or_ge i x.ch.length with hlt | hge
  · have hg := encCs_get hlt
    have hhit := firstL_hit (g := chE) h0 (List.getElem?_eq_getElem hlt)
    have hstep := firstL_step (g := chE) h0 (List.getElem?_eq_getElem hlt)
    obtain ⟨hr1, hr2⟩ := hr.row x.ch[i] (List.getElem_mem hlt)
    generalize x.ch[i] = c at *
    have he : ∀ e, chE c = e → e ≠ 0 → entE x = e := fun e h1 h2 => by
      have h3 := hhit (by rw [h1]; exact h2)
      unfold entE; rw [if_neg (by omega), if_neg (by omega), if_pos (by rw [h3, h1]; exact h2), h3, h1]
    ((repeat' (first | (refine awp_seq_k (fun K hK => ?_)) | (refine awp_block ?_) | (refine awp_reg _ rfl ?_; (try simp only [go_sem, Nat.reduceLT, Nat.reduceEqDiff, Nat.reduceLeDiff, Nat.reduceAdd, Nat.reduceMul, Int.reduceToNat, Nat.reducePow, ↓reduceIte, reduceCtorEq, hg, wrap_succ i (by omega)])) | (refine awp_cond _ rfl (fun hc => ?_) (fun hc => ?_) <;> (try (simp only [decide_eq_true_eq, decide_eq_false_iff_not, Bool.or_eq_true, Bool.and_eq_true, Bool.not_eq_true', Bool.not_eq_false', Bool.or_eq_false_iff, Bool.and_eq_false_imp, Bool.not_eq_false, Bool.not_eq_true, Bool.not_true, Bool.not_false, Bool.true_eq_false, Bool.false_eq_true, not_true_eq_false, Decidable.not_not, ite_or, ite_and] at hc)) <;> (try (exfalso; omega))) | (refine awp_skip ?_; (try simp only [sq, bk, ↓reduceIte, Nat.reduceEqDiff, reduceCtorEq])) | (refine awp_ret ?_; (try simp only [sq, bk, ↓reduceIte, Nat.reduceEqDiff, reduceCtorEq])) | (refine PureAt.use (c_Name _ _) ?_ <;> (try simp only [go_sem, Nat.reduceLT, Nat.reduceEqDiff, Nat.reduceLeDiff, Nat.reduceAdd, Nat.reduceMul, Int.reduceToNat, Nat.reducePow, ↓reduceIte, reduceCtorEq, hg, wrap_succ i (by omega)])) | (refine PureAt.use (c_logAny _ _ hr2 hr1) ?_) | (refine orAt_r 4 ?_; (try simp only [go_sem, Nat.reduceLT, Nat.reduceEqDiff, Nat.reduceLeDiff, Nat.reduceAdd, Nat.reduceMul, Int.reduceToNat, Nat.reducePow, ↓reduceIte, reduceCtorEq, hg, wrap_succ i (by omega)])) | (with_reducible apply And.intro) | (refine hK _ ?_; clear hK; (try clear K)))); (all_goals (try (first | omega | (intro hh; simp only [Bool.or_eq_true, Bool.and_eq_true, Bool.not_eq_true', Bool.or_eq_false_iff, Bool.and_eq_false_iff, decide_eq_true_eq, decide_eq_false_iff_not, Bool.not_eq_false', bw, Bool.not_true, Bool.not_false, Bool.true_eq_false, Bool.false_eq_true, not_true_eq_false] at hh ⊢; (omega))))))
    · have := he 15 (by unfold chE; rw [if_pos hc]) (by omega)
      ((all_goals (try refine fin_pure (by (try simp only [List.mem_singleton, forall_eq, resOk, List.mem_cons, List.not_mem_nil, or_false, forall_eq_or_imp, and_self])) ?_ (by ((try dsimp only); repeat' ((with_reducible exact .refl _)))))); (all_goals (try simp only [go_sem, Nat.reduceLT, Nat.reduceEqDiff, Nat.reduceLeDiff, Nat.reduceAdd, Nat.reduceMul, Int.reduceToNat, Nat.reducePow, ↓reduceIte, reduceCtorEq, this])))
    · have := he 3 (by unfold chE; rw [if_neg (by simp [*]), if_pos (by omega)]) (by omega)
      ((all_goals (try refine fin_pure (by (try simp only [List.mem_singleton, forall_eq, resOk, List.mem_cons, List.not_mem_nil, or_false, forall_eq_or_imp, and_self])) ?_ (by ((try dsimp only); repeat' ((with_reducible exact .refl _)))))); (all_goals (try simp only [go_sem, Nat.reduceLT, Nat.reduceEqDiff, Nat.reduceLeDiff, Nat.reduceAdd, Nat.reduceMul, Int.reduceToNat, Nat.reducePow, ↓reduceIte, reduceCtorEq, this])))
    · have := he 8 (by unfold chE; rw [if_neg (by simp [*]), if_neg (by omega), if_pos hc]) (by omega)
      ((all_goals (try refine fin_pure (by (try simp only [List.mem_singleton, forall_eq, resOk, List.mem_cons, List.not_mem_nil, or_false, forall_eq_or_imp, and_self])) ?_ (by ((try dsimp only); repeat' ((with_reducible exact .refl _)))))); (all_goals (try simp only [go_sem, Nat.reduceLT, Nat.reduceEqDiff, Nat.reduceLeDiff, Nat.reduceAdd, Nat.reduceMul, Int.reduceToNat, Nat.reducePow, ↓reduceIte, reduceCtorEq, this])))
    · have := hstep (by unfold chE; rw [if_neg (by simp [*]), if_neg (by omega), if_neg (by simp [*])])
      refine ⟨i + 1, by omega, ⟨by omega, by assumption⟩, ?_⟩
      (refine st_le rfl ?_ (by ((try dsimp only); repeat' ((with_reducible exact .refl _)))); (try simp only [go_sem, Nat.reduceLT, Nat.reduceEqDiff, Nat.reduceLeDiff, Nat.reduceAdd, Nat.reduceMul, Int.reduceToNat, Nat.reducePow, ↓reduceIte, reduceCtorEq]))
  · obtain rfl : i = x.ch.length := by omega
    rw [List.take_length] at h0
    ((repeat' (first | (refine awp_seq_k (fun K hK => ?_)) | (refine awp_reg _ rfl ?_; (try simp only [go_sem, Nat.reduceLT, Nat.reduceEqDiff, Nat.reduceLeDiff, Nat.reduceAdd, Nat.reduceMul, Int.reduceToNat, Nat.reducePow, ↓reduceIte, reduceCtorEq])) | (refine awp_cond _ rfl (fun hc => ?_) (fun hc => ?_) <;> (try (simp only [decide_eq_true_eq, decide_eq_false_iff_not, Bool.or_eq_true, Bool.and_eq_true, Bool.not_eq_true', Bool.not_eq_false', Bool.or_eq_false_iff, Bool.and_eq_false_imp, Bool.not_eq_false, Bool.not_eq_true, Bool.not_true, Bool.not_false, Bool.true_eq_false, Bool.false_eq_true, not_true_eq_false, Decidable.not_not, ite_or, ite_and] at hc)) <;> (try (exfalso; omega))) | (refine awp_skip ?_; (try simp only [sq, bk, ↓reduceIte, Nat.reduceEqDiff, reduceCtorEq])) | (refine awp_exit ?_; (try simp only [sq, bk, ↓reduceIte, Nat.reduceEqDiff, reduceCtorEq])) | (refine awp_ret ?_; (try simp only [sq, bk, ↓reduceIte, Nat.reduceEqDiff, reduceCtorEq])) | (refine ACalls.ex (c_body x _ hw hs) (fun id fr => ?_) <;> ((try simp only [go_sem, Nat.reduceLT, Nat.reduceEqDiff, Nat.reduceLeDiff, Nat.reduceAdd, Nat.reduceMul, Int.reduceToNat, Nat.reducePow, ↓reduceIte, reduceCtorEq]))) | (refine hK _ ?_; clear hK; (try clear K)) | (refine kk (by assumption) ?_))))
    · have : entE x = 2 := by unfold entE; rw [if_neg (by omega), if_neg (by omega), if_neg (by rw [h0]; simp), if_pos (by omega)]
      ((all_goals (try refine fin_pure (by (try simp only [List.mem_singleton, forall_eq, resOk, List.mem_cons, List.not_mem_nil, or_false, forall_eq_or_imp, and_self])) ?_ (by ((try dsimp only); repeat' (first | with_reducible exact .refl _ | exact fresh.tok (by assumption) | refine weak_tok ?_ ?_))))); (all_goals (try simp only [go_sem, Nat.reduceLT, Nat.reduceEqDiff, Nat.reduceLeDiff, Nat.reduceAdd, Nat.reduceMul, Int.reduceToNat, Nat.reducePow, ↓reduceIte, reduceCtorEq, this])))
    · have : entE x = 0 := by unfold entE; rw [if_neg (by omega), if_neg (by omega), if_neg (by rw [h0]; simp), if_neg (by omega)]
      ((all_goals (try refine fin_pure (by (try simp only [List.mem_singleton, forall_eq, resOk, List.mem_cons, List.not_mem_nil, or_false, forall_eq_or_imp, and_self])) ?_ (by ((try dsimp only); repeat' (first | with_reducible exact .refl _ | exact fresh.tok (by assumption) | refine weak_tok ?_ ?_))))); (all_goals (try simp only [go_sem, Nat.reduceLT, Nat.reduceEqDiff, Nat.reduceLeDiff, Nat.reduceAdd, Nat.reduceMul, Int.reduceToNat, Nat.reducePow, ↓reduceIte, reduceCtorEq, this])))
end Go.Proofs.Ytdlbbcjacjockaa
