/-
  A part of the proof: its theorems say what each gives.
-/
import Derived.Test.YtdlbbcjacjockaaKLi
set_option maxRecDepth 100000
set_option maxHeartbeats 8000000
set_option linter.unusedSimpArgs false
set_option linter.unusedVariables false
namespace Go.Proofs.Ytdlbbcjacjockaa
open Go Fw
/-! log.Append. -/
theorem c_ReadP (all : Byt) (H : Hp) (hl : all.length ≤ 900000000) : PureAt Try.prog 10 [.list (encB all) none] H (.tup [.list (encEs (rdLog all 0).1) none, .con (.int .i64 ((rdLog all 0).2.1 : Nat)), .con (.int .i64 (rdLog all 0).2.2)]) :=
  ACalls.mono (c_Read all H hl) fun r H' h => ⟨h.2, h.1⟩
def appE (log : Byt) (x : Ent) : Int := if entE x ≠ 0 then entE x else if (rdLog log 0).2.1 ≠ log.length then 12 else if x.no ≠ (rdLog log 0).1.length + 1 then 9 else 0
def appB (log : Byt) (x : Ent) : Byt := if appE log x = 0 then log ++ frmB (bodyB x) else []
theorem rdLog_len : ∀ (n : Nat) (b : Byt) (k : Nat), b.length ≤ n → (rdLog b k).1.length ≤ (rdLog b k).2.1 ∧ (rdLog b k).2.1 ≤ b.length := by
  intro n
  induction n with
  | zero => intro b k h; obtain rfl := List.eq_nil_of_length_eq_zero (Nat.le_zero.1 h); rw [rdLog_nil]; simp
  | succ n ih =>
    intro b k h
    rw [rdLog]
    split
    · simp
    split
    · simp
    split
    · simp
    split
    · simp
    split
    · simp
    · split
      · simp
      · have := ih (b.drop (6 + frN b)) (k + 1) (by simp; omega)
        simp only [List.length_drop, List.length_cons] at this ⊢
        omega
theorem b8_shr (n : Nat) : IntKind.u8.wrap ((n : Nat) : Int) = ((b8 n).toNat : Int) := u8_wrap n
theorem sum4_enc (h : Nat) : encB (sum4 h) = [.con (.int .u8 ((b8 (h / 16777216)).toNat : Int)), .con (.int .u8 ((b8 (h / 65536)).toNat : Int)), .con (.int .u8 ((b8 (h / 256)).toNat : Int)), .con (.int .u8 ((b8 h).toNat : Int))] := rfl
theorem len2_enc (b : Byt) : encB (len2 b) = [.con (.int .u8 ((b8 (b.length / 256)).toNat : Int)), .con (.int .u8 ((b8 b.length).toNat : Int))] := rfl
theorem c_Append (log : Byt) (x : Ent) (H : Hp) (hl : log.length ≤ 800000000) (hw : WfE x) (hs : SmallE x) (hr : RangeE x) :
    PureAt Try.prog 13 [.list (encB log) none, cE x] H (.tup [.list (encB (appB log x)) none, .con (.int .i64 (appE log x))]) := by
  have hlen := rdLog_len _ log 0 (Nat.le_refl _)
  have hwo := wrap_succ (rdLog log 0).1.length (by omega)
  have hbl := hs.all
  have hA : encB log ++ [AV.con (.int .u8 (IntKind.u8.wrap (((bodyB x).length / 256 : Nat) : Int))), AV.con (.int .u8 (IntKind.u8.wrap ((bodyB x).length : Int)))] = encB (log ++ len2 (bodyB x)) := by rw [encB_append, len2_enc, u8_wrap, u8_wrap]
  have hA2 : (log ++ len2 (bodyB x)).length = log.length + 2 := by simp [len2]
  have hA3 : IntKind.i64.wrap (((log.length + 2 : Nat) : Int) - 2) = (log.length : Int) := by rw [wrap_id (by omega) (by omega)]; omega
  have hA4 : (log ++ len2 (bodyB x)).drop log.length = len2 (bodyB x) := List.drop_left
  have hA5 : (log ++ len2 (bodyB x)).take (log.length + 2) = log ++ len2 (bodyB x) := by rw [← hA2, List.take_length]
  have hA6 : (len2 (bodyB x)).length = 2 := rfl
  have hsum : ∀ id H, PureAt Try.prog 19 [.list (encB (len2 (bodyB x)) ++ encB (bodyB x)) (some id)] H (.con (.int .i64 (sumB (len2 (bodyB x) ++ bodyB x)))) := fun id H => by
    have := c_Sum (len2 (bodyB x) ++ bodyB x) H (by simp only [List.length_append, hA6]; omega)
    rw [encB_append] at this
    exact PureAt.tok1 this
  generalize hsb : sumB (len2 (bodyB x) ++ bodyB x) = sm at *
  refine acalls_of (by kernel_rfl) Try.func13 rfl 72 Try.ntmps13 (by simp) [.tmp 4, .tmp 5] rfl ?_
  ((repeat' (first | (refine awp_seq_k (fun K hK => ?_)) | (refine awp_reg _ rfl ?_; (try simp only [go_sem, Nat.reduceLT, Nat.reduceEqDiff, Nat.reduceLeDiff, Nat.reduceAdd, Nat.reduceMul, Int.reduceToNat, Nat.reducePow, ↓reduceIte, reduceCtorEq, hwo, hA, hA2, hA3, hA4, hA5, hA6, encB_take, encB_drop])) | (refine awp_cond _ rfl (fun hc => ?_) (fun hc => ?_) <;> (try (simp only [decide_eq_true_eq, decide_eq_false_iff_not, Bool.or_eq_true, Bool.and_eq_true, Bool.not_eq_true', Bool.not_eq_false', Bool.or_eq_false_iff, Bool.and_eq_false_imp, Bool.not_eq_false, Bool.not_eq_true, Bool.not_true, Bool.not_false, Bool.true_eq_false, Bool.false_eq_true, not_true_eq_false, Decidable.not_not, ite_or, ite_and] at hc))) | (refine awp_skip ?_; (try simp only [sq, bk, ↓reduceIte, Nat.reduceEqDiff, reduceCtorEq])) | (refine awp_ret ?_; (try simp only [sq, bk, ↓reduceIte, Nat.reduceEqDiff, reduceCtorEq])) | (refine PureAt.use (c_logCheck x _ hw hs hr) ?_ <;> (try simp only [go_sem, Nat.reduceLT, Nat.reduceEqDiff, Nat.reduceLeDiff, Nat.reduceAdd, Nat.reduceMul, Int.reduceToNat, Nat.reducePow, ↓reduceIte, reduceCtorEq, hwo, hA, hA2, hA3, hA4, hA5, hA6, encB_take, encB_drop])) | (refine PureAt.use (c_ReadP log _ (by omega)) ?_ <;> (try simp only [go_sem, Nat.reduceLT, Nat.reduceEqDiff, Nat.reduceLeDiff, Nat.reduceAdd, Nat.reduceMul, Int.reduceToNat, Nat.reducePow, ↓reduceIte, reduceCtorEq, hwo, hA, hA2, hA3, hA4, hA5, hA6, encB_take, encB_drop])) | (refine ACalls.ex (c_body x _ hw hs) (fun id fr => ?_) <;> ((try simp only [go_sem, Nat.reduceLT, Nat.reduceEqDiff, Nat.reduceLeDiff, Nat.reduceAdd, Nat.reduceMul, Int.reduceToNat, Nat.reducePow, ↓reduceIte, reduceCtorEq, hwo, hA, hA2, hA3, hA4, hA5, hA6, encB_take, encB_drop]))) | (refine ACalls.ex (c_CloneB log (by omega) _) (fun id fr => ?_) <;> ((try have := NeI.of_frt fr); (try simp only [go_sem, Nat.reduceLT, Nat.reduceEqDiff, Nat.reduceLeDiff, Nat.reduceAdd, Nat.reduceMul, Int.reduceToNat, Nat.reducePow, ↓reduceIte, reduceCtorEq, hwo, hA, hA2, hA3, hA4, hA5, hA6, encB_take, encB_drop]))) | (refine ACalls.ex (c_CloneB (len2 (bodyB x)) (by omega) _) (fun id fr => ?_) <;> ((try have := NeI.of_frt fr); (try have := NeI.of_frt (fr_dropt fr)); (try simp only [go_sem, Nat.reduceLT, Nat.reduceEqDiff, Nat.reduceLeDiff, Nat.reduceAdd, Nat.reduceMul, Int.reduceToNat, Nat.reducePow, ↓reduceIte, reduceCtorEq, hwo, hA, hA2, hA3, hA4, hA5, hA6, encB_take, encB_drop]))) | (refine PureAt.use (hsum _ _) ?_ <;> (try simp only [go_sem, Nat.reduceLT, Nat.reduceEqDiff, Nat.reduceLeDiff, Nat.reduceAdd, Nat.reduceMul, Int.reduceToNat, Nat.reducePow, ↓reduceIte, reduceCtorEq, hwo, hA, hA2, hA3, hA4, hA5, hA6, encB_take, encB_drop])) | (refine orAt_r 3 ?_) | (refine orAt_l ?_) | (with_reducible apply And.intro) | (refine hK _ ?_; clear hK; (try clear K)))); (all_goals (try (first | omega | decide | (simp only [List.mem_singleton, List.mem_cons, List.not_mem_nil, or_false, forall_eq_or_imp, forall_eq, AV.cells, List.length_cons, List.length_nil, and_self, Nat.reduceAdd]; done)))))
  · have h1 : appE log x = entE x := by unfold appE; rw [if_pos hc]
    have h2 : appB log x = [] := by unfold appB; rw [h1, if_neg hc]
    rw [h1, h2]
    exact fin_le _ H (by (try simp only [List.mem_singleton, forall_eq, List.mem_cons, List.not_mem_nil, or_false, forall_eq_or_imp, and_self, resOk])) (by simp only [go_sem, Nat.reduceLT, Nat.reduceEqDiff, Nat.reduceLeDiff, Nat.reduceAdd, Nat.reduceMul, Int.reduceToNat, Nat.reducePow, ↓reduceIte, reduceCtorEq]; (repeat' (first | exact .refl _ | exact AV.le_nil | refine AV.le_tupc rfl ?_ | refine lec_cons ?_ ?_))) (by ((try dsimp only); repeat' ((with_reducible exact .refl _)))) ⟨rfl, rfl⟩
  · have h1 : appE log x = 12 := by unfold appE; rw [if_neg (by simp [*]), if_pos (by omega)]
    have h2 : appB log x = [] := by unfold appB; rw [h1]; rfl
    rw [h1, h2]
    exact fin_le _ H (by (try simp only [List.mem_singleton, forall_eq, List.mem_cons, List.not_mem_nil, or_false, forall_eq_or_imp, and_self, resOk])) (by simp only [go_sem, Nat.reduceLT, Nat.reduceEqDiff, Nat.reduceLeDiff, Nat.reduceAdd, Nat.reduceMul, Int.reduceToNat, Nat.reducePow, ↓reduceIte, reduceCtorEq]; (repeat' (first | exact .refl _ | exact AV.le_nil | refine AV.le_tupc rfl ?_ | refine lec_cons ?_ ?_))) (by ((try dsimp only); repeat' ((with_reducible exact .refl _)))) ⟨rfl, rfl⟩
  · have h1 : appE log x = 9 := by unfold appE; rw [if_neg (by simp [*]), if_neg (by omega), if_pos (by omega)]
    have h2 : appB log x = [] := by unfold appB; rw [h1]; rfl
    rw [h1, h2]
    exact fin_le _ H (by (try simp only [List.mem_singleton, forall_eq, List.mem_cons, List.not_mem_nil, or_false, forall_eq_or_imp, and_self, resOk])) (by simp only [go_sem, Nat.reduceLT, Nat.reduceEqDiff, Nat.reduceLeDiff, Nat.reduceAdd, Nat.reduceMul, Int.reduceToNat, Nat.reducePow, ↓reduceIte, reduceCtorEq]; (repeat' (first | exact .refl _ | exact AV.le_nil | refine AV.le_tupc rfl ?_ | refine lec_cons ?_ ?_))) (by ((try dsimp only); repeat' ((with_reducible exact .refl _)))) ⟨rfl, rfl⟩
  · simp only [List.length_append, encB_length, hA6, List.length_cons, List.length_nil]; omega
  · simp only [List.length_append, encB_length, hA6, List.length_cons, List.length_nil]
  have h1 : appE log x = 0 := by unfold appE; rw [if_neg (by simp [*]), if_neg (by omega), if_neg (by omega)]
  have h2 : appB log x = log ++ frmB (bodyB x) := by unfold appB; rw [h1]; rfl
  rw [h1, h2]
  have h3 : encB (log ++ frmB (bodyB x)) = encB (log ++ len2 (bodyB x)) ++ encB (sum4 sm) ++ encB (bodyB x) := by
    rw [← encB_append, ← encB_append, frmB, hsb]; simp only [List.append_assoc]
  rw [h3, sum4_enc]
  refine fin_le _ H (by (try simp only [List.mem_singleton, forall_eq, List.mem_cons, List.not_mem_nil, or_false, forall_eq_or_imp, and_self, resOk])) (by simp only [go_sem, Nat.reduceLT, Nat.reduceEqDiff, Nat.reduceLeDiff, Nat.reduceAdd, Nat.reduceMul, Int.reduceToNat, Nat.reducePow, ↓reduceIte, reduceCtorEq, u8_wrap]; (repeat' (first | exact .refl _ | exact AV.le_list _ _ | refine AV.le_tupc rfl ?_ | refine lec_cons ?_ ?_))) (by ((try dsimp only); (try simp only [ List.length_append, List.length_cons, List.length_nil, Nat.zero_add]); repeat' (first | with_reducible exact .refl _ | exact fresh.tok (by assumption) | exact tok_fr (fr_dropt (by assumption)) | exact tok_fr (fr_dropt (fr_dropt (by assumption))) | refine weak_tok ?_ ?_))) ⟨rfl, rfl⟩
end Go.Proofs.Ytdlbbcjacjockaa
