/-
  A part of the proof: its theorems say what each gives.
-/
import Derived.Test.YtdlbbcjacjockaaKRc
set_option maxRecDepth 100000
set_option maxHeartbeats 8000000
set_option linter.unusedSimpArgs false
set_option linter.unusedVariables false
namespace Go.Proofs.Ytdlbbcjacjockaa
open Go Fw
/-! The reference: frames. -/
theorem c_Framed (x : Ent) (H : Hp) (hw : WfE x) (hs : SmallE x) : PureAt Try.prog 9 [cE x] H (.list (encB (frmB (bodyB x))) none) := by
  have hbl := hs.all
  have hq : IntKind.i64.wrap (((bodyB x).length : Int).tdiv 256) = (((bodyB x).length / 256 : Nat) : Int) := by
    rw [Int.tdiv_eq_ediv_of_nonneg (by omega), wrap_id (by omega) (by omega)]; omega
  have hA : ∀ t : List AV, AV.con (.int .u8 (IntKind.u8.wrap (((bodyB x).length / 256 : Nat) : Int))) :: AV.con (.int .u8 (IntKind.u8.wrap ((bodyB x).length : Int))) :: t = encB (len2 (bodyB x)) ++ t := fun t => by rw [len2_enc, u8_wrap, u8_wrap]; rfl
  have hh : ∀ id H, PureAt Try.prog 20 [.list (encB (len2 (bodyB x)) ++ encB (bodyB x)) (some id)] H (.con (.int .i64 (sumB (len2 (bodyB x) ++ bodyB x)))) := fun id H => by
    have := c_Hash (len2 (bodyB x) ++ bodyB x) H (by simp only [List.length_append, len2, List.length_cons, List.length_nil]; omega)
    rw [encB_append] at this
    exact PureAt.tok1 this
  generalize hsb : sumB (len2 (bodyB x) ++ bodyB x) = sm at *
  refine acalls_of (by kernel_rfl) Try.func9 rfl 39 Try.ntmps9 (by simp) [.tmp 2] rfl ?_
  ((repeat' (first | (refine awp_seq_k (fun K hK => ?_)) | (refine awp_reg _ rfl ?_; (try simp only [go_sem, Nat.reduceLT, Nat.reduceEqDiff, Nat.reduceLeDiff, Nat.reduceAdd, Nat.reduceMul, Int.reduceToNat, Nat.reducePow, ↓reduceIte, reduceCtorEq, hq, hA])) | (refine awp_ret ?_) | (refine ACalls.ex (ACalls.mono (c_Body x _ hw hs) fun _ _ h => h) (fun id fr => ?_) <;> ((try simp only [go_sem, Nat.reduceLT, Nat.reduceEqDiff, Nat.reduceLeDiff, Nat.reduceAdd, Nat.reduceMul, Int.reduceToNat, Nat.reducePow, ↓reduceIte, reduceCtorEq, hq, hA]))) | (refine PureAt.use (hh _ _) ?_ <;> (try simp only [go_sem, Nat.reduceLT, Nat.reduceEqDiff, Nat.reduceLeDiff, Nat.reduceAdd, Nat.reduceMul, Int.reduceToNat, Nat.reducePow, ↓reduceIte, reduceCtorEq, hq, hA])) | (refine orAt_r 1 ?_) | (refine orAt_r 14 ?_) | (refine orAt_r 36 ?_) | (with_reducible apply And.intro) | (refine all_fresh fun id fr => ?_; (try have := NeI.of_frt fr); (try have := NeI.of_frt (fr_dropt fr))) | (refine hK _ ?_; clear hK; (try clear K)))); (all_goals (try (first | omega | decide))))
  · simp only [List.append_nil, encB_length, len2, List.length_cons, List.length_nil]; omega
  · simp only [List.append_nil, encB_length, len2, List.length_cons, List.length_nil]
  · simp only [List.length_append, encB_length, len2, List.length_cons, List.length_nil]; omega
  · simp only [List.length_append, encB_length, len2, List.length_cons, List.length_nil]
  have h3 : encB (frmB (bodyB x)) = encB (len2 (bodyB x)) ++ encB (sum4 sm) ++ encB (bodyB x) := by
    rw [← encB_append, ← encB_append, frmB, hsb]
  rw [h3, sum4_enc]
  refine fin_le _ H (by (try simp only [List.mem_singleton, forall_eq, List.mem_cons, List.not_mem_nil, or_false, forall_eq_or_imp, and_self, resOk])) (by simp only [go_sem, Nat.reduceLT, Nat.reduceEqDiff, Nat.reduceLeDiff, Nat.reduceAdd, Nat.reduceMul, Int.reduceToNat, Nat.reducePow, ↓reduceIte, reduceCtorEq, u8_wrap]; (repeat' (first | exact .refl _ | exact AV.le_nil | exact AV.le_list _ _ | exact AV.le_any _ | exact lec_nil | refine AV.le_aggc rfl ?_ | refine AV.le_tupc rfl ?_ | refine lec_cons ?_ ?_))) (by ((try dsimp only); (try simp only [ List.length_append, List.length_cons, List.length_nil, Nat.zero_add]); repeat' (first | with_reducible exact .refl _ | exact fresh.tok (by assumption) | exact tok_fr (fr_dropt (by assumption)) | exact tok_fr (fr_dropt (fr_dropt (by assumption))) | refine weak_tok ?_ ?_))) ⟨rfl, rfl⟩
end Go.Proofs.Ytdlbbcjacjockaa
