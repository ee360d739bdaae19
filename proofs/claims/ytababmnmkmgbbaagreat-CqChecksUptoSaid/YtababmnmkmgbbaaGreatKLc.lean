/-
  A part of the proof: its theorems say what each gives.
-/
import Derived.Test.YtababmnmkmgbbaaGreatKVg
import Derived.Test.YtababmnmkmgbbaaGreatKFw1
import Derived.Test.YtababmnmkmgbbaaGreatKFw2
import Derived.Test.YtababmnmkmgbbaaGreatKFw3
set_option maxRecDepth 100000
set_option maxHeartbeats 4000000
set_option linter.unusedSimpArgs false
set_option linter.unusedVariables false
namespace Go.Proofs.YtababmnmkmgbbaaGreat
open Go Fw
theorem c_CloneField (fs : List Fld) (hl : fs.length ≤ 1000000000) (H : Hp) : ACalls Tryz.prog 208 [.list (encFs fs) none] H
    (fun r H' => (encFs fs = [] ∧ r = .list [] none ∧ H' = H) ∨ (encFs fs ≠ [] ∧ ∃ id, fresh H id ∧ r = .sl id fs.length 274 5 ∧ H' = ⟨(id, flat (encFs fs)) :: H.bx, H.tk⟩)) := by
  refine acalls_le (R := fun r H' => (encFs fs = [] ∧ (r = .emp ∨ r = .con (.slice none 0 0)) ∧ H' = H) ∨ (encFs fs ≠ [] ∧ ∃ id, fresh H id ∧ r = .sl id fs.length 274 5 ∧ H' = ⟨(id, flat (encFs fs)) :: H.bx, H.tk⟩)) ?_ (fun r H' h => by
    rcases h with ⟨h1, rfl | rfl, h3⟩ | h
    · exact ⟨_, AV.le_emp, .inl ⟨h1, rfl, h3⟩⟩
    · exact ⟨_, AV.le_nil, .inl ⟨h1, rfl, h3⟩⟩
    · exact ⟨r, .rfl, .inr h⟩)
  refine acalls_of (by kernel_rfl) Tryz.func208 rfl 8 Tryz.ntmps208 (by simp) [.tmp 2] rfl ?_
  ((repeat' (first | (refine awp_seq_k (fun K hK => ?_)) | (refine awp_reg _ rfl ?_; (try simp only [go_sem, Nat.reduceLT, Nat.reduceEqDiff, Nat.reduceLeDiff, Nat.reduceAdd, Nat.reduceMul, Int.reduceToNat, Nat.reducePow, ↓reduceIte, reduceCtorEq])) | (refine awp_cond _ rfl (fun hc => ?_) (fun hc => ?_)) | (refine awp_skip ?_; (try simp only [sq, bk, ↓reduceIte, Nat.reduceEqDiff, reduceCtorEq])) | (refine awp_ret ?_; (try simp only [sq, bk, ↓reduceIte, Nat.reduceEqDiff, reduceCtorEq])) | (refine orAt_l ?_) | (with_reducible apply And.intro) | (refine all_fresh fun id fr => ?_) | (refine all_nil fun b hb => ?_) | (refine all_e fun he => ?_) | (refine all_ne fun hne => ?_) | (refine hK _ ?_; clear hK; (try clear K)))); (all_goals (try ((omega)))))
  · refine fin_any (x := .con (.slice none 0 0)) (H := H) (by (try simp only [List.mem_singleton, forall_eq, resOk, List.mem_cons, List.not_mem_nil, or_false, forall_eq_or_imp, and_self])) (by (try simp only [go_sem, Nat.reduceLT, Nat.reduceEqDiff, Nat.reduceLeDiff, Nat.reduceAdd, Nat.reduceMul, Int.reduceToNat, Nat.reducePow, ↓reduceIte, reduceCtorEq])) (by ((try dsimp only); repeat' ((with_reducible exact .refl _)))) ?_
    exact .inl ⟨hb hc, .inr rfl, rfl⟩
  · refine fin_any (x := .emp) (H := H) (by (try simp only [List.mem_singleton, forall_eq, resOk, List.mem_cons, List.not_mem_nil, or_false, forall_eq_or_imp, and_self])) (by (try simp only [go_sem, Nat.reduceLT, Nat.reduceEqDiff, Nat.reduceLeDiff, Nat.reduceAdd, Nat.reduceMul, Int.reduceToNat, Nat.reducePow, ↓reduceIte, reduceCtorEq])) (by ((try dsimp only); repeat' ((with_reducible exact .refl _)))) ?_
    exact .inl ⟨he, .inl rfl, rfl⟩
  · refine fin_any (x := .sl id fs.length 274 5) (H := ⟨(id, flat (encFs fs)) :: H.bx, H.tk⟩) (by (try simp only [List.mem_singleton, forall_eq, resOk, List.mem_cons, List.not_mem_nil, or_false, forall_eq_or_imp, and_self])) (by (try simp only [go_sem, Nat.reduceLT, Nat.reduceEqDiff, Nat.reduceLeDiff, Nat.reduceAdd, Nat.reduceMul, Int.reduceToNat, Nat.reducePow, ↓reduceIte, reduceCtorEq])) (by ((try dsimp only); repeat' ((with_reducible exact .refl _)))) ?_
    exact .inr ⟨hne, id, fr, rfl, rfl⟩
end Go.Proofs.YtababmnmkmgbbaaGreat
