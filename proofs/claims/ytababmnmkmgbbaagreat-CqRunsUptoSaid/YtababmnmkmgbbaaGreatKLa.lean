/-
  A part of the proof: its theorems say what each gives.
-/
import Derived.Test.YtababmnmkmgbbaaGreatKTy
import Derived.Test.YtababmnmkmgbbaaGreatKFw1
import Derived.Test.YtababmnmkmgbbaaGreatKFw2
import Derived.Test.YtababmnmkmgbbaaGreatKFw3
import Derived.Test.YtababmnmkmgbbaaGreatKM4
set_option maxRecDepth 100000
set_option maxHeartbeats 4000000
set_option linter.unusedSimpArgs false
set_option linter.unusedVariables false
namespace Go.Proofs.YtababmnmkmgbbaaGreat
open Go Fw
/-- The first place below n where p holds, or -1. -/
def idxF (p : Nat → Bool) (n : Nat) : Int := match (List.range n).find? p with | some i => (i : Int) | none => -1
theorem idxF_hit {p : Nat → Bool} {n i : Nat} (h : i < n) (hp : p i = true) (h0 : ∀ j, j < i → p j = false) : idxF p n = i := by
  unfold idxF
  have : (List.range n).find? p = some i := by
    rw [List.find?_range_eq_some]
    exact ⟨hp, List.mem_range.2 h, fun j hj => by simp [h0 j hj]⟩
  rw [this]
theorem idxF_miss {p : Nat → Bool} {n : Nat} (h0 : ∀ j, j < n → p j = false) : idxF p n = -1 := by
  unfold idxF
  have : (List.range n).find? p = none := by
    rw [List.find?_range_eq_none]
    exact fun j hj => by simp [h0 j hj]
  rw [this]
/-- The first number that is not 0. -/
def firstE (g : Nat → Int) : Nat → Int
  | 0 => 0
  | n + 1 => if firstE g n = 0 then g n else firstE g n
theorem firstE_miss {g : Nat → Int} : ∀ {n : Nat}, (∀ j, j < n → g j = 0) → firstE g n = 0
  | 0, _ => rfl
  | n + 1, h => by rw [firstE, firstE_miss fun j hj => h j (by omega), if_pos rfl]; exact h n (by omega)
theorem firstE_hit {g : Nat → Int} {i : Nat} : ∀ {n : Nat}, i < n → g i ≠ 0 → (∀ j, j < i → g j = 0) → firstE g n = g i
  | 0, h, _, _ => by omega
  | n + 1, h, h1, h0 => by
    rw [firstE]
    rcases Nat.lt_or_ge i n with hlt | hge
    · rw [firstE_hit hlt h1 h0, if_neg h1]
    · obtain rfl : i = n := by omega
      rw [firstE_miss h0, if_pos rfl]
/-- The first number of a list that is not 0. -/
def firstL {α : Type} (g : α → Int) : List α → Int
  | [] => 0
  | a :: l => if g a = 0 then firstL g l else g a
theorem firstL_append {α : Type} {g : α → Int} (a b : List α) : firstL g (a ++ b) = if firstL g a = 0 then firstL g b else firstL g a := by
  induction a with
  | nil => simp [firstL]
  | cons x l ih =>
    simp only [List.cons_append, firstL, ih]
    split
    · rfl
    · rfl
theorem firstL_step {α : Type} {g : α → Int} {l : List α} {i : Nat} {a : α} (h : firstL g (l.take i) = 0) (ha : l[i]? = some a) (h0 : g a = 0) : firstL g (l.take (i + 1)) = 0 := by
  rw [List.take_add_one, ha, firstL_append, h, if_pos rfl]
  simp [firstL, h0]
theorem firstL_hit {α : Type} {g : α → Int} {l : List α} {i : Nat} {a : α} (h : firstL g (l.take i) = 0) (ha : l[i]? = some a) (h0 : g a ≠ 0) : firstL g l = g a := by
  have : firstL g (l.take (i + 1)) = g a := by
    rw [List.take_add_one, ha, firstL_append, h, if_pos rfl]
    simp [firstL, h0]
  rw [← List.take_append_drop (i + 1) l, firstL_append, this, if_neg h0]
theorem cast_max (a b : Nat) : ((max a b : Nat) : Int) = max (a : Int) (b : Int) := by omega
theorem c_IndexField (xs : List AV) (q : Nat) (cap : List AV) (p : Nat → Bool) (H : Hp) (hx : ∀ i, i < xs.length → ∃ a b c d e, xs.getD i .any = .agg [a, b, c, d, e]) (hn : xs.length ≤ 4611686018427387904)
    (hp : ∀ i, i < xs.length → PureAt Tryz.prog q ((xs.getD i .any) :: cap) H (.con (.bool (p i)))) :
    PureAt Tryz.prog 369 [.list xs none, .fn q cap] H (.con (.int .i64 (idxF p xs.length))) := by
  refine acalls_of (by kernel_rfl) Tryz.func369 rfl 19 Tryz.ntmps369 (by simp) [.tmp 4] rfl ?_
  ((repeat' (first | (refine awp_seq_k (fun K hK => ?_)) | (refine awp_block ?_) | (refine awp_reg _ rfl ?_; (try simp only [go_sem, Nat.reduceLT, Nat.reduceEqDiff, Nat.reduceLeDiff, Nat.reduceAdd, Nat.reduceMul, Int.reduceToNat, Nat.reducePow, ↓reduceIte, reduceCtorEq])) | (refine hK _ ?_; clear hK; (try clear K)))))
  refine awp_loop (ι := Nat) (fun i => ⟨19, [(0, .list xs none), (1, .fn q cap), (7, .con (.int .i64 xs.length)), (8, .con (.int .i64 (i : Int)))], H⟩) (fun i => i ≤ xs.length ∧ ∀ j, j < i → p j = false) (fun i => xs.length - i) 0 ⟨by omega, fun j hj => by omega⟩ ?_ ?_
  · (refine st_le rfl ?_ (by ((try dsimp only); repeat' ((with_reducible exact .refl _)))); (try simp only [go_sem, Nat.reduceLT, Nat.reduceEqDiff, Nat.reduceLeDiff, Nat.reduceAdd, Nat.reduceMul, Int.reduceToNat, Nat.reducePow, ↓reduceIte, reduceCtorEq]))
  intro i ⟨hi, h0⟩
  rcases Nat.lt_or_ge i xs.length with hlt | hge
  · obtain ⟨a, b, c, d, e, hg⟩ := hx i hlt
    have hpi := hp i hlt
    rw [hg] at hpi
    cases hv : p i
    all_goals
      rw [hv] at hpi
      ((repeat' (first | (refine awp_seq_k (fun K hK => ?_)) | (refine awp_block ?_) | (refine awp_reg _ rfl ?_; (try simp only [go_sem, Nat.reduceLT, Nat.reduceEqDiff, Nat.reduceLeDiff, Nat.reduceAdd, Nat.reduceMul, Int.reduceToNat, Nat.reducePow, ↓reduceIte, reduceCtorEq, wrap_succ i (by omega), hg])) | (refine awp_cond _ rfl (fun hc => ?_) (fun hc => ?_) <;> (try (simp only [decide_eq_true_eq, decide_eq_false_iff_not, cds, Decidable.not_not, ite_or, ite_and] at hc)) <;> (try (exfalso; omega))) | (refine awp_skip ?_; (try simp only [sq, bk, ↓reduceIte, Nat.reduceEqDiff, reduceCtorEq])) | (refine awp_ret ?_; (try simp only [sq, bk, ↓reduceIte, Nat.reduceEqDiff, reduceCtorEq])) | (refine PureAt.use (hpi) ?_) | (refine orAt_l ?_) | (with_reducible apply And.intro) | (refine hK _ ?_; clear hK; (try clear K)))); (all_goals (try ((omega)))))
    · refine ⟨i + 1, by omega, ⟨by omega, fun j hj => ?_⟩, ?_⟩
      · rcases Nat.lt_succ_iff_lt_or_eq.1 hj with h | rfl
        · exact h0 j h
        · exact hv
      · (refine st_le rfl ?_ (by ((try dsimp only); repeat' ((with_reducible exact .refl _)))); (try simp only [go_sem, Nat.reduceLT, Nat.reduceEqDiff, Nat.reduceLeDiff, Nat.reduceAdd, Nat.reduceMul, Int.reduceToNat, Nat.reducePow, ↓reduceIte, reduceCtorEq]))
    · rw [idxF_hit hlt hv h0]
      ((all_goals (try refine fin_pure (by (try simp only [List.mem_singleton, forall_eq, resOk, List.mem_cons, List.not_mem_nil, or_false, forall_eq_or_imp, and_self])) ?_ (by ((try dsimp only); repeat' ((with_reducible exact .refl _)))))); (all_goals (try simp only [go_sem, Nat.reduceLT, Nat.reduceEqDiff, Nat.reduceLeDiff, Nat.reduceAdd, Nat.reduceMul, Int.reduceToNat, Nat.reducePow, ↓reduceIte, reduceCtorEq])))
  · obtain rfl : i = xs.length := by omega
    ((repeat' (first | (refine awp_seq_k (fun K hK => ?_)) | (refine awp_reg _ rfl ?_; (try simp only [go_sem, Nat.reduceLT, Nat.reduceEqDiff, Nat.reduceLeDiff, Nat.reduceAdd, Nat.reduceMul, Int.reduceToNat, Nat.reducePow, ↓reduceIte, reduceCtorEq])) | (refine awp_cond _ rfl (fun hc => ?_) (fun hc => ?_) <;> (try (simp only [decide_eq_true_eq, decide_eq_false_iff_not, cds, Decidable.not_not, ite_or, ite_and] at hc)) <;> (try (exfalso; omega))) | (refine awp_exit ?_; (try simp only [sq, bk, ↓reduceIte, Nat.reduceEqDiff, reduceCtorEq])) | (refine awp_ret ?_) | (refine hK _ ?_; clear hK; (try clear K)) | (refine kk (by assumption) ?_))))
    ((all_goals (try refine fin_pure (by (try simp only [List.mem_singleton, forall_eq, resOk, List.mem_cons, List.not_mem_nil, or_false, forall_eq_or_imp, and_self])) ?_ (by ((try dsimp only); repeat' ((with_reducible exact .refl _)))))); (all_goals (try simp only [go_sem, Nat.reduceLT, Nat.reduceEqDiff, Nat.reduceLeDiff, Nat.reduceAdd, Nat.reduceMul, Int.reduceToNat, Nat.reducePow, ↓reduceIte, reduceCtorEq, idxF_miss h0])))
theorem c_ContainsField (xs : List AV) (q : Nat) (cap : List AV) (p : Nat → Bool) (H : Hp) (hx : ∀ i, i < xs.length → ∃ a b c d e, xs.getD i .any = .agg [a, b, c, d, e]) (hn : xs.length ≤ 4611686018427387904)
    (hp : ∀ i, i < xs.length → PureAt Tryz.prog q ((xs.getD i .any) :: cap) H (.con (.bool (p i)))) :
    PureAt Tryz.prog 367 [.list xs none, .fn q cap] H (.con (.bool (decide (0 ≤ idxF p xs.length)))) := by
  refine acalls_of (by kernel_rfl) Tryz.func367 rfl 9 Tryz.ntmps367 (by simp) [.tmp 4] rfl ?_
  ((repeat' (first | (refine awp_seq_k (fun K hK => ?_)) | (refine awp_reg _ rfl ?_; (try simp only [go_sem, Nat.reduceLT, Nat.reduceEqDiff, Nat.reduceLeDiff, Nat.reduceAdd, Nat.reduceMul, Int.reduceToNat, Nat.reducePow, ↓reduceIte, reduceCtorEq])) | (refine awp_ret ?_) | (refine PureAt.use (c_IndexField xs q cap p _ hx hn hp) ?_ <;> (try simp only [go_sem, Nat.reduceLT, Nat.reduceEqDiff, Nat.reduceLeDiff, Nat.reduceAdd, Nat.reduceMul, Int.reduceToNat, Nat.reducePow, ↓reduceIte, reduceCtorEq])) | (refine orAt_l ?_) | (refine hK _ ?_; clear hK; (try clear K)))))
  ((all_goals (try refine fin_pure (by (try simp only [List.mem_singleton, forall_eq, resOk, List.mem_cons, List.not_mem_nil, or_false, forall_eq_or_imp, and_self])) ?_ (by ((try dsimp only); repeat' ((with_reducible exact .refl _)))))); (all_goals (try simp only [go_sem, Nat.reduceLT, Nat.reduceEqDiff, Nat.reduceLeDiff, Nat.reduceAdd, Nat.reduceMul, Int.reduceToNat, Nat.reducePow, ↓reduceIte, reduceCtorEq])))
end Go.Proofs.YtababmnmkmgbbaaGreat
