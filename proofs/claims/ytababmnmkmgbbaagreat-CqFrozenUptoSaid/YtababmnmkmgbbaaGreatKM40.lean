/-
  A part of the proof: its theorems say what each gives.
-/
import Derived.Test.YtababmnmkmgbbaaGreatKM8
import Derived.Test.YtababmnmkmgbbaaGreatKSi
import Derived.Test.YtababmnmkmgbbaaGreatKRl
import Derived.Test.YtababmnmkmgbbaaGreatKQk
set_option maxRecDepth 100000
set_option linter.unusedSimpArgs false
set_option linter.unusedVariables false
namespace Go.Proofs.YtababmnmkmgbbaaGreat
open Go Fw
/-! Rows.With in plain Lean: the place of a row, and what stands there. -/
def posU {α : Type} (c : α → α → Int) (x : α) : List α → Nat
  | [] => 0
  | y :: l => if c y x < 0 then posU c x l + 1 else 0
theorem posU_le {α : Type} (c : α → α → Int) (x : α) : ∀ l : List α, posU c x l ≤ l.length
  | [] => Nat.le_refl _
  | y :: l => by
    have := posU_le c x l
    rw [posU, List.length_cons]; split <;> omega
theorem posU_lt {α : Type} {c : α → α → Int} {x y : α} : ∀ {l : List α} {i : Nat}, i < posU c x l → l[i]? = some y → c y x < 0
  | [], i, h, _ => by simp [posU] at h
  | z :: l, i, h, hy => by
    rw [posU] at h
    split at h
    · rename_i h1
      cases i with
      | zero => simp at hy; subst hy; exact h1
      | succ i => exact posU_lt (l := l) (i := i) (by omega) (by simpa using hy)
    · omega
theorem posU_ge {α : Type} {c : α → α → Int} {x y : α} : ∀ {l : List α}, l[posU c x l]? = some y → ¬ c y x < 0
  | [], h => by simp at h
  | z :: l, h => by
    rw [posU] at h
    split at h
    · exact posU_ge (by simpa using h)
    · rename_i h1; simp at h; subst h; exact h1
/-- A place below which all are less, and that is not less itself or the end, is the place. -/
theorem posU_eq {α : Type} {c : α → α → Int} {x : α} {l : List α} {i : Nat} (h1 : i ≤ posU c x l) (h2 : ∀ y, l[i]? = some y → ¬ c y x < 0) (h3 : i ≤ l.length) : i = posU c x l := by
  rcases Nat.lt_or_ge i (posU c x l) with h | h
  · have hl := Nat.lt_of_lt_of_le h (posU_le c x l)
    exact absurd (posU_lt h (List.getElem?_eq_getElem hl)) (h2 _ (List.getElem?_eq_getElem hl))
  · omega
theorem posU_succ {α : Type} {c : α → α → Int} {x y : α} : ∀ {l : List α} {i : Nat}, i ≤ posU c x l → l[i]? = some y → c y x < 0 → i + 1 ≤ posU c x l
  | l, i, h, hy, hc => by
    rcases Nat.lt_or_ge i (posU c x l) with h1 | h1
    · omega
    · obtain rfl : i = posU c x l := by omega
      exact absurd hc (posU_ge hy)
theorem insU_here {α : Type} {c : α → α → Int} {x y : α} : ∀ {l : List α}, l[posU c x l]? = some y → c y x = 0 → insU c x l = l
  | [], h, _ => by simp at h
  | z :: l, h, hc => by
    rw [posU] at h
    rw [insU]
    split at h
    · rename_i h1
      rw [if_pos h1, insU_here (by simpa using h) hc]
    · rename_i h1
      simp at h; subst h
      rw [if_neg h1, if_pos hc]
theorem insU_new {α : Type} {c : α → α → Int} {x : α} : ∀ {l : List α}, (∀ y, l[posU c x l]? = some y → ¬ c y x = 0) → insU c x l = l.take (posU c x l) ++ [x] ++ l.drop (posU c x l)
  | [], _ => rfl
  | z :: l, h => by
    rw [posU] at h ⊢
    rw [insU]
    by_cases h1 : c z x < 0
    · rw [if_pos h1] at h ⊢
      rw [if_pos h1, insU_new (fun y hy => h y (by simpa using hy))]
      simp
    · rw [if_neg h1] at h ⊢
      rw [if_neg h1, if_neg (h z (by simp))]
      simp
end Go.Proofs.YtababmnmkmgbbaaGreat
/-
  A part of the proof: its theorems say what each gives.
-/
-- tok 39
set_option maxRecDepth 100000
set_option maxHeartbeats 4000000
set_option linter.unusedSimpArgs false
set_option linter.unusedVariables false
namespace Go.Proofs.YtababmnmkmgbbaaGreat
open Go Fw
/-! Rows.With: a row at its place. -/
theorem c_With (l : List (List Val)) (row : List Val) (H : Hp) (hl : gRws l) (hr : gRow row) : PureAt Tryz.prog 145 [.list (encRws l) none, cRw row] H (.list (encRws (insU cmpR row l)) none) := by
  obtain ⟨h1, h2⟩ := hl
  have hle := posU_le cmpR row l
  refine acalls_of (by kernel_rfl) Tryz.func145 rfl 41 Tryz.ntmps145 (by simp) [.tmp 4] rfl ?_
  refine awp_cut 4 (fun K hK => ?_)
  simp only [dropN] at hK
  have hK1 : (∀ z, l[posU cmpR row l]? = some z → ¬ cmpR z row = 0) → ∀ s : St, St.le s ⟨41, [(0, .list (encRws l) none), (1, cRw row), (5, .con (.int .i64 (posU cmpR row l : Int)))], H⟩ → K s := by
    intro hne s hs
    refine hK _ (awp_weak _ hs ?_)
    clear hs hK
    rw [insU_new hne]
    ((repeat' (first | (refine awp_seq_k (fun K hK => ?_)) | (refine awp_reg _ rfl ?_; (try simp only [go_sem, Nat.reduceLT, Nat.reduceEqDiff, Nat.reduceLeDiff, Nat.reduceAdd, Nat.reduceMul, ↓reduceIte, reduceCtorEq, bls])) | (refine orAt_l ?_))))
    refine ACalls.mono (c_CloneRows l H (by omega)) (fun r H' hx => ?_)
    obtain ⟨ix, hix, rfl, rfl⟩ := hx
    rw [flat_rws]
    (try simp only [go_sem, Nat.reduceLT, Nat.reduceLeDiff, Nat.reduceAdd, ↓reduceIte])
    ((repeat' (first | (refine orAt_r 39 ?_) | (refine orAt_l ?_) | (with_reducible apply And.intro) | (refine all_fresh fun id fr => ?_))); (all_goals (try ((decide)))))
    refine ACalls.mono (c_InsertRw l (posU cmpR row l) row ix id H.bx H.tk hle h1 (hix.imp (fun h => h) fun h => h.1) fr.2) (fun r H' hx => ?_)
    obtain ⟨rfl, rfl⟩ := hx
    (try simp only [go_sem, Nat.reduceLT, Nat.reduceLeDiff, Nat.reduceAdd, ↓reduceIte])
    ((repeat' (first | (refine awp_ret ?_) | (refine hK _ ?_; clear hK; (try clear K)))))
    (refine fin_le (.list (encRws (l.take (posU cmpR row l) ++ [row] ++ l.drop (posU cmpR row l))) none) (H) (by (try simp only [forall_eq, resOk, List.mem_cons, List.not_mem_nil, or_false])) (by (try simp only [go_sem, ↓reduceIte]); (repeat' (first | exact .refl _ | exact AV.le_nil | exact AV.le_emp | exact AV.le_list _ _ | exact AV.le_any _ | exact lec_nil | refine AV.le_aggc rfl ?_ | refine AV.le_tupc rfl ?_ | refine lec_cons ?_ ?_))) (by ((try dsimp only); repeat' ((with_reducible exact .refl _)))) ⟨rfl, rfl⟩)
  clear hK
  ((repeat' (first | (refine awp_block ?_) | (refine awp_reg _ rfl ?_; (try simp only [go_sem, Nat.reduceLT, Nat.reduceAdd])))))
  refine awp_loopKG (ι := Nat) [0, 1] (fun q => [(5, .con (.int .i64 (q : Int)))]) (fun q => H) (fun q => q ≤ posU cmpR row l) (fun q => l.length - q) 0 (by intro; simp only [keepT_cons, keepT_nil, List.cons_append, List.nil_append, lk, Nat.reduceEqDiff, ↓reduceIte, reduceCtorEq]; rfl) ?_ ?_ ?_ ?_
  · exact Nat.zero_le _
  · simp only [go_sem, Nat.reduceEqDiff, ↓reduceIte]
  · exact .refl _
  intro i hi
  rcases Nat.lt_or_ge i l.length with hlt | hge
  · obtain ⟨y, hy, hm⟩ := at_lt hlt
    have hg := encRws_get hy
    have hcm := fun H => c_relCmp y row H (h2 y hm) hr
    have c3 : ((i : Int) < (l.length : Int)) = True := eq_true (by omega)
    by_cases h0 : cmpR y row < 0
    · have c1 := eq_true h0
      have hs := posU_succ hi hy h0
      ((repeat' (first | (refine awp_seq_k (fun K hK => ?_)) | (refine awp_block ?_) | (refine awp_reg _ rfl ?_; (try simp only [go_sem, Nat.reduceLT, Nat.reduceEqDiff, Nat.reduceLeDiff, Nat.reduceAdd, ↓reduceIte, reduceCtorEq, wrap_succ i (by omega), hg, c3, ↓pkv, decide_true, bls])) | (refine awp_cond _ rfl (fun hc => ?_) (fun hc => ?_) <;> (try (simp only [cds] at hc))) | (refine awp_skip ?_; (try simp only [sq])) | (refine ⟨_, hcm _, ?_⟩ <;> (try simp only [go_sem, c1, decide_true])) | (with_reducible apply And.intro) | (refine hK _ ?_; clear hK; (try clear K)))); (all_goals (try ((omega)))))
      refine ⟨i + 1, by omega, hs, ?_⟩
      (refine st_le rfl ?_ (by ((try dsimp only); repeat' ((with_reducible exact .refl _)))); (try simp only [go_sem, Nat.reduceEqDiff, ↓reduceIte, reduceCtorEq]))
    · have c1 := eq_false h0
      have hp : i = posU cmpR row l := posU_eq hi (fun z hz => by rw [hy] at hz; cases hz; exact h0) (by omega)
      by_cases h3 : cmpR y row = 0
      · have c2 := eq_true h3
        have e : insU cmpR row l = l := insU_here (by rw [← hp]; exact hy) h3
        rw [e]
        ((repeat' (first | (refine awp_seq_k (fun K hK => ?_)) | (refine awp_reg _ rfl ?_; (try simp only [go_sem, Nat.reduceLT, Nat.reduceEqDiff, Nat.reduceLeDiff, Nat.reduceAdd, ↓reduceIte, reduceCtorEq, hg, c3, ↓pkv, decide_true, bls])) | (refine awp_cond _ rfl (fun hc => ?_) (fun hc => ?_) <;> (try (simp only [decide_eq_true_eq, decide_eq_false_iff_not, cds] at hc)) <;> (try (exfalso; omega))) | (refine awp_exit ?_; (try simp only [sq, bk, ↓reduceIte])) | (refine awp_ret ?_; (try simp only [sq])) | (refine ⟨_, hcm _, ?_⟩ <;> (try simp only [go_sem, h3, decide_true])) | (with_reducible apply And.intro) | (refine hK _ ?_; clear hK; (try clear K)))); (all_goals (try ((omega)))))
        (refine fin_le (.list (encRws l) none) (H) (by (try simp only [forall_eq, resOk, List.mem_cons, List.not_mem_nil, or_false])) (by (try simp only [go_sem, ↓reduceIte]); (repeat' (first | exact .refl _ | exact AV.le_nil | exact AV.le_emp | exact AV.le_list _ _ | exact AV.le_any _ | exact lec_nil | refine AV.le_aggc rfl ?_ | refine AV.le_tupc rfl ?_ | refine lec_cons ?_ ?_))) (by ((try dsimp only); repeat' ((with_reducible exact .refl _)))) ⟨rfl, rfl⟩)
      · have c2 := eq_false h3
        ((repeat' (first | (refine awp_seq_k (fun K hK => ?_)) | (refine awp_reg _ rfl ?_; (try simp only [go_sem, Nat.reduceLT, Nat.reduceEqDiff, Nat.reduceLeDiff, Nat.reduceAdd, ↓reduceIte, reduceCtorEq, hg, c3, ↓pkv, decide_true, bls])) | (refine awp_cond _ rfl (fun hc => ?_) (fun hc => ?_) <;> (try (simp only [cds] at hc))) | (refine awp_skip ?_; (try simp only [sq])) | (refine awp_exit ?_; (try simp only [sq, bk, ↓reduceIte])) | (refine ⟨_, hcm _, ?_⟩ <;> (try simp only [go_sem, c1, c2, decide_false])) | (with_reducible apply And.intro) | (refine awpN_zero ?_) | (refine hK _ ?_; clear hK; (try clear K)))); (all_goals (try ((omega)))))
        exact hK1 (fun z hz => by rw [← hp, hy] at hz; cases hz; exact h3) _ (by rw [← hp]; (refine st_le rfl ?_ (by ((try dsimp only); repeat' ((with_reducible exact .refl _)))); (try simp only [go_sem, Nat.reduceEqDiff, ↓reduceIte, reduceCtorEq])))
  · have hp : posU cmpR row l = l.length := by omega
    obtain rfl : i = l.length := by omega
    have c3 : ((l.length : Int) < (l.length : Int)) = False := eq_false (by omega)
    ((repeat' (first | (refine awp_seq_k (fun K hK => ?_)) | (refine awp_reg _ rfl ?_; (try simp only [go_sem, Nat.reduceLT, Nat.reduceEqDiff, ↓reduceIte, reduceCtorEq, c3, ↓pkv, decide_false, bls])) | (refine awp_cond _ rfl (fun hc => ?_) (fun hc => ?_) <;> (try (simp only [cds] at hc))) | (refine awp_skip ?_; (try simp only [sq])) | (refine awp_exit ?_; (try simp only [sq, bk, ↓reduceIte])) | (refine ⟨AV.any, fun hg => False.elim hg, ?_⟩; (try simp only [go_sem])) | (with_reducible apply And.intro) | (refine awpN_zero ?_) | (refine hK _ ?_; clear hK; (try clear K)))); (all_goals (try (((intro hh; simp only at hh ⊢; (done)))))))
    exact hK1 (fun z hz => by rw [hp] at hz; simp at hz) _ (by rw [hp]; (refine st_le rfl ?_ (by ((try dsimp only); repeat' ((with_reducible exact .refl _)))); (try simp only [go_sem, Nat.reduceEqDiff, ↓reduceIte, reduceCtorEq])))
end Go.Proofs.YtababmnmkmgbbaaGreat
/-
  A part of the proof: its theorems say what each gives.
-/
set_option maxRecDepth 100000
set_option maxHeartbeats 4000000
set_option linter.unusedSimpArgs false
set_option linter.unusedVariables false
namespace Go.Proofs.YtababmnmkmgbbaaGreat
open Go Fw
/-! The small base. -/
theorem AV.le_listc {xs ys : List AV} (hl : xs.length = ys.length) (h : ∀ i, i < xs.length → (xs.getD i .any).cells.length = (ys.getD i .any).cells.length ∧ (∀ z ∈ (ys.getD i .any).cells, z.one = true) ∧ ∀ j, j < (xs.getD i .any).cells.length → ((xs.getD i .any).cells.getD j .any).le ((ys.getD i .any).cells.getD j .any)) :
    (AV.list xs none).le (.list ys none) := by
  intro σ w v hv
  cases hv with
  | nil => obtain rfl := List.eq_nil_of_length_eq_zero hl.symm; exact .nil
  | odd a => obtain rfl := List.eq_nil_of_length_eq_zero hl.symm; exact .odd a
  | list _ b o c k vs hc hm hk hcell hvs =>
    have hxk : ∀ i, i < xs.length → (xs.getD i .any).cells.length = k := fun i hi => by
      rw [List.getD_eq_getElem?_getD, List.getElem?_eq_getElem hi]; exact (hk _ (List.getElem_mem _)).1
    rw [hl] at hc hcell ⊢
    refine .list ys b o c k vs hc hm (fun y hy => ?_) hcell fun i j hi hj => ?_
    · obtain ⟨i, hi, rfl⟩ := List.getElem_of_mem hy
      have hi2 : i < xs.length := by omega
      obtain ⟨g1, g2, _⟩ := h i hi2
      rw [hxk i hi2] at g1
      rw [List.getD_eq_getElem?_getD (l := ys), List.getElem?_eq_getElem hi] at g1 g2
      exact ⟨g1.symm, g2⟩
    · have hi2 : i < xs.length := by omega
      exact (h i hi2).2.2 j (by rw [hxk i hi2]; exact hj) σ w _ (hvs i j hi2 hj)
abbrev numV2 (n : Int) : Val := .mk 2 n ⟨#[]⟩ []
def smallB : List Rel := [⟨⟨#[97]⟩, [⟨⟨#[120]⟩, 2⟩], [], [[numV2 1], [numV2 2]]⟩]
def eachQ : CQ := ⟨[⟨true, 0, zV⟩], [⟨⟨#[97]⟩, [⟨true, 0, zV⟩]⟩]⟩
theorem c_num (n : Int) (H : Hp) : PureAt Tryz.prog 140 [.con (.int .i64 n)] H (cV (numV2 n)) := by
  refine acalls_of (by kernel_rfl) Tryz.func140 rfl 5 Tryz.ntmps140 (by simp) [.cell 2 92] rfl ?_
  ((repeat' (first | (refine awp_seq_k (fun K hK => ?_)) | (refine awp_reg _ rfl ?_; (try simp (maxSteps := 10000000) only [go_sem, Nat.reduceLT, Nat.reduceEqDiff, Nat.reduceLeDiff, Nat.reduceAdd, ↓reduceIte, reduceCtorEq])) | (refine awp_ret ?_) | (refine all_fresh fun id fr => ?_) | (refine hK _ ?_; clear hK; (try clear K)))))
  (refine fin_le (cV (numV2 n)) (H) (by (try simp only [forall_eq, resOk, List.mem_cons, List.not_mem_nil, or_false]); (try simp (maxSteps := 10000000) only [go_sem, Nat.reduceEqDiff, Nat.reduceLeDiff, Nat.reduceAdd, ↓reduceIte])) (by (try simp (maxSteps := 10000000) only [go_sem, Nat.reduceEqDiff, ↓reduceIte]); (repeat' (first | exact .refl _ | exact AV.le_nil | refine AV.le_aggc rfl ?_ | refine lec_cons ?_ ?_))) (by ((try dsimp only); repeat' (first | with_reducible exact .refl _ | exact box_fresh (by assumption) | refine weak_box ?_ ?_))) ⟨rfl, rfl⟩)
theorem c_small (H : Hp) : PureAt Tryz.prog 95 [] H (.list (encRels smallB) none) := by
  refine acalls_of (by kernel_rfl) Tryz.func95 rfl 10 Tryz.ntmps95 (by simp) [.tmp 0] rfl ?_
  ((repeat' (first | (refine awp_seq_k (fun K hK => ?_)) | (refine awp_reg _ rfl ?_; (try simp (maxSteps := 10000000) only [go_sem, Nat.reduceLT, Nat.reduceEqDiff, Nat.reduceLeDiff, Nat.reduceAdd, Nat.reduceMul, ↓reduceIte, reduceCtorEq])) | (refine awp_ret ?_) | (refine PureAt.use (c_num _ _) ?_ <;> (try simp (maxSteps := 10000000) only [go_sem, Nat.reduceAdd])) | (refine orAt_l ?_) | (with_reducible apply And.intro) | (refine hK _ ?_; clear hK; (try clear K)))); (all_goals (try ((decide)))))
  refine fin_le (.list (encRels smallB) none) H (by (try simp only [forall_eq, List.mem_cons, List.not_mem_nil, or_false, resOk])) (AV.le_listc rfl fun i hi => ?_) (.refl _) ⟨rfl, rfl⟩
  obtain rfl : i = 0 := by simp at hi; omega
  refine ⟨rfl, fun z hz => ?_, fun j hj => ?_⟩
  · exact (encRels_fits smallB _ (List.mem_singleton.2 rfl)).2 z hz
  · match j, hj with
    | 0, _ => exact .refl _
    | 1, _ => exact .refl _
    | 2, _ => exact AV.le_nil
    | 3, _ => exact .refl _
end Go.Proofs.YtababmnmkmgbbaaGreat
