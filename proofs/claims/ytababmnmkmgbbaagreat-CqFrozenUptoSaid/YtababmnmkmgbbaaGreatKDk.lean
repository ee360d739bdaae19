/-
  A part of the proof: its theorems say what each gives.
-/
import Derived.Test.YtababmnmkmgbbaaGreatKM5
import Derived.Test.YtababmnmkmgbbaaGreatKM17
import Derived.Test.YtababmnmkmgbbaaGreatKFw1
import Derived.Test.YtababmnmkmgbbaaGreatKFw2
import Derived.Test.YtababmnmkmgbbaaGreatKFw3
set_option maxRecDepth 100000
set_option maxHeartbeats 4000000
set_option linter.unusedSimpArgs false
set_option linter.unusedVariables false
namespace Go.Proofs.YtababmnmkmgbbaaGreat
open Go Fw
/-! slices.Clone. -/
theorem encCols_fits (l : List Col) : ∀ x ∈ encCols l, x.fits 2 := by
  intro x hx
  obtain ⟨y, _, rfl⟩ := List.mem_map.1 hx
  exact ⟨rfl, by simp [AV.cells, AV.one, Value.oneCell']⟩
theorem encKeys_fits (l : List ByteArray) : ∀ x ∈ encKeys l, x.fits 1 := by
  intro x hx
  obtain ⟨y, _, rfl⟩ := List.mem_map.1 hx
  exact ⟨rfl, by simp [AV.cells, AV.one, Value.oneCell']⟩
theorem encRels_fits (l : List Rel) : ∀ x ∈ encRels l, x.fits 4 := by
  intro x hx
  obtain ⟨y, _, rfl⟩ := List.mem_map.1 hx
  exact ⟨rfl, by simp [AV.cells, AV.one, Value.oneCell']⟩
theorem encVs_fits (l : List Val) : ∀ x ∈ encVs l, x.fits 4 := by
  intro x hx
  obtain ⟨y, _, rfl⟩ := List.mem_map.1 hx
  exact ⟨rfl, by simp [AV.cells, AV.one, Value.oneCell']⟩
theorem encRws_fits (l : List (List Val)) : ∀ x ∈ encRws l, x.fits 1 := by
  intro x hx
  obtain ⟨y, _, rfl⟩ := List.mem_map.1 hx
  exact ⟨rfl, by simp [AV.cells, AV.one, Value.oneCell']⟩
theorem c_CloneCol (l : List Col) (H : Hp) (hl : l.length ≤ 100000000) : ACalls Tryz.prog 100 [.list (encCols l) none] H
    (fun r H' => ∃ ix, (l = [] ∨ fresh H ix) ∧ r = .sl ix l.length 106 2 ∧ H' = ⟨hold ix (flat (encCols l)) H.bx, H.tk⟩) := by
  refine acalls_le (R := fun r H' => (encCols l = [] ∧ (r = .con (.slice none 0 0) ∨ r = .emp) ∧ H' = H) ∨ (encCols l ≠ [] ∧ ∃ id, fresh H id ∧ r = .sl id l.length 106 2 ∧ H' = ⟨(id, flat (encCols l)) :: H.bx, H.tk⟩)) ?_ (fun r H' h => by
    rcases h with ⟨h1, h2, h3⟩ | ⟨h1, id, h2, h3, h4⟩
    · obtain rfl : l = [] := List.map_eq_nil_iff.1 h1
      rcases h2 with rfl | rfl
      · exact ⟨_, AV.le_nil_sl 0 _ _, 0, .inl rfl, rfl, h3⟩
      · exact ⟨_, AV.le_emp_sl 0 _ _, 0, .inl rfl, rfl, h3⟩
    · subst h3 h4
      refine ⟨_, .rfl, id, .inr h2, rfl, ?_⟩
      obtain ⟨x, l, rfl⟩ := List.exists_cons_of_ne_nil (fun e : l = [] => h1 (by rw [e]; rfl))
      rfl)
  refine acalls_of (by kernel_rfl) Tryz.func100 rfl 8 Tryz.ntmps100 (by simp) [.tmp 2] rfl ?_
  ((repeat' (first | (refine awp_seq_k (fun K hK => ?_)) | (refine awp_reg _ rfl ?_; (try simp only [go_sem, Nat.reduceLT, Nat.reduceEqDiff, Nat.reduceLeDiff, Nat.reduceAdd, Nat.reduceMul, ↓reduceIte, reduceCtorEq])) | (refine awp_cond _ rfl (fun hc => ?_) (fun hc => ?_)) | (refine awp_skip ?_; (try simp only [sq])) | (refine awp_ret ?_; (try simp only [sq])) | (refine orAt_l ?_) | (with_reducible apply And.intro) | (refine all_fresh fun id fr => ?_) | (refine all_nil fun b hb => ?_) | (refine all_e fun he => ?_) | (refine all_ne fun hne => ?_) | (refine hK _ ?_; clear hK; (try clear K)))); (all_goals (try ((omega)))))
  · refine fin_any (x := .con (.slice none 0 0)) (H := H) (by (try simp only [forall_eq, resOk, List.mem_cons, List.not_mem_nil, or_false])) (by (try simp only [go_sem, ↓reduceIte])) (by ((try dsimp only); repeat' ((with_reducible exact .refl _)))) ?_
    exact .inl ⟨hb hc, .inl rfl, rfl⟩
  · refine fin_any (x := .emp) (H := H) (by (try simp only [forall_eq, resOk, List.mem_cons, List.not_mem_nil, or_false])) (by (try simp only [go_sem, ↓reduceIte])) (by ((try dsimp only); repeat' ((with_reducible exact .refl _)))) ?_
    exact .inl ⟨he, .inr rfl, rfl⟩
  · refine fin_any (x := .sl id l.length 106 2) (H := ⟨(id, flat (encCols l)) :: H.bx, H.tk⟩) (by (try simp only [forall_eq, resOk, List.mem_cons, List.not_mem_nil, or_false])) (by (try simp only [go_sem, ↓reduceIte])) (by ((try dsimp only); repeat' ((with_reducible exact .refl _)))) ?_
    exact .inr ⟨hne, id, fr, rfl, rfl⟩
theorem c_CloneLCol (l : List Col) (H : Hp) (hl : l.length ≤ 100000000) : PureAt Tryz.prog 100 [.list (encCols l) none] H (.list (encCols l) none) :=
  ACalls.frzNZ (c_CloneCol l H hl |>.mono fun r H' ⟨ix, h1, h2, h3⟩ => ⟨ix, 106, 2, by rw [encCols_length]; exact h2, encCols_fits l, h3, by
    rcases h1 with rfl | h1
    · exact .inl rfl
    · rcases l with _ | ⟨x, l⟩
      · exact .inl rfl
      · exact .inr ⟨by show (cCol x).cells ++ _ ≠ []; simp [AV.cells], h1.1⟩⟩)
theorem c_CloneStr (l : List ByteArray) (H : Hp) (hl : l.length ≤ 100000000) : ACalls Tryz.prog 101 [.list (encKeys l) none] H
    (fun r H' => ∃ ix, (l = [] ∨ fresh H ix) ∧ r = .sl ix l.length 9 1 ∧ H' = ⟨hold ix (flat (encKeys l)) H.bx, H.tk⟩) := by
  refine acalls_le (R := fun r H' => (encKeys l = [] ∧ (r = .con (.slice none 0 0) ∨ r = .emp) ∧ H' = H) ∨ (encKeys l ≠ [] ∧ ∃ id, fresh H id ∧ r = .sl id l.length 9 1 ∧ H' = ⟨(id, flat (encKeys l)) :: H.bx, H.tk⟩)) ?_ (fun r H' h => by
    rcases h with ⟨h1, h2, h3⟩ | ⟨h1, id, h2, h3, h4⟩
    · obtain rfl : l = [] := List.map_eq_nil_iff.1 h1
      rcases h2 with rfl | rfl
      · exact ⟨_, AV.le_nil_sl 0 _ _, 0, .inl rfl, rfl, h3⟩
      · exact ⟨_, AV.le_emp_sl 0 _ _, 0, .inl rfl, rfl, h3⟩
    · subst h3 h4
      refine ⟨_, .rfl, id, .inr h2, rfl, ?_⟩
      obtain ⟨x, l, rfl⟩ := List.exists_cons_of_ne_nil (fun e : l = [] => h1 (by rw [e]; rfl))
      rfl)
  refine acalls_of (by kernel_rfl) Tryz.func101 rfl 8 Tryz.ntmps101 (by simp) [.tmp 2] rfl ?_
  ((repeat' (first | (refine awp_seq_k (fun K hK => ?_)) | (refine awp_reg _ rfl ?_; (try simp only [go_sem, Nat.reduceLT, Nat.reduceEqDiff, Nat.reduceLeDiff, Nat.reduceAdd, Nat.reduceMul, ↓reduceIte, reduceCtorEq])) | (refine awp_cond _ rfl (fun hc => ?_) (fun hc => ?_)) | (refine awp_skip ?_; (try simp only [sq])) | (refine awp_ret ?_; (try simp only [sq])) | (refine orAt_l ?_) | (with_reducible apply And.intro) | (refine all_fresh fun id fr => ?_) | (refine all_nil fun b hb => ?_) | (refine all_e fun he => ?_) | (refine all_ne fun hne => ?_) | (refine hK _ ?_; clear hK; (try clear K)))); (all_goals (try ((omega)))))
  · refine fin_any (x := .con (.slice none 0 0)) (H := H) (by (try simp only [forall_eq, resOk, List.mem_cons, List.not_mem_nil, or_false])) (by (try simp only [go_sem, ↓reduceIte])) (by ((try dsimp only); repeat' ((with_reducible exact .refl _)))) ?_
    exact .inl ⟨hb hc, .inl rfl, rfl⟩
  · refine fin_any (x := .emp) (H := H) (by (try simp only [forall_eq, resOk, List.mem_cons, List.not_mem_nil, or_false])) (by (try simp only [go_sem, ↓reduceIte])) (by ((try dsimp only); repeat' ((with_reducible exact .refl _)))) ?_
    exact .inl ⟨he, .inr rfl, rfl⟩
  · refine fin_any (x := .sl id l.length 9 1) (H := ⟨(id, flat (encKeys l)) :: H.bx, H.tk⟩) (by (try simp only [forall_eq, resOk, List.mem_cons, List.not_mem_nil, or_false])) (by (try simp only [go_sem, ↓reduceIte])) (by ((try dsimp only); repeat' ((with_reducible exact .refl _)))) ?_
    exact .inr ⟨hne, id, fr, rfl, rfl⟩
theorem c_CloneLStr (l : List ByteArray) (H : Hp) (hl : l.length ≤ 100000000) : PureAt Tryz.prog 101 [.list (encKeys l) none] H (.list (encKeys l) none) :=
  ACalls.frzNZ (c_CloneStr l H hl |>.mono fun r H' ⟨ix, h1, h2, h3⟩ => ⟨ix, 9, 1, by rw [encKeys_length]; exact h2, encKeys_fits l, h3, by
    rcases h1 with rfl | h1
    · exact .inl rfl
    · rcases l with _ | ⟨x, l⟩
      · exact .inl rfl
      · exact .inr ⟨by show (cKey x).cells ++ _ ≠ []; simp [AV.cells], h1.1⟩⟩)
theorem c_CloneRows (l : List (List Val)) (H : Hp) (hl : l.length ≤ 100000000) : ACalls Tryz.prog 239 [.list (encRws l) none] H
    (fun r H' => ∃ ix, (l = [] ∨ fresh H ix) ∧ r = .sl ix l.length 80 1 ∧ H' = ⟨hold ix (flat (encRws l)) H.bx, H.tk⟩) := by
  refine acalls_le (R := fun r H' => (encRws l = [] ∧ (r = .con (.slice none 0 0) ∨ r = .emp) ∧ H' = H) ∨ (encRws l ≠ [] ∧ ∃ id, fresh H id ∧ r = .sl id l.length 80 1 ∧ H' = ⟨(id, flat (encRws l)) :: H.bx, H.tk⟩)) ?_ (fun r H' h => by
    rcases h with ⟨h1, h2, h3⟩ | ⟨h1, id, h2, h3, h4⟩
    · obtain rfl : l = [] := List.map_eq_nil_iff.1 h1
      rcases h2 with rfl | rfl
      · exact ⟨_, AV.le_nil_sl 0 _ _, 0, .inl rfl, rfl, h3⟩
      · exact ⟨_, AV.le_emp_sl 0 _ _, 0, .inl rfl, rfl, h3⟩
    · subst h3 h4
      refine ⟨_, .rfl, id, .inr h2, rfl, ?_⟩
      obtain ⟨x, l, rfl⟩ := List.exists_cons_of_ne_nil (fun e : l = [] => h1 (by rw [e]; rfl))
      rfl)
  refine acalls_of (by kernel_rfl) Tryz.func239 rfl 8 Tryz.ntmps239 (by simp) [.tmp 2] rfl ?_
  ((repeat' (first | (refine awp_seq_k (fun K hK => ?_)) | (refine awp_reg _ rfl ?_; (try simp only [go_sem, Nat.reduceLT, Nat.reduceEqDiff, Nat.reduceLeDiff, Nat.reduceAdd, Nat.reduceMul, ↓reduceIte, reduceCtorEq])) | (refine awp_cond _ rfl (fun hc => ?_) (fun hc => ?_)) | (refine awp_skip ?_; (try simp only [sq])) | (refine awp_ret ?_; (try simp only [sq])) | (refine orAt_l ?_) | (with_reducible apply And.intro) | (refine all_fresh fun id fr => ?_) | (refine all_nil fun b hb => ?_) | (refine all_e fun he => ?_) | (refine all_ne fun hne => ?_) | (refine hK _ ?_; clear hK; (try clear K)))); (all_goals (try ((omega)))))
  · refine fin_any (x := .con (.slice none 0 0)) (H := H) (by (try simp only [forall_eq, resOk, List.mem_cons, List.not_mem_nil, or_false])) (by (try simp only [go_sem, ↓reduceIte])) (by ((try dsimp only); repeat' ((with_reducible exact .refl _)))) ?_
    exact .inl ⟨hb hc, .inl rfl, rfl⟩
  · refine fin_any (x := .emp) (H := H) (by (try simp only [forall_eq, resOk, List.mem_cons, List.not_mem_nil, or_false])) (by (try simp only [go_sem, ↓reduceIte])) (by ((try dsimp only); repeat' ((with_reducible exact .refl _)))) ?_
    exact .inl ⟨he, .inr rfl, rfl⟩
  · refine fin_any (x := .sl id l.length 80 1) (H := ⟨(id, flat (encRws l)) :: H.bx, H.tk⟩) (by (try simp only [forall_eq, resOk, List.mem_cons, List.not_mem_nil, or_false])) (by (try simp only [go_sem, ↓reduceIte])) (by ((try dsimp only); repeat' ((with_reducible exact .refl _)))) ?_
    exact .inr ⟨hne, id, fr, rfl, rfl⟩
theorem c_CloneBnd (l : List Val) (H : Hp) (hl : l.length ≤ 100000000) : ACalls Tryz.prog 150 [.list (encVs l) none] H
    (fun r H' => ∃ ix, (l = [] ∨ fresh H ix) ∧ r = .sl ix l.length 92 4 ∧ H' = ⟨hold ix (flat (encVs l)) H.bx, H.tk⟩) := by
  refine acalls_le (R := fun r H' => (encVs l = [] ∧ (r = .con (.slice none 0 0) ∨ r = .emp) ∧ H' = H) ∨ (encVs l ≠ [] ∧ ∃ id, fresh H id ∧ r = .sl id l.length 92 4 ∧ H' = ⟨(id, flat (encVs l)) :: H.bx, H.tk⟩)) ?_ (fun r H' h => by
    rcases h with ⟨h1, h2, h3⟩ | ⟨h1, id, h2, h3, h4⟩
    · obtain rfl : l = [] := List.map_eq_nil_iff.1 h1
      rcases h2 with rfl | rfl
      · exact ⟨_, AV.le_nil_sl 0 _ _, 0, .inl rfl, rfl, h3⟩
      · exact ⟨_, AV.le_emp_sl 0 _ _, 0, .inl rfl, rfl, h3⟩
    · subst h3 h4
      refine ⟨_, .rfl, id, .inr h2, rfl, ?_⟩
      obtain ⟨x, l, rfl⟩ := List.exists_cons_of_ne_nil (fun e : l = [] => h1 (by rw [e]; rfl))
      rfl)
  refine acalls_of (by kernel_rfl) Tryz.func150 rfl 8 Tryz.ntmps150 (by simp) [.tmp 2] rfl ?_
  ((repeat' (first | (refine awp_seq_k (fun K hK => ?_)) | (refine awp_reg _ rfl ?_; (try simp only [go_sem, Nat.reduceLT, Nat.reduceEqDiff, Nat.reduceLeDiff, Nat.reduceAdd, Nat.reduceMul, ↓reduceIte, reduceCtorEq])) | (refine awp_cond _ rfl (fun hc => ?_) (fun hc => ?_)) | (refine awp_skip ?_; (try simp only [sq])) | (refine awp_ret ?_; (try simp only [sq])) | (refine orAt_l ?_) | (with_reducible apply And.intro) | (refine all_fresh fun id fr => ?_) | (refine all_nil fun b hb => ?_) | (refine all_e fun he => ?_) | (refine all_ne fun hne => ?_) | (refine hK _ ?_; clear hK; (try clear K)))); (all_goals (try ((omega)))))
  · refine fin_any (x := .con (.slice none 0 0)) (H := H) (by (try simp only [forall_eq, resOk, List.mem_cons, List.not_mem_nil, or_false])) (by (try simp only [go_sem, ↓reduceIte])) (by ((try dsimp only); repeat' ((with_reducible exact .refl _)))) ?_
    exact .inl ⟨hb hc, .inl rfl, rfl⟩
  · refine fin_any (x := .emp) (H := H) (by (try simp only [forall_eq, resOk, List.mem_cons, List.not_mem_nil, or_false])) (by (try simp only [go_sem, ↓reduceIte])) (by ((try dsimp only); repeat' ((with_reducible exact .refl _)))) ?_
    exact .inl ⟨he, .inr rfl, rfl⟩
  · refine fin_any (x := .sl id l.length 92 4) (H := ⟨(id, flat (encVs l)) :: H.bx, H.tk⟩) (by (try simp only [forall_eq, resOk, List.mem_cons, List.not_mem_nil, or_false])) (by (try simp only [go_sem, ↓reduceIte])) (by ((try dsimp only); repeat' ((with_reducible exact .refl _)))) ?_
    exact .inr ⟨hne, id, fr, rfl, rfl⟩
end Go.Proofs.YtababmnmkmgbbaaGreat
