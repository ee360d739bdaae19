/-
  A part of the proof: its theorems say what each gives.
-/
import Derived.Test.YtababmnmkmgbbaaGreatKQza
import Derived.Test.YtababmnmkmgbbaaGreatKSe
import Derived.Test.YtababmnmkmgbbaaGreatKFw1
import Derived.Test.YtababmnmkmgbbaaGreatKFw2
import Derived.Test.YtababmnmkmgbbaaGreatKFw3
set_option maxRecDepth 100000
set_option maxHeartbeats 4000000
set_option linter.unusedSimpArgs false
set_option linter.unusedVariables false
namespace Go.Proofs.YtababmnmkmgbbaaGreat
open Go Fw
/-! rel.Sort. -/
theorem c_relCopyS (r : Rel) (H : Hp) (h : gRel r) : ACalls Tryz.prog 167 [cRel r] H fun v H' => ∃ ix, (r.rows = [] ∨ H.box ix = none) ∧
    v = .agg [.con (.string r.nm), .list (encCols r.cols) none, .list (encKeys r.key) none, .sl ix r.rows.length 80 1] ∧ H' = ⟨hold ix (encRws r.rows) H.bx, H.tk⟩ := by
  have h1 := h.cols
  have h2 := h.key
  refine acalls_of (by kernel_rfl) Tryz.func167 rfl 16 Tryz.ntmps167 (by simp) [.cell 2 103] rfl ?_
  ((repeat' (first | (refine awp_mixed (id := 1) [0, 1, 2, 3, 4, 5, 6, 7, 9, 8, 10, 11, 12, 13, 14] [8, 10, 12, 14] [(8, []), (10, []), (12, []), (14, [])] (by kernel_rfl) (by kernel_rfl) ?_; (try simp only [go_sem, Nat.reduceLT, Nat.reduceEqDiff, Nat.reduceLeDiff, Nat.reduceAdd, Nat.reduceMul, Int.reduceToNat, Nat.reducePow, ↓reduceIte, reduceCtorEq])) | (refine awp_seq_k (fun K hK => ?_)) | (refine awp_reg _ rfl ?_; (try simp only [go_sem, Nat.reduceLT, Nat.reduceEqDiff, Nat.reduceLeDiff, Nat.reduceAdd, Nat.reduceMul, Int.reduceToNat, Nat.reducePow, ↓reduceIte, reduceCtorEq])) | (refine ⟨_, fun H => c_CloneLCol r.cols _ (by omega), ?_⟩ <;> (try simp only [go_sem, Nat.reduceLT, Nat.reduceEqDiff, Nat.reduceLeDiff, Nat.reduceAdd, Nat.reduceMul, Int.reduceToNat, Nat.reducePow, ↓reduceIte, reduceCtorEq])) | (refine ⟨_, fun H => c_CloneLStr r.key _ (by omega), ?_⟩ <;> (try simp only [go_sem, Nat.reduceLT, Nat.reduceEqDiff, Nat.reduceLeDiff, Nat.reduceAdd, Nat.reduceMul, Int.reduceToNat, Nat.reducePow, ↓reduceIte, reduceCtorEq])) | (refine orAt_l ?_) | (refine all_fresh fun id fr => ?_; (try have := NeI.of_fr fr)) | (refine hK _ ?_; clear hK; (try clear K)))))
  obtain ⟨t2, ht2⟩ : ∃ x, x = id := ⟨_, rfl⟩
  subst ht2
  have fr2 := fr
  clear fr
  obtain ⟨t1, ht1⟩ : ∃ x, x = id := ⟨_, rfl⟩
  subst ht1
  have fr1 := fr
  clear fr
  have hne : ¬ t2 = t1 := fun e => (fresh_box fr2).1 e.symm
  have hne' : ¬ t1 = t2 := fun e => hne e.symm
  refine ACalls.mono (c_copiesS r.rows _ h.rows) (fun v H' hx => ?_)
  obtain ⟨ix, hix, rfl, rfl⟩ := hx
  have hb1 : Hp.box H t1 = none := fr1.1
  have hb2 : Hp.box H t2 = none := (fresh_box fr2).2.1
  by_cases hz : r.rows = []
  · have hh : ∀ bx, hold ix (encRws r.rows) bx = bx := fun bx => by rw [hz]; rfl
    rw [hh]
    (try simp only [go_sem, Nat.reduceLT, Nat.reduceEqDiff, Nat.reduceLeDiff, Nat.reduceAdd, Nat.reduceMul, Int.reduceToNat, Nat.reducePow, ↓reduceIte, reduceCtorEq, hne, hne'])
    ((repeat' (first | (refine awp_seq_k (fun K hK => ?_)) | (refine awp_reg _ rfl ?_; (try simp only [go_sem, Nat.reduceLT, Nat.reduceEqDiff, Nat.reduceLeDiff, Nat.reduceAdd, Nat.reduceMul, Int.reduceToNat, Nat.reducePow, ↓reduceIte, reduceCtorEq, hne, hne', ↓pkv, decide_true, decide_false, bls, if_true, if_false])) | (refine awp_ret ?_) | (refine hK _ ?_; clear hK; (try clear K)))))
    refine fin_any (x := .agg [.con (.string r.nm), .list (encCols r.cols) none, .list (encKeys r.key) none, .sl ix r.rows.length 80 1]) (H := H) (by (try simp only [List.mem_singleton, forall_eq, List.mem_cons, List.not_mem_nil, or_false, forall_eq_or_imp, and_self, resOk]); (try simp only [go_sem, Nat.reduceLT, Nat.reduceEqDiff, Nat.reduceLeDiff, Nat.reduceAdd, Nat.reduceMul, Int.reduceToNat, Nat.reducePow, ↓reduceIte, reduceCtorEq])) ?_ ?_ ⟨ix, .inl hz, rfl, by rw [hh]⟩
    · simp only [go_sem, Nat.reduceLT, Nat.reduceEqDiff, Nat.reduceLeDiff, Nat.reduceAdd, Nat.reduceMul, Int.reduceToNat, Nat.reducePow, ↓reduceIte, reduceCtorEq, hne, hne']
    · exact weak_box hb2 (weak_box hb1 (.refl _))
  · have hne2 : encRws r.rows ≠ [] := fun e => hz (by simpa [encRws] using e)
    have hh : ∀ bx, hold ix (encRws r.rows) bx = (ix, encRws r.rows) :: bx := fun bx => hold_ne hne2
    have hix2 := hix.resolve_left hz
    have hx2 : ¬ ix = t2 := fun e => by rw [e] at hix2; simp [Hp.box] at hix2
    have hx2' : ¬ t2 = ix := fun e => hx2 e.symm
    have hx1 : ¬ ix = t1 := fun e => by rw [e, box_cons, if_neg hne, box_cons, if_pos rfl] at hix2; cases hix2
    have hx1' : ¬ t1 = ix := fun e => hx1 e.symm
    have hx0 : Hp.box H ix = none := by rw [box_cons, if_neg hx2', box_cons, if_neg hx1'] at hix2; exact hix2
    rw [hh]
    (try simp only [go_sem, Nat.reduceLT, Nat.reduceEqDiff, Nat.reduceLeDiff, Nat.reduceAdd, Nat.reduceMul, Int.reduceToNat, Nat.reducePow, ↓reduceIte, reduceCtorEq, hne, hne', hx1, hx1', hx2, hx2'])
    ((repeat' (first | (refine awp_seq_k (fun K hK => ?_)) | (refine awp_reg _ rfl ?_; (try simp only [go_sem, Nat.reduceLT, Nat.reduceEqDiff, Nat.reduceLeDiff, Nat.reduceAdd, Nat.reduceMul, Int.reduceToNat, Nat.reducePow, ↓reduceIte, reduceCtorEq, hne, hne', hx1, hx1', hx2, hx2', ↓pkv, decide_true, decide_false, bls, if_true, if_false])) | (refine awp_ret ?_) | (refine hK _ ?_; clear hK; (try clear K)))))
    refine fin_any (x := .agg [.con (.string r.nm), .list (encCols r.cols) none, .list (encKeys r.key) none, .sl ix r.rows.length 80 1]) (H := ⟨(ix, encRws r.rows) :: H.bx, H.tk⟩) (by (try simp only [List.mem_singleton, forall_eq, resOk]); (try simp only [go_sem, Nat.reduceLT, Nat.reduceEqDiff, Nat.reduceLeDiff, Nat.reduceAdd, Nat.reduceMul, Int.reduceToNat, Nat.reducePow, ↓reduceIte, reduceCtorEq, hne, hne', hx1, hx1', hx2, hx2'])) ?_ ?_ ⟨ix, .inr hx0, rfl, by rw [hh]⟩
    · simp only [go_sem, Nat.reduceLT, Nat.reduceEqDiff, Nat.reduceLeDiff, Nat.reduceAdd, Nat.reduceMul, Int.reduceToNat, Nat.reducePow, ↓reduceIte, reduceCtorEq, hne, hne', hx1, hx1', hx2, hx2']
    · refine weak_boxle (.refl _) (weak_box hb2 (weak_box hb1 (.refl _)))
theorem hold_box {ix j : Nat} {cs : List AV} {bx : List (Nat × List AV)} {tk : List (Nat × Nat × Nat × Nat)} (h : cs = [] ∨ ¬ ix = j) : Hp.box ⟨hold ix cs bx, tk⟩ j = Hp.box ⟨bx, tk⟩ j := by
  cases cs with
  | nil => rfl
  | cons a cs =>
    have h2 : ¬ ix = j := h.resolve_left (by simp)
    rw [hold_cons, box_cons, if_neg h2]
theorem hold_upd {ix j : Nat} {cs : List AV} {bx : List (Nat × List AV)} {tk : List (Nat × Nat × Nat × Nat)} (h : cs = [] ∨ ¬ ix = j) (f : List AV → List AV) : Hp.upd ⟨hold ix cs bx, tk⟩ j f = ⟨hold ix cs (updB bx j f), tk⟩ := by
  cases cs with
  | nil => rfl
  | cons a cs =>
    have h2 : ¬ ix = j := h.resolve_left (by simp)
    rw [hold_cons]; unfold Hp.upd; rw [updB, if_neg h2]; rfl
theorem cpR_perm {l l' : List (List Val)} (hp : l'.Perm l) (hs : l'.Pairwise (fun a b => ¬ cmpR b a < 0)) (hn : ∀ x ∈ l, gRow x) : cpR l' = setU cmpR l := cpR_setU hp hs (fun x hx => gRow_num (hn x hx))
theorem relCmp_nil (a b : List Val) (ha : gRow a) (hb : gRow b) : PureAt Tryz.prog 52 ([cRw a, cRw b] ++ []) ⟨[], []⟩ (.con (.int .i64 (cmpR a b))) := c_relCmp a b _ ha hb
theorem c_Sort1 (a b : List Val) (H : Hp) (ha : gRow a) (hb : gRow b) : PureAt Tryz.prog 252 [cRw a, cRw b] H (.con (.bool (decide (cmpR a b = 0)))) := by
  refine acalls_of (by kernel_rfl) Tryz.func252 rfl 9 Tryz.ntmps252 (by simp) [.tmp 4] rfl ?_
  ((repeat' (first | (refine awp_seq_k (fun K hK => ?_)) | (refine awp_reg _ rfl ?_; (try simp only [go_sem, Nat.reduceLT, Nat.reduceEqDiff, Nat.reduceLeDiff, Nat.reduceAdd, Nat.reduceMul, Int.reduceToNat, Nat.reducePow, ↓reduceIte, reduceCtorEq])) | (refine awp_ret ?_) | (refine PureAt.use (c_relCmp a b _ ha hb) ?_ <;> (try simp only [go_sem, Nat.reduceLT, Nat.reduceEqDiff, Nat.reduceLeDiff, Nat.reduceAdd, Nat.reduceMul, Int.reduceToNat, Nat.reducePow, ↓reduceIte, reduceCtorEq])) | (refine orAt_l ?_) | (refine hK _ ?_; clear hK; (try clear K)))))
  ((all_goals (try refine fin_pure (by (try simp only [forall_eq, resOk, List.mem_cons, List.not_mem_nil, or_false])) ?_ (by ((try dsimp only); repeat' ((with_reducible exact .refl _)))))); (all_goals (try simp only [go_sem, ↓reduceIte])))
theorem c_Sort (r : Rel) (H : Hp) (h : gRel r) : PureAt Tryz.prog 163 [cRel r] H (cRel ⟨r.nm, r.cols, r.key, setU cmpR r.rows⟩) := by
  have h1 := h.rows.1
  have h2 := h.rows.2
  refine acalls_of (by kernel_rfl) Tryz.func163 rfl 13 Tryz.ntmps163 (by simp) [.cell 2 103] rfl ?_
  ((repeat' (first | (refine awp_seq_k (fun K hK => ?_)) | (refine awp_reg _ rfl ?_; (try simp only [go_sem, Nat.reduceLT, Nat.reduceEqDiff, Nat.reduceLeDiff, Nat.reduceAdd, ↓reduceIte, reduceCtorEq])) | (refine orAt_l ?_) | (refine all_fresh fun id fr => ?_; (try have := NeI.of_fr fr)) | (refine hK _ ?_; clear hK; (try clear K)))))
  obtain ⟨t2, ht2⟩ : ∃ x, x = id := ⟨_, rfl⟩
  subst ht2
  have fr2 := fr
  clear fr
  obtain ⟨t1, ht1⟩ : ∃ x, x = id := ⟨_, rfl⟩
  subst ht1
  have fr1 := fr
  clear fr
  have hne : ¬ t2 = t1 := fun e => (fresh_box fr2).1 e.symm
  have hne' : ¬ t1 = t2 := fun e => hne e.symm
  have hb1 : Hp.box H t1 = none := fr1.1
  have hb2 : Hp.box H t2 = none := (fresh_box fr2).2.1
  refine ACalls.mono (c_relCopyS r _ h) (fun v H' hx => ?_)
  obtain ⟨ix, hix, rfl, rfl⟩ := hx
  have hx1 : r.rows = [] ∨ ¬ ix = t1 := hix.imp (fun h => h) fun hh e => by rw [e, box_cons, if_neg hne, box_cons, if_pos rfl] at hh; cases hh
  have hx2 : r.rows = [] ∨ ¬ ix = t2 := hix.imp (fun h => h) fun hh e => by rw [e, box_cons, if_pos rfl] at hh; cases hh
  have he : ∀ l : List (List Val), l = [] → encRws l = [] := fun l e => by rw [e]; rfl
  have q1 := fun bx tk => hold_box (bx := bx) (tk := tk) (hx1.imp (he _) fun h => h)
  have q2 := fun bx tk => hold_upd (bx := bx) (tk := tk) (hx1.imp (he _) fun h => h)
  (try simp only [go_sem, Nat.reduceLT, Nat.reduceEqDiff, Nat.reduceLeDiff, Nat.reduceAdd, Nat.reduceMul, Int.reduceToNat, Nat.reducePow, ↓reduceIte, reduceCtorEq, q1, q2, hne, hne'])
  ((repeat' (first | (refine awp_seq_k (fun K hK => ?_)) | (refine awp_reg _ rfl ?_; (try simp only [go_sem, Nat.reduceLT, Nat.reduceEqDiff, Nat.reduceLeDiff, Nat.reduceAdd, Nat.reduceMul, Int.reduceToNat, Nat.reducePow, ↓reduceIte, reduceCtorEq, q1, q2, hne, hne', updB, ↓pkv, decide_true, decide_false, bls, if_true, if_false])) | (refine orAt_l ?_) | (refine hK _ ?_; clear hK; (try clear K)))))
  refine ACalls.mono (c_SortRw r.rows ix 80 52 [] _ _ (by omega) h2 (fun a ha b hb => relCmp_nil a b (h2 a ha) (h2 b hb))) (fun v H' hx => ?_)
  obtain ⟨l', hp, hs, rfl⟩ := hx
  have hpl := hp.length_eq
  have hcu := cpR_perm hp hs h2
  have hl0 : r.rows = [] → l' = [] := fun e => by rw [e] at hp; exact hp.eq_nil
  have q1' := fun bx tk => hold_box (bx := bx) (tk := tk) (hx1.imp (fun e => he _ (hl0 e)) fun h => h)
  have q2' := fun bx tk => hold_upd (bx := bx) (tk := tk) (hx1.imp (fun e => he _ (hl0 e)) fun h => h)
  rw [← hpl]
  (skip)
  ((repeat' (first | (refine awp_seq_k (fun K hK => ?_)) | (refine awp_reg _ rfl ?_; (try simp only [go_sem, Nat.reduceLT, Nat.reduceEqDiff, Nat.reduceLeDiff, Nat.reduceAdd, Nat.reduceMul, Int.reduceToNat, Nat.reducePow, ↓reduceIte, reduceCtorEq, q1', q2', hne, hne', updB, ↓pkv, decide_true, decide_false, bls, if_true, if_false])) | (refine orAt_l ?_) | (refine hK _ ?_; clear hK; (try clear K)))))
  have hix3 : ∀ (c2 c1 : List AV), l' = [] ∨ Hp.box ⟨(t2, c2) :: (t1, c1) :: H.bx, H.tk⟩ ix = none := fun c2 c1 => by
    by_cases hz : r.rows = []
    · exact .inl (hl0 hz)
    · have g1 := hix.resolve_left hz
      have g2 : ¬ t2 = ix := fun e => hx2.resolve_left hz e.symm
      have g3 : ¬ t1 = ix := fun e => hx1.resolve_left hz e.symm
      rw [box_cons, if_neg g2, box_cons, if_neg g3] at g1
      exact .inr (by rw [box_cons, if_neg g2, box_cons, if_neg g3]; exact g1)
  have hml : ∀ a ∈ l', gRow a := fun a ha => h2 a (hp.mem_iff.1 ha)
  refine ACalls.mono (c_Compact l' ix 252 [] _ _ (by omega) (hix3 _ _) (fun a ha b hb H => c_Sort1 a b H (hml a ha) (hml b hb))) (fun v H' hx => ?_)
  obtain ⟨rfl, rfl⟩ := hx
  rw [hcu]
  (try simp only [go_sem, Nat.reduceLT, Nat.reduceEqDiff, Nat.reduceLeDiff, Nat.reduceAdd, Nat.reduceMul, Int.reduceToNat, Nat.reducePow, ↓reduceIte, reduceCtorEq, hne, hne'])
  ((repeat' (first | (refine awp_seq_k (fun K hK => ?_)) | (refine awp_reg _ rfl ?_; (try simp only [go_sem, Nat.reduceLT, Nat.reduceEqDiff, Nat.reduceLeDiff, Nat.reduceAdd, Nat.reduceMul, Int.reduceToNat, Nat.reducePow, ↓reduceIte, reduceCtorEq, hne, hne', updB, ↓pkv, decide_true, decide_false, bls, if_true, if_false])) | (refine awp_ret ?_) | (refine hK _ ?_; clear hK; (try clear K)))))
  refine fin_any (x := .agg [.con (.string r.nm), .list (encCols r.cols) none, .list (encKeys r.key) none, .list (encRws (setU cmpR r.rows)) none]) (H := H) (by (try simp only [List.mem_singleton, forall_eq, resOk]); (try simp only [go_sem, Nat.reduceLT, Nat.reduceEqDiff, Nat.reduceLeDiff, Nat.reduceAdd, Nat.reduceMul, Int.reduceToNat, Nat.reducePow, ↓reduceIte, reduceCtorEq, hne, hne'])) ?_ ?_ ⟨rfl, rfl⟩
  · simp only [go_sem, Nat.reduceLT, Nat.reduceEqDiff, Nat.reduceLeDiff, Nat.reduceAdd, Nat.reduceMul, Int.reduceToNat, Nat.reducePow, ↓reduceIte, reduceCtorEq, hne, hne']
  · exact weak_box hb2 (weak_box hb1 (.refl _))
end Go.Proofs.YtababmnmkmgbbaaGreat
