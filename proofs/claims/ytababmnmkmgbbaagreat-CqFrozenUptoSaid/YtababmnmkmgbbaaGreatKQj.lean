/-
  A part of the proof: its theorems say what each gives.
-/
import Derived.Test.YtababmnmkmgbbaaGreatKQi
set_option maxRecDepth 100000
set_option maxHeartbeats 4000000
set_option linter.unusedSimpArgs false
set_option linter.unusedVariables false
namespace Go.Proofs.YtababmnmkmgbbaaGreat
open Go Fw
/-! cq.None, cq.All. -/
theorem gRow_none : gRow none24 := ⟨by decide, fun v hv => by
  obtain rfl := List.eq_of_mem_replicate hv
  exact ⟨by decide, by unfold zV; rw [numV]; exact ⟨by unfold okI; omega, trivial⟩⟩⟩
theorem lec_none : lec ((List.replicate 24 [AV.con (.int .i64 0), .con (.int .i64 0), .con (.string ⟨#[]⟩), .con (.slice none 0 0)]).flatten) (flat (encVs none24)) := by
  have e : flat (encVs none24) = (List.replicate 24 [AV.con (.int .i64 0), .con (.int .i64 0), .con (.string ⟨#[]⟩), .list [] none]).flatten := rfl
  rw [e]
  simp only [List.replicate, List.flatten_cons, List.flatten_nil, List.cons_append, List.nil_append]
  repeat' (first | exact lec_nil | refine lec_cons ?_ ?_ | exact .refl _ | exact AV.le_nil)
theorem c_NoneS (H : Hp) : ACalls Tryz.prog 46 [] H fun r H' => ∃ t, fresh H t ∧ r = .sl t 24 92 4 ∧ H' = ⟨(t, flat (encVs none24)) :: H.bx, H.tk⟩ := by
  refine acalls_of (by kernel_rfl) Tryz.func46 rfl 2 Tryz.ntmps46 (by simp) [.tmp 0] rfl ?_
  ((repeat' (first | (refine awp_seq_k (fun K hK => ?_)) | (refine awp_reg _ rfl ?_; (try simp only [go_sem, Nat.reduceLT, Nat.reduceAdd, Int.reduceToNat, ↓reduceIte])) | (refine awp_ret ?_) | (with_reducible apply And.intro) | (refine all_fresh fun id fr => ?_) | (refine hK _ ?_; clear hK; (try clear K)))); (all_goals (try ((omega)))))
  refine fin_any (x := .sl id 24 92 4) (H := ⟨(id, flat (encVs none24)) :: H.bx, H.tk⟩) (by (try simp only [forall_eq, List.mem_cons, List.not_mem_nil, or_false, resOk])) rfl (weak_boxle lec_none (.refl _)) ⟨id, fr, rfl, rfl⟩
theorem c_None (H : Hp) : PureAt Tryz.prog 46 [] H (.list (encVs none24) none) :=
  ACalls.frz (c_NoneS H) fun r H' ⟨t, h1, h2, h3⟩ => by
    subst h2 h3
    refine .inr ⟨t, flat (encVs none24), .list (encVs none24) none, H, ?_, fle_slL (encVs_fits none24) rfl, rfl, fleX_skip (fleX_refl h1.1), rfl, rfl⟩
    show ((t, _) :: H.bx).lookup t = _; simp
theorem upd_fix {H : Hp} {id : Nat} {c : List AV} {f : List AV → List AV} (h : H.box id = some c) (hf : f c = c) : H.upd id f = H := by
  unfold Hp.box at h
  unfold Hp.upd
  congr 1
  revert h
  induction H.bx with
  | nil => intro h; simp at h
  | cons p r ih =>
    obtain ⟨i, c0⟩ := p
    intro h
    simp only [List.lookup_cons] at h
    simp only [updB]
    by_cases hi : i = id
    · subst hi; simp at h; rw [if_pos rfl, h, hf]
    · rw [show (id == i) = false by simpa using fun e => hi e.symm] at h
      rw [if_neg hi, ih h]
def allE (b : List Rel) (l : List Atm) (x : List Val) : Int := if kindsE b l = 0 then (if (extL b l [x]).isSome = true then 0 else 6) else kindsE b l
def allL (b : List Rel) (l : List Atm) (x : List Val) : List (List Val) := if kindsE b l = 0 then (extL b l [x]).getD [] else []
theorem c_All (b : List Rel) (l : List Atm) (first : List Val) (H : Hp) (hb : gBase b) (hl : gAs l) (hf : gRow first) (h24 : first.length = 24) :
    PureAt Tryz.prog 45 [.list (encRels b) none, .list (encAs l) none, .list (encVs first) none] H (.tup [.list (encRws (allL b l first)) none, .con (.int .i64 (allE b l first))]) := by
  have hck := fun H => c_Kinds b l H hb hl
  unfold allE allL
  by_cases hke : kindsE b l = 0
  rotate_left
  · simp only [if_neg hke]
    refine acalls_of (by kernel_rfl) Tryz.func45 rfl 59 Tryz.ntmps45 (by simp) [.tmp 6, .tmp 7] rfl ?_
    ((repeat' (first | (refine awp_seq_k (fun K hK => ?_)) | (refine awp_reg _ rfl ?_; (try simp only [go_sem, Nat.reduceLT, Nat.reduceEqDiff, Nat.reduceAdd, ↓reduceIte, reduceCtorEq, hke, decide_true, bls])) | (refine awp_cond _ rfl (fun hc => ?_) (fun hc => ?_) <;> (try (simp only [cds] at hc))) | (refine awp_ret ?_; (try simp only [sq])) | (refine PureAt.use (hck _) ?_ <;> (try simp only [go_sem, Nat.reduceLT, Nat.reduceAdd])) | (refine orAt_l ?_) | (refine hK _ ?_; clear hK; (try clear K)))))
    (refine fin_le (.tup [.list (encRws []) none, .con (.int .i64 (kindsE b l))]) (H) (by (try simp only [forall_eq, resOk, List.mem_cons, List.not_mem_nil, or_false, forall_eq_or_imp, and_self])) (by (try simp only [go_sem, Nat.reduceEqDiff, ↓reduceIte, encRws]); (repeat' (first | exact .refl _ | exact AV.le_nil | refine AV.le_tupc rfl ?_ | refine lec_cons ?_ ?_))) (by ((try dsimp only); repeat' ((with_reducible exact .refl _)))) ⟨rfl, rfl⟩)
  simp only [if_pos hke]
  rw [hke] at hck
  have c1 : ((first.length : Int) = 24) = True := eq_true (by omega)
  cases hx : extL b l [first] with
  | none =>
    have hN : ∀ H, PureAt Tryz.prog 48 [.list (encRels b) none, .list (encAs l) none, .list (encVs first) none] H (.tup [.con (.slice none 0 0), .con (.int .i64 6)]) := fun H => (c_Extend b l first H hb hl hf h24).mono fun r H' h => by
      rcases h with ⟨_, h1, h2⟩ | ⟨p, h, _⟩
      · exact ⟨h1, h2⟩
      · rw [hx] at h; cases h
    refine acalls_of (by kernel_rfl) Tryz.func45 rfl 59 Tryz.ntmps45 (by simp) [.tmp 6, .tmp 7] rfl ?_
    ((repeat' (first | (refine awp_seq_k (fun K hK => ?_)) | (refine awp_reg _ rfl ?_; (try simp only [go_sem, Nat.reduceLT, Nat.reduceEqDiff, Nat.reduceAdd, ↓reduceIte, reduceCtorEq, c1, decide_false, bls])) | (refine awp_cond _ rfl (fun hc => ?_) (fun hc => ?_) <;> (try (simp only [decide_eq_true_eq, decide_eq_false_iff_not, cds, Decidable.not_not] at hc)) <;> (try (exfalso; omega))) | (refine awp_skip ?_; (try simp only [sq])) | (refine awp_ret ?_; (try simp only [sq])) | (refine PureAt.use (hck _) ?_ <;> (try simp only [go_sem, Nat.reduceLT, Nat.reduceAdd])) | (refine PureAt.use (hN _) ?_ <;> (try simp only [go_sem, Nat.reduceLT, Nat.reduceAdd])) | (refine orAt_l ?_) | (refine hK _ ?_; clear hK; (try clear K)))))
    (refine fin_le (.tup [.list (encRws []) none, .con (.int .i64 6)]) (H) (by (try simp only [forall_eq, resOk, List.mem_cons, List.not_mem_nil, or_false, forall_eq_or_imp, and_self])) (by (try simp only [go_sem, Nat.reduceEqDiff, ↓reduceIte, encRws]); (repeat' (first | exact .refl _ | exact AV.le_nil | refine AV.le_tupc rfl ?_ | refine lec_cons ?_ ?_))) (by ((try dsimp only); repeat' ((with_reducible exact .refl _)))) ⟨rfl, rfl⟩)
  | some ys =>
    simp only [Option.getD_some, Option.isSome_some, if_true]
    refine acalls_of (by kernel_rfl) Tryz.func45 rfl 59 Tryz.ntmps45 (by simp) [.tmp 6, .tmp 7] rfl ?_
    ((repeat' (first | (refine awp_seq_k (fun K hK => ?_)) | (refine awp_reg _ rfl ?_; (try simp only [go_sem, Nat.reduceLT, Nat.reduceEqDiff, Nat.reduceAdd, ↓reduceIte, reduceCtorEq, c1, decide_false, bls])) | (refine awp_cond _ rfl (fun hc => ?_) (fun hc => ?_) <;> (try (simp only [cds] at hc))) | (refine awp_skip ?_; (try simp only [sq])) | (refine PureAt.use (hck _) ?_ <;> (try simp only [go_sem, Nat.reduceLT, Nat.reduceAdd])) | (refine orAt_l ?_) | (refine hK _ ?_; clear hK; (try clear K)))))
    refine ACalls.mono (c_Extend b l first _ hb hl hf h24) (fun r H' hx' => ?_)
    rcases hx' with ⟨h, _⟩ | ⟨p, h1, hpl, hp, rfl, rfl⟩
    · rw [hx] at h; cases h
    rw [hx] at h1
    cases h1
    ((repeat' (first | (refine awp_seq_k (fun K hK => ?_)) | (refine awp_block ?_) | (refine awp_reg _ rfl ?_; (try simp only [go_sem, Nat.reduceLT, Nat.reduceEqDiff, ↓reduceIte, decide_false, bls])) | (refine awp_cond _ rfl (fun hc => ?_) (fun hc => ?_) <;> (try (simp only [cds] at hc))) | (refine awp_skip ?_; (try simp only [sq])) | (with_reducible apply And.intro) | (refine hK _ ?_; clear hK; (try clear K)))); (all_goals (try (first | omega | assumption | (simp only [List.length_cons, List.length_nil] <;> omega)))))
    refine awp_loopKH (ι := Nat) [10, 37, 38] (fun i => [(39, .con (.int .i64 (i : Int)))]) (fun i => i ≤ p.length) (fun i => p.length - i) 0 (by intro; simp only [keepT_cons, keepT_nil, List.cons_append, List.nil_append, lk, Nat.reduceEqDiff, ↓reduceIte]; rfl) (by omega) (by ((simp only [go_sem, ↓reduceIte]; done))) ?_
    intro i hi
    rcases Nat.lt_or_ge i p.length with hlt | hge
    · obtain ⟨q, hq, hqm⟩ := at_lt (l := p.reverse) (i := i) (by simpa using hlt)
      have hqm2 : q ∈ p := List.mem_reverse.1 hqm
      have hg : (slP p).getD i .any = .sl q.1 24 92 4 := by unfold slP; rw [List.getD_eq_getElem?_getD, List.getElem?_map, hq]; rfl
      have hbox : ∀ tk, Hp.box ⟨bxP p ++ H.bx, tk⟩ q.1 = some (flat (encVs q.2)) := fun tk => okP_look hp q hqm2
      obtain ⟨hq24, hqg⟩ := vlP_mem hp q.2 (by unfold vlP; exact List.mem_map.2 ⟨q, hqm, rfl⟩)
      ((repeat' (first | (refine awp_seq_k (fun K hK => ?_)) | (refine awp_block ?_) | (refine awp_reg _ rfl ?_; (try simp only [go_sem, Nat.reduceLT, Nat.reduceEqDiff, Nat.reduceLeDiff, Nat.reduceAdd, ↓reduceIte, hg])) | (refine awp_cond _ rfl (fun hc => ?_) (fun hc => ?_) <;> (try (simp only [decide_eq_true_eq, decide_eq_false_iff_not] at hc)) <;> (try (exfalso; omega))) | (refine awp_skip ?_; (try simp only [sq])) | (with_reducible apply And.intro) | (refine hK _ ?_; clear hK; (try clear K)))); (all_goals (try ((omega)))))
      refine awp_loopKH (ι := Nat) [10, 13, 37, 38, 39, 44] (fun j => [(45, .con (.int .i64 (j : Int)))]) (fun j => j ≤ 24) (fun j => 24 - j) 0 (by intro; simp only [keepT_cons, keepT_nil, List.cons_append, List.nil_append, lk, Nat.reduceEqDiff, ↓reduceIte]; rfl) (by omega) (by ((simp only [go_sem, ↓reduceIte]; done))) ?_
      intro j hj
      rcases Nat.lt_or_ge j 24 with hlj | hgj
      · obtain ⟨v, hv, hvm⟩ := at_lt (show j < q.2.length by omega)
        have q1 := flatV_g4 hv
        have q2 := flatV_l4 hv
        have q3 := flatV_set (show j < q.2.length by omega) v
        have q4 : (j * 4 + 4 ≤ (flat (encVs q.2)).length) = True := eq_true (by rw [flat_vs]; omega)
        have q5 : q.2.set j v = q.2 := by
          obtain ⟨hl, rfl⟩ := List.getElem?_eq_some_iff.1 hv
          exact List.set_getElem_self hl
        rw [q5] at q3
        ((repeat' (first | (refine awp_seq_k (fun K hK => ?_)) | (refine awp_block ?_) | (refine awp_reg _ rfl ?_; (try simp only [go_sem, Nat.reduceLT, Nat.reduceEqDiff, ↓reduceIte, hbox, q1, q2, wrap_succ j (by omega)])) | (refine awp_cond _ rfl (fun hc => ?_) (fun hc => ?_) <;> (try (simp only [decide_eq_true_eq, decide_eq_false_iff_not] at hc)) <;> (try (exfalso; omega))) | (refine awp_skip ?_; (try simp only [sq])) | (refine PureAt.use (c_CopyV v _ (hqg.2 v hvm).c) ?_ <;> (try simp only [go_sem, Nat.reduceAdd, hbox, q4, bls])) | (refine orAt_l ?_) | (with_reducible apply And.intro) | (refine hK _ ?_; clear hK; (try clear K)))); (all_goals (try ((omega)))))
        have hu := upd_fix (f := fun c => List.take (j * 4) c ++ [.con (.int .i64 v.k), .con (.int .i64 v.n), .con (.string v.s), .list (encFs v.fs) none] ++ List.drop (j * 4 + 4) c) (hbox H.tk) q3
        rw [hu]
        refine ⟨j + 1, by omega, by omega, ?_⟩
        (refine st_le rfl ?_ (by ((try dsimp only); repeat' ((with_reducible exact .refl _)))); (try simp only [go_sem, Nat.reduceEqDiff, Nat.reduceAdd, ↓reduceIte, reduceCtorEq]))
      · obtain rfl : j = 24 := by omega
        ((repeat' (first | (refine awp_seq_k (fun K hK => ?_)) | (refine awp_reg _ rfl ?_; (try simp only [go_sem, Nat.reduceLT, Nat.reduceEqDiff, ↓reduceIte, reduceCtorEq, wrap_succ i (by omega)])) | (refine awp_cond _ rfl (fun hc => ?_) (fun hc => ?_) <;> (try (simp only [decide_eq_true_eq, decide_eq_false_iff_not] at hc)) <;> (try (exfalso; omega))) | (refine awp_exit ?_; (try simp only [sq, bk, ↓reduceIte])) | (refine hK _ ?_; clear hK; (try clear K)) | (refine kk (by assumption) ?_))))
        refine ⟨i + 1, by omega, by omega, ?_⟩
        (refine st_le rfl ?_ (by ((try dsimp only); repeat' ((with_reducible exact .refl _)))); (try simp only [go_sem, Nat.reduceEqDiff, Nat.reduceAdd, ↓reduceIte, reduceCtorEq]))
    · obtain rfl : i = p.length := by omega
      refine awp_freezeRows 10 [38, 39] (by decide) p [] (by simp only [keepT_cons, keepT_nil, lk, Nat.reduceEqDiff, ↓reduceIte]; rfl) (by simp) hp (by rw [List.append_nil]; simp only [go_sem, Nat.reduceEqDiff, ↓reduceIte]) rfl ?_
      rw [List.append_nil]
      ((repeat' (first | (refine awp_seq_k (fun K hK => ?_)) | (refine awp_reg _ rfl ?_; (try simp only [go_sem, Nat.reduceLT, Nat.reduceEqDiff, Nat.reduceLeDiff, Nat.reduceAdd, ↓reduceIte])) | (refine awp_cond _ rfl (fun hc => ?_) (fun hc => ?_) <;> (try (simp only [decide_eq_true_eq, decide_eq_false_iff_not] at hc)) <;> (try (exfalso; omega))) | (refine awp_exit ?_; (try simp only [sq, bk, ↓reduceIte])) | (refine awp_ret ?_) | (refine hK _ ?_; clear hK; (try clear K)) | (refine kk (by assumption) ?_))))
      (refine fin_le (.tup [.list (encRws (vlP p)) none, .con (.int .i64 0)]) (H) (by (try simp only [forall_eq, resOk, List.mem_cons, List.not_mem_nil, or_false, forall_eq_or_imp, and_self])) (by (try simp only [go_sem, Nat.reduceEqDiff, ↓reduceIte]); (repeat' (first | exact .refl _ | exact AV.le_nil | exact AV.le_emp | exact AV.le_list _ _ | exact AV.le_any _ | exact lec_nil | refine AV.le_aggc rfl ?_ | refine AV.le_tupc rfl ?_ | refine lec_cons ?_ ?_))) (by ((try dsimp only); repeat' ((with_reducible exact .refl _)))) ⟨rfl, rfl⟩)
end Go.Proofs.YtababmnmkmgbbaaGreat
