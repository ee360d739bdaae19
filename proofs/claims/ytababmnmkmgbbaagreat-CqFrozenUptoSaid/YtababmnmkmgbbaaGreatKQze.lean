/-
  A part of the proof: its theorems say what each gives.
-/
import Derived.Test.YtababmnmkmgbbaaGreatKQzd
set_option maxRecDepth 100000
set_option maxHeartbeats 4000000
set_option linter.unusedSimpArgs false
set_option linter.unusedVariables false
namespace Go.Proofs.YtababmnmkmgbbaaGreat
open Go Fw
/-! cq.freeze. -/
theorem awp_nilBx {P : Program} {Q : Exit → St → Prop} {s : St} {c : Code} (v e k : Nat) {c0 : List AV} (c1 : Nat → List AV) (ks : List Nat) {T : List (Nat × AV)} (hT : keepT ks s.t = T) {bx : List (Nat × List AV)} {tk : List (Nat × Nat × Nat × Nat)} (hh : s.h = ⟨(v, c0) :: bx, tk⟩)
    (hc : ∀ t, nlec t e k c0 (c1 t)) (step : ∀ t, fresh s.h t → awp P c Q ⟨s.n, T, ⟨(v, c1 t) :: bx, (t, 0, e, k) :: tk⟩⟩) : awp P c Q s := by
  refine awp_nil e k (fun t => ⟨s.n, T, ⟨(v, c1 t) :: bx, (t, 0, e, k) :: tk⟩⟩) (fun _ => rfl) (fun t => ?_) (fun t => ?_) (fun t => by rw [hh]) step
  · subst hT
    generalize hks : ks = q
    clear hks
    induction q with
    | nil => trivial
    | cons a q ih => exact ⟨AV.nle.refl _, ih⟩
  · rw [hh]
    exact ⟨rfl, hc t, nleB_refl _⟩
theorem lec_app {y y' : List AV} (h : lec y y') : ∀ x : List AV, lec (x ++ y) (x ++ y')
  | [] => h
  | a :: x => lec_cons (.refl _) (lec_app h x)
theorem c_SortN (nm : ByteArray) (cols : List Col) (rows : List (List Val)) (t2 : Nat) (H : Hp) (h : gRel ⟨nm, cols, [], rows⟩) :
    PureAt Tryz.prog 163 [.agg [.con (.string nm), .list (encCols cols) none, .con (.slice none 0 0), .list (encRws rows) (some t2)]] H (cRel ⟨nm, cols, [], setU cmpR rows⟩) :=
  ACalls.args (c_Sort ⟨nm, cols, [], rows⟩ H h) rfl fun i hi => by
    match i, hi with
    | 0, _ => exact AV.le_aggc rfl (lec_cons (.refl _) (lec_cons (.refl _) (lec_cons AV.le_nil (lec_cons (AV.le_list _ _) lec_nil))))
def mkF (q : Nat) : List Val := marks24.take q ++ none24.drop q
theorem mkF_len {q : Nat} (h : q ≤ 24) : (mkF q).length = 24 := by unfold mkF; rw [List.length_append, List.length_take, List.length_drop, marks_len]; have : none24.length = 24 := by simp [none24]
                                                                   omega
theorem mkF_zero : mkF 0 = none24 := rfl
theorem mkF_all : mkF 24 = marks24 := by unfold mkF; rw [List.take_of_length_le (by rw [marks_len]; omega), List.drop_of_length_le (by simp [none24]), List.append_nil]
theorem mkF_set {i : Nat} (h : i < 24) : (mkF i).set i (markV (i : Int)) = mkF (i + 1) := by
  have hl : (marks24.take i).length = i := by rw [List.length_take, marks_len]; omega
  have hm : marks24[i]? = some (markV (i : Int)) := by
    unfold marks24; rw [List.getElem?_map, List.getElem?_range h]; rfl
  have hn : none24[i]? = some zV := by unfold none24; rw [List.getElem?_replicate, if_pos h]
  unfold mkF
  rw [take_at hm, drop_at hn, List.set_append_right _ _ (by omega), hl, Nat.sub_self, List.set_cons_zero, List.append_assoc]; rfl
theorem c_freeze (b : List Rel) (w : CQ) (H : Hp) (hb : gBase b) (hw : gCQ w) : PureAt Tryz.prog 177 [.list (encRels b) none, cCQ w] H (.tup [.list (encRels (fzB b w)) none, .list (encVs (fzH w)) none]) := by
  have hb1 := hb.1
  have hw1 := hw.body.1
  have hfl : (fzB b w).length = b.length := by unfold fzB; rw [List.length_map]
  refine acalls_of (by kernel_rfl) Tryz.func177 rfl 71 Tryz.ntmps177 (by simp) [.tmp 4, .tmp 5] rfl ?_
  ((repeat' (first | (refine awp_seq_k (fun K hK => ?_)) | (refine awp_block ?_) | (refine awp_reg _ rfl ?_; (try simp only [go_sem, Nat.reduceLT, Nat.reduceEqDiff, Nat.reduceLeDiff, Nat.reduceAdd, Nat.reduceMul, Int.reduceToNat, Nat.reducePow, ↓reduceIte, reduceCtorEq])) | (refine ACalls.ex (c_NoneS _) (fun id fr => ?_) <;> ((try simp only [go_sem, Nat.reduceLT, Nat.reduceEqDiff, Nat.reduceLeDiff, Nat.reduceAdd, Nat.reduceMul, Int.reduceToNat, Nat.reducePow, ↓reduceIte, reduceCtorEq]))) | (refine orAt_r 3 ?_) | (refine orAt_l ?_) | (refine hK _ ?_; clear hK; (try clear K)))))
  obtain ⟨m, hm⟩ : ∃ x, x = id := ⟨_, rfl⟩
  subst hm
  have frm := fr
  clear fr
  refine awp_loopKG (ι := Nat) [0, 3, 6, 16] (fun q => [(17, .con (.int .i64 (q : Int)))]) (fun q => ⟨(m, flat (encVs (mkF q))) :: H.bx, H.tk⟩) (fun q => q ≤ 24) (fun q => 24 - q) 0 (by intro; simp only [keepT_cons, keepT_nil, List.cons_append, List.nil_append, lk, Nat.reduceEqDiff, ↓reduceIte, reduceCtorEq, Nat.reduceAdd]; rfl) ?_ ?_ ?_ ?_
  · exact Nat.zero_le _
  · simp only [go_sem, Nat.reduceEqDiff, ↓reduceIte]
  · rw [mkF_zero]; exact .refl _
  intro i hi
  rcases Nat.lt_or_ge i 24 with hlt | hge
  · have c1 : ((i : Int) < 24) = True := eq_true (by omega)
    have hml := mkF_len hi
    have q3 := flatV_set (show i < (mkF i).length by omega) (markV (i : Int))
    have q4 : (i * 4 + 4 ≤ (flat (encVs (mkF i))).length) = True := eq_true (by rw [flat_vs, hml]; omega)
    rw [mkF_set hlt] at q3
    ((repeat' (first | (refine awp_seq_k (fun K hK => ?_)) | (refine awp_block ?_) | (refine awp_reg _ rfl ?_; (try simp only [go_sem, Nat.reduceLT, Nat.reduceEqDiff, Nat.reduceLeDiff, Nat.reduceAdd, Nat.reduceMul, Int.reduceToNat, Nat.reducePow, ↓reduceIte, reduceCtorEq, c1, q4, wrap_succ i (by omega), Nat.add_zero, ↓pkv, decide_true, decide_false, bls, if_true, if_false])) | (refine awp_cond _ rfl (fun hc => ?_) (fun hc => ?_) <;> (try (simp only [decide_eq_true_eq, decide_eq_false_iff_not, cds, Decidable.not_not, ite_or, ite_and] at hc)) <;> (try (exfalso; omega))) | (refine awp_skip ?_; (try simp only [sq, bk, ↓reduceIte, Nat.reduceEqDiff, reduceCtorEq])) | (with_reducible apply And.intro) | (refine hK _ ?_; clear hK; (try clear K)))); (all_goals (try ((omega)))))
    refine ⟨i + 1, by omega, by omega, st_le rfl (by simp only [go_sem, Nat.reduceLT, Nat.reduceEqDiff, Nat.reduceLeDiff, Nat.reduceAdd, Nat.reduceMul, Int.reduceToNat, Nat.reducePow, ↓reduceIte, reduceCtorEq]) ?_⟩
    rw [← q3]
    refine weak_boxle ?_ (.refl _)
    rw [List.append_assoc, List.append_assoc]
    exact lec_app (lec_cons (.refl _) (lec_cons (.refl _) (lec_cons (.refl _) (lec_cons AV.le_nil (.refl _))))) _
  obtain rfl : i = 24 := by omega
  rw [mkF_all]
  ((repeat' (first | (refine awp_seq_k (fun K hK => ?_)) | (refine awp_block ?_) | (refine awp_reg _ rfl ?_; (try simp only [go_sem, Nat.reduceLT, Nat.reduceEqDiff, Nat.reduceLeDiff, Nat.reduceAdd, Nat.reduceMul, Int.reduceToNat, Nat.reducePow, ↓reduceIte, reduceCtorEq])) | (refine awp_cond _ rfl (fun hc => ?_) (fun hc => ?_) <;> (try (simp only [decide_eq_true_eq, decide_eq_false_iff_not, cds, Decidable.not_not, ite_or, ite_and] at hc)) <;> (try (exfalso; omega))) | (refine awp_exit ?_; (try simp only [sq, bk, ↓reduceIte, Nat.reduceEqDiff, reduceCtorEq])) | (refine hK _ ?_; clear hK; (try clear K)) | (refine kk (by assumption) ?_))))
  refine awp_freezeSl 6 m (xs := encVs marks24) [3, 8, 26, 27, 28] (by simp only [keepT_cons, keepT_nil, List.cons_append, List.nil_append, lk, Nat.reduceEqDiff, ↓reduceIte, reduceCtorEq, Nat.reduceAdd]; rfl) rfl ?_ rfl ?_ (encVs_fits _) ?_
  · exact marks_len.symm
  · exact frm.1
  refine awp_nilK 8 103 4 [3, 6, 26, 27, 28] (by simp only [keepT_cons, keepT_nil, List.cons_append, List.nil_append, lk, Nat.reduceEqDiff, ↓reduceIte, reduceCtorEq, Nat.reduceAdd]; rfl) (by simp only [go_sem, Nat.reduceLT, Nat.reduceEqDiff, Nat.reduceLeDiff, Nat.reduceAdd, Nat.reduceMul, Int.reduceToNat, Nat.reducePow, ↓reduceIte, reduceCtorEq]) (fun t frt => ?_)
  refine awp_loopKG (ι := Nat) [3, 6, 26, 27] (fun q => [(8, .list (encRels ((fzB b w).take q)) (some t)), (28, .con (.int .i64 (q : Int)))]) (fun q => ⟨H.bx, (t, q, 103, 4) :: H.tk⟩) (fun q => q ≤ b.length) (fun q => b.length - q) 0 (by intro; simp only [keepT_cons, keepT_nil, List.cons_append, List.nil_append, lk, Nat.reduceEqDiff, ↓reduceIte, reduceCtorEq, Nat.reduceAdd]; rfl) ?_ ?_ ?_ ?_
  · exact Nat.zero_le _
  · exact ⟨.refl _, .refl _, trivial⟩
  · exact .refl _
  intro i hi
  rcases Nat.lt_or_ge i b.length with hlt | hge
  · obtain ⟨r, hr, hm⟩ := at_lt hlt
    have hg := encRels_get hr
    have hgr := hb.2 r hm
    ((repeat' (first | (refine awp_mixed (id := 11) [0, 1, 2, 3, 4, 5, 6, 7] [6, 7] [(6, [1, 3]), (7, [])] (by kernel_rfl) (by kernel_rfl) ?_; (try simp only [go_sem, Nat.reduceLT, Nat.reduceEqDiff, Nat.reduceLeDiff, Nat.reduceAdd, Nat.reduceMul, Int.reduceToNat, Nat.reducePow, ↓reduceIte, reduceCtorEq, hg])) | (refine awp_seq_k (fun K hK => ?_)) | (refine awp_block ?_) | (refine awp_reg _ rfl ?_; (try simp only [go_sem, Nat.reduceLT, Nat.reduceEqDiff, Nat.reduceLeDiff, Nat.reduceAdd, Nat.reduceMul, Int.reduceToNat, Nat.reducePow, ↓reduceIte, reduceCtorEq, hg])) | (refine awp_cond _ rfl (fun hc => ?_) (fun hc => ?_) <;> (try (simp only [decide_eq_true_eq, decide_eq_false_iff_not, cds, Decidable.not_not, ite_or, ite_and] at hc)) <;> (try (exfalso; omega))) | (refine awp_skip ?_; (try simp only [sq, bk, ↓reduceIte, Nat.reduceEqDiff, reduceCtorEq])) | (refine ⟨_, fun H => c_CloneLCol r.cols _ (by have := hgr.cols; omega), ?_⟩ <;> (try simp only [go_sem, Nat.reduceLT, Nat.reduceEqDiff, Nat.reduceLeDiff, Nat.reduceAdd, Nat.reduceMul, Int.reduceToNat, Nat.reducePow, ↓reduceIte, reduceCtorEq, hg])) | (refine orAt_r 10 ?_; (try simp only [go_sem, Nat.reduceLT, Nat.reduceEqDiff, Nat.reduceLeDiff, Nat.reduceAdd, Nat.reduceMul, Int.reduceToNat, Nat.reducePow, ↓reduceIte, reduceCtorEq, hg])) | (with_reducible apply And.intro) | (refine all_fresh fun id fr => ?_; (try have := NeI.of_frt fr)) | (refine hK _ ?_; clear hK; (try clear K)))); (all_goals (try ((omega)))))
    obtain ⟨v, hv0⟩ : ∃ x, x = id := ⟨_, rfl⟩
    subst hv0
    have frv := fr
    clear fr
    refine awp_nilBx v 80 1 (fun t2 => [.con (.string r.nm), .list (encCols r.cols) none, .con (.slice none 0 0), .list [] (some t2)]) [3, 6, 8, 10, 11, 26, 27, 28, 39, 40, 41] (by simp only [keepT_cons, keepT_nil, lk, Nat.reduceEqDiff, ↓reduceIte, reduceCtorEq, Nat.reduceAdd]; rfl) rfl (fun t2 => ⟨.refl _, .refl _, .refl _, AV.nle_nil, trivial⟩) (fun t2 fr2 => ?_)
    have hne : ¬ t2 = v := fun e => by have := fr2.1; rw [e] at this; simp [Hp.box] at this
    refine awp_loopKG (ι := Nat) [3, 6, 8, 10, 11, 26, 27, 28, 39, 40] (fun q => [(41, .con (.int .i64 (q : Int)))]) (fun q => ⟨(v, [.con (.string r.nm), .list (encCols r.cols) none, .con (.slice none 0 0), .list (encRws (fzR (w.body.take q) r.nm)) (some t2)]) :: H.bx, (t2, (fzR (w.body.take q) r.nm).length, 80, 1) :: (t, i, 103, 4) :: H.tk⟩) (fun q => q ≤ w.body.length) (fun q => w.body.length - q) 0 (by intro; simp only [keepT_cons, keepT_nil, List.cons_append, List.nil_append, lk, Nat.reduceEqDiff, ↓reduceIte, reduceCtorEq, Nat.reduceAdd]; rfl) ?_ ?_ ?_ ?_
    · exact Nat.zero_le _
    · simp only [go_sem, Nat.reduceEqDiff, ↓reduceIte]
    · exact .refl _
    intro j hj
    rcases Nat.lt_or_ge j w.body.length with hlt2 | hge2
    · obtain ⟨a, ha, hma⟩ := at_lt hlt2
      have hg2 := encAs_get ha
      have hag := hw.body.2 a hma
      obtain ⟨hfg, hfn⟩ := fzR_good hw.body j r.nm
      by_cases hn : a.rel = r.nm
      · have hn2 := eq_true hn
        have hst := fzR_yes ha hn
        ((repeat' (first | (refine awp_mixed (id := 16) [0, 1, 2, 3, 4, 5, 6, 7, 8, 9] [7, 9] [(7, []), (9, [])] (by kernel_rfl) (by kernel_rfl) ?_; (try simp only [go_sem, Nat.reduceLT, Nat.reduceEqDiff, Nat.reduceLeDiff, Nat.reduceAdd, Nat.reduceMul, Int.reduceToNat, Nat.reducePow, ↓reduceIte, reduceCtorEq, hg2, hn2, wrap_succ j (by omega), ↓pkv, decide_true, decide_false, bls, if_true, if_false])) | (refine awp_seq_k (fun K hK => ?_)) | (refine awp_block ?_) | (refine awp_reg _ rfl ?_; (try simp only [go_sem, Nat.reduceLT, Nat.reduceEqDiff, Nat.reduceLeDiff, Nat.reduceAdd, Nat.reduceMul, Int.reduceToNat, Nat.reducePow, ↓reduceIte, reduceCtorEq, hg2, hn2, wrap_succ j (by omega), ↓pkv, decide_true, decide_false, bls, if_true, if_false])) | (refine awp_cond _ rfl (fun hc => ?_) (fun hc => ?_) <;> (try (simp only [decide_eq_true_eq, decide_eq_false_iff_not, cds, Decidable.not_not, ite_or, ite_and] at hc)) <;> (try (exfalso; omega))) | (refine awp_skip ?_; (try simp only [sq, bk, ↓reduceIte, Nat.reduceEqDiff, reduceCtorEq])) | (refine ⟨_, fun H => c_Row a.args marks24 _ hag gRow_marks, ?_⟩ <;> (try simp only [go_sem, Nat.reduceLT, Nat.reduceEqDiff, Nat.reduceLeDiff, Nat.reduceAdd, Nat.reduceMul, Int.reduceToNat, Nat.reducePow, ↓reduceIte, reduceCtorEq, hg2, hn2, wrap_succ j (by omega), ↓pkv, decide_true, decide_false, bls, if_true, if_false])) | (refine orAt_r 13 ?_; (try simp only [go_sem, Nat.reduceLT, Nat.reduceEqDiff, Nat.reduceLeDiff, Nat.reduceAdd, Nat.reduceMul, Int.reduceToNat, Nat.reducePow, ↓reduceIte, reduceCtorEq, hg2, hn2, wrap_succ j (by omega), ↓pkv, decide_true, decide_false, bls, if_true, if_false])) | (with_reducible apply And.intro) | (refine hK _ ?_; clear hK; (try clear K)))); (all_goals (try (first | omega | decide | (simp only [List.mem_singleton, List.mem_cons, List.not_mem_nil, or_false, forall_eq_or_imp, forall_eq, AV.cells, List.length_cons, List.length_nil, and_self, Nat.reduceAdd]; done)))))
        refine ⟨j + 1, by omega, by omega, ?_⟩
        simp only [hst, encRws_append, encRws_one, List.length_append, List.length_singleton]
        (refine st_le rfl ?_ (by ((try dsimp only); repeat' (((refine weak_tokeq (by (rfl))))))); (try simp only [go_sem, Nat.reduceEqDiff, ↓reduceIte, reduceCtorEq]))
      · have hn2 := eq_false hn
        have hst := fzR_no ha hn
        ((repeat' (first | (refine awp_seq_k (fun K hK => ?_)) | (refine awp_block ?_) | (refine awp_reg _ rfl ?_; (try simp only [go_sem, Nat.reduceLT, Nat.reduceEqDiff, Nat.reduceLeDiff, Nat.reduceAdd, Nat.reduceMul, Int.reduceToNat, Nat.reducePow, ↓reduceIte, reduceCtorEq, hg2, hn2, wrap_succ j (by omega), ↓pkv, decide_true, decide_false, bls, if_true, if_false])) | (refine awp_cond _ rfl (fun hc => ?_) (fun hc => ?_) <;> (try (simp only [decide_eq_true_eq, decide_eq_false_iff_not, cds, Decidable.not_not, ite_or, ite_and] at hc)) <;> (try (exfalso; omega))) | (refine awp_skip ?_; (try simp only [sq, bk, ↓reduceIte, Nat.reduceEqDiff, reduceCtorEq])) | (refine orAt_r 13 ?_; (try simp only [go_sem, Nat.reduceLT, Nat.reduceEqDiff, Nat.reduceLeDiff, Nat.reduceAdd, Nat.reduceMul, Int.reduceToNat, Nat.reducePow, ↓reduceIte, reduceCtorEq, hg2, hn2, wrap_succ j (by omega), ↓pkv, decide_true, decide_false, bls, if_true, if_false])) | (with_reducible apply And.intro) | (refine hK _ ?_; clear hK; (try clear K)))); (all_goals (try ((omega)))))
        refine ⟨j + 1, by omega, by omega, ?_⟩
        simp only [hst]
        (refine st_le rfl ?_ (by ((try dsimp only); repeat' (((refine weak_tokeq (by (rfl))))))); (try simp only [go_sem, Nat.reduceEqDiff, ↓reduceIte, reduceCtorEq]))
    · obtain rfl : j = w.body.length := by omega
      rw [List.take_length, fzR_all]
      have hfw : ∀ x ∈ fzRows w r.nm, gRow x := fzRows_good hw r.nm
      have hgf : gRel ⟨r.nm, r.cols, [], fzRows w r.nm⟩ := ⟨hgr.cols, hgr.kd, by simp, ⟨by have := fzRows_len w r.nm; show (fzRows w r.nm).length ≤ _; omega, hfw⟩⟩
      have hfr : (fzB b w)[i]? = some (fzRel w r) := by unfold fzB; rw [List.getElem?_map, hr]; rfl
      have hst : encRels ((fzB b w).take (i + 1)) = encRels ((fzB b w).take i) ++ [cRel ⟨r.nm, r.cols, [], setU cmpR (fzRows w r.nm)⟩] := by rw [take_at hfr, encRels_append]; rfl
      have hln : ((fzB b w).take i).length = i := by rw [List.length_take]; omega
      have hnt : ¬ t2 = t := fun e => by have h5 := fr2.2; rw [e] at h5; simp [Hp.tok] at h5
      ((repeat' (first | (refine awp_seq_k (fun K hK => ?_)) | (refine awp_reg _ rfl ?_; (try simp only [go_sem, Nat.reduceLT, Nat.reduceEqDiff, Nat.reduceLeDiff, Nat.reduceAdd, Nat.reduceMul, Int.reduceToNat, Nat.reducePow, ↓reduceIte, reduceCtorEq, hln, hnt, wrap_succ i (by omega), ↓pkv, decide_true, decide_false, bls, if_true, if_false])) | (refine awp_cond _ rfl (fun hc => ?_) (fun hc => ?_) <;> (try (simp only [decide_eq_true_eq, decide_eq_false_iff_not, cds, Decidable.not_not, ite_or, ite_and] at hc)) <;> (try (exfalso; omega))) | (refine awp_exit ?_; (try simp only [sq, bk, ↓reduceIte, Nat.reduceEqDiff, reduceCtorEq])) | (refine PureAt.use (c_SortN r.nm r.cols (fzRows w r.nm) t2 _ hgf) ?_ <;> (try simp only [go_sem, Nat.reduceLT, Nat.reduceEqDiff, Nat.reduceLeDiff, Nat.reduceAdd, Nat.reduceMul, Int.reduceToNat, Nat.reducePow, ↓reduceIte, reduceCtorEq, hln, hnt, wrap_succ i (by omega), ↓pkv, decide_true, decide_false, bls, if_true, if_false])) | (refine orAt_l ?_) | (with_reducible apply And.intro) | (refine hK _ ?_; clear hK; (try clear K)) | (refine kk (by assumption) ?_))); (all_goals (try (first | omega | decide | (simp only [List.mem_singleton, List.mem_cons, List.not_mem_nil, or_false, forall_eq_or_imp, forall_eq, AV.cells, List.length_cons, List.length_nil, and_self, Nat.reduceAdd]; done)))))
      refine ⟨i + 1, by omega, by omega, ?_⟩
      refine st_le rfl ?_ ?_
      · simp only [hst]
        simp only [go_sem, Nat.reduceLT, Nat.reduceEqDiff, Nat.reduceLeDiff, Nat.reduceAdd, Nat.reduceMul, Int.reduceToNat, Nat.reducePow, ↓reduceIte, reduceCtorEq, hst]
      · refine weak_tok (by have h5 : Hp.tok H t2 = none := (fresh_tok2 (fresh_box fr2).2).2.2; rw [tok_cons, if_neg (fun e => hnt e.symm)]; exact h5) (weak_box (by have h5 := frv.1; exact h5) ?_)
        exact .refl _
  · obtain rfl : i = b.length := by omega
    rw [← hfl, List.take_length]
    ((repeat' (first | (refine awp_seq_k (fun K hK => ?_)) | (refine awp_reg _ rfl ?_; (try simp only [go_sem, Nat.reduceLT, Nat.reduceEqDiff, Nat.reduceLeDiff, Nat.reduceAdd, Nat.reduceMul, Int.reduceToNat, Nat.reducePow, ↓reduceIte, reduceCtorEq])) | (refine awp_cond _ rfl (fun hc => ?_) (fun hc => ?_) <;> (try (simp only [decide_eq_true_eq, decide_eq_false_iff_not, cds, Decidable.not_not, ite_or, ite_and] at hc)) <;> (try (exfalso; omega))) | (refine awp_exit ?_; (try simp only [sq, bk, ↓reduceIte, Nat.reduceEqDiff, reduceCtorEq])) | (refine awp_ret ?_) | (refine PureAt.use (c_Row w.head marks24 _ hw.head gRow_marks) ?_ <;> (try simp only [go_sem, Nat.reduceLT, Nat.reduceEqDiff, Nat.reduceLeDiff, Nat.reduceAdd, Nat.reduceMul, Int.reduceToNat, Nat.reducePow, ↓reduceIte, reduceCtorEq])) | (refine orAt_l ?_) | (refine hK _ ?_; clear hK; (try clear K)) | (refine kk (by assumption) ?_))))
    (refine fin_le (.tup [.list (encRels (fzB b w)) none, .list (encVs (fzH w)) none]) (H) (by (try simp only [List.mem_singleton, forall_eq, resOk, List.mem_cons, List.not_mem_nil, or_false, forall_eq_or_imp, and_self])) (by (try simp only [go_sem, Nat.reduceLT, Nat.reduceEqDiff, Nat.reduceLeDiff, Nat.reduceAdd, Nat.reduceMul, Int.reduceToNat, Nat.reducePow, ↓reduceIte, reduceCtorEq]); (repeat' (first | exact .refl _ | exact AV.le_list _ _ | refine AV.le_tupc rfl ?_ | refine lec_cons ?_ ?_))) (by ((try dsimp only); repeat' (first | with_reducible exact .refl _ | exact fresh.tok (by assumption) | refine weak_tok ?_ ?_))) ⟨rfl, rfl⟩)
end Go.Proofs.YtababmnmkmgbbaaGreat
