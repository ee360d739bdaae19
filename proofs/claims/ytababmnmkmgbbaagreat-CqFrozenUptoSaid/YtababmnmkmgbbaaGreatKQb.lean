/-
  A part of the proof: its theorems say what each gives.
-/
import Derived.Test.YtababmnmkmgbbaaGreatKQa
set_option maxRecDepth 100000
set_option maxHeartbeats 4000000
set_option linter.unusedSimpArgs false
set_option linter.unusedVariables false
namespace Go.Proofs.YtababmnmkmgbbaaGreat
open Go Fw
/-! cq.Kinds, cq.Check. -/
theorem flat_is (l : List Int) : flat (encIs l) = encIs l := by
  induction l with
  | nil => rfl
  | cons x l ih => show _ :: flat (encIs l) = _; rw [ih]; rfl
theorem encIs_fits (l : List Int) : ∀ x ∈ encIs l, x.fits 1 := by
  intro x hx
  obtain ⟨y, _, rfl⟩ := List.mem_map.1 hx
  exact ⟨rfl, by simp [AV.cells, AV.one, Value.oneCell']⟩
theorem kinds0_enc : (List.replicate 24 [AV.con (.int .i64 0)]).flatten = encIs kinds0 := rfl
theorem argsE_len : ∀ (m : List Col) (l : List Trm) (ks : List Int), (argsE m l ks).2.length = ks.length
  | [], _, ks => by rw [argsE]; intro _ _ _ _ h; cases h
  | _ :: _, [], ks => by rw [argsE]; intro _ _ _ _ _ h; cases h
  | c :: m, t :: l, ks => by
    rw [argsE]
    split
    · split
      · split
        · rw [argsE_len m l]; simp
        · split
          · exact argsE_len m l ks
          · rfl
      · split
        · exact argsE_len m l ks
        · rfl
    · rfl
theorem atomE_len (b : List Rel) (a : Atm) (ks : List Int) : (atomE b a ks).2.length = ks.length := by
  unfold atomE
  split
  · rfl
  · split
    · exact argsE_len _ _ _
    · rfl
def kindsR (b : List Rel) (l : List Atm) : List Int := if kindsE b l = 0 then kindsL b l else []
theorem c_Kinds (b : List Rel) (l : List Atm) (H : Hp) (hb : gBase b) (hl : gAs l) : PureAt Tryz.prog 29 [.list (encRels b) none, .list (encAs l) none] H (.tup [.list (encIs (kindsR b l)) none, .con (.int .i64 (kindsE b l))]) := by
  obtain ⟨hl1, hl2⟩ := hl
  by_cases hbe : baseE b = 0
  rotate_left
  · have e : kindsE b l = baseE b := by unfold kindsE; rw [if_neg hbe]
    have e2 : kindsR b l = [] := by unfold kindsR; rw [if_neg (by rw [e]; exact hbe)]
    rw [e, e2]
    refine acalls_of (by kernel_rfl) Tryz.func29 rfl 35 Tryz.ntmps29 (by simp) [.tmp 4, .tmp 5] rfl ?_
    ((repeat' (first | (refine awp_seq_k (fun K hK => ?_)) | (refine awp_reg _ rfl ?_; (try simp only [go_sem, Nat.reduceLT, Nat.reduceEqDiff, Nat.reduceAdd, ↓reduceIte, reduceCtorEq, hbe, decide_true, bls])) | (refine awp_cond _ rfl (fun hc => ?_) (fun hc => ?_) <;> (try (simp only [cds] at hc))) | (refine awp_ret ?_; (try simp only [sq])) | (refine PureAt.use (c_CheckBase b _ hb) ?_ <;> (try simp only [go_sem])) | (refine orAt_l ?_) | (refine hK _ ?_; clear hK; (try clear K)))))
    (refine fin_le (.tup [.list [] none, .con (.int .i64 (baseE b))]) (H) (by (try simp only [forall_eq, resOk, List.mem_cons, List.not_mem_nil, or_false, forall_eq_or_imp, and_self])) (by (try simp only [go_sem, Nat.reduceEqDiff, ↓reduceIte]); (repeat' (first | exact .refl _ | exact AV.le_nil | refine AV.le_tupc rfl ?_ | refine lec_cons ?_ ?_))) (by ((try dsimp only); repeat' ((with_reducible exact .refl _)))) ⟨rfl, rfl⟩)
  have hcb := fun H => c_CheckBase b H hb
  rw [hbe] at hcb
  by_cases h12 : 12 < l.length
  · have e : kindsE b l = 2 := by unfold kindsE; rw [if_pos hbe, if_pos h12]
    have e2 : kindsR b l = [] := by unfold kindsR; rw [if_neg (by rw [e]; decide)]
    have h13 : ((12 : Int) < (l.length : Int)) = True := eq_true (by omega)
    rw [e, e2]
    refine acalls_of (by kernel_rfl) Tryz.func29 rfl 35 Tryz.ntmps29 (by simp) [.tmp 4, .tmp 5] rfl ?_
    ((repeat' (first | (refine awp_seq_k (fun K hK => ?_)) | (refine awp_reg _ rfl ?_; (try simp only [go_sem, Nat.reduceLT, Nat.reduceEqDiff, Nat.reduceAdd, ↓reduceIte, reduceCtorEq, h13, decide_true, decide_false, bls])) | (refine awp_cond _ rfl (fun hc => ?_) (fun hc => ?_) <;> (try (simp only [cds] at hc))) | (refine awp_skip ?_; (try simp only [sq])) | (refine awp_ret ?_; (try simp only [sq])) | (refine PureAt.use (hcb _) ?_ <;> (try simp only [go_sem])) | (refine orAt_l ?_) | (refine hK _ ?_; clear hK; (try clear K)))))
    (refine fin_le (.tup [.list [] none, .con (.int .i64 2)]) (H) (by (try simp only [forall_eq, resOk, List.mem_cons, List.not_mem_nil, or_false, forall_eq_or_imp, and_self])) (by (try simp only [go_sem, Nat.reduceEqDiff, ↓reduceIte]); (repeat' (first | exact .refl _ | exact AV.le_nil | refine AV.le_tupc rfl ?_ | refine lec_cons ?_ ?_))) (by ((try dsimp only); repeat' ((with_reducible exact .refl _)))) ⟨rfl, rfl⟩)
  have h13 : ((12 : Int) < (l.length : Int)) = False := eq_false (by omega)
  have e : kindsE b l = (atomsE b l kinds0).1 := by unfold kindsE; rw [if_pos hbe, if_neg h12]
  have e2 : kindsR b l = if (atomsE b l kinds0).1 = 0 then (atomsE b l kinds0).2 else [] := by unfold kindsR kindsL; rw [e]
  rw [e, e2]
  generalize hres : atomsE b l kinds0 = res
  refine acalls_of (by kernel_rfl) Tryz.func29 rfl 35 Tryz.ntmps29 (by simp) [.tmp 4, .tmp 5] rfl ?_
  ((repeat' (first | (refine awp_seq_k (fun K hK => ?_)) | (refine awp_block ?_) | (refine awp_reg _ rfl ?_; (try simp only [go_sem, Nat.reduceLT, Nat.reduceEqDiff, Nat.reduceAdd, Int.reduceToNat, ↓reduceIte, reduceCtorEq, h13, decide_false, bls])) | (refine awp_cond _ rfl (fun hc => ?_) (fun hc => ?_) <;> (try (simp only [cds] at hc))) | (refine awp_skip ?_; (try simp only [sq])) | (refine PureAt.use (hcb _) ?_ <;> (try simp only [go_sem])) | (refine orAt_l ?_) | (with_reducible apply And.intro) | (refine all_fresh fun id fr => ?_) | (refine hK _ ?_; clear hK; (try clear K)))); (all_goals (try ((omega)))))
  obtain ⟨kid, hkid⟩ : ∃ x, x = id := ⟨_, rfl⟩
  subst hkid
  have frk := fr
  clear fr
  simp only [kinds0_enc]
  refine awp_loopKG (ι := Nat × List Int) [0, 7, 20, 21] (fun q => [(22, .con (.int .i64 (q.1 : Int)))]) (fun q => ⟨(kid, encIs q.2) :: H.bx, H.tk⟩) (fun q => q.1 ≤ l.length ∧ q.2.length = 24 ∧ atomsE b (l.drop q.1) q.2 = res) (fun q => l.length - q.1) (0, kinds0) (by intro; simp only [keepT_cons, keepT_nil, List.cons_append, List.nil_append, lk, Nat.reduceEqDiff, ↓reduceIte, reduceCtorEq]; rfl) ?_ ?_ ?_ ?_
  · exact ⟨by omega, rfl, by simpa using hres⟩
  · simp only [go_sem, Nat.reduceEqDiff, ↓reduceIte]
  · exact .refl _
  rintro ⟨i, qs⟩ ⟨hi, hql, h0⟩
  simp only at hi hql h0
  rcases Nat.lt_or_ge i l.length with hlt | hge
  · obtain ⟨x, hx, hm⟩ := at_lt hlt
    have hg := encAs_get hx
    rw [drop_at hx, atomsE] at h0
    have hat := fun H => c_atom b x qs kid H hb (hl2 x hm)
    by_cases ha : (atomE b x qs).1 = 0
    · rw [if_pos ha] at h0
      ((repeat' (first | (refine awp_seq_k (fun K hK => ?_)) | (refine awp_block ?_) | (refine awp_reg _ rfl ?_; (try simp only [go_sem, Nat.reduceLT, Nat.reduceEqDiff, Nat.reduceLeDiff, Nat.reduceAdd, ↓reduceIte, reduceCtorEq, wrap_succ i (by omega), hg, decide_false, bls])) | (refine awp_cond _ rfl (fun hc => ?_) (fun hc => ?_) <;> (try (simp only [decide_eq_true_eq, decide_eq_false_iff_not, cds] at hc)) <;> (try (exfalso; omega))) | (refine awp_skip ?_; (try simp only [sq, bk])) | (refine ACalls.det (hat _ (by ((simp only [go_sem, ↓reduceIte]; done))) hql) ?_ <;> (try simp only [go_sem, ↓reduceIte, ha])) | (refine orAt_r 9 ?_; (try simp only [go_sem, Nat.reduceLT, Nat.reduceAdd, ↓reduceIte, bls])) | (refine orAt_l ?_) | (with_reducible apply And.intro) | (refine hK _ ?_; clear hK; (try clear K)))); (all_goals (try ((omega)))))
      refine ⟨(i + 1, (atomE b x qs).2), by simp only; omega, ⟨by simp only; omega, by rw [atomE_len]; exact hql, h0⟩, ?_⟩
      (refine st_le rfl ?_ (by ((try dsimp only); repeat' ((with_reducible exact .refl _)))); (try simp only [go_sem, Nat.reduceEqDiff, ↓reduceIte, reduceCtorEq]))
    · rw [if_neg ha] at h0
      subst h0
      ((repeat' (first | (refine awp_seq_k (fun K hK => ?_)) | (refine awp_block ?_) | (refine awp_reg _ rfl ?_; (try simp only [go_sem, Nat.reduceLT, Nat.reduceEqDiff, Nat.reduceLeDiff, Nat.reduceAdd, ↓reduceIte, reduceCtorEq, hg, ha, decide_true, bls])) | (refine awp_cond _ rfl (fun hc => ?_) (fun hc => ?_) <;> (try (simp only [decide_eq_true_eq, decide_eq_false_iff_not, cds] at hc)) <;> (try (exfalso; omega))) | (refine awp_skip ?_; (try simp only [sq])) | (refine awp_ret ?_; (try simp only [sq, bk])) | (refine ACalls.det (hat _ (by ((simp only [go_sem, ↓reduceIte]; done))) hql) ?_ <;> (try simp only [go_sem, ↓reduceIte])) | (refine orAt_r 9 ?_; (try simp only [go_sem, Nat.reduceLT, Nat.reduceAdd, ↓reduceIte, bls])) | (refine orAt_l ?_) | (with_reducible apply And.intro) | (refine hK _ ?_; clear hK; (try clear K)))); (all_goals (try ((omega)))))
      rw [if_neg ha]
      (refine fin_le (.tup [.list [] none, .con (.int .i64 (atomE b x qs).1)]) (H) (by (try simp only [forall_eq, resOk, List.mem_cons, List.not_mem_nil, or_false, forall_eq_or_imp, and_self])) (by (try simp only [go_sem, Nat.reduceEqDiff, ↓reduceIte]); (repeat' (first | exact .refl _ | exact AV.le_nil | refine AV.le_tupc rfl ?_ | refine lec_cons ?_ ?_))) (by ((try dsimp only); repeat' (first | with_reducible exact .refl _ | exact box_fresh (by assumption) | refine weak_box ?_ ?_))) ⟨rfl, rfl⟩)
  · obtain rfl : i = l.length := by omega
    rw [List.drop_length, atomsE] at h0
    subst h0
    rw [← flat_is qs]
    refine awp_freezeSl 7 kid (xs := encIs qs) [0, 20, 21, 22] (by simp only [keepT_cons, keepT_nil, lk, Nat.reduceEqDiff, ↓reduceIte, reduceCtorEq]; rfl) rfl ?_ rfl ?_ (encIs_fits qs) ?_
    · simp only [go_sem, hql]
    · exact frk.1
    ((repeat' (first | (refine awp_seq_k (fun K hK => ?_)) | (refine awp_reg _ rfl ?_; (try simp only [go_sem, Nat.reduceLT, Nat.reduceEqDiff, ↓reduceIte, reduceCtorEq])) | (refine awp_cond _ rfl (fun hc => ?_) (fun hc => ?_) <;> (try (simp only [decide_eq_true_eq, decide_eq_false_iff_not] at hc)) <;> (try (exfalso; omega))) | (refine awp_exit ?_; (try simp only [sq, bk, ↓reduceIte])) | (refine awp_ret ?_; (try simp only [↓reduceIte, reduceCtorEq])) | (refine hK _ ?_; clear hK; (try clear K)) | (refine kk (by assumption) ?_))))
    (refine fin_le (.tup [.list (encIs qs) none, .con (.int .i64 0)]) (H) (by (try simp only [forall_eq, resOk, List.mem_cons, List.not_mem_nil, or_false, forall_eq_or_imp, and_self])) (by (try simp only [go_sem, Nat.reduceEqDiff, ↓reduceIte]); (repeat' (first | exact .refl _ | exact AV.le_nil | exact AV.le_emp | exact AV.le_list _ _ | exact AV.le_any _ | exact lec_nil | refine AV.le_aggc rfl ?_ | refine AV.le_tupc rfl ?_ | refine lec_cons ?_ ?_))) (by ((try dsimp only); repeat' ((with_reducible exact .refl _)))) ⟨rfl, rfl⟩)
theorem atomsE_len (b : List Rel) : ∀ (l : List Atm) (ks : List Int), (atomsE b l ks).2.length = ks.length
  | [], ks => rfl
  | a :: l, ks => by
    rw [atomsE]
    split
    · rw [atomsE_len b l, atomE_len]
    · exact atomE_len b a ks
theorem c_cqCheck (b : List Rel) (q : CQ) (H : Hp) (hb : gBase b) (hq : gCQ q) : PureAt Tryz.prog 32 [.list (encRels b) none, cCQ q] H (.con (.int .i64 (cqE b q))) := by
  obtain ⟨⟨h1, h2⟩, h3⟩ := hq
  have hck := fun H => c_Kinds b q.body H hb h3
  by_cases hke : kindsE b q.body = 0
  rotate_left
  · have e : cqE b q = kindsE b q.body := by unfold cqE; rw [if_neg hke]
    rw [e]
    refine acalls_of (by kernel_rfl) Tryz.func32 rfl 47 Tryz.ntmps32 (by simp) [.tmp 4] rfl ?_
    ((repeat' (first | (refine awp_seq_k (fun K hK => ?_)) | (refine awp_reg _ rfl ?_; (try simp only [go_sem, Nat.reduceLT, Nat.reduceEqDiff, Nat.reduceLeDiff, Nat.reduceAdd, ↓reduceIte, reduceCtorEq, hke, decide_true, bls])) | (refine awp_cond _ rfl (fun hc => ?_) (fun hc => ?_) <;> (try (simp only [cds] at hc))) | (refine awp_ret ?_; (try simp only [sq])) | (refine PureAt.use (hck _) ?_ <;> (try simp only [go_sem, Nat.reduceLT, Nat.reduceAdd])) | (refine orAt_r 3 ?_) | (refine orAt_l ?_) | (refine hK _ ?_; clear hK; (try clear K)))))
    ((all_goals (try refine fin_pure (by (try simp only [forall_eq, resOk, List.mem_cons, List.not_mem_nil, or_false])) ?_ (by ((try dsimp only); repeat' ((with_reducible exact .refl _)))))); (all_goals (try simp only [go_sem, ↓reduceIte])))
  have e3 : kindsR b q.body = kindsL b q.body := by unfold kindsR; rw [if_pos hke]
  rw [hke, e3] at hck
  unfold cqE
  rw [if_pos hke]
  have hkl : (kindsL b q.body).length = 24 := by unfold kindsL; rw [atomsE_len]; rfl
  generalize kindsL b q.body = ks at *
  refine acalls_of (by kernel_rfl) Tryz.func32 rfl 47 Tryz.ntmps32 (by simp) [.tmp 4] rfl ?_
  ((repeat' (first | (refine awp_seq_k (fun K hK => ?_)) | (refine awp_block ?_) | (refine awp_reg _ rfl ?_; (try simp only [go_sem, Nat.reduceLT, Nat.reduceEqDiff, Nat.reduceLeDiff, Nat.reduceAdd, ↓reduceIte, reduceCtorEq])) | (refine awp_cond _ rfl (fun hc => ?_) (fun hc => ?_) <;> (try (simp only [decide_eq_true_eq, decide_eq_false_iff_not, cds] at hc))) | (refine awp_skip ?_; (try simp only [sq])) | (refine awp_ret ?_; (try simp only [sq])) | (refine PureAt.use (hck _) ?_ <;> (try simp only [go_sem, Nat.reduceLT, Nat.reduceAdd])) | (refine orAt_r 3 ?_) | (refine orAt_l ?_) | (refine hK _ ?_; clear hK; (try clear K)))))
  · (((all_goals (try refine fin_pure (by (try simp only [forall_eq, resOk, List.mem_cons, List.not_mem_nil, or_false])) ?_ (by ((try dsimp only); repeat' ((with_reducible exact .refl _)))))); (all_goals (try simp only [go_sem, ↓reduceIte]))); (all_goals (try (((congr 2; grind))))))
  refine awp_loopKH (ι := Nat) [5, 25, 26] (fun i => [(27, .con (.int .i64 (i : Int)))]) (fun i => i ≤ q.head.length ∧ headTE ks (q.head.drop i) = headTE ks q.head) (fun i => q.head.length - i) 0 (by intro; simp only [keepT_cons, keepT_nil, List.cons_append, List.nil_append, lk, Nat.reduceEqDiff, ↓reduceIte]; rfl) ⟨by omega, by simp⟩ (by ((simp only [go_sem, ↓reduceIte]; done))) ?_
  intro i ⟨hi, h0⟩
  rcases Nat.lt_or_ge i q.head.length with hlt | hge
  · obtain ⟨x, hx, hm⟩ := at_lt hlt
    have hg := encTs_get hx
    rw [drop_at hx, headTE] at h0
    have ht := c_term x
    by_cases hte : termE x = 0
    · rw [hte] at ht
      rw [if_pos hte] at h0
      cases hv : x.var
      · simp only [cTrm, hv] at ht
        ((repeat' (first | (refine awp_seq_k (fun K hK => ?_)) | (refine awp_block ?_) | (refine awp_reg _ rfl ?_; (try simp only [go_sem, Nat.reduceLT, Nat.reduceEqDiff, Nat.reduceLeDiff, Nat.reduceAdd, ↓reduceIte, reduceCtorEq, wrap_succ i (by omega), hg, hv, ↓pkv, decide_false, bls])) | (refine awp_cond _ rfl (fun hc => ?_) (fun hc => ?_) <;> (try (simp only [decide_eq_true_eq, decide_eq_false_iff_not, cds] at hc)) <;> (try (exfalso; omega))) | (refine awp_skip ?_; (try simp only [sq, bk])) | (refine PureAt.use (ht _ (h2 x hm)) ?_ <;> (try simp only [go_sem])) | (refine orAt_r 8 ?_; (try simp only [go_sem, Nat.reduceLT, Nat.reduceAdd, ↓reduceIte, bls])) | (refine orAt_l ?_) | (with_reducible apply And.intro) | (refine hK _ ?_; clear hK; (try clear K)))); (all_goals (try (first | omega | (intro hh; simp only at hh ⊢; (done))))))
        refine ⟨i + 1, by omega, ⟨by omega, by (grind)⟩, ?_⟩
        (refine st_le rfl ?_ (by ((try dsimp only); repeat' ((with_reducible exact .refl _)))); (try simp only [go_sem, Nat.reduceEqDiff, Nat.reduceAdd, ↓reduceIte, reduceCtorEq]))
      · obtain ⟨hn0, hn1⟩ := termE_var hte hv
        obtain ⟨n, hn⟩ : ∃ n : Nat, x.n = n := ⟨x.n.toNat, by omega⟩
        rw [hn] at h0 hn0 hn1
        rw [Int.toNat_natCast] at h0
        simp only [cTrm, hv, hn] at ht
        have q1 : (encIs ks).getD n .any = .con (.int .i64 (ks.getD n 0)) := by simp [encIs, List.getD_eq_getElem?_getD, show n < ks.length by omega]
        ((repeat' (first | (refine awp_seq_k (fun K hK => ?_)) | (refine awp_block ?_) | (refine awp_reg _ rfl ?_; (try simp only [go_sem, Nat.reduceLT, Nat.reduceEqDiff, Nat.reduceLeDiff, Nat.reduceAdd, ↓reduceIte, reduceCtorEq, wrap_succ i (by omega), hg, hv, hn, q1, hkl, ↓pkv, decide_false, bls])) | (refine awp_cond _ rfl (fun hc => ?_) (fun hc => ?_) <;> (try (simp only [decide_eq_true_eq, decide_eq_false_iff_not, cds] at hc)) <;> (try (exfalso; omega))) | (refine awp_skip ?_; (try simp only [sq, bk])) | (refine awp_ret ?_; (try simp only [sq, bk])) | (refine PureAt.use (ht _ (h2 x hm)) ?_ <;> (try simp only [go_sem])) | (refine orAt_r 8 ?_; (try simp only [go_sem, Nat.reduceLT, Nat.reduceAdd, ↓reduceIte, bls])) | (refine orAt_l ?_) | (with_reducible apply And.intro) | (refine hK _ ?_; clear hK; (try clear K)))); (all_goals (try ((omega)))))
        · (((all_goals (try refine fin_pure (by (try simp only [forall_eq, resOk, List.mem_cons, List.not_mem_nil, or_false])) ?_ (by ((try dsimp only); repeat' ((with_reducible exact .refl _)))))); (all_goals (try simp only [go_sem, ↓reduceIte]))); (all_goals (try (((congr 2; grind))))))
        · refine ⟨i + 1, by omega, ⟨by omega, by (grind)⟩, ?_⟩
          (refine st_le rfl ?_ (by ((try dsimp only); repeat' ((with_reducible exact .refl _)))); (try simp only [go_sem, Nat.reduceEqDiff, ↓reduceIte]))
    · rw [if_neg hte] at h0
      ((repeat' (first | (refine awp_seq_k (fun K hK => ?_)) | (refine awp_block ?_) | (refine awp_reg _ rfl ?_; (try simp only [go_sem, Nat.reduceLT, Nat.reduceEqDiff, Nat.reduceLeDiff, Nat.reduceAdd, ↓reduceIte, hg, hte, decide_true, bls])) | (refine awp_cond _ rfl (fun hc => ?_) (fun hc => ?_) <;> (try (simp only [decide_eq_true_eq, decide_eq_false_iff_not, cds] at hc)) <;> (try (exfalso; omega))) | (refine awp_skip ?_; (try simp only [sq])) | (refine awp_ret ?_; (try simp only [sq, bk])) | (refine PureAt.use (ht _ (h2 x hm)) ?_ <;> (try simp only [go_sem])) | (refine orAt_r 8 ?_; (try simp only [go_sem, Nat.reduceLT, Nat.reduceAdd, ↓reduceIte, bls])) | (refine orAt_l ?_) | (with_reducible apply And.intro) | (refine hK _ ?_; clear hK; (try clear K)))); (all_goals (try ((omega)))))
      (((all_goals (try refine fin_pure (by (try simp only [forall_eq, resOk, List.mem_cons, List.not_mem_nil, or_false])) ?_ (by ((try dsimp only); repeat' ((with_reducible exact .refl _)))))); (all_goals (try simp only [go_sem, ↓reduceIte]))); (all_goals (try (((congr 2; grind))))))
  · obtain rfl : i = q.head.length := by omega
    rw [List.drop_length, headTE] at h0
    ((repeat' (first | (refine awp_seq_k (fun K hK => ?_)) | (refine awp_reg _ rfl ?_; (try simp only [go_sem, Nat.reduceLT, Nat.reduceEqDiff, Nat.reduceLeDiff, Nat.reduceAdd, ↓reduceIte, reduceCtorEq])) | (refine awp_cond _ rfl (fun hc => ?_) (fun hc => ?_) <;> (try (simp only [decide_eq_true_eq, decide_eq_false_iff_not] at hc)) <;> (try (exfalso; omega))) | (refine awp_exit ?_; (try simp only [sq, bk, ↓reduceIte])) | (refine awp_ret ?_) | (refine hK _ ?_; clear hK; (try clear K)) | (refine kk (by assumption) ?_))))
    (((all_goals (try refine fin_pure (by (try simp only [forall_eq, resOk, List.mem_cons, List.not_mem_nil, or_false])) ?_ (by ((try dsimp only); repeat' ((with_reducible exact .refl _)))))); (all_goals (try simp only [go_sem, ↓reduceIte]))); (all_goals (try (((congr 2; grind))))))
end Go.Proofs.YtababmnmkmgbbaaGreat
