/-
  A part of the proof: its theorems say what each gives.
-/
import Derived.Test.YtababmnmkmgbbaaGreatKM26
set_option maxRecDepth 100000
set_option maxHeartbeats 4000000
set_option linter.unusedSimpArgs false
set_option linter.unusedVariables false
namespace Go.Proofs.YtababmnmkmgbbaaGreat
open Go Fw
/-! The reference: kinds of variables. -/
/-- A map that was written stays as it is from now on. -/
theorem c_KindsOf (b : List Rel) (l : List Atm) (H : Hp) (hb : gBase b) (hl : gAs l) :
    ACalls Tryz.prog 30 [.list (encRels b) none, .list (encAs l) none] H fun r H' => H' = H ∧ ((kindsE b l ≠ 0 ∧ r = .tup [.con (.map none), .con (.int .i64 (kindsE b l))]) ∨
      (kindsE b l = 0 ∧ ∃ es c, repK es (kindsL b l) ∧ r = .tup [.mv es c, .con (.int .i64 0)])) := by
  obtain ⟨hl1, hl2⟩ := hl
  by_cases hbe : baseE b = 0
  rotate_left
  · have e : kindsE b l = baseE b := by unfold kindsE; rw [if_neg hbe]
    rw [e]
    refine acalls_of (by kernel_rfl) Tryz.func30 rfl 94 Tryz.ntmps30 (by simp) [.tmp 4, .tmp 5] rfl ?_
    ((repeat' (first | (refine awp_seq_k (fun K hK => ?_)) | (refine awp_reg _ rfl ?_; (try simp only [go_sem, Nat.reduceLT, Nat.reduceEqDiff, Nat.reduceAdd, ↓reduceIte, reduceCtorEq, hbe, decide_true, bls])) | (refine awp_cond _ rfl (fun hc => ?_) (fun hc => ?_) <;> (try (simp only [cds] at hc))) | (refine awp_ret ?_; (try simp only [sq])) | (refine PureAt.use (c_CheckBase b _ hb) ?_ <;> (try simp only [go_sem])) | (refine orAt_l ?_) | (refine hK _ ?_; clear hK; (try clear K)))))
    refine fin_any (x := .tup [.con (.map none), .con (.int .i64 (baseE b))]) (H := H) (by (try simp only [forall_eq, resOk, List.mem_cons, List.not_mem_nil, or_false, forall_eq_or_imp, and_self])) (by (try simp only [go_sem, Nat.reduceEqDiff, ↓reduceIte])) (by ((try dsimp only); repeat' ((with_reducible exact .refl _)))) ?_
    exact ⟨rfl, .inl ⟨hbe, rfl⟩⟩
  have hcb := fun H => c_CheckBase b H hb
  rw [hbe] at hcb
  by_cases h12 : 12 < l.length
  · have e : kindsE b l = 2 := by unfold kindsE; rw [if_pos hbe, if_pos h12]
    have h13 : ((12 : Int) < (l.length : Int)) = True := eq_true (by omega)
    rw [e]
    refine acalls_of (by kernel_rfl) Tryz.func30 rfl 94 Tryz.ntmps30 (by simp) [.tmp 4, .tmp 5] rfl ?_
    ((repeat' (first | (refine awp_seq_k (fun K hK => ?_)) | (refine awp_reg _ rfl ?_; (try simp only [go_sem, Nat.reduceLT, Nat.reduceEqDiff, Nat.reduceAdd, ↓reduceIte, reduceCtorEq, h13, decide_true, decide_false, bls])) | (refine awp_cond _ rfl (fun hc => ?_) (fun hc => ?_) <;> (try (simp only [cds] at hc))) | (refine awp_skip ?_; (try simp only [sq])) | (refine awp_ret ?_; (try simp only [sq])) | (refine PureAt.use (hcb _) ?_ <;> (try simp only [go_sem])) | (refine orAt_l ?_) | (refine hK _ ?_; clear hK; (try clear K)))))
    refine fin_any (x := .tup [.con (.map none), .con (.int .i64 2)]) (H := H) (by (try simp only [forall_eq, resOk, List.mem_cons, List.not_mem_nil, or_false, forall_eq_or_imp, and_self])) (by (try simp only [go_sem, Nat.reduceEqDiff, ↓reduceIte])) (by ((try dsimp only); repeat' ((with_reducible exact .refl _)))) ?_
    exact ⟨rfl, .inl ⟨by decide, rfl⟩⟩
  have h13 : ((12 : Int) < (l.length : Int)) = False := eq_false (by omega)
  have e : kindsE b l = (atomsE b l kinds0).1 := by unfold kindsE; rw [if_pos hbe, if_neg h12]
  unfold kindsL
  rw [e]
  generalize hres : atomsE b l kinds0 = res
  refine acalls_of (by kernel_rfl) Tryz.func30 rfl 94 Tryz.ntmps30 (by simp) [.tmp 4, .tmp 5] rfl ?_
  ((repeat' (first | (refine awp_seq_k (fun K hK => ?_)) | (refine awp_block ?_) | (refine awp_reg _ rfl ?_; (try simp only [go_sem, Nat.reduceLT, Nat.reduceEqDiff, Nat.reduceAdd, ↓reduceIte, reduceCtorEq, h13, decide_false, bls])) | (refine awp_cond _ rfl (fun hc => ?_) (fun hc => ?_) <;> (try (simp only [cds] at hc))) | (refine awp_skip ?_; (try simp only [sq])) | (refine PureAt.use (hcb _) ?_ <;> (try simp only [go_sem])) | (refine orAt_l ?_) | (refine all_fresh fun id fr => ?_) | (refine hK _ ?_; clear hK; (try clear K)))))
  obtain ⟨m, hm0⟩ : ∃ x, x = id := ⟨_, rfl⟩
  subst hm0
  have frm := fr
  clear fr
  refine awp_loopKG (ι := Nat × List Int × MEs × Nat) [0, 7, 25, 26] (fun q => [(27, .con (.int .i64 (q.1 : Int)))]) (fun q => ⟨(m, [.mc q.2.2.1 q.2.2.2]) :: H.bx, H.tk⟩) (fun q => q.1 ≤ l.length ∧ q.2.1.length = 24 ∧ repK q.2.2.1 q.2.1 ∧ atomsE b (l.drop q.1) q.2.1 = res) (fun q => l.length - q.1) (0, kinds0, [], 0) (by intro; simp only [keepT_cons, keepT_nil, List.cons_append, List.nil_append, lk, Nat.reduceEqDiff, ↓reduceIte, reduceCtorEq]; rfl) ?_ ?_ ?_ ?_
  · exact ⟨by omega, rfl, repK_nil, by simpa using hres⟩
  · simp only [go_sem, Nat.reduceEqDiff, ↓reduceIte]
  · exact .refl _
  rintro ⟨i, qs, es, c⟩ ⟨hi, hql, hrep, h0⟩
  simp only at hi hql hrep h0
  rcases Nat.lt_or_ge i l.length with hlt | hge
  · obtain ⟨x, hx, hm⟩ := at_lt hlt
    have hg := encAs_get hx
    rw [drop_at hx, atomsE] at h0
    have hcf := fun H => c_relOf b x.rel H hb
    obtain ⟨hx1, hx2⟩ := hl2 x hm
    cases hf : findR b x.rel with
    | none =>
      rw [hf] at hcf
      simp only [Option.getD_none, Option.isSome_none] at hcf
      have ha : atomE b x qs = (15, qs) := by unfold atomE; rw [hf]
      simp only [ha] at h0
      rw [if_neg (show ¬ (15 : Int) = 0 by decide)] at h0
      subst h0
      ((repeat' (first | (refine awp_seq_k (fun K hK => ?_)) | (refine awp_block ?_) | (refine awp_reg _ rfl ?_; (try simp only [go_sem, Nat.reduceLT, Nat.reduceEqDiff, Nat.reduceLeDiff, Nat.reduceAdd, ↓reduceIte, reduceCtorEq, hg])) | (refine awp_cond _ rfl (fun hc => ?_) (fun hc => ?_) <;> (try (simp only [decide_eq_true_eq, decide_eq_false_iff_not, cds] at hc)) <;> (try (exfalso; omega))) | (refine awp_skip ?_; (try simp only [sq])) | (refine awp_ret ?_; (try simp only [sq, bk])) | (refine PureAt.use (hcf _) ?_ <;> (try simp only [go_sem, Nat.reduceLT, Nat.reduceLeDiff, Nat.reduceAdd])) | (refine orAt_r 9 ?_; (try simp only [go_sem, Nat.reduceLT, Nat.reduceAdd, ↓reduceIte])) | (refine orAt_r 10 ?_; (try simp only [go_sem, Nat.reduceLT, Nat.reduceEqDiff, Nat.reduceAdd, ↓reduceIte])) | (refine orAt_l ?_) | (with_reducible apply And.intro) | (refine hK _ ?_; clear hK; (try clear K)))); (all_goals (try ((omega)))))
      refine fin_any (x := .tup [.con (.map none), .con (.int .i64 15)]) (H := H) (by (try simp only [forall_eq, resOk, List.mem_cons, List.not_mem_nil, or_false, forall_eq_or_imp, and_self])) (by (try simp only [go_sem, Nat.reduceEqDiff, ↓reduceIte])) (by ((try dsimp only); repeat' (first | with_reducible exact .refl _ | exact box_fresh (by assumption) | refine weak_box ?_ ?_))) ?_
      exact ⟨rfl, .inl ⟨by decide, rfl⟩⟩
    | some r =>
      rw [hf] at hcf
      simp only [Option.getD_some, Option.isSome_some] at hcf
      have hr := hb.2 r (findR_mem hf)
      have hr1 := hr.cols
      by_cases hla : x.args.length = r.cols.length
      rotate_left
      · have ha : atomE b x qs = (3, qs) := by unfold atomE; rw [hf]; simp only; rw [if_neg hla]
        simp only [ha] at h0
        rw [if_neg (show ¬ (3 : Int) = 0 by decide)] at h0
        subst h0
        have hla2 : ((r.cols.length : Int) = (x.args.length : Int)) = False := eq_false (by omega)
        ((repeat' (first | (refine awp_seq_k (fun K hK => ?_)) | (refine awp_block ?_) | (refine awp_reg _ rfl ?_; (try simp only [go_sem, Nat.reduceLT, Nat.reduceEqDiff, Nat.reduceLeDiff, Nat.reduceAdd, ↓reduceIte, reduceCtorEq, hg, hla2, decide_true, bls])) | (refine awp_cond _ rfl (fun hc => ?_) (fun hc => ?_) <;> (try (simp only [decide_eq_true_eq, decide_eq_false_iff_not, cds] at hc)) <;> (try (exfalso; omega))) | (refine awp_skip ?_; (try simp only [sq])) | (refine awp_ret ?_; (try simp only [sq, bk])) | (refine PureAt.use (hcf _) ?_ <;> (try simp only [go_sem, Nat.reduceLT, Nat.reduceLeDiff, Nat.reduceAdd, bls])) | (refine orAt_r 9 ?_; (try simp only [go_sem, Nat.reduceLT, Nat.reduceAdd, ↓reduceIte, bls])) | (refine orAt_r 10 ?_; (try simp only [go_sem, Nat.reduceLT, Nat.reduceEqDiff, Nat.reduceAdd, ↓reduceIte, bls])) | (refine orAt_l ?_) | (with_reducible apply And.intro) | (refine hK _ ?_; clear hK; (try clear K)))); (all_goals (try ((omega)))))
        refine fin_any (x := .tup [.con (.map none), .con (.int .i64 3)]) (H := H) (by (try simp only [forall_eq, resOk, List.mem_cons, List.not_mem_nil, or_false, forall_eq_or_imp, and_self])) (by (try simp only [go_sem, Nat.reduceEqDiff, ↓reduceIte])) (by ((try dsimp only); repeat' (first | with_reducible exact .refl _ | exact box_fresh (by assumption) | refine weak_box ?_ ?_))) ?_
        exact ⟨rfl, .inl ⟨by decide, rfl⟩⟩
      have ha : atomE b x qs = argsE r.cols x.args qs := by unfold atomE; rw [hf]; simp only; rw [if_pos hla]
      rw [ha] at h0
      have hla2 : ((r.cols.length : Int) = (x.args.length : Int)) = True := eq_true (by omega)
      generalize har : argsE r.cols x.args qs = ar at h0
      ((repeat' (first | (refine awp_seq_k (fun K hK => ?_)) | (refine awp_block ?_) | (refine awp_reg _ rfl ?_; (try simp only [go_sem, Nat.reduceLT, Nat.reduceEqDiff, Nat.reduceLeDiff, Nat.reduceAdd, ↓reduceIte, reduceCtorEq, hg, hla2, decide_false, bls])) | (refine awp_cond _ rfl (fun hc => ?_) (fun hc => ?_) <;> (try (simp only [decide_eq_true_eq, decide_eq_false_iff_not, cds] at hc)) <;> (try (exfalso; omega))) | (refine awp_skip ?_; (try simp only [sq])) | (refine PureAt.use (hcf _) ?_ <;> (try simp only [go_sem, Nat.reduceLT, Nat.reduceLeDiff, Nat.reduceAdd, bls])) | (refine orAt_r 9 ?_; (try simp only [go_sem, Nat.reduceLT, Nat.reduceAdd, ↓reduceIte, bls])) | (refine orAt_r 10 ?_; (try simp only [go_sem, Nat.reduceLT, Nat.reduceEqDiff, Nat.reduceAdd, ↓reduceIte, bls])) | (refine orAt_l ?_) | (with_reducible apply And.intro) | (refine hK _ ?_; clear hK; (try clear K)))); (all_goals (try ((omega)))))
      refine awp_loopKG (ι := Nat × List Int × MEs × Nat) [0, 7, 10, 25, 26, 27, 48, 49] (fun q => [(50, .con (.int .i64 (q.1 : Int)))]) (fun q => ⟨(m, [.mc q.2.2.1 q.2.2.2]) :: H.bx, H.tk⟩) (fun q => q.1 ≤ x.args.length ∧ q.2.1.length = 24 ∧ repK q.2.2.1 q.2.1 ∧ argsE (r.cols.drop q.1) (x.args.drop q.1) q.2.1 = ar) (fun q => x.args.length - q.1) (0, qs, es, c) (by intro; simp only [keepT_cons, keepT_nil, List.cons_append, List.nil_append, lk, Nat.reduceEqDiff, ↓reduceIte, reduceCtorEq]; rfl) ?_ ?_ ?_ ?_
      · exact ⟨by omega, hql, hrep, by simpa using har⟩
      · simp only [go_sem, Nat.reduceEqDiff, ↓reduceIte]
      · exact .refl _
      clear hrep hql har
      rintro ⟨j, qs, es, c⟩ ⟨hj, hql, hrep, h1⟩
      simp only at hj hql hrep h1
      rcases Nat.lt_or_ge j x.args.length with hlj | hgj
      · obtain ⟨t, htx, htm⟩ := at_lt hlj
        obtain ⟨y, hy, hym⟩ := at_lt (show j < r.cols.length by omega)
        have hg2 := encTs_get htx
        have hg3 := encCols_get hy
        rw [drop_at htx, drop_at hy, argsE] at h1
        have ht := c_termFault t
        by_cases hte : termE t = 0
        · rw [hte] at ht
          rw [if_pos hte] at h1
          cases hv : t.var
          · simp only [hv, Bool.false_eq_true, if_false] at h1
            simp only [cTrm, hv] at ht
            by_cases hkk : t.v.k = y.kd
            · rw [if_pos hkk] at h1
              have hkk2 := eq_true hkk
              ((repeat' (first | (refine awp_seq_k (fun K hK => ?_)) | (refine awp_block ?_) | (refine awp_reg _ rfl ?_; (try simp only [go_sem, Nat.reduceLT, Nat.reduceEqDiff, Nat.reduceLeDiff, Nat.reduceAdd, ↓reduceIte, reduceCtorEq, wrap_succ j (by omega), hg2, hg3, hv, hkk2, decide_false, bls])) | (refine awp_cond _ rfl (fun hc => ?_) (fun hc => ?_) <;> (try (simp only [decide_eq_true_eq, decide_eq_false_iff_not, cds] at hc)) <;> (try (exfalso; omega))) | (refine awp_skip ?_; (try simp only [sq, bk])) | (refine PureAt.use (ht _ (hx2 t htm)) ?_ <;> (try simp only [go_sem])) | (refine orAt_r 13 ?_; (try simp only [go_sem, Nat.reduceLT, Nat.reduceEqDiff, Nat.reduceAdd, ↓reduceIte, bls])) | (refine orAt_l ?_) | (with_reducible apply And.intro) | (refine hK _ ?_; clear hK; (try clear K)))); (all_goals (try ((omega)))))
              refine ⟨(j + 1, qs, es, c), by simp only; omega, ⟨by simp only; omega, hql, hrep, h1⟩, ?_⟩
              (refine st_le rfl ?_ (by ((try dsimp only); repeat' ((with_reducible exact .refl _)))); (try simp only [go_sem, Nat.reduceEqDiff, ↓reduceIte, reduceCtorEq]))
            · rw [if_neg hkk] at h1
              subst h1
              simp only at h0
              rw [if_neg (show ¬ (8 : Int) = 0 by decide)] at h0
              subst h0
              ((repeat' (first | (refine awp_seq_k (fun K hK => ?_)) | (refine awp_block ?_) | (refine awp_reg _ rfl ?_; (try simp only [go_sem, Nat.reduceLT, Nat.reduceEqDiff, Nat.reduceLeDiff, Nat.reduceAdd, ↓reduceIte, reduceCtorEq, hg2, hg3, hv, hkk, decide_true, decide_false, bls])) | (refine awp_cond _ rfl (fun hc => ?_) (fun hc => ?_) <;> (try (simp only [decide_eq_true_eq, decide_eq_false_iff_not, cds] at hc)) <;> (try (exfalso; omega))) | (refine awp_skip ?_; (try simp only [sq])) | (refine awp_ret ?_; (try simp only [sq, bk])) | (refine PureAt.use (ht _ (hx2 t htm)) ?_ <;> (try simp only [go_sem])) | (refine orAt_r 13 ?_; (try simp only [go_sem, Nat.reduceLT, Nat.reduceEqDiff, Nat.reduceAdd, ↓reduceIte, bls])) | (refine orAt_l ?_) | (with_reducible apply And.intro) | (refine hK _ ?_; clear hK; (try clear K)))); (all_goals (try ((omega)))))
              refine fin_any (x := .tup [.con (.map none), .con (.int .i64 8)]) (H := H) (by (try simp only [forall_eq, resOk, List.mem_cons, List.not_mem_nil, or_false, forall_eq_or_imp, and_self])) (by (try simp only [go_sem, Nat.reduceEqDiff, ↓reduceIte])) (by ((try dsimp only); repeat' (first | with_reducible exact .refl _ | exact box_fresh (by assumption) | refine weak_box ?_ ?_))) ?_
              exact ⟨rfl, .inl ⟨by decide, rfl⟩⟩
          · obtain ⟨hn0, hn1⟩ := termE_var hte hv
            rw [hv, if_pos rfl] at h1
            obtain ⟨n, hn⟩ : ∃ n : Nat, t.n = n := ⟨t.n.toNat, by omega⟩
            rw [hn] at h1 hn0 hn1
            rw [Int.toNat_natCast] at h1
            simp only [cTrm, hv, hn] at ht
            have q1 := hrep.2 n (by omega)
            have q2 : ∀ k : Int, mOk Tryz.prog 3 (.i k) es = True := fun k => eq_true (mOk_i ty_int3 hrep.1 k)
            have hrep3 := repK_set (c := c) hrep (n := n) (by omega) y.kd
            have q3 := hrep3.2 n (by omega)
            have q5 : (qs.set n y.kd).getD n 0 = y.kd := by simp [List.getD_eq_getElem?_getD, show n < qs.length by omega]
            rw [q5] at q3
            have q4 : ∀ k : Int, mOk Tryz.prog 3 (.i k) (mset (.i n) (.con (.int .i64 y.kd)) c es) = True := fun k => eq_true (mOk_i ty_int3 hrep3.1 k)
            by_cases hz : qs.getD n 0 = 0
            · rw [if_pos hz] at h1
              rw [hz] at q1
              ((repeat' (first | (refine awp_mixed (id := 24) [0, 1, 2, 3, 4, 5, 6, 7, 8, 9] [9] [(9, [])] (by kernel_rfl) (by kernel_rfl) ?_; (try simp only [go_sem, Nat.reduceLT, Nat.reduceEqDiff, Nat.reduceLeDiff, Nat.reduceAdd, ↓reduceIte, reduceCtorEq, hg3, q2, bls])) | (refine awp_seq_k (fun K hK => ?_)) | (refine awp_block ?_) | (refine awp_reg _ rfl ?_; (try simp only [go_sem, Nat.reduceLT, Nat.reduceEqDiff, Nat.reduceLeDiff, Nat.reduceAdd, ↓reduceIte, reduceCtorEq, wrap_succ j (by omega), hg2, hg3, hv, hn, ↓q1, q2, ↓q3, q4, decide_true, decide_false, bls])) | (refine awp_cond _ rfl (fun hc => ?_) (fun hc => ?_) <;> (try (simp only [decide_eq_true_eq, decide_eq_false_iff_not, cds] at hc)) <;> (try (exfalso; omega))) | (refine awp_skip ?_; (try simp only [sq, bk])) | (refine PureAt.use (ht _ (hx2 t htm)) ?_ <;> (try simp only [go_sem])) | (refine orAt_r 13 ?_; (try simp only [go_sem, Nat.reduceLT, Nat.reduceEqDiff, Nat.reduceAdd, ↓reduceIte, bls])) | (refine orAt_l ?_) | (with_reducible apply And.intro) | (refine hK _ ?_; clear hK; (try clear K)))); (all_goals (try ((omega)))))
              refine ⟨(j + 1, qs.set n y.kd, mset (.i n) (.con (.int .i64 y.kd)) c es, mclk (.i n) c es), by simp only; omega, ⟨by simp only; omega, by simpa using hql, hrep3, h1⟩, ?_⟩
              (refine st_le rfl ?_ (by ((try dsimp only); repeat' ((with_reducible exact .refl _)))); (try simp only [go_sem, Nat.reduceEqDiff, ↓reduceIte, reduceCtorEq]))
            · rw [if_neg hz] at h1
              by_cases hkk : qs.getD n 0 = y.kd
              · rw [if_pos hkk] at h1
                have hz2 : ¬ y.kd = 0 := by rw [← hkk]; exact hz
                rw [hkk] at q1
                ((repeat' (first | (refine awp_seq_k (fun K hK => ?_)) | (refine awp_block ?_) | (refine awp_reg _ rfl ?_; (try simp only [go_sem, Nat.reduceLT, Nat.reduceEqDiff, Nat.reduceLeDiff, Nat.reduceAdd, ↓reduceIte, reduceCtorEq, wrap_succ j (by omega), hg2, hg3, hv, hn, ↓q1, q2, hz2, decide_false, bls])) | (refine awp_cond _ rfl (fun hc => ?_) (fun hc => ?_) <;> (try (simp only [decide_eq_true_eq, decide_eq_false_iff_not, cds] at hc)) <;> (try (exfalso; omega))) | (refine awp_skip ?_; (try simp only [sq, bk])) | (refine PureAt.use (ht _ (hx2 t htm)) ?_ <;> (try simp only [go_sem])) | (refine orAt_r 13 ?_; (try simp only [go_sem, Nat.reduceLT, Nat.reduceEqDiff, Nat.reduceAdd, ↓reduceIte, bls])) | (refine orAt_l ?_) | (with_reducible apply And.intro) | (refine hK _ ?_; clear hK; (try clear K)))); (all_goals (try ((omega)))))
                refine ⟨(j + 1, qs, es, c), by simp only; omega, ⟨by simp only; omega, hql, hrep, h1⟩, ?_⟩
                (refine st_le rfl ?_ (by ((try dsimp only); repeat' ((with_reducible exact .refl _)))); (try simp only [go_sem, Nat.reduceEqDiff, ↓reduceIte, reduceCtorEq]))
              · rw [if_neg hkk] at h1
                subst h1
                simp only at h0
                rw [if_neg (show ¬ (8 : Int) = 0 by decide)] at h0
                subst h0
                ((repeat' (first | (refine awp_seq_k (fun K hK => ?_)) | (refine awp_block ?_) | (refine awp_reg _ rfl ?_; (try simp only [go_sem, Nat.reduceLT, Nat.reduceEqDiff, Nat.reduceLeDiff, Nat.reduceAdd, ↓reduceIte, reduceCtorEq, hg2, hg3, hv, hn, ↓q1, q2, hz, hkk, decide_true, decide_false, bls])) | (refine awp_cond _ rfl (fun hc => ?_) (fun hc => ?_) <;> (try (simp only [decide_eq_true_eq, decide_eq_false_iff_not, cds] at hc)) <;> (try (exfalso; omega))) | (refine awp_skip ?_; (try simp only [sq])) | (refine awp_ret ?_; (try simp only [sq, bk])) | (refine PureAt.use (ht _ (hx2 t htm)) ?_ <;> (try simp only [go_sem])) | (refine orAt_r 13 ?_; (try simp only [go_sem, Nat.reduceLT, Nat.reduceEqDiff, Nat.reduceAdd, ↓reduceIte, bls])) | (refine orAt_l ?_) | (with_reducible apply And.intro) | (refine hK _ ?_; clear hK; (try clear K)))); (all_goals (try ((omega)))))
                refine fin_any (x := .tup [.con (.map none), .con (.int .i64 8)]) (H := H) (by (try simp only [forall_eq, resOk, List.mem_cons, List.not_mem_nil, or_false, forall_eq_or_imp, and_self])) (by (try simp only [go_sem, Nat.reduceEqDiff, ↓reduceIte])) (by ((try dsimp only); repeat' (first | with_reducible exact .refl _ | exact box_fresh (by assumption) | refine weak_box ?_ ?_))) ?_
                exact ⟨rfl, .inl ⟨by decide, rfl⟩⟩
        · rw [if_neg hte] at h1
          subst h1
          rw [if_neg hte] at h0
          subst h0
          ((repeat' (first | (refine awp_seq_k (fun K hK => ?_)) | (refine awp_block ?_) | (refine awp_reg _ rfl ?_; (try simp only [go_sem, Nat.reduceLT, Nat.reduceEqDiff, Nat.reduceLeDiff, Nat.reduceAdd, ↓reduceIte, reduceCtorEq, hg2, hte, decide_true, bls])) | (refine awp_cond _ rfl (fun hc => ?_) (fun hc => ?_) <;> (try (simp only [decide_eq_true_eq, decide_eq_false_iff_not, cds] at hc)) <;> (try (exfalso; omega))) | (refine awp_skip ?_; (try simp only [sq])) | (refine awp_ret ?_; (try simp only [sq, bk])) | (refine PureAt.use (ht _ (hx2 t htm)) ?_ <;> (try simp only [go_sem])) | (refine orAt_r 13 ?_; (try simp only [go_sem, Nat.reduceLT, Nat.reduceEqDiff, Nat.reduceAdd, ↓reduceIte, bls])) | (refine orAt_l ?_) | (with_reducible apply And.intro) | (refine hK _ ?_; clear hK; (try clear K)))); (all_goals (try ((omega)))))
          refine fin_any (x := .tup [.con (.map none), .con (.int .i64 (termE t))]) (H := H) (by (try simp only [forall_eq, resOk, List.mem_cons, List.not_mem_nil, or_false, forall_eq_or_imp, and_self])) (by (try simp only [go_sem, Nat.reduceEqDiff, ↓reduceIte])) (by ((try dsimp only); repeat' (first | with_reducible exact .refl _ | exact box_fresh (by assumption) | refine weak_box ?_ ?_))) ?_
          exact ⟨rfl, .inl ⟨hte, rfl⟩⟩
      · obtain rfl : j = x.args.length := by omega
        have hz : ar = (0, qs) := by rw [← h1, List.drop_length]; cases r.cols.drop x.args.length <;> rfl
        subst hz
        simp only [if_true] at h0
        ((repeat' (first | (refine awp_seq_k (fun K hK => ?_)) | (refine awp_reg _ rfl ?_; (try simp only [go_sem, Nat.reduceLT, Nat.reduceEqDiff, ↓reduceIte, reduceCtorEq, wrap_succ i (by omega)])) | (refine awp_cond _ rfl (fun hc => ?_) (fun hc => ?_) <;> (try (simp only [decide_eq_true_eq, decide_eq_false_iff_not] at hc)) <;> (try (exfalso; omega))) | (refine awp_exit ?_; (try simp only [sq, bk, ↓reduceIte])) | (refine hK _ ?_; clear hK; (try clear K)) | (refine kk (by assumption) ?_))))
        refine ⟨(i + 1, qs, es, c), by simp only; omega, ⟨by simp only; omega, hql, hrep, h0⟩, ?_⟩
        (refine st_le rfl ?_ (by ((try dsimp only); repeat' ((with_reducible exact .refl _)))); (try simp only [go_sem, Nat.reduceEqDiff, Nat.reduceAdd, ↓reduceIte, reduceCtorEq]))
  · obtain rfl : i = l.length := by omega
    rw [List.drop_length, atomsE] at h0
    subst h0
    refine awp_freezeMp 7 m [0, 25, 26, 27] (by simp only [keepT_cons, keepT_nil, lk, Nat.reduceEqDiff, ↓reduceIte, reduceCtorEq]; rfl) (by simp only [go_sem, Nat.reduceEqDiff, ↓reduceIte, reduceCtorEq]) rfl frm.1 ?_
    ((repeat' (first | (refine awp_seq_k (fun K hK => ?_)) | (refine awp_reg _ rfl ?_; (try simp only [go_sem, Nat.reduceLT, Nat.reduceEqDiff, ↓reduceIte, reduceCtorEq])) | (refine awp_cond _ rfl (fun hc => ?_) (fun hc => ?_) <;> (try (simp only [decide_eq_true_eq, decide_eq_false_iff_not] at hc)) <;> (try (exfalso; omega))) | (refine awp_exit ?_; (try simp only [sq, bk, ↓reduceIte])) | (refine awp_ret ?_; (try simp only [↓reduceIte, reduceCtorEq])) | (refine hK _ ?_; clear hK; (try clear K)) | (refine kk (by assumption) ?_))))
    refine fin_any (x := .tup [.mv es c, .con (.int .i64 0)]) (H := H) (by (try simp only [forall_eq, resOk, List.mem_cons, List.not_mem_nil, or_false, forall_eq_or_imp, and_self])) (by (try simp only [go_sem, Nat.reduceEqDiff, ↓reduceIte])) (by ((try dsimp only); repeat' ((with_reducible exact .refl _)))) ?_
    exact ⟨by trivial, .inr ⟨by trivial, es, c, hrep, rfl⟩⟩
end Go.Proofs.YtababmnmkmgbbaaGreat
