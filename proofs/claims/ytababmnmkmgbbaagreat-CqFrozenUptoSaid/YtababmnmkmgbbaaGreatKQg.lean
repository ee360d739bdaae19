/-
  A part of the proof: its theorems say what each gives.
-/
import Derived.Test.YtababmnmkmgbbaaGreatKM23
set_option maxRecDepth 100000
set_option maxHeartbeats 4000000
set_option linter.unusedSimpArgs false
set_option linter.unusedVariables false
namespace Go.Proofs.YtababmnmkmgbbaaGreat
open Go Fw
/-! cq.bind. -/
theorem c_bind (x : List Val) (a : Atm) (row : List Val) (H : Hp) (hx : gRow x) (hx0 : 0 < x.length) (ha : gAtm a) (hr : gRow row) : ACalls Tryz.prog 153 [.list (encVs x) none, cAtm a, cRw row] H
    fun r H' => (∃ y id, bindR x a row = some y ∧ fresh H id ∧ r = .tup [.sl id x.length 92 4, .con (.bool true)] ∧ H' = ⟨(id, flat (encVs y)) :: H.bx, H.tk⟩) ∨ (bindR x a row = none ∧ r = .tup [.con (.slice none 0 0), .con (.bool false)] ∧ H' = H) := by
  obtain ⟨ha1, ha2⟩ := ha
  obtain ⟨hr1, hr2⟩ := hr
  obtain ⟨hx1, hx2⟩ := hx
  unfold bindR
  by_cases hla : a.args.length = row.length
  rotate_left
  · have hla2 : ((a.args.length : Int) = (row.length : Int)) = False := eq_false (by omega)
    simp only [if_neg hla]
    refine acalls_of (by kernel_rfl) Tryz.func153 rfl 99 Tryz.ntmps153 (by simp) [.tmp 6, .tmp 7] rfl ?_
    ((repeat' (first | (refine awp_seq_k (fun K hK => ?_)) | (refine awp_reg _ rfl ?_; (try simp only [go_sem, Nat.reduceLT, Nat.reduceEqDiff, Nat.reduceLeDiff, Nat.reduceAdd, ↓reduceIte, reduceCtorEq, hla2, decide_true, bls])) | (refine awp_cond _ rfl (fun hc => ?_) (fun hc => ?_) <;> (try (simp only [cds] at hc))) | (refine awp_ret ?_; (try simp only [sq, reduceCtorEq])) | (refine orAt_r 4 ?_) | (refine hK _ ?_; clear hK; (try clear K)))))
    refine fin_any (x := .tup [.con (.slice none 0 0), .con (.bool false)]) (H := H) (by (try simp only [forall_eq, resOk, List.mem_cons, List.not_mem_nil, or_false, forall_eq_or_imp, and_self])) (by (try simp only [go_sem, Nat.reduceEqDiff, ↓reduceIte])) (by ((try dsimp only); repeat' ((with_reducible exact .refl _)))) ?_
    simp
  have hla2 : ((a.args.length : Int) = (row.length : Int)) = True := eq_true (by omega)
  simp only [if_pos hla]
  generalize hok : bindOk x a.args row = ok
  generalize hse : bindSet x a.args row = se
  refine acalls_of (by kernel_rfl) Tryz.func153 rfl 99 Tryz.ntmps153 (by simp) [.tmp 6, .tmp 7] rfl ?_
  ((repeat' (first | (refine awp_seq_k (fun K hK => ?_)) | (refine awp_block ?_) | (refine awp_reg _ rfl ?_; (try simp only [go_sem, Nat.reduceLT, Nat.reduceEqDiff, Nat.reduceLeDiff, Nat.reduceAdd, ↓reduceIte, reduceCtorEq, hla2, decide_false, bls])) | (refine awp_cond _ rfl (fun hc => ?_) (fun hc => ?_) <;> (try (simp only [cds] at hc))) | (refine awp_skip ?_; (try simp only [sq])) | (refine orAt_r 4 ?_) | (refine hK _ ?_; clear hK; (try clear K)))))
  refine awp_loopKH (ι := Nat) [0, 2, 4, 21, 22] (fun i => [(23, .con (.int .i64 (i : Int)))]) (fun i => i ≤ a.args.length ∧ bindOk x (a.args.drop i) (row.drop i) = ok) (fun i => a.args.length - i) 0 (by intro; simp only [keepT_cons, keepT_nil, List.cons_append, List.nil_append, lk, Nat.reduceEqDiff, ↓reduceIte, reduceCtorEq]; rfl) ⟨by omega, by simpa using hok⟩ (by ((simp only [go_sem, ↓reduceIte]; done))) ?_
  intro i ⟨hi, h0⟩
  rcases Nat.lt_or_ge i a.args.length with hlt | hge
  · obtain ⟨y, hy, hm⟩ := at_lt hlt
    obtain ⟨v, hv, hvm⟩ := at_lt (show i < row.length by omega)
    have hg := encTs_get hy
    have hg2 := encVs_at hv
    rw [drop_at hy, drop_at hv, bindOk] at h0
    cases hb : y.var
    · simp only [hb, Bool.false_eq_true, if_false] at h0
      have hcm := fun H => c_SameV y.v v H (ha2 y hm).v.z (hr2 v hvm).z
      by_cases hz : cmpV y.v v = 0
      · rw [if_pos hz] at h0
        ((repeat' (first | (refine awp_seq_k (fun K hK => ?_)) | (refine awp_block ?_) | (refine awp_reg _ rfl ?_; (try simp only [go_sem, Nat.reduceLT, Nat.reduceEqDiff, Nat.reduceLeDiff, Nat.reduceAdd, ↓reduceIte, reduceCtorEq, wrap_succ i (by omega), hg, hb, bls])) | (refine awp_drawn (by kernel_rfl) (by kernel_rfl) ?_; (try simp only [go_sem, Nat.reduceLT, Nat.reduceEqDiff, Nat.reduceLeDiff, Nat.reduceAdd, ↓reduceIte, reduceCtorEq, hg2])) | (refine awp_cond _ rfl (fun hc => ?_) (fun hc => ?_) <;> (try (simp only [decide_eq_true_eq, decide_eq_false_iff_not, cds] at hc)) <;> (try (exfalso; omega))) | (refine awp_skip ?_; (try simp only [sq, bk])) | (refine ⟨_, hcm _, ?_⟩ <;> (try simp only [go_sem, hz, decide_true, bls])) | (refine orAt_r 9 ?_; (try simp only [go_sem, Nat.reduceLT, Nat.reduceEqDiff, Nat.reduceAdd, ↓reduceIte, bls])) | (refine orAt_l ?_) | (with_reducible apply And.intro) | (refine all_fresh fun id fr => ?_) | (refine hK _ ?_; clear hK; (try clear K)))); (all_goals (try ((omega)))))
        refine ⟨i + 1, by omega, ⟨by omega, by (exact h0)⟩, ?_⟩
        (refine st_le rfl ?_ (by ((try dsimp only); repeat' (first | with_reducible exact .refl _ | exact box_fresh (by assumption) | refine weak_box ?_ ?_))); (try simp only [go_sem, Nat.reduceEqDiff, ↓reduceIte, reduceCtorEq]))
      · rw [if_neg hz] at h0
        subst h0
        ((repeat' (first | (refine awp_seq_k (fun K hK => ?_)) | (refine awp_block ?_) | (refine awp_reg _ rfl ?_; (try simp only [go_sem, Nat.reduceLT, Nat.reduceEqDiff, Nat.reduceLeDiff, Nat.reduceAdd, ↓reduceIte, reduceCtorEq, hg, hb, bls])) | (refine awp_drawn (by kernel_rfl) (by kernel_rfl) ?_; (try simp only [go_sem, Nat.reduceLT, Nat.reduceEqDiff, Nat.reduceLeDiff, Nat.reduceAdd, ↓reduceIte, reduceCtorEq, hg2])) | (refine awp_cond _ rfl (fun hc => ?_) (fun hc => ?_) <;> (try (simp only [decide_eq_true_eq, decide_eq_false_iff_not, cds] at hc)) <;> (try (exfalso; omega))) | (refine awp_skip ?_; (try simp only [sq])) | (refine awp_ret ?_; (try simp only [sq, bk, ↓reduceIte, reduceCtorEq])) | (refine ⟨_, hcm _, ?_⟩ <;> (try simp only [go_sem, hz, decide_false, bls])) | (refine orAt_r 9 ?_; (try simp only [go_sem, Nat.reduceLT, Nat.reduceEqDiff, Nat.reduceAdd, ↓reduceIte, bls])) | (refine orAt_l ?_) | (with_reducible apply And.intro) | (refine all_fresh fun id fr => ?_) | (refine hK _ ?_; clear hK; (try clear K)))); (all_goals (try ((omega)))))
        refine fin_any (x := .tup [.con (.slice none 0 0), .con (.bool false)]) (H := H) (by (try simp only [forall_eq, resOk, List.mem_cons, List.not_mem_nil, or_false, forall_eq_or_imp, and_self])) (by (try simp only [go_sem, Nat.reduceEqDiff, ↓reduceIte])) (by ((try dsimp only); repeat' (first | with_reducible exact .refl _ | exact box_fresh (by assumption) | refine weak_box ?_ ?_))) ?_
        simp
    · rw [hb, if_pos rfl] at h0
      by_cases hr : 0 ≤ y.n ∧ y.n < x.length
      · rw [if_pos hr] at h0
        obtain ⟨n, hn⟩ : ∃ n : Nat, y.n = n := ⟨y.n.toNat, by omega⟩
        obtain ⟨w, hw, hwm⟩ := at_lt (show n < x.length by omega)
        have hg3 := encVs_at hw
        have e : atV x y = w := by unfold atV; rw [hn, Int.toNat_natCast, List.getD_eq_getElem?_getD, hw]; rfl
        rw [e] at h0
        have c1 : ((n : Int) < 0) = False := eq_false (by omega)
        have c2 : ((x.length : Int) ≤ (n : Int)) = False := eq_false (by omega)
        have hcm := fun H => c_SameV w v H (hx2 w hwm).z (hr2 v hvm).z
        by_cases hk0 : w.k = 0
        · rw [if_pos hk0] at h0
          have hk2 := eq_true hk0
          ((repeat' (first | (refine awp_seq_k (fun K hK => ?_)) | (refine awp_block ?_) | (refine awp_reg _ rfl ?_; (try simp only [go_sem, Nat.reduceLT, Nat.reduceEqDiff, Nat.reduceLeDiff, Nat.reduceAdd, ↓reduceIte, reduceCtorEq, wrap_succ i (by omega), hg, hb, hn, hg3, c1, c2, hk2, ↓pkv, decide_true, decide_false, bls])) | (refine awp_cond _ rfl (fun hc => ?_) (fun hc => ?_) <;> (try (simp only [decide_eq_true_eq, decide_eq_false_iff_not, cds] at hc)) <;> (try (exfalso; omega))) | (refine awp_skip ?_; (try simp only [sq])) | (refine awp_exit ?_; (try simp only [sq, bk, ↓reduceIte])) | (refine orAt_r 9 ?_; (try simp only [go_sem, Nat.reduceLT, Nat.reduceEqDiff, Nat.reduceAdd, ↓reduceIte, bls])) | (refine orAt_l ?_) | (with_reducible apply And.intro) | (refine all_fresh fun id fr => ?_) | (refine hK _ ?_; clear hK; (try clear K)) | (refine kk (by assumption) ?_))); (all_goals (try ((omega)))))
          refine ⟨i + 1, by omega, ⟨by omega, by (exact h0)⟩, ?_⟩
          (refine st_le rfl ?_ (by ((try dsimp only); repeat' (first | with_reducible exact .refl _ | exact box_fresh (by assumption) | refine weak_box ?_ ?_))); (try simp only [go_sem, Nat.reduceEqDiff, ↓reduceIte, reduceCtorEq]))
        · rw [if_neg hk0] at h0
          by_cases hz : cmpV w v = 0
          · rw [if_pos hz] at h0
            ((repeat' (first | (refine awp_seq_k (fun K hK => ?_)) | (refine awp_block ?_) | (refine awp_reg _ rfl ?_; (try simp only [go_sem, Nat.reduceLT, Nat.reduceEqDiff, Nat.reduceLeDiff, Nat.reduceAdd, ↓reduceIte, reduceCtorEq, wrap_succ i (by omega), hg, hb, hn, hg3, c1, c2, hk0, ↓pkv, decide_false, bls])) | (refine awp_drawn (by kernel_rfl) (by kernel_rfl) ?_; (try simp only [go_sem, Nat.reduceLT, Nat.reduceEqDiff, Nat.reduceLeDiff, Nat.reduceAdd, ↓reduceIte, reduceCtorEq, hg2])) | (refine awp_cond _ rfl (fun hc => ?_) (fun hc => ?_) <;> (try (simp only [decide_eq_true_eq, decide_eq_false_iff_not, cds] at hc)) <;> (try (exfalso; omega))) | (refine awp_skip ?_; (try simp only [sq, bk])) | (refine ⟨_, hcm _, ?_⟩ <;> (try simp only [go_sem, hz, decide_true, bls])) | (refine orAt_r 9 ?_; (try simp only [go_sem, Nat.reduceLT, Nat.reduceEqDiff, Nat.reduceAdd, ↓reduceIte, bls])) | (refine orAt_l ?_) | (with_reducible apply And.intro) | (refine all_fresh fun id fr => ?_) | (refine hK _ ?_; clear hK; (try clear K)))); (all_goals (try ((omega)))))
            refine ⟨i + 1, by omega, ⟨by omega, by (exact h0)⟩, ?_⟩
            (refine st_le rfl ?_ (by ((try dsimp only); repeat' (first | with_reducible exact .refl _ | exact box_fresh (by assumption) | refine weak_box ?_ ?_))); (try simp only [go_sem, Nat.reduceEqDiff, ↓reduceIte, reduceCtorEq]))
          · rw [if_neg hz] at h0
            subst h0
            ((repeat' (first | (refine awp_seq_k (fun K hK => ?_)) | (refine awp_block ?_) | (refine awp_reg _ rfl ?_; (try simp only [go_sem, Nat.reduceLT, Nat.reduceEqDiff, Nat.reduceLeDiff, Nat.reduceAdd, ↓reduceIte, reduceCtorEq, hg, hb, hn, hg3, c1, c2, hk0, ↓pkv, decide_false, bls])) | (refine awp_drawn (by kernel_rfl) (by kernel_rfl) ?_; (try simp only [go_sem, Nat.reduceLT, Nat.reduceEqDiff, Nat.reduceLeDiff, Nat.reduceAdd, ↓reduceIte, reduceCtorEq, hg2])) | (refine awp_cond _ rfl (fun hc => ?_) (fun hc => ?_) <;> (try (simp only [decide_eq_true_eq, decide_eq_false_iff_not, cds] at hc)) <;> (try (exfalso; omega))) | (refine awp_skip ?_; (try simp only [sq])) | (refine awp_ret ?_; (try simp only [sq, bk, ↓reduceIte, reduceCtorEq])) | (refine ⟨_, hcm _, ?_⟩ <;> (try simp only [go_sem, hz, decide_false, bls])) | (refine orAt_r 9 ?_; (try simp only [go_sem, Nat.reduceLT, Nat.reduceEqDiff, Nat.reduceAdd, ↓reduceIte, bls])) | (refine orAt_l ?_) | (with_reducible apply And.intro) | (refine all_fresh fun id fr => ?_) | (refine hK _ ?_; clear hK; (try clear K)))); (all_goals (try ((omega)))))
            refine fin_any (x := .tup [.con (.slice none 0 0), .con (.bool false)]) (H := H) (by (try simp only [forall_eq, resOk, List.mem_cons, List.not_mem_nil, or_false, forall_eq_or_imp, and_self])) (by (try simp only [go_sem, Nat.reduceEqDiff, ↓reduceIte])) (by ((try dsimp only); repeat' (first | with_reducible exact .refl _ | exact box_fresh (by assumption) | refine weak_box ?_ ?_))) ?_
            simp
      · rw [if_neg hr] at h0
        subst h0
        by_cases h5 : y.n < 0
        · have c1 := eq_true h5
          ((repeat' (first | (refine awp_seq_k (fun K hK => ?_)) | (refine awp_block ?_) | (refine awp_reg _ rfl ?_; (try simp only [go_sem, Nat.reduceLT, Nat.reduceEqDiff, Nat.reduceLeDiff, Nat.reduceAdd, ↓reduceIte, reduceCtorEq, hg, hb, c1, ↓pkv, decide_true, bls])) | (refine awp_cond _ rfl (fun hc => ?_) (fun hc => ?_) <;> (try (simp only [decide_eq_true_eq, decide_eq_false_iff_not, cds] at hc)) <;> (try (exfalso; omega))) | (refine awp_skip ?_; (try simp only [sq])) | (refine awp_ret ?_; (try simp only [sq, bk, ↓reduceIte, reduceCtorEq])) | (refine orAt_r 9 ?_; (try simp only [go_sem, Nat.reduceLT, Nat.reduceEqDiff, Nat.reduceAdd, ↓reduceIte, bls])) | (refine orAt_l ?_) | (with_reducible apply And.intro) | (refine all_fresh fun id fr => ?_) | (refine hK _ ?_; clear hK; (try clear K)))); (all_goals (try ((omega)))))
          refine fin_any (x := .tup [.con (.slice none 0 0), .con (.bool false)]) (H := H) (by (try simp only [forall_eq, resOk, List.mem_cons, List.not_mem_nil, or_false, forall_eq_or_imp, and_self])) (by (try simp only [go_sem, Nat.reduceEqDiff, ↓reduceIte])) (by ((try dsimp only); repeat' (first | with_reducible exact .refl _ | exact box_fresh (by assumption) | refine weak_box ?_ ?_))) ?_
          simp
        · have c1 := eq_false h5
          have c2 : ((x.length : Int) ≤ y.n) = True := eq_true (by omega)
          ((repeat' (first | (refine awp_seq_k (fun K hK => ?_)) | (refine awp_block ?_) | (refine awp_reg _ rfl ?_; (try simp only [go_sem, Nat.reduceLT, Nat.reduceEqDiff, Nat.reduceLeDiff, Nat.reduceAdd, ↓reduceIte, reduceCtorEq, hg, hb, c1, c2, ↓pkv, decide_true, decide_false, bls])) | (refine awp_cond _ rfl (fun hc => ?_) (fun hc => ?_) <;> (try (simp only [decide_eq_true_eq, decide_eq_false_iff_not, cds] at hc)) <;> (try (exfalso; omega))) | (refine awp_skip ?_; (try simp only [sq])) | (refine awp_ret ?_; (try simp only [sq, bk, ↓reduceIte, reduceCtorEq])) | (refine orAt_r 9 ?_; (try simp only [go_sem, Nat.reduceLT, Nat.reduceEqDiff, Nat.reduceAdd, ↓reduceIte, bls])) | (refine orAt_l ?_) | (with_reducible apply And.intro) | (refine all_fresh fun id fr => ?_) | (refine hK _ ?_; clear hK; (try clear K)))); (all_goals (try ((omega)))))
          refine fin_any (x := .tup [.con (.slice none 0 0), .con (.bool false)]) (H := H) (by (try simp only [forall_eq, resOk, List.mem_cons, List.not_mem_nil, or_false, forall_eq_or_imp, and_self])) (by (try simp only [go_sem, Nat.reduceEqDiff, ↓reduceIte])) (by ((try dsimp only); repeat' (first | with_reducible exact .refl _ | exact box_fresh (by assumption) | refine weak_box ?_ ?_))) ?_
          simp
  · obtain rfl : i = a.args.length := by omega
    rw [List.drop_length, bindOk] at h0
    rotate_left
    · intro _ _ _ _ h; cases h
    subst h0
    ((repeat' (first | (refine awp_seq_k (fun K hK => ?_)) | (refine awp_block ?_) | (refine awp_reg _ rfl ?_; (try simp only [go_sem, Nat.reduceLT, Nat.reduceEqDiff, Nat.reduceLeDiff, Nat.reduceAdd, ↓reduceIte, reduceCtorEq])) | (refine awp_cond _ rfl (fun hc => ?_) (fun hc => ?_) <;> (try (simp only [decide_eq_true_eq, decide_eq_false_iff_not] at hc)) <;> (try (exfalso; omega))) | (refine awp_exit ?_; (try simp only [sq, bk, ↓reduceIte])) | (refine ACalls.ex (c_CloneBndX x _ (by omega) hx0) (fun id fr => ?_) <;> ((try simp only [go_sem]))) | (refine orAt_l ?_) | (refine hK _ ?_; clear hK; (try clear K)) | (refine kk (by assumption) ?_))))
    obtain ⟨ic, hic⟩ : ∃ x, x = id := ⟨_, rfl⟩
    subst hic
    have frc := fr
    clear fr
    refine awp_loopKG (ι := Nat × List Val) [2, 11, 61, 62] (fun q => [(63, .con (.int .i64 (q.1 : Int)))]) (fun q => ⟨(ic, flat (encVs q.2)) :: H.bx, H.tk⟩) (fun q => q.1 ≤ a.args.length ∧ q.2.length = x.length ∧ gRow q.2 ∧ bindSet q.2 (a.args.drop q.1) (row.drop q.1) = se) (fun q => a.args.length - q.1) (0, x) (by intro; simp only [keepT_cons, keepT_nil, List.cons_append, List.nil_append, lk, Nat.reduceEqDiff, ↓reduceIte, reduceCtorEq]; rfl) ?_ ?_ ?_ ?_
    · exact ⟨by omega, rfl, ⟨hx1, hx2⟩, by simpa using hse⟩
    · simp only [go_sem, Nat.reduceEqDiff, ↓reduceIte]
    · exact .refl _
    rintro ⟨i, ys⟩ ⟨hi, hyl, hyg, h0⟩
    simp only at hi hyl hyg h0
    rcases Nat.lt_or_ge i a.args.length with hlt | hge
    · obtain ⟨y, hy, hm⟩ := at_lt hlt
      obtain ⟨v, hv, hvm⟩ := at_lt (show i < row.length by omega)
      have hg := encTs_get hy
      have hg2 := encVs_at hv
      rw [drop_at hy, drop_at hv, bindSet] at h0
      cases hb : y.var
      · simp only [hb, Bool.false_eq_true, if_false] at h0
        ((repeat' (first | (refine awp_seq_k (fun K hK => ?_)) | (refine awp_block ?_) | (refine awp_reg _ rfl ?_; (try simp only [go_sem, Nat.reduceLT, Nat.reduceEqDiff, Nat.reduceLeDiff, Nat.reduceAdd, ↓reduceIte, reduceCtorEq, wrap_succ i (by omega), hg, hb, bls])) | (refine awp_cond _ rfl (fun hc => ?_) (fun hc => ?_) <;> (try (simp only [decide_eq_true_eq, decide_eq_false_iff_not, cds] at hc)) <;> (try (exfalso; omega))) | (refine awp_skip ?_; (try simp only [sq])) | (refine awp_exit ?_; (try simp only [sq, bk, ↓reduceIte])) | (refine orAt_r 13 ?_; (try simp only [go_sem, Nat.reduceLT, Nat.reduceEqDiff, Nat.reduceAdd, ↓reduceIte, bls])) | (with_reducible apply And.intro) | (refine hK _ ?_; clear hK; (try clear K)) | (refine kk (by assumption) ?_))); (all_goals (try ((omega)))))
        refine ⟨(i + 1, ys), by simp only; omega, ⟨by simp only; omega, hyl, hyg, h0⟩, ?_⟩
        (refine st_le rfl ?_ (by ((try dsimp only); repeat' ((with_reducible exact .refl _)))); (try simp only [go_sem, Nat.reduceEqDiff, Nat.reduceAdd, ↓reduceIte, reduceCtorEq]))
      · rw [hb, if_pos rfl] at h0
        obtain ⟨hn0, hn1⟩ := bindOk_rng hok hla y hm hb
        obtain ⟨n, hn⟩ : ∃ n : Nat, y.n = n := ⟨y.n.toNat, by omega⟩
        rw [hn] at hn0 hn1
        obtain ⟨w, hw, hwm⟩ := at_lt (show n < ys.length by omega)
        have q1 := flatV_g1 hw
        have q2 := flatV_l1 hw
        have q3 := flatV_g4 hw
        have q4 := flatV_l4 hw
        have q5 := flatV_set (show n < ys.length by omega) v
        have q6 : (n * 4 + 4 ≤ (flat (encVs ys)).length) = True := eq_true (by rw [flat_vs]; omega)
        have e : atV ys y = w := by unfold atV; rw [hn, Int.toNat_natCast, List.getD_eq_getElem?_getD, hw]; rfl
        rw [e, hn, Int.toNat_natCast] at h0
        have hcm := fun H => c_SameV w v H (hyg.2 w hwm).z (hr2 v hvm).z
        have c1 : ((n : Int) < (x.length : Int)) = True := eq_true (by omega)
        by_cases hk0 : w.k = 0
        · rw [if_pos hk0] at h0
          have hk2 := eq_true hk0
          ((repeat' (first | (refine awp_mixed (id := 21) [0, 1, 2, 3, 4, 5, 6, 7, 8] [8] [(8, [])] (by kernel_rfl) (by kernel_rfl) ?_; (try simp only [go_sem, Nat.reduceLT, Nat.reduceEqDiff, Nat.reduceLeDiff, Nat.reduceAdd, ↓reduceIte, reduceCtorEq, hg2, q5, q6, c1, bls])) | (refine awp_seq_k (fun K hK => ?_)) | (refine awp_block ?_) | (refine awp_reg _ rfl ?_; (try simp only [go_sem, Nat.reduceLT, Nat.reduceEqDiff, Nat.reduceLeDiff, Nat.reduceAdd, ↓reduceIte, reduceCtorEq, wrap_succ i (by omega), hg, hb, hn, q1, q2, c1, hk2, Nat.add_zero, decide_true, bls])) | (refine awp_cond _ rfl (fun hc => ?_) (fun hc => ?_) <;> (try (simp only [decide_eq_true_eq, decide_eq_false_iff_not, cds] at hc)) <;> (try (exfalso; omega))) | (refine awp_skip ?_; (try simp only [sq])) | (refine orAt_r 13 ?_; (try simp only [go_sem, Nat.reduceLT, Nat.reduceEqDiff, Nat.reduceAdd, ↓reduceIte, bls])) | (with_reducible apply And.intro) | (refine hK _ ?_; clear hK; (try clear K)))); (all_goals (try ((omega)))))
          refine ⟨(i + 1, ys.set n v), by simp only; omega, ⟨by simp only; omega, by simpa using hyl, gRow_set hyg (hr2 v hvm), h0⟩, ?_⟩
          (refine st_le rfl ?_ (by ((try dsimp only); repeat' ((with_reducible exact .refl _)))); (try simp only [go_sem, Nat.reduceEqDiff, ↓reduceIte]))
        · rw [if_neg hk0] at h0
          by_cases hz : cmpV w v = 0
          · rw [if_pos hz] at h0
            ((repeat' (first | (refine awp_seq_k (fun K hK => ?_)) | (refine awp_block ?_) | (refine awp_reg _ rfl ?_; (try simp only [go_sem, Nat.reduceLT, Nat.reduceEqDiff, Nat.reduceLeDiff, Nat.reduceAdd, ↓reduceIte, reduceCtorEq, wrap_succ i (by omega), hg, hb, hn, q1, q2, c1, hk0, Nat.add_zero, decide_false, bls])) | (refine awp_drawn (by kernel_rfl) (by kernel_rfl) ?_; (try simp only [go_sem, Nat.reduceLT, Nat.reduceEqDiff, Nat.reduceLeDiff, Nat.reduceAdd, ↓reduceIte, reduceCtorEq, hg2, q3, q4, c1, bls])) | (refine awp_cond _ rfl (fun hc => ?_) (fun hc => ?_) <;> (try (simp only [decide_eq_true_eq, decide_eq_false_iff_not, cds] at hc)) <;> (try (exfalso; omega))) | (refine awp_skip ?_; (try simp only [sq, bk])) | (refine ⟨_, hcm _, ?_⟩ <;> (try simp only [go_sem, hz, decide_true, bls])) | (refine orAt_r 13 ?_; (try simp only [go_sem, Nat.reduceLT, Nat.reduceEqDiff, Nat.reduceAdd, ↓reduceIte, bls])) | (with_reducible apply And.intro) | (refine hK _ ?_; clear hK; (try clear K)))); (all_goals (try ((omega)))))
            refine ⟨(i + 1, ys), by simp only; omega, ⟨by simp only; omega, hyl, hyg, h0⟩, ?_⟩
            (refine st_le rfl ?_ (by ((try dsimp only); repeat' ((with_reducible exact .refl _)))); (try simp only [go_sem, Nat.reduceEqDiff, ↓reduceIte]))
          · rw [if_neg hz] at h0
            subst h0
            ((repeat' (first | (refine awp_seq_k (fun K hK => ?_)) | (refine awp_block ?_) | (refine awp_reg _ rfl ?_; (try simp only [go_sem, Nat.reduceLT, Nat.reduceEqDiff, Nat.reduceLeDiff, Nat.reduceAdd, ↓reduceIte, reduceCtorEq, hg, hb, hn, q1, q2, c1, hk0, Nat.add_zero, decide_false, bls])) | (refine awp_drawn (by kernel_rfl) (by kernel_rfl) ?_; (try simp only [go_sem, Nat.reduceLT, Nat.reduceEqDiff, Nat.reduceLeDiff, Nat.reduceAdd, ↓reduceIte, reduceCtorEq, hg2, q3, q4, c1, bls])) | (refine awp_cond _ rfl (fun hc => ?_) (fun hc => ?_) <;> (try (simp only [decide_eq_true_eq, decide_eq_false_iff_not, cds] at hc)) <;> (try (exfalso; omega))) | (refine awp_skip ?_; (try simp only [sq])) | (refine awp_ret ?_; (try simp only [sq, bk, ↓reduceIte, reduceCtorEq])) | (refine ⟨_, hcm _, ?_⟩ <;> (try simp only [go_sem, hz, decide_false, bls])) | (refine orAt_r 13 ?_; (try simp only [go_sem, Nat.reduceLT, Nat.reduceEqDiff, Nat.reduceAdd, ↓reduceIte, bls])) | (with_reducible apply And.intro) | (refine hK _ ?_; clear hK; (try clear K)))); (all_goals (try ((omega)))))
            refine fin_any (x := .tup [.con (.slice none 0 0), .con (.bool false)]) (H := H) (by (try simp only [forall_eq, resOk, List.mem_cons, List.not_mem_nil, or_false, forall_eq_or_imp, and_self])) (by (try simp only [go_sem, Nat.reduceEqDiff, ↓reduceIte])) (by ((try dsimp only); repeat' (first | with_reducible exact .refl _ | exact box_fresh (by assumption) | refine weak_box ?_ ?_))) ?_
            simp
    · obtain rfl : i = a.args.length := by omega
      rw [List.drop_length, bindSet] at h0
      rotate_left
      · intro _ _ _ _ h; cases h
      subst h0
      ((repeat' (first | (refine awp_seq_k (fun K hK => ?_)) | (refine awp_reg _ rfl ?_; (try simp only [go_sem, Nat.reduceLT, Nat.reduceEqDiff, ↓reduceIte])) | (refine awp_cond _ rfl (fun hc => ?_) (fun hc => ?_) <;> (try (simp only [decide_eq_true_eq, decide_eq_false_iff_not] at hc)) <;> (try (exfalso; omega))) | (refine awp_exit ?_; (try simp only [sq, bk, ↓reduceIte])) | (refine awp_ret ?_; (try simp only [↓reduceIte, reduceCtorEq])) | (refine hK _ ?_; clear hK; (try clear K)) | (refine kk (by assumption) ?_))))
      refine fin_any (x := .tup [.sl ic x.length 92 4, .con (.bool true)]) (H := ⟨(ic, flat (encVs ys)) :: H.bx, H.tk⟩) (by (try simp only [forall_eq, resOk, List.mem_cons, List.not_mem_nil, or_false, forall_eq_or_imp, and_self])) (by (try simp only [go_sem, Nat.reduceEqDiff, ↓reduceIte])) (by ((try dsimp only); repeat' ((with_reducible exact .refl _)))) ?_
      exact .inl ⟨ys, ic, rfl, frc, rfl, rfl⟩
theorem c_bindN {x : List Val} {a : Atm} {row : List Val} (H : Hp) (hx : gRow x) (hx0 : 0 < x.length) (ha : gAtm a) (hr : gRow row) (hb : bindR x a row = none) : PureAt Tryz.prog 153 [.list (encVs x) none, cAtm a, cRw row] H (.tup [.con (.slice none 0 0), .con (.bool false)]) :=
  (c_bind x a row H hx hx0 ha hr).mono fun r H' h => by
    rcases h with ⟨y, id, h, _⟩ | ⟨_, h1, h2⟩
    · rw [hb] at h; cases h
    · exact ⟨h1, h2⟩
theorem c_bindS {x : List Val} {a : Atm} {row y : List Val} (H : Hp) (hx : gRow x) (hx0 : x.length = 24) (ha : gAtm a) (hr : gRow row) (hb : bindR x a row = some y) : ACalls Tryz.prog 153 [.list (encVs x) none, cAtm a, cRw row] H
    fun r H' => ∃ t, fresh H t ∧ r = .tup [.sl t 24 92 4, .con (.bool true)] ∧ H' = ⟨(t, flat (encVs y)) :: H.bx, H.tk⟩ :=
  (c_bind x a row H hx (by omega) ha hr).mono fun r H' h => by
    rcases h with ⟨y', id, h1, h2, h3, h4⟩ | ⟨h, _⟩
    · rw [hb] at h1
      cases h1
      rw [hx0] at h3
      exact ⟨id, h2, h3, h4⟩
    · rw [hb] at h; cases h
end Go.Proofs.YtababmnmkmgbbaaGreat
