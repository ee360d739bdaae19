/-
  A part of the proof: its theorems say what each gives.
-/
import Derived.Test.YtababmnmkmgbbaaGreatKQb
set_option maxRecDepth 100000
set_option maxHeartbeats 4000000
set_option linter.unusedSimpArgs false
set_option linter.unusedVariables false
namespace Go.Proofs.YtababmnmkmgbbaaGreat
open Go Fw
/-! Package cq: copies, and what is the same. -/
end Go.Proofs.YtababmnmkmgbbaaGreat
/-
  A part of the proof: its theorems say what each gives.
-/
set_option maxRecDepth 100000
set_option maxHeartbeats 4000000
set_option linter.unusedSimpArgs false
set_option linter.unusedVariables false
namespace Go.Proofs.YtababmnmkmgbbaaGreat
open Go Fw
/-! cq.Row, cq.None, comparisons of rows. -/
def none24 : List Val := List.replicate 24 zV
theorem c_compare (a b : List Val) (H : Hp) (ha : gRow a) (hb : gRow b) : PureAt Tryz.prog 142 [cRw a, cRw b] H (.con (.int .i64 (cmpR a b))) := by
  have h1 := ha.1
  have h2 := hb.1
  refine acalls_of (by kernel_rfl) Tryz.func142 rfl 8 Tryz.ntmps142 (by simp) [.tmp 4] rfl ?_
  ((repeat' (first | (refine awp_seq_k (fun K hK => ?_)) | (refine awp_reg _ rfl ?_; (try simp only [go_sem, Nat.reduceLT, Nat.reduceEqDiff, Nat.reduceAdd, ↓reduceIte, reduceCtorEq])) | (refine awp_ret ?_) | (refine PureAt.use (c_CmpfVal a b _ _ cmpV _ (by omega) (by omega) (fun x hx y hy => c_CmpV x y _ (ha.2 x hx).z (hb.2 y hy).z)) ?_ <;> (try simp only [go_sem])) | (refine orAt_l ?_) | (refine hK _ ?_; clear hK; (try clear K)))))
  ((all_goals (try refine fin_pure (by (try simp only [forall_eq, resOk, List.mem_cons, List.not_mem_nil, or_false])) ?_ (by ((try dsimp only); repeat' ((with_reducible exact .refl _)))))); (all_goals (try simp only [go_sem, ↓reduceIte, cmpR])))
theorem c_Run1 (a b : List Val) (H : Hp) (ha : gRow a) (hb : gRow b) : PureAt Tryz.prog 144 [cRw a, cRw b] H (.con (.bool (decide (cmpR a b = 0)))) := by
  refine acalls_of (by kernel_rfl) Tryz.func144 rfl 9 Tryz.ntmps144 (by simp) [.tmp 4] rfl ?_
  ((repeat' (first | (refine awp_seq_k (fun K hK => ?_)) | (refine awp_reg _ rfl ?_; (try simp only [go_sem, Nat.reduceLT, Nat.reduceEqDiff, Nat.reduceAdd, ↓reduceIte, reduceCtorEq])) | (refine awp_ret ?_) | (refine PureAt.use (c_compare a b _ ha hb) ?_ <;> (try simp only [go_sem, Nat.reduceLT, ↓reduceIte])) | (refine orAt_l ?_) | (refine hK _ ?_; clear hK; (try clear K)))))
  ((all_goals (try refine fin_pure (by (try simp only [forall_eq, resOk, List.mem_cons, List.not_mem_nil, or_false])) ?_ (by ((try dsimp only); repeat' ((with_reducible exact .refl _)))))); (all_goals (try simp only [go_sem, ↓reduceIte])))
theorem c_Ext1 (r : Rel) (nm : ByteArray) (args : AV) (H : Hp) : PureAt Tryz.prog 152 [cRel r, .ro [.con (.string nm), args]] H (.con (.bool (decide (r.nm = nm)))) := by
  refine acalls_of (by kernel_rfl) Tryz.func152 rfl 9 Tryz.ntmps152 (by simp) [.tmp 3] rfl ?_
  ((repeat' (first | (refine awp_seq_k (fun K hK => ?_)) | (refine awp_reg _ rfl ?_; (try simp only [go_sem, Nat.reduceLT, Nat.reduceEqDiff, Nat.reduceLeDiff, Nat.reduceAdd, ↓reduceIte, reduceCtorEq])) | (refine awp_ret ?_) | (refine orAt_r 2 ?_) | (refine hK _ ?_; clear hK; (try clear K)))))
  ((all_goals (try refine fin_pure (by (try simp only [forall_eq, resOk, List.mem_cons, List.not_mem_nil, or_false])) ?_ (by ((try dsimp only); repeat' ((with_reducible exact .refl _)))))); (all_goals (try simp only [go_sem, ↓reduceIte])))
theorem c_CopyZ (H : Hp) : PureAt Tryz.prog 103 [.agg [.con (.int .i64 0), .con (.int .i64 0), .con (.string ⟨#[]⟩), .con (.slice none 0 0)]] H (cV zV) := by
  refine ACalls.args (c_CopyV zV H (by decide)) rfl fun i hi => ?_
  match i, hi with
  | 0, _ =>
    show (AV.agg _).le (.agg _)
    (repeat' (first | exact .refl _ | exact AV.le_nil | refine AV.le_aggc rfl ?_ | refine lec_cons ?_ ?_))
/-- The value of a term under a binding. -/
def valT (x : List Val) (t : Trm) : Val := if t.var = true then (if 0 ≤ t.n ∧ t.n < x.length then x.getD t.n.toNat zV else zV) else t.v
theorem c_Row (l : List Trm) (x : List Val) (H : Hp) (hl : gTs l) (hx : gRow x) : PureAt Tryz.prog 53 [.list (encTs l) none, .list (encVs x) none] H (.list (encVs (l.map (valT x))) none) := by
  obtain ⟨h1, h2⟩ := hl
  obtain ⟨h3, h4⟩ := hx
  refine acalls_of (by kernel_rfl) Tryz.func53 rfl 42 Tryz.ntmps53 (by simp) [.tmp 4] rfl ?_
  ((repeat' (first | (refine awp_seq_k (fun K hK => ?_)) | (refine awp_block ?_) | (refine awp_reg _ rfl ?_; (try simp only [go_sem, Nat.reduceLT, Nat.reduceAdd, ↓reduceIte, reduceCtorEq])) | (refine hK _ ?_; clear hK; (try clear K)))))
  refine awp_nilK 5 92 4 [1, 9, 10, 11] (by simp only [keepT_cons, keepT_nil, lk, Nat.reduceEqDiff, ↓reduceIte, reduceCtorEq]; rfl) (by simp only [go_sem, Nat.reduceEqDiff, ↓reduceIte]) (fun t frt => ?_)
  refine awp_loopKT (ι := Nat) rfl [1, 9, 10] (fun i => [(11, .con (.int .i64 (i : Int))), (5, .list (encVs ((l.take i).map (valT x))) (some t))]) (fun i => i) (fun i => i ≤ l.length) (fun i => l.length - i) 0 (by intro; simp only [keepT_cons, keepT_nil, List.cons_append, List.nil_append, lk, Nat.reduceEqDiff, ↓reduceIte]; rfl) (by omega) (by ((simp only [go_sem, Nat.reduceEqDiff, ↓reduceIte]; (repeat' apply And.intro) <;> (exact AV.le.refl _)))) (by (rfl)) ?_
  intro i hi
  rcases Nat.lt_or_ge i l.length with hlt | hge
  · obtain ⟨y, hy, hm⟩ := at_lt hlt
    have hg := encTs_get hy
    have hst : encVs ((l.take (i + 1)).map (valT x)) = encVs ((l.take i).map (valT x)) ++ [cV (valT x y)] := by rw [take_at hy]; simp [encVs]
    have hln : ((l.take i).map (valT x)).length = i := by rw [List.length_map, List.length_take]; omega
    cases hv : y.var
    · have e : valT x y = y.v := by unfold valT; rw [hv]; rfl
      rw [e] at hst
      ((repeat' (first | (refine awp_seq_k (fun K hK => ?_)) | (refine awp_block ?_) | (refine awp_reg _ rfl ?_; (try simp only [go_sem, Nat.reduceLT, Nat.reduceEqDiff, Nat.reduceLeDiff, Nat.reduceAdd, Nat.reduceMul, ↓reduceIte, reduceCtorEq, wrap_succ i (by omega), hg, hln, hv, bls])) | (refine awp_cond _ rfl (fun hc => ?_) (fun hc => ?_) <;> (try (simp only [decide_eq_true_eq, decide_eq_false_iff_not, cds] at hc)) <;> (try (exfalso; omega))) | (refine awp_skip ?_; (try simp only [sq])) | (refine PureAt.use (c_CopyV y.v _ (h2 y hm).v.c) ?_ <;> (try simp only [go_sem, Nat.reduceAdd, ↓reduceIte, bls])) | (refine orAt_r 7 ?_; (try simp only [go_sem, Nat.reduceLT, Nat.reduceAdd, ↓reduceIte, bls])) | (refine orAt_l ?_) | (with_reducible apply And.intro) | (refine all_fresh fun id fr => ?_; (try have := NeI.of_frt fr)) | (refine hK _ ?_; clear hK; (try clear K)))); (all_goals (try (first | omega | decide | (simp only [List.mem_cons, List.not_mem_nil, or_false, forall_eq, AV.cells, List.length_cons, List.length_nil, Nat.reduceAdd]; done)))))
      refine ⟨i + 1, by omega, by omega, ?_⟩
      (refine st_le rfl ?_ (by ((try dsimp only); repeat' (first | (refine weak_tokc (by (rfl)) ?_) | with_reducible exact .refl _ | exact box_fr (by assumption) | refine weak_box ?_ ?_))); (try simp only [go_sem, Nat.reduceEqDiff, ↓reduceIte, hst]))
    · by_cases hr : 0 ≤ y.n ∧ y.n < x.length
      · obtain ⟨n, hn⟩ : ∃ n : Nat, y.n = n := ⟨y.n.toNat, by omega⟩
        obtain ⟨v, hvx, hvm⟩ := at_lt (show n < x.length by omega)
        have hg2 := encVs_at hvx
        have e : valT x y = v := by unfold valT; rw [hv, if_pos rfl, if_pos hr, hn, Int.toNat_natCast, List.getD_eq_getElem?_getD, hvx]; rfl
        rw [e] at hst
        have c1 : (0 ≤ (n : Int)) = True := eq_true (by omega)
        have c2 : ((n : Int) < (x.length : Int)) = True := eq_true (by omega)
        ((repeat' (first | (refine awp_seq_k (fun K hK => ?_)) | (refine awp_block ?_) | (refine awp_reg _ rfl ?_; (try simp only [go_sem, Nat.reduceLT, Nat.reduceEqDiff, Nat.reduceLeDiff, Nat.reduceAdd, Nat.reduceMul, ↓reduceIte, reduceCtorEq, wrap_succ i (by omega), hg, hln, hv, hn, hg2, c1, c2, ↓pkv, decide_true, bls])) | (refine awp_cond _ rfl (fun hc => ?_) (fun hc => ?_) <;> (try (simp only [decide_eq_true_eq, decide_eq_false_iff_not, cds] at hc)) <;> (try (exfalso; omega))) | (refine awp_skip ?_; (try simp only [sq])) | (refine PureAt.use (c_CopyV v _ (h4 v hvm).c) ?_ <;> (try simp only [go_sem, Nat.reduceAdd, ↓reduceIte, bls])) | (refine orAt_r 7 ?_; (try simp only [go_sem, Nat.reduceLT, Nat.reduceAdd, ↓reduceIte, bls])) | (refine orAt_l ?_) | (with_reducible apply And.intro) | (refine all_fresh fun id fr => ?_; (try have := NeI.of_frt fr)) | (refine hK _ ?_; clear hK; (try clear K)))); (all_goals (try (first | omega | decide | (simp only [List.mem_cons, List.not_mem_nil, or_false, forall_eq, AV.cells, List.length_cons, List.length_nil, Nat.reduceAdd]; done)))))
        refine ⟨i + 1, by omega, by omega, ?_⟩
        (refine st_le rfl ?_ (by ((try dsimp only); repeat' (first | (refine weak_tokc (by (rfl)) ?_) | with_reducible exact .refl _ | exact box_fr (by assumption) | refine weak_box ?_ ?_))); (try simp only [go_sem, Nat.reduceEqDiff, ↓reduceIte, hst]))
      · have e : valT x y = zV := by unfold valT; rw [hv, if_pos rfl, if_neg hr]
        rw [e] at hst
        by_cases h0 : 0 ≤ y.n
        · have c1 : (0 ≤ y.n) = True := eq_true h0
          have c2 : (y.n < (x.length : Int)) = False := eq_false (by omega)
          ((repeat' (first | (refine awp_seq_k (fun K hK => ?_)) | (refine awp_block ?_) | (refine awp_reg _ rfl ?_; (try simp only [go_sem, Nat.reduceLT, Nat.reduceEqDiff, Nat.reduceLeDiff, Nat.reduceAdd, Nat.reduceMul, ↓reduceIte, reduceCtorEq, wrap_succ i (by omega), hg, hln, hv, c1, c2, ↓pkv, decide_true, decide_false, bls])) | (refine awp_cond _ rfl (fun hc => ?_) (fun hc => ?_) <;> (try (simp only [decide_eq_true_eq, decide_eq_false_iff_not, cds] at hc)) <;> (try (exfalso; omega))) | (refine awp_skip ?_; (try simp only [sq])) | (refine PureAt.use (c_CopyZ _) ?_ <;> (try simp only [go_sem, Nat.reduceAdd, ↓reduceIte, bls])) | (refine orAt_r 7 ?_; (try simp only [go_sem, Nat.reduceLT, Nat.reduceAdd, ↓reduceIte, bls])) | (refine orAt_l ?_) | (with_reducible apply And.intro) | (refine all_fresh fun id fr => ?_; (try have := NeI.of_frt fr)) | (refine hK _ ?_; clear hK; (try clear K)))); (all_goals (try (first | omega | decide))))
          refine ⟨i + 1, by omega, by omega, ?_⟩
          (refine st_le rfl ?_ (by ((try dsimp only); repeat' (first | (refine weak_tokc (by (rfl)) ?_) | with_reducible exact .refl _ | exact box_fr (by assumption) | refine weak_box ?_ ?_))); (try simp only [go_sem, Nat.reduceEqDiff, ↓reduceIte, hst]))
        · have c1 : (0 ≤ y.n) = False := eq_false h0
          ((repeat' (first | (refine awp_seq_k (fun K hK => ?_)) | (refine awp_block ?_) | (refine awp_reg _ rfl ?_; (try simp only [go_sem, Nat.reduceLT, Nat.reduceEqDiff, Nat.reduceLeDiff, Nat.reduceAdd, Nat.reduceMul, ↓reduceIte, reduceCtorEq, wrap_succ i (by omega), hg, hln, hv, c1, ↓pkv, decide_false, bls])) | (refine awp_cond _ rfl (fun hc => ?_) (fun hc => ?_) <;> (try (simp only [decide_eq_true_eq, decide_eq_false_iff_not, cds] at hc)) <;> (try (exfalso; omega))) | (refine awp_skip ?_; (try simp only [sq])) | (refine PureAt.use (c_CopyZ _) ?_ <;> (try simp only [go_sem, Nat.reduceAdd, ↓reduceIte, bls])) | (refine orAt_r 7 ?_; (try simp only [go_sem, Nat.reduceLT, Nat.reduceAdd, ↓reduceIte, bls])) | (refine orAt_l ?_) | (with_reducible apply And.intro) | (refine all_fresh fun id fr => ?_; (try have := NeI.of_frt fr)) | (refine hK _ ?_; clear hK; (try clear K)))); (all_goals (try (first | omega | decide))))
          refine ⟨i + 1, by omega, by omega, ?_⟩
          (refine st_le rfl ?_ (by ((try dsimp only); repeat' (first | (refine weak_tokc (by (rfl)) ?_) | with_reducible exact .refl _ | exact box_fr (by assumption) | refine weak_box ?_ ?_))); (try simp only [go_sem, Nat.reduceEqDiff, ↓reduceIte, hst]))
  · obtain rfl : i = l.length := by omega
    rw [List.take_length]
    ((repeat' (first | (refine awp_seq_k (fun K hK => ?_)) | (refine awp_reg _ rfl ?_; (try simp only [go_sem, Nat.reduceLT, Nat.reduceEqDiff, Nat.reduceLeDiff, Nat.reduceAdd, ↓reduceIte, reduceCtorEq])) | (refine awp_cond _ rfl (fun hc => ?_) (fun hc => ?_) <;> (try (simp only [decide_eq_true_eq, decide_eq_false_iff_not] at hc)) <;> (try (exfalso; omega))) | (refine awp_exit ?_; (try simp only [sq, bk, ↓reduceIte])) | (refine awp_ret ?_) | (refine hK _ ?_; clear hK; (try clear K)) | (refine kk (by assumption) ?_))))
    (refine fin_le (.list (encVs (l.map (valT x))) none) (H) (by (try simp only [forall_eq, resOk, List.mem_cons, List.not_mem_nil, or_false])) (by (try simp only [go_sem, ↓reduceIte]); (repeat' (first | exact .refl _ | exact AV.le_nil | exact AV.le_emp | exact AV.le_list _ _ | exact AV.le_any _ | exact lec_nil | refine AV.le_aggc rfl ?_ | refine AV.le_tupc rfl ?_ | refine lec_cons ?_ ?_))) (by ((try dsimp only); repeat' (first | with_reducible exact .refl _ | exact fresh.tok (by assumption) | refine weak_tok ?_ ?_))) ⟨rfl, rfl⟩)
end Go.Proofs.YtababmnmkmgbbaaGreat
