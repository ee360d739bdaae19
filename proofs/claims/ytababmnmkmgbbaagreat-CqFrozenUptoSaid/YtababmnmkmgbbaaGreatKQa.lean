/-
  A part of the proof: its theorems say what each gives.
-/
import Derived.Test.YtababmnmkmgbbaaGreatKM19
set_option maxRecDepth 100000
set_option maxHeartbeats 4000000
set_option linter.unusedSimpArgs false
set_option linter.unusedVariables false
namespace Go.Proofs.YtababmnmkmgbbaaGreat
open Go Fw
/-! Package cq: checks. -/
def encIs (l : List Int) : List AV := l.map fun n => .con (.int .i64 n)
@[go_sem] theorem encIs_length (l : List Int) : (encIs l).length = l.length := by simp [encIs]
theorem encIs_at (l : List Int) {i : Nat} (h : i < l.length) : ((encIs l).drop i).getD 0 .any = .con (.int .i64 (l.getD i 0)) := by
  simp [encIs, List.getD_eq_getElem?_getD, h]
theorem encIs_len (l : List Int) {i : Nat} (h : i < l.length) : (1 ≤ ((encIs l).drop i).length) = True := eq_true (by rw [List.length_drop, encIs_length]; omega)
theorem encIs_set (l : List Int) {i : Nat} (h : i < l.length) (v : Int) : List.take i (encIs l) ++ [AV.con (.int .i64 v)] ++ List.drop (i + 1) (encIs l) = encIs (l.set i v) := by
  unfold encIs
  rw [List.map_set, List.set_eq_take_append_cons_drop, if_pos (by simpa using h)]
  simp
theorem c_scalar (k : Int) (H : Hp) : PureAt Tryz.prog 223 [.con (.int .i64 k)] H (.con (.bool (decide (1 ≤ k) && decide (k ≤ 5)))) := by
  refine acalls_of (by kernel_rfl) Tryz.func223 rfl 9 Tryz.ntmps223 (by simp) [.tmp 2] rfl ?_
  ((repeat' (first | (refine awp_seq_k (fun K hK => ?_)) | (refine awp_reg _ rfl ?_; (try simp only [go_sem, Nat.reduceLT, Nat.reduceEqDiff, Nat.reduceAdd, ↓reduceIte, reduceCtorEq])) | (refine awp_ret ?_) | (refine hK _ ?_; clear hK; (try clear K)))))
  ((all_goals (try refine fin_pure (by (try simp only [forall_eq, resOk, List.mem_cons, List.not_mem_nil, or_false])) ?_ (by ((try dsimp only); repeat' ((with_reducible exact .refl _)))))); (all_goals (try simp only [go_sem, ↓reduceIte])))
theorem c_SameZ (v : Val) (H : Hp) (h : sizeV v ≤ 4611686018427387904) : PureAt Tryz.prog 51 [cV v, .agg [.con (.int .i64 0), .con (.int .i64 0), .con (.string ⟨#[]⟩), .con (.slice none 0 0)]] H (.con (.bool (decide (cmpV v zV = 0)))) := by
  refine ACalls.args (c_SameV v zV H h (by decide)) rfl fun i hi => ?_
  match i, hi with
  | 0, _ => exact .refl _
  | 1, _ =>
    show (AV.agg _).le (.agg _)
    (repeat' (first | exact .refl _ | exact AV.le_nil | refine AV.le_aggc rfl ?_ | refine lec_cons ?_ ?_))
theorem c_term (t : Trm) (H : Hp) (h : gTrm t) : PureAt Tryz.prog 124 [cTrm t] H (.con (.int .i64 (termE t))) := by
  obtain ⟨h1, h2⟩ := h
  unfold termE
  refine acalls_of (by kernel_rfl) Tryz.func124 rfl 29 Tryz.ntmps124 (by simp) [.tmp 2] rfl ?_
  ((repeat' (first | (refine awp_seq_k (fun K hK => ?_)) | (refine awp_reg _ rfl ?_; (try simp only [go_sem, Nat.reduceLT, Nat.reduceEqDiff, Nat.reduceLeDiff, Nat.reduceAdd, ↓reduceIte, reduceCtorEq])) | (refine awp_cond _ rfl (fun hc => ?_) (fun hc => ?_) <;> (try (simp only [decide_eq_true_eq, decide_eq_false_iff_not, cds, Decidable.not_not] at hc))) | (refine awp_skip ?_; (try simp only [sq])) | (refine awp_ret ?_; (try simp only [sq])) | (refine PureAt.use (c_SameZ t.v _ h2.z) ?_ <;> (try simp only [go_sem])) | (refine PureAt.use (c_scalar _ _) ?_ <;> (try simp only [go_sem])) | (refine PureAt.use (c_CheckV t.v _ h2.z) ?_ <;> (try simp only [go_sem])) | (refine orAt_r 1 ?_) | (refine orAt_l ?_) | (with_reducible apply And.intro) | (refine hK _ ?_; clear hK; (try clear K)))); (all_goals (try (((intro hh; simp only [Bool.not_eq_true', decide_eq_false_iff_not] at hh ⊢; (omega)))))))
  all_goals (((all_goals (try refine fin_pure (by (try simp only [forall_eq, resOk, List.mem_cons, List.not_mem_nil, or_false])) ?_ (by ((try dsimp only); repeat' ((with_reducible exact .refl _)))))); (all_goals (try simp only [go_sem, ↓reduceIte])); (all_goals (try (((simp [*]; done)))))); (all_goals (try (((congr 2; grind))))))
theorem findR_mem {b : List Rel} {nm : ByteArray} {r : Rel} (h : findR b nm = some r) : r ∈ b := List.mem_of_find?_eq_some h
theorem termE_var {t : Trm} (h : termE t = 0) (hv : t.var = true) : 0 ≤ t.n ∧ t.n < 24 := by
  unfold termE at h; rw [if_pos hv] at h
  split at h
  · split at h
    · cases h
    · omega
  · cases h
theorem c_atom (b : List Rel) (a : Atm) (ks : List Int) (kid : Nat) (H : Hp) (hb : gBase b) (ha : gAtm a) (hk : H.box kid = some (encIs ks)) (hl : ks.length = 24) :
    ACalls Tryz.prog 121 [.list (encRels b) none, cAtm a, .sl kid 24 3 1] H fun r H' => r = .con (.int .i64 (atomE b a ks).1) ∧ H' = H.upd kid fun _ => encIs (atomE b a ks).2 := by
  obtain ⟨ha1, ha2⟩ := ha
  unfold atomE
  have hcf := c_Find b a.rel H hb
  cases hf : findR b a.rel with
  | none =>
    rw [hf] at hcf
    simp only [upd_same hk]
    refine acalls_of (by kernel_rfl) Tryz.func121 rfl 88 Tryz.ntmps121 (by simp) [.tmp 6] rfl ?_
    ((repeat' (first | (refine awp_seq_k (fun K hK => ?_)) | (refine awp_block ?_) | (refine awp_reg _ rfl ?_; (try simp only [go_sem, Nat.reduceLT, Nat.reduceEqDiff, Nat.reduceLeDiff, Nat.reduceAdd, ↓reduceIte, reduceCtorEq])) | (refine awp_cond _ rfl (fun hc => ?_) (fun hc => ?_) <;> (try (simp only [decide_eq_true_eq, decide_eq_false_iff_not, cds, Decidable.not_not] at hc))) | (refine awp_skip ?_; (try simp only [sq])) | (refine awp_ret ?_; (try simp only [sq])) | (refine PureAt.use (hcf) ?_ <;> (try simp only [go_sem, Nat.reduceLT, Nat.reduceLeDiff, Nat.reduceAdd])) | (refine orAt_r 4 ?_) | (refine orAt_r 7 ?_; (try simp only [go_sem, Nat.reduceLT, Nat.reduceEqDiff, Nat.reduceAdd, ↓reduceIte])) | (refine orAt_l ?_) | (refine hK _ ?_; clear hK; (try clear K)))); (all_goals (try (((intro hh; simp_all; done))))))
    ((all_goals (try refine fin_pure (by (try simp only [forall_eq, resOk, List.mem_cons, List.not_mem_nil, or_false])) ?_ (by ((try dsimp only); repeat' ((with_reducible exact .refl _)))))); (all_goals (try simp only [go_sem, ↓reduceIte])); (all_goals (try (((simp_all; done))))))
  | some r =>
    rw [hf] at hcf
    have hr := hb.2 r (findR_mem hf)
    have hr1 := hr.cols
    by_cases hla : a.args.length = r.cols.length
    rotate_left
    · simp only [if_neg hla, upd_same hk]
      have hla2 : ((a.args.length : Int) = (r.cols.length : Int)) = False := eq_false (by omega)
      refine acalls_of (by kernel_rfl) Tryz.func121 rfl 88 Tryz.ntmps121 (by simp) [.tmp 6] rfl ?_
      ((repeat' (first | (refine awp_seq_k (fun K hK => ?_)) | (refine awp_reg _ rfl ?_; (try simp only [go_sem, Nat.reduceLT, Nat.reduceEqDiff, Nat.reduceLeDiff, Nat.reduceAdd, ↓reduceIte, reduceCtorEq, hla2, decide_true, bls])) | (refine awp_cond _ rfl (fun hc => ?_) (fun hc => ?_) <;> (try (simp only [cds] at hc))) | (refine awp_skip ?_; (try simp only [sq])) | (refine awp_ret ?_; (try simp only [sq])) | (refine PureAt.use (hcf) ?_ <;> (try simp only [go_sem, Nat.reduceLT, Nat.reduceLeDiff, Nat.reduceAdd, bls])) | (refine orAt_r 4 ?_) | (refine orAt_r 7 ?_; (try simp only [go_sem, Nat.reduceLT, Nat.reduceEqDiff, Nat.reduceAdd, ↓reduceIte, bls])) | (refine orAt_l ?_) | (refine hK _ ?_; clear hK; (try clear K)))))
      ((all_goals (try refine fin_pure (by (try simp only [forall_eq, resOk, List.mem_cons, List.not_mem_nil, or_false])) ?_ (by ((try dsimp only); repeat' ((with_reducible exact .refl _)))))); (all_goals (try simp only [go_sem, ↓reduceIte])))
    have hla2 : ((a.args.length : Int) = (r.cols.length : Int)) = True := eq_true (by omega)
    simp only [if_pos hla]
    generalize hres : argsE r.cols a.args ks = res
    refine acalls_of (by kernel_rfl) Tryz.func121 rfl 88 Tryz.ntmps121 (by simp) [.tmp 6] rfl ?_
    ((repeat' (first | (refine awp_seq_k (fun K hK => ?_)) | (refine awp_block ?_) | (refine awp_reg _ rfl ?_; (try simp only [go_sem, Nat.reduceLT, Nat.reduceEqDiff, Nat.reduceLeDiff, Nat.reduceAdd, ↓reduceIte, reduceCtorEq, hla2, decide_false, bls])) | (refine awp_cond _ rfl (fun hc => ?_) (fun hc => ?_) <;> (try (simp only [cds] at hc))) | (refine awp_skip ?_; (try simp only [sq])) | (refine PureAt.use (hcf) ?_ <;> (try simp only [go_sem, Nat.reduceLT, Nat.reduceLeDiff, Nat.reduceAdd, bls])) | (refine orAt_r 4 ?_) | (refine orAt_r 7 ?_; (try simp only [go_sem, Nat.reduceLT, Nat.reduceEqDiff, Nat.reduceAdd, ↓reduceIte, bls])) | (refine orAt_l ?_) | (refine hK _ ?_; clear hK; (try clear K)))))
    refine awp_loopKG (ι := Nat × List Int) [2, 7, 30, 31] (fun q => [(32, .con (.int .i64 (q.1 : Int)))]) (fun q => H.upd kid fun _ => encIs q.2) (fun q => q.1 ≤ a.args.length ∧ q.2.length = 24 ∧ argsE (r.cols.drop q.1) (a.args.drop q.1) q.2 = res) (fun q => a.args.length - q.1) (0, ks) (by intro; simp only [keepT_cons, keepT_nil, List.cons_append, List.nil_append, lk, Nat.reduceEqDiff, ↓reduceIte, reduceCtorEq]; rfl) ?_ ?_ ?_ ?_
    · exact ⟨by omega, hl, by simpa using hres⟩
    · simp only [go_sem, Nat.reduceEqDiff, ↓reduceIte]
    · exact weak_updS hk
    rintro ⟨i, qs⟩ ⟨hi, hql, h0⟩
    simp only at hi hql h0
    rcases Nat.lt_or_ge i a.args.length with hlt | hge
    · obtain ⟨x, hx, hm⟩ := at_lt hlt
      obtain ⟨y, hy, hm2⟩ := at_lt (show i < r.cols.length by omega)
      have hg := encTs_get hx
      have hg2 := encCols_get hy
      rw [drop_at hx, drop_at hy, argsE] at h0
      have ht := c_term x
      by_cases hte : termE x = 0
      · rw [hte] at ht
        rw [if_pos hte] at h0
        cases hv : x.var
        · simp only [hv, Bool.false_eq_true, if_false] at h0
          simp only [cTrm, hv] at ht
          by_cases hkk : x.v.k = y.kd
          · rw [if_pos hkk] at h0
            have hkk2 := eq_true hkk
            ((repeat' (first | (refine awp_seq_k (fun K hK => ?_)) | (refine awp_block ?_) | (refine awp_reg _ rfl ?_; (try simp only [go_sem, Nat.reduceLT, Nat.reduceEqDiff, Nat.reduceLeDiff, Nat.reduceAdd, ↓reduceIte, reduceCtorEq, wrap_succ i (by omega), hg, hg2, hv, hkk2, ↓pkv, decide_false, bls])) | (refine awp_cond _ rfl (fun hc => ?_) (fun hc => ?_) <;> (try (simp only [decide_eq_true_eq, decide_eq_false_iff_not, cds] at hc)) <;> (try (exfalso; omega))) | (refine awp_skip ?_; (try simp only [sq, bk])) | (refine PureAt.use (ht _ (ha2 x hm)) ?_ <;> (try simp only [go_sem])) | (refine orAt_r 10 ?_; (try simp only [go_sem, Nat.reduceLT, Nat.reduceEqDiff, Nat.reduceAdd, ↓reduceIte, bls])) | (refine orAt_l ?_) | (with_reducible apply And.intro) | (refine hK _ ?_; clear hK; (try clear K)))); (all_goals (try (first | omega | (intro hh; simp only at hh ⊢; (done))))))
            refine ⟨(i + 1, qs), by simp only; omega, ⟨by simp only; omega, hql, h0⟩, ?_⟩
            (refine st_le rfl ?_ (by ((try dsimp only); repeat' ((with_reducible exact .refl _)))); (try simp only [go_sem, Nat.reduceEqDiff, ↓reduceIte]))
          · rw [if_neg hkk] at h0
            subst h0
            ((repeat' (first | (refine awp_seq_k (fun K hK => ?_)) | (refine awp_block ?_) | (refine awp_reg _ rfl ?_; (try simp only [go_sem, Nat.reduceLT, Nat.reduceEqDiff, Nat.reduceLeDiff, Nat.reduceAdd, ↓reduceIte, reduceCtorEq, hg, hg2, hv, hkk, ↓pkv, decide_true, decide_false, bls])) | (refine awp_cond _ rfl (fun hc => ?_) (fun hc => ?_) <;> (try (simp only [decide_eq_true_eq, decide_eq_false_iff_not, cds] at hc)) <;> (try (exfalso; omega))) | (refine awp_skip ?_; (try simp only [sq])) | (refine awp_ret ?_; (try simp only [sq, bk])) | (refine PureAt.use (ht _ (ha2 x hm)) ?_ <;> (try simp only [go_sem])) | (refine orAt_r 10 ?_; (try simp only [go_sem, Nat.reduceLT, Nat.reduceEqDiff, Nat.reduceAdd, ↓reduceIte, bls])) | (refine orAt_l ?_) | (with_reducible apply And.intro) | (refine hK _ ?_; clear hK; (try clear K)))); (all_goals (try ((omega)))))
            ((all_goals (try refine fin_pure (by (try simp only [forall_eq, resOk, List.mem_cons, List.not_mem_nil, or_false])) ?_ (by ((try dsimp only); repeat' ((with_reducible exact .refl _)))))); (all_goals (try simp only [go_sem, ↓reduceIte])))
        · obtain ⟨hn0, hn1⟩ := termE_var hte hv
          rw [hv, if_pos rfl] at h0
          obtain ⟨n, hn⟩ : ∃ n : Nat, x.n = n := ⟨x.n.toNat, by omega⟩
          rw [hn] at h0 hn0 hn1
          rw [Int.toNat_natCast] at h0
          simp only [cTrm, hv, hn] at ht
          have q1 := encIs_at qs (i := n) (by omega)
          have q2 := encIs_len qs (i := n) (by omega)
          have q3 := encIs_set qs (i := n) (by omega) y.kd
          by_cases hz : qs.getD n 0 = 0
          · rw [if_pos hz] at h0
            ((repeat' (first | (refine awp_seq_k (fun K hK => ?_)) | (refine awp_block ?_) | (refine awp_reg _ rfl ?_; (try simp only [go_sem, Nat.reduceLT, Nat.reduceEqDiff, Nat.reduceLeDiff, Nat.reduceAdd, ↓reduceIte, reduceCtorEq, wrap_succ i (by omega), hg, hg2, hv, hn, hk, Option.map_some, Nat.mul_one, q1, q2, q3, hz, ↓pkv, decide_true, decide_false, bls])) | (refine awp_cond _ rfl (fun hc => ?_) (fun hc => ?_) <;> (try (simp only [decide_eq_true_eq, decide_eq_false_iff_not, cds] at hc)) <;> (try (exfalso; omega))) | (refine awp_skip ?_; (try simp only [sq])) | (refine PureAt.use (ht _ (ha2 x hm)) ?_ <;> (try simp only [go_sem])) | (refine orAt_r 10 ?_; (try simp only [go_sem, Nat.reduceLT, Nat.reduceEqDiff, Nat.reduceAdd, ↓reduceIte, bls])) | (refine orAt_l ?_) | (with_reducible apply And.intro) | (refine hK _ ?_; clear hK; (try clear K)))); (all_goals (try ((omega)))))
            refine ⟨(i + 1, qs.set n y.kd), by simp only; omega, ⟨by simp only; omega, by simpa using hql, h0⟩, ?_⟩
            (refine st_le rfl ?_ (by ((try dsimp only); repeat' ((with_reducible exact .refl _)))); (try simp only [go_sem, Nat.reduceEqDiff, ↓reduceIte]))
          · rw [if_neg hz] at h0
            by_cases hkk : qs.getD n 0 = y.kd
            · rw [if_pos hkk] at h0
              have hz2 : ¬ y.kd = 0 := by rw [← hkk]; exact hz
              ((repeat' (first | (refine awp_seq_k (fun K hK => ?_)) | (refine awp_block ?_) | (refine awp_reg _ rfl ?_; (try simp only [go_sem, Nat.reduceLT, Nat.reduceEqDiff, Nat.reduceLeDiff, Nat.reduceAdd, ↓reduceIte, reduceCtorEq, wrap_succ i (by omega), hg, hg2, hv, hn, hk, Option.map_some, Nat.mul_one, q1, q2, hkk, hz2, ↓pkv, decide_false, bls])) | (refine awp_cond _ rfl (fun hc => ?_) (fun hc => ?_) <;> (try (simp only [decide_eq_true_eq, decide_eq_false_iff_not, cds] at hc)) <;> (try (exfalso; omega))) | (refine awp_skip ?_; (try simp only [sq, bk])) | (refine PureAt.use (ht _ (ha2 x hm)) ?_ <;> (try simp only [go_sem])) | (refine orAt_r 10 ?_; (try simp only [go_sem, Nat.reduceLT, Nat.reduceEqDiff, Nat.reduceAdd, ↓reduceIte, bls])) | (refine orAt_l ?_) | (with_reducible apply And.intro) | (refine hK _ ?_; clear hK; (try clear K)))); (all_goals (try ((omega)))))
              refine ⟨(i + 1, qs), by simp only; omega, ⟨by simp only; omega, hql, h0⟩, ?_⟩
              (refine st_le rfl ?_ (by ((try dsimp only); repeat' ((with_reducible exact .refl _)))); (try simp only [go_sem, Nat.reduceEqDiff, ↓reduceIte, reduceCtorEq]))
            · rw [if_neg hkk] at h0
              subst h0
              ((repeat' (first | (refine awp_seq_k (fun K hK => ?_)) | (refine awp_block ?_) | (refine awp_reg _ rfl ?_; (try simp only [go_sem, Nat.reduceLT, Nat.reduceEqDiff, Nat.reduceLeDiff, Nat.reduceAdd, ↓reduceIte, reduceCtorEq, hg, hg2, hv, hn, hk, Option.map_some, Nat.mul_one, q1, q2, hkk, hz, ↓pkv, decide_true, decide_false, bls])) | (refine awp_cond _ rfl (fun hc => ?_) (fun hc => ?_) <;> (try (simp only [decide_eq_true_eq, decide_eq_false_iff_not, cds] at hc)) <;> (try (exfalso; omega))) | (refine awp_skip ?_; (try simp only [sq])) | (refine awp_ret ?_; (try simp only [sq, bk])) | (refine PureAt.use (ht _ (ha2 x hm)) ?_ <;> (try simp only [go_sem])) | (refine orAt_r 10 ?_; (try simp only [go_sem, Nat.reduceLT, Nat.reduceEqDiff, Nat.reduceAdd, ↓reduceIte, bls])) | (refine orAt_l ?_) | (with_reducible apply And.intro) | (refine hK _ ?_; clear hK; (try clear K)))); (all_goals (try ((omega)))))
              ((all_goals (try refine fin_pure (by (try simp only [forall_eq, resOk, List.mem_cons, List.not_mem_nil, or_false])) ?_ (by ((try dsimp only); repeat' ((with_reducible exact .refl _)))))); (all_goals (try simp only [go_sem, ↓reduceIte])))
      · rw [if_neg hte] at h0
        subst h0
        ((repeat' (first | (refine awp_seq_k (fun K hK => ?_)) | (refine awp_block ?_) | (refine awp_reg _ rfl ?_; (try simp only [go_sem, Nat.reduceLT, Nat.reduceEqDiff, Nat.reduceLeDiff, Nat.reduceAdd, ↓reduceIte, hg, hte, decide_true, bls])) | (refine awp_cond _ rfl (fun hc => ?_) (fun hc => ?_) <;> (try (simp only [decide_eq_true_eq, decide_eq_false_iff_not, cds] at hc)) <;> (try (exfalso; omega))) | (refine awp_skip ?_; (try simp only [sq])) | (refine awp_ret ?_; (try simp only [sq, bk])) | (refine PureAt.use (ht _ (ha2 x hm)) ?_ <;> (try simp only [go_sem])) | (refine orAt_r 10 ?_; (try simp only [go_sem, Nat.reduceLT, Nat.reduceEqDiff, Nat.reduceAdd, ↓reduceIte, bls])) | (refine orAt_l ?_) | (with_reducible apply And.intro) | (refine hK _ ?_; clear hK; (try clear K)))); (all_goals (try ((omega)))))
        ((all_goals (try refine fin_pure (by (try simp only [forall_eq, resOk, List.mem_cons, List.not_mem_nil, or_false])) ?_ (by ((try dsimp only); repeat' ((with_reducible exact .refl _)))))); (all_goals (try simp only [go_sem, ↓reduceIte])))
    · obtain rfl : i = a.args.length := by omega
      rw [List.drop_length] at h0
      have : res = (0, qs) := by rw [← h0]; cases r.cols.drop a.args.length <;> rfl
      subst this
      ((repeat' (first | (refine awp_seq_k (fun K hK => ?_)) | (refine awp_reg _ rfl ?_; (try simp only [go_sem, Nat.reduceLT, Nat.reduceEqDiff, ↓reduceIte])) | (refine awp_cond _ rfl (fun hc => ?_) (fun hc => ?_) <;> (try (simp only [decide_eq_true_eq, decide_eq_false_iff_not] at hc)) <;> (try (exfalso; omega))) | (refine awp_exit ?_; (try simp only [sq, bk, ↓reduceIte])) | (refine awp_ret ?_; (try simp only [↓reduceIte, reduceCtorEq])) | (refine hK _ ?_; clear hK; (try clear K)) | (refine kk (by assumption) ?_))))
      ((all_goals (try refine fin_pure (by (try simp only [forall_eq, resOk, List.mem_cons, List.not_mem_nil, or_false])) ?_ (by ((try dsimp only); repeat' ((with_reducible exact .refl _)))))); (all_goals (try simp only [go_sem, ↓reduceIte])))
end Go.Proofs.YtababmnmkmgbbaaGreat
