/-
  A part of the proof: its theorems say what each gives.
-/
import Derived.Test.YtababmnmkmgbbaaGreatKM26
import Derived.Test.YtababmnmkmgbbaaGreatKFw1
import Derived.Test.YtababmnmkmgbbaaGreatKFw2
import Derived.Test.YtababmnmkmgbbaaGreatKFw3
set_option maxRecDepth 100000
set_option maxHeartbeats 4000000
set_option linter.unusedSimpArgs false
set_option linter.unusedVariables false
namespace Go.Proofs.YtababmnmkmgbbaaGreat
open Go Fw
/-! The reference: an environment is extended. -/
theorem c_fits (es : MEs) (ec : Nat) (E : Env) (a : Atm) (row : List Val) (H : Hp) (hE : repM es E) (hgE : gEnv E) (ha : gAtm a) (hr : gRow row) (hln : a.args.length ≤ row.length) :
    ACalls Tryz.prog 188 [.mv es ec, cAtm a, cRw row] H fun r H' => H' = H ∧ ((fitsE E a.args row = none ∧ r = .tup [.con (.map none), .con (.bool false)]) ∨
      (∃ E' es' c', fitsE E a.args row = some E' ∧ repM es' E' ∧ r = .tup [.mv es' c', .con (.bool true)])) := by
  obtain ⟨ha1, ha2⟩ := ha
  obtain ⟨hr1, hr2⟩ := hr
  generalize hres : fitsE E a.args row = res
  refine acalls_of (by kernel_rfl) Tryz.func188 rfl 63 Tryz.ntmps188 (by simp) [.tmp 6, .tmp 7] rfl ?_
  ((repeat' (first | (refine awp_seq_k (fun K hK => ?_)) | (refine awp_block ?_) | (refine awp_reg _ rfl ?_; (try simp only [go_sem, Nat.reduceLT, Nat.reduceAdd, ↓reduceIte, reduceCtorEq])) | (refine orAt_r 4 ?_) | (refine all_fresh fun id fr => ?_; (try have := NeI.of_fr fr)) | (refine all_stm fun hstm => ?_) | (refine hK _ ?_; clear hK; (try clear K)))))
  obtain ⟨it, hit⟩ : ∃ x, x = id := ⟨_, rfl⟩
  subst hit
  have frI := fr
  clear fr
  obtain ⟨m, hm0⟩ : ∃ x, x = id := ⟨_, rfl⟩
  subst hm0
  have frm := fr
  clear fr
  refine awp_loopKG (ι := MEs × MEs × Nat) [2, 4, 8, 17] (fun q => []) (fun q => ⟨(it, [.mv es ec, .nl (q.1.map (·.2.2)), .con (.int .i64 (ec : Int))]) :: (m, [.mc q.2.1 q.2.2]) :: H.bx, H.tk⟩) (fun q => Cpd es q.1 q.2.1) (fun q => es.length - q.1.length) ([], [], 0) (by intro; simp only [keepT_cons, keepT_nil, List.nil_append, lk, Nat.reduceEqDiff, ↓reduceIte, reduceCtorEq]; rfl) ?_ ?_ ?_ ?_
  · exact Cpd.nil es
  · trivial
  · exact .refl _
  rintro ⟨l, e1, c1⟩ hC
  simp only at hC
  have hne : ¬ it = m := fun e => (fresh_box frI).1 e.symm
  have q2 : ∀ k : Int, mOk Tryz.prog 3 (.i k) e1 = True := fun k => eq_true (mOk_i ty_int3 hC.al k)
  ((repeat' (first | (refine awp_seq_k (fun K hK => ?_)) | (refine awp_reg _ rfl ?_; (try simp only [go_sem, Nat.reduceLT, Nat.reduceEqDiff, Nat.reduceAdd, ↓reduceIte])) | (with_reducible apply And.intro))))
  · intro hall
    have hrep := hC.rep hstm hall hE
    clear q2
    ((repeat' (first | (refine awp_seq_k (fun K hK => ?_)) | (refine awp_block ?_) | (refine awp_reg _ rfl ?_; (try simp only [go_sem, Nat.reduceLT, Nat.reduceEqDiff, Nat.reduceLeDiff, Nat.reduceAdd, ↓reduceIte, reduceCtorEq, bls])) | (refine awp_cond _ rfl (fun hc => ?_) (fun hc => ?_) <;> (try (simp only [cds] at hc))) | (refine awp_exit ?_; (try simp only [sq, bk, ↓reduceIte])) | (refine hK _ ?_; clear hK; (try clear K)) | (refine kk (by assumption) ?_))))
    refine awp_loopKG (ι := Nat × Env × MEs × Nat) [2, 8, 27, 28] (fun q => [(29, .con (.int .i64 (q.1 : Int)))]) (fun q => ⟨(m, [.mc q.2.2.1 q.2.2.2]) :: H.bx, H.tk⟩) (fun q => q.1 ≤ a.args.length ∧ repM q.2.2.1 q.2.1 ∧ gEnv q.2.1 ∧ fitsE q.2.1 (a.args.drop q.1) (row.drop q.1) = res) (fun q => a.args.length - q.1) (0, E, e1, c1) (by intro; simp only [keepT_cons, keepT_nil, List.cons_append, List.nil_append, lk, Nat.reduceEqDiff, ↓reduceIte]; rfl) ?_ ?_ ?_ ?_
    · exact ⟨by omega, hrep, hgE, by simpa using hres⟩
    · simp only [go_sem, Nat.reduceEqDiff, ↓reduceIte]
    · exact weak_box (by show Hp.box ⟨(m, _) :: H.bx, H.tk⟩ it = none; rw [box_cons, if_neg (Ne.symm hne)]; exact (fresh_box frI).2.1) (.refl _)
    clear hC hE hgE hrep hall
    rintro ⟨i, E, es1, c1⟩ ⟨hi, hrep, hgE, h0⟩
    simp only at hi hrep hgE h0
    rcases Nat.lt_or_ge i a.args.length with hlt | hge
    rotate_left
    · obtain rfl : i = a.args.length := by omega
      rw [List.drop_length, fitsE] at h0
      rotate_left
      · intro _ _ _ _ e; cases e
      subst h0
      refine awp_freezeMp 8 m [28, 29] (by simp only [keepT_cons, keepT_nil, lk, Nat.reduceEqDiff, ↓reduceIte]; rfl) (by simp only [go_sem, Nat.reduceEqDiff, ↓reduceIte]) rfl frm.1 ?_
      ((repeat' (first | (refine awp_seq_k (fun K hK => ?_)) | (refine awp_reg _ rfl ?_; (try simp only [go_sem, Nat.reduceLT, Nat.reduceEqDiff, ↓reduceIte])) | (refine awp_cond _ rfl (fun hc => ?_) (fun hc => ?_) <;> (try (simp only [decide_eq_true_eq, decide_eq_false_iff_not] at hc)) <;> (try (exfalso; omega))) | (refine awp_exit ?_; (try simp only [sq, bk, ↓reduceIte])) | (refine awp_ret ?_; (try simp only [reduceCtorEq])) | (refine hK _ ?_; clear hK; (try clear K)) | (refine kk (by assumption) ?_))))
      refine fin_any (x := .tup [.mv es1 c1, .con (.bool true)]) (H := H) (by (try simp only [forall_eq, resOk, List.mem_cons, List.not_mem_nil, or_false, forall_eq_or_imp, and_self])) (by (try simp only [go_sem, Nat.reduceEqDiff, ↓reduceIte])) (by ((try dsimp only); repeat' ((with_reducible exact .refl _)))) ?_
      exact ⟨by trivial, .inr ⟨E, es1, c1, rfl, hrep, rfl⟩⟩
    obtain ⟨y, hy, hm⟩ := at_lt hlt
    obtain ⟨v, hv, hvm⟩ := at_lt (show i < row.length by omega)
    have hg := encTs_get hy
    have hg2 := encVs_at hv
    have q2 : ∀ k : Int, mOk Tryz.prog 3 (.i k) es1 = True := fun k => eq_true (mOk_i ty_int3 hrep.1 k)
    rw [drop_at hy, drop_at hv, fitsE] at h0
    cases hb : y.var
    · simp only [hb, Bool.false_eq_true, if_false] at h0
      have hcm := fun H => c_SameV y.v v H (ha2 y hm).v.z (hr2 v hvm).z
      by_cases hz : cmpV y.v v = 0
      · rw [if_pos hz] at h0
        ((repeat' (first | (refine awp_seq_k (fun K hK => ?_)) | (refine awp_block ?_) | (refine awp_reg _ rfl ?_; (try simp only [go_sem, Nat.reduceLT, Nat.reduceEqDiff, Nat.reduceLeDiff, Nat.reduceAdd, ↓reduceIte, reduceCtorEq, wrap_succ i (by omega), hg, hb, bls])) | (refine awp_drawn2 (by kernel_rfl) (by kernel_rfl) ?_; (try simp only [go_sem, Nat.reduceLT, Nat.reduceEqDiff, Nat.reduceLeDiff, Nat.reduceAdd, ↓reduceIte, hg2])) | (refine awp_cond _ rfl (fun hc => ?_) (fun hc => ?_) <;> (try (simp only [decide_eq_true_eq, decide_eq_false_iff_not, cds] at hc)) <;> (try (exfalso; omega))) | (refine awp_skip ?_; (try simp only [sq, bk])) | (refine ⟨_, hcm _, ?_⟩ <;> (try simp only [go_sem, hz, decide_true, bls])) | (refine orAt_r 12 ?_; (try simp only [go_sem, Nat.reduceLT, Nat.reduceEqDiff, Nat.reduceAdd, ↓reduceIte, bls])) | (refine orAt_l ?_) | (with_reducible apply And.intro) | (refine all_fresh fun id fr => ?_; (try have := NeI.of_fr fr)) | (refine hK _ ?_; clear hK; (try clear K)))); (all_goals (try ((omega)))))
        refine ⟨(i + 1, E, es1, c1), by simp only; omega, ⟨by simp only; omega, hrep, hgE, h0⟩, ?_⟩
        (refine st_le rfl ?_ (by ((try dsimp only); repeat' (first | with_reducible exact .refl _ | exact box_fresh (by assumption) | refine weak_box ?_ ?_))); (try simp only [go_sem, Nat.reduceEqDiff, ↓reduceIte, reduceCtorEq]))
      · rw [if_neg hz] at h0
        subst h0
        ((repeat' (first | (refine awp_seq_k (fun K hK => ?_)) | (refine awp_block ?_) | (refine awp_reg _ rfl ?_; (try simp only [go_sem, Nat.reduceLT, Nat.reduceEqDiff, Nat.reduceLeDiff, Nat.reduceAdd, ↓reduceIte, reduceCtorEq, hg, hb, bls])) | (refine awp_drawn2 (by kernel_rfl) (by kernel_rfl) ?_; (try simp only [go_sem, Nat.reduceLT, Nat.reduceEqDiff, Nat.reduceLeDiff, Nat.reduceAdd, ↓reduceIte, hg2])) | (refine awp_cond _ rfl (fun hc => ?_) (fun hc => ?_) <;> (try (simp only [decide_eq_true_eq, decide_eq_false_iff_not, cds] at hc)) <;> (try (exfalso; omega))) | (refine awp_skip ?_; (try simp only [sq])) | (refine awp_ret ?_; (try simp only [sq, bk, reduceCtorEq])) | (refine ⟨_, hcm _, ?_⟩ <;> (try simp only [go_sem, hz, decide_false, bls])) | (refine orAt_r 12 ?_; (try simp only [go_sem, Nat.reduceLT, Nat.reduceEqDiff, Nat.reduceAdd, ↓reduceIte, bls])) | (refine orAt_l ?_) | (with_reducible apply And.intro) | (refine all_fresh fun id fr => ?_; (try have := NeI.of_fr fr)) | (refine hK _ ?_; clear hK; (try clear K)))); (all_goals (try ((omega)))))
        refine fin_any (x := .tup [.con (.map none), .con (.bool false)]) (H := H) (by (try simp only [forall_eq, resOk, List.mem_cons, List.not_mem_nil, or_false, forall_eq_or_imp, and_self])) (by (try simp only [go_sem, Nat.reduceEqDiff, ↓reduceIte])) (by ((try dsimp only); repeat' (first | with_reducible exact .refl _ | exact box_fresh (by assumption) | exact box_fr (fr_drop (by assumption)) | refine weak_box ?_ ?_))) ?_
        exact ⟨by trivial, .inl ⟨by trivial, rfl⟩⟩
    · simp only [hb, if_true] at h0
      cases hEn : E y.n with
      | none =>
        rw [hEn] at h0
        simp only at h0
        have q1 : mget (.i y.n) es1 = none := by rw [hrep.2 y.n, hEn]; rfl
        have hrep2 := repM_set (c := c1) hrep y.n v
        have hgE2 := gEnv_upd hgE (n := y.n) (hr2 v hvm)
        ((repeat' (first | (refine awp_mixed (id := 13) [0, 1, 2, 3, 4, 5, 6, 7] [7] [(7, [])] (by kernel_rfl) (by kernel_rfl) ?_; (try simp only [go_sem, Nat.reduceLT, Nat.reduceEqDiff, Nat.reduceLeDiff, Nat.reduceAdd, ↓reduceIte, reduceCtorEq, hg2, q2, bls])) | (refine awp_seq_k (fun K hK => ?_)) | (refine awp_block ?_) | (refine awp_reg _ rfl ?_; (try simp only [go_sem, Nat.reduceLT, Nat.reduceEqDiff, Nat.reduceLeDiff, Nat.reduceAdd, ↓reduceIte, reduceCtorEq, wrap_succ i (by omega), hg, hb, q1, q2, bls])) | (refine awp_cond _ rfl (fun hc => ?_) (fun hc => ?_) <;> (try (simp only [decide_eq_true_eq, decide_eq_false_iff_not, cds] at hc)) <;> (try (exfalso; omega))) | (refine awp_skip ?_; (try simp only [sq])) | (refine orAt_r 12 ?_; (try simp only [go_sem, Nat.reduceLT, Nat.reduceEqDiff, Nat.reduceAdd, ↓reduceIte, bls])) | (refine orAt_l ?_) | (with_reducible apply And.intro) | (refine all_fresh fun id fr => ?_; (try have := NeI.of_fr fr)) | (refine hK _ ?_; clear hK; (try clear K)))); (all_goals (try ((omega)))))
        refine ⟨(i + 1, updE E y.n v, mset (.i y.n) (cV v) c1 es1, mclk (.i y.n) c1 es1), by simp only; omega, ⟨by simp only; omega, hrep2, hgE2, h0⟩, ?_⟩
        (refine st_le rfl ?_ (by ((try dsimp only); repeat' (first | with_reducible exact .refl _ | ((simp only [box_cons, ne_inst', ↓reduceIte]); ((exact box_fr (fr_drop (by assumption))))) | refine weak_box ?_ ?_))); (try simp only [go_sem, Nat.reduceEqDiff, ↓reduceIte]))
      | some w =>
        rw [hEn] at h0
        simp only at h0
        have q1 : mget (.i y.n) es1 = some (cV w) := by rw [hrep.2 y.n, hEn]; rfl
        have hcm := fun H => c_SameV w v H (hgE _ _ hEn).z (hr2 v hvm).z
        by_cases hz : cmpV w v = 0
        · rw [if_pos hz] at h0
          ((repeat' (first | (refine awp_seq_k (fun K hK => ?_)) | (refine awp_block ?_) | (refine awp_reg _ rfl ?_; (try simp only [go_sem, Nat.reduceLT, Nat.reduceEqDiff, Nat.reduceLeDiff, Nat.reduceAdd, ↓reduceIte, reduceCtorEq, wrap_succ i (by omega), hg, hb, q1, q2, bls])) | (refine awp_drawn2 (by kernel_rfl) (by kernel_rfl) ?_; (try simp only [go_sem, Nat.reduceLT, Nat.reduceEqDiff, Nat.reduceLeDiff, Nat.reduceAdd, ↓reduceIte, hg2])) | (refine awp_cond _ rfl (fun hc => ?_) (fun hc => ?_) <;> (try (simp only [decide_eq_true_eq, decide_eq_false_iff_not, cds] at hc)) <;> (try (exfalso; omega))) | (refine awp_skip ?_; (try simp only [sq, bk])) | (refine ⟨_, hcm _, ?_⟩ <;> (try simp only [go_sem, hz, decide_true, bls])) | (refine orAt_r 12 ?_; (try simp only [go_sem, Nat.reduceLT, Nat.reduceEqDiff, Nat.reduceAdd, ↓reduceIte, bls])) | (refine orAt_l ?_) | (with_reducible apply And.intro) | (refine all_fresh fun id fr => ?_; (try have := NeI.of_fr fr)) | (refine hK _ ?_; clear hK; (try clear K)))); (all_goals (try ((omega)))))
          refine ⟨(i + 1, E, es1, c1), by simp only; omega, ⟨by simp only; omega, hrep, hgE, h0⟩, ?_⟩
          (refine st_le rfl ?_ (by ((try dsimp only); repeat' (first | with_reducible exact .refl _ | exact box_fresh (by assumption) | refine weak_box ?_ ?_))); (try simp only [go_sem, Nat.reduceEqDiff, ↓reduceIte, reduceCtorEq]))
        · rw [if_neg hz] at h0
          subst h0
          ((repeat' (first | (refine awp_seq_k (fun K hK => ?_)) | (refine awp_block ?_) | (refine awp_reg _ rfl ?_; (try simp only [go_sem, Nat.reduceLT, Nat.reduceEqDiff, Nat.reduceLeDiff, Nat.reduceAdd, ↓reduceIte, reduceCtorEq, hg, hb, q1, q2, bls])) | (refine awp_drawn2 (by kernel_rfl) (by kernel_rfl) ?_; (try simp only [go_sem, Nat.reduceLT, Nat.reduceEqDiff, Nat.reduceLeDiff, Nat.reduceAdd, ↓reduceIte, hg2])) | (refine awp_cond _ rfl (fun hc => ?_) (fun hc => ?_) <;> (try (simp only [decide_eq_true_eq, decide_eq_false_iff_not, cds] at hc)) <;> (try (exfalso; omega))) | (refine awp_skip ?_; (try simp only [sq])) | (refine awp_ret ?_; (try simp only [sq, bk, reduceCtorEq])) | (refine ⟨_, hcm _, ?_⟩ <;> (try simp only [go_sem, hz, decide_false, bls])) | (refine orAt_r 12 ?_; (try simp only [go_sem, Nat.reduceLT, Nat.reduceEqDiff, Nat.reduceAdd, ↓reduceIte, bls])) | (refine orAt_l ?_) | (with_reducible apply And.intro) | (refine all_fresh fun id fr => ?_; (try have := NeI.of_fr fr)) | (refine hK _ ?_; clear hK; (try clear K)))); (all_goals (try ((omega)))))
          refine fin_any (x := .tup [.con (.map none), .con (.bool false)]) (H := H) (by (try simp only [forall_eq, resOk, List.mem_cons, List.not_mem_nil, or_false, forall_eq_or_imp, and_self])) (by (try simp only [go_sem, Nat.reduceEqDiff, ↓reduceIte])) (by ((try dsimp only); repeat' (first | with_reducible exact .refl _ | exact box_fresh (by assumption) | exact box_fr (fr_drop (by assumption)) | refine weak_box ?_ ?_))) ?_
          exact ⟨by trivial, .inl ⟨by trivial, rfl⟩⟩
  · intro e he hns hfe
    obtain ⟨k, x, st⟩ := e
    obtain ⟨n, hn⟩ := hE.1 _ he
    simp only at hn
    subst hn
    have hx := mget_mem hstm.1 he
    rw [hE.2 n] at hx
    obtain ⟨w, hw, hwx⟩ := Option.map_eq_some_iff.1 hx
    simp only at hwx
    subst hwx
    simp only at hfe hns
    have hst := hC.step (c1 := c1) hstm hE.1 he hns
    have hsl := hst.len
    rw [List.length_append, List.length_singleton] at hsl
    simp only at hst
    ((repeat' (first | (refine awp_seq_k (fun K hK => ?_)) | (refine awp_block ?_) | (refine awp_reg _ rfl ?_; (try simp only [go_sem, Nat.reduceLT, Nat.reduceEqDiff, Nat.reduceLeDiff, Nat.reduceAdd, ↓reduceIte, hne, q2, hfe, bls])) | (refine awp_cond _ rfl (fun hc => ?_) (fun hc => ?_) <;> (try (simp only [cds] at hc))) | (refine awp_skip ?_; (try simp only [sq])) | (refine orAt_r 10 ?_; (try simp only [go_sem, Nat.reduceLT, Nat.reduceEqDiff, Nat.reduceAdd, ↓reduceIte, bls])) | (refine hK _ ?_; clear hK; (try clear K)))))
    refine ⟨(l ++ [(.i n, cV w, st)], mset (.i n) (cV w) c1 e1, mclk (.i n) c1 e1), by simp only [List.length_append, List.length_singleton]; omega, hst, ?_⟩
    (refine st_le rfl ?_ (by ((try dsimp only); (try simp only [List.map_append, List.map_cons, List.map_nil,  ]); repeat' ((with_reducible exact .refl _)))); (try simp only [go_sem, Nat.reduceEqDiff, ↓reduceIte]))
end Go.Proofs.YtababmnmkmgbbaaGreat
