/-
  A part of the proof: its theorems say what each gives.
-/
import Derived.Test.YtababmnmkmgbbaaGreatKQr
import Derived.Test.YtababmnmkmgbbaaGreatKM25
set_option maxRecDepth 100000
set_option maxHeartbeats 4000000
set_option linter.unusedSimpArgs false
set_option linter.unusedVariables false
namespace Go.Proofs.YtababmnmkmgbbaaGreat
open Go Fw
/-! The reference: environments and bindings; rows of terms. -/
theorem gV_z : gV zV := ⟨by decide, by unfold zV; rw [numV]; exact ⟨by unfold okI; omega, trivial⟩⟩
def envB (x : List Val) : Env := fun n => if 0 ≤ n ∧ n < x.length then (if (x.getD n.toNat zV).k = 0 then none else some (x.getD n.toNat zV)) else none
theorem envB_at {x : List Val} {t : Trm} (h : 0 ≤ t.n ∧ t.n < x.length) : envB x t.n = if (atV x t).k = 0 then none else some (atV x t) := by unfold envB; rw [if_pos h]; rfl
theorem envB_none : envB none24 = fun _ => none := by
  funext n
  unfold envB
  split
  · have : none24.getD n.toNat zV = zV := by unfold none24; rw [List.getD_eq_getElem?_getD, List.getElem?_replicate]; split <;> rfl
    rw [this]; rfl
  · rfl
theorem envB_good {x : List Val} (h : gRow x) : gEnv (envB x) := fun n v hv => by
  unfold envB at hv
  split at hv
  · split at hv
    · cases hv
    · cases hv
      rw [List.getD_eq_getElem?_getD]
      cases e : x[n.toNat]? with
      | none => exact gV_z
      | some v => exact h.at e
  · cases hv
theorem envB_set {x : List Val} {t : Trm} {v : Val} (h : 0 ≤ t.n ∧ t.n < x.length) (hv : v.k ≠ 0) : updE (envB x) t.n v = envB (x.set t.n.toNat v) := by
  funext m
  unfold updE envB
  simp only [List.length_set]
  by_cases e : m = t.n
  · subst e
    rw [if_pos rfl, if_pos h]
    have : (x.set t.n.toNat v).getD t.n.toNat zV = v := by simp [List.getD_eq_getElem?_getD, show t.n.toNat < x.length by omega]
    rw [this, if_neg hv]
  · rw [if_neg e]
    by_cases hm : 0 ≤ m ∧ m < x.length
    · rw [if_pos hm, if_pos hm]
      have : (x.set t.n.toNat v).getD m.toNat zV = x.getD m.toNat zV := by
        rw [List.getD_eq_getElem?_getD, List.getElem?_set, if_neg (by omega), List.getD_eq_getElem?_getD]
      rw [this]
    · rw [if_neg hm, if_neg hm]
theorem fitsE_R : ∀ (l : List Trm) (r : List Val) (x : List Val), (∀ t ∈ l, t.var = true → 0 ≤ t.n ∧ t.n < x.length) → (∀ v ∈ r, v.k ≠ 0) → fitsE (envB x) l r = (fitsR x l r).map envB
  | [], r, x, _, _ => by
    rw [fitsE, fitsR]
    · rfl
    all_goals (intros; simp_all)
  | t :: l, [], x, _, _ => by
    rw [fitsE, fitsR]
    · rfl
    all_goals (intros; simp_all)
  | t :: l, v :: r, x, hv, hk => by
    have hv2 : ∀ t ∈ l, t.var = true → 0 ≤ t.n ∧ t.n < x.length := fun u hu => hv u (List.mem_cons_of_mem _ hu)
    have hk2 : ∀ v ∈ r, v.k ≠ 0 := fun u hu => hk u (List.mem_cons_of_mem _ hu)
    rw [fitsE, fitsR]
    by_cases ht : t.var = true
    · have hr := hv t (List.mem_cons_self ..) ht
      rw [if_pos ht, if_pos ht, envB_at hr]
      by_cases h0 : (atV x t).k = 0
      · rw [if_pos h0, if_pos h0]
        simp only
        rw [envB_set hr (hk v (List.mem_cons_self ..)), fitsE_R l r _ (fun u hu hu2 => by rw [List.length_set]; exact hv2 u hu hu2) hk2]
      · rw [if_neg h0, if_neg h0]
        simp only
        by_cases hc : cmpV (atV x t) v = 0
        · rw [if_pos hc, if_pos hc]; exact fitsE_R l r x hv2 hk2
        · rw [if_neg hc, if_neg hc]; rfl
    · rw [if_neg ht, if_neg ht]
      by_cases hc : cmpV t.v v = 0
      · rw [if_pos hc, if_pos hc]; exact fitsE_R l r x hv2 hk2
      · rw [if_neg hc, if_neg hc]; rfl
theorem c_fitsB (es : MEs) (ec : Nat) (x : List Val) (a : Atm) (row : List Val) (H : Hp) (hE : repM es (envB x)) (hx : gRow x) (ha : gAtm a) (hr : gRow row) (hln : a.args.length = row.length)
    (hv : ∀ t ∈ a.args, t.var = true → 0 ≤ t.n ∧ t.n < x.length) (hk : ∀ v ∈ row, v.k ≠ 0) :
    ACalls Tryz.prog 188 [.mv es ec, cAtm a, cRw row] H fun r H' => H' = H ∧ ((bindR x a row = none ∧ r = .tup [.con (.map none), .con (.bool false)]) ∨
      (∃ y es' c', bindR x a row = some y ∧ repM es' (envB y) ∧ r = .tup [.mv es' c', .con (.bool true)])) :=
  (c_fits es ec (envB x) a row H hE (envB_good hx) ha hr (by omega)).mono fun r H' h => by
    rw [fitsE_R _ _ _ hv hk, ← bindR_fits hln hv] at h
    obtain ⟨h1, ⟨h2, h3⟩ | ⟨E', es', c', h2, h3, h4⟩⟩ := h
    · exact ⟨h1, .inl ⟨Option.map_eq_none_iff.1 h2, h3⟩⟩
    · obtain ⟨y, hy, rfl⟩ := Option.map_eq_some_iff.1 h2
      exact ⟨h1, .inr ⟨y, es', c', hy, h3, h4⟩⟩
def valE (E : Env) (t : Trm) : Val := if t.var = true then (E t.n).getD zV else t.v
theorem c_Under (l : List Trm) (es : MEs) (ec : Nat) (E : Env) (H : Hp) (hl : gTs l) (hE : repM es E) (hb : ∀ t ∈ l, t.var = true → (E t.n).isSome = true) :
    PureAt Tryz.prog 54 [.list (encTs l) none, .mv es ec] H (.list (encVs (l.map (valE E))) none) := by
  obtain ⟨h1, h2⟩ := hl
  have q2 : ∀ k : Int, mOk Tryz.prog 3 (.i k) es = True := fun k => eq_true (mOk_i ty_int3 hE.1 k)
  refine acalls_of (by kernel_rfl) Tryz.func54 rfl 30 Tryz.ntmps54 (by simp) [.tmp 4] rfl ?_
  ((repeat' (first | (refine awp_seq_k (fun K hK => ?_)) | (refine awp_block ?_) | (refine awp_reg _ rfl ?_; (try simp only [go_sem, Nat.reduceLT, Nat.reduceAdd, ↓reduceIte, reduceCtorEq])) | (refine hK _ ?_; clear hK; (try clear K)))))
  refine awp_nilK 5 92 4 [1, 8, 9, 10] (by simp only [keepT_cons, keepT_nil, lk, Nat.reduceEqDiff, ↓reduceIte, reduceCtorEq]; rfl) (by simp only [go_sem, Nat.reduceEqDiff, ↓reduceIte]) (fun t frt => ?_)
  refine awp_loopKT (ι := Nat) rfl [1, 8, 9] (fun i => [(10, .con (.int .i64 (i : Int))), (5, .list (encVs ((l.take i).map (valE E))) (some t))]) (fun i => i) (fun i => i ≤ l.length) (fun i => l.length - i) 0 (by intro; simp only [keepT_cons, keepT_nil, List.cons_append, List.nil_append, lk, Nat.reduceEqDiff, ↓reduceIte]; rfl) (by omega) (by ((simp only [go_sem, Nat.reduceEqDiff, ↓reduceIte]; (repeat' apply And.intro) <;> (exact AV.le.refl _)))) (by (rfl)) ?_
  intro i hi
  rcases Nat.lt_or_ge i l.length with hlt | hge
  · obtain ⟨y, hy, hm⟩ := at_lt hlt
    have hg := encTs_get hy
    have hst : encVs ((l.take (i + 1)).map (valE E)) = encVs ((l.take i).map (valE E)) ++ [cV (valE E y)] := by rw [take_at hy]; simp [encVs]
    have hln : ((l.take i).map (valE E)).length = i := by rw [List.length_map, List.length_take]; omega
    cases hv : y.var
    · have e : valE E y = y.v := by unfold valE; rw [hv]; rfl
      rw [e] at hst
      ((repeat' (first | (refine awp_seq_k (fun K hK => ?_)) | (refine awp_block ?_) | (refine awp_reg _ rfl ?_; (try simp only [go_sem, Nat.reduceLT, Nat.reduceEqDiff, Nat.reduceLeDiff, Nat.reduceAdd, Nat.reduceMul, ↓reduceIte, reduceCtorEq, wrap_succ i (by omega), hg, hln, hv, bls])) | (refine awp_cond _ rfl (fun hc => ?_) (fun hc => ?_) <;> (try (simp only [decide_eq_true_eq, decide_eq_false_iff_not, cds] at hc)) <;> (try (exfalso; omega))) | (refine awp_skip ?_; (try simp only [sq])) | (refine orAt_r 7 ?_; (try simp only [go_sem, Nat.reduceLT, Nat.reduceAdd, ↓reduceIte, bls])) | (refine orAt_l ?_) | (with_reducible apply And.intro) | (refine hK _ ?_; clear hK; (try clear K)))); (all_goals (try (first | omega | decide | (simp only [List.mem_cons, List.not_mem_nil, or_false, forall_eq, AV.cells, List.length_cons, List.length_nil, Nat.reduceAdd]; done)))))
      refine ⟨i + 1, by omega, by omega, ?_⟩
      (refine st_le rfl ?_ (by ((try dsimp only); repeat' (((refine weak_tokeq (by (rfl))))))); (try simp only [go_sem, Nat.reduceEqDiff, ↓reduceIte, hst]))
    · obtain ⟨w, hw⟩ := Option.isSome_iff_exists.1 (hb y hm hv)
      have e : valE E y = w := by unfold valE; rw [hv, if_pos rfl, hw]; rfl
      rw [e] at hst
      have q1 : mget (.i y.n) es = some (cV w) := by rw [hE.2 y.n, hw]; rfl
      ((repeat' (first | (refine awp_seq_k (fun K hK => ?_)) | (refine awp_block ?_) | (refine awp_reg _ rfl ?_; (try simp only [go_sem, Nat.reduceLT, Nat.reduceEqDiff, Nat.reduceLeDiff, Nat.reduceAdd, Nat.reduceMul, ↓reduceIte, reduceCtorEq, wrap_succ i (by omega), hg, hln, hv, q1, q2, bls])) | (refine awp_cond _ rfl (fun hc => ?_) (fun hc => ?_) <;> (try (simp only [decide_eq_true_eq, decide_eq_false_iff_not, cds] at hc)) <;> (try (exfalso; omega))) | (refine awp_skip ?_; (try simp only [sq])) | (refine orAt_r 7 ?_; (try simp only [go_sem, Nat.reduceLT, Nat.reduceAdd, ↓reduceIte, bls])) | (refine orAt_l ?_) | (with_reducible apply And.intro) | (refine hK _ ?_; clear hK; (try clear K)))); (all_goals (try (first | omega | decide | (simp only [List.mem_cons, List.not_mem_nil, or_false, forall_eq, AV.cells, List.length_cons, List.length_nil, Nat.reduceAdd]; done)))))
      refine ⟨i + 1, by omega, by omega, ?_⟩
      (refine st_le rfl ?_ (by ((try dsimp only); repeat' (((refine weak_tokeq (by (rfl))))))); (try simp only [go_sem, Nat.reduceEqDiff, ↓reduceIte, hst]))
  · obtain rfl : i = l.length := by omega
    rw [List.take_length]
    ((repeat' (first | (refine awp_seq_k (fun K hK => ?_)) | (refine awp_reg _ rfl ?_; (try simp only [go_sem, Nat.reduceLT, Nat.reduceEqDiff, Nat.reduceLeDiff, Nat.reduceAdd, ↓reduceIte, reduceCtorEq])) | (refine awp_cond _ rfl (fun hc => ?_) (fun hc => ?_) <;> (try (simp only [decide_eq_true_eq, decide_eq_false_iff_not] at hc)) <;> (try (exfalso; omega))) | (refine awp_exit ?_; (try simp only [sq, bk, ↓reduceIte])) | (refine awp_ret ?_) | (refine hK _ ?_; clear hK; (try clear K)) | (refine kk (by assumption) ?_))))
    (refine fin_le (.list (encVs (l.map (valE E))) none) (H) (by (try simp only [forall_eq, resOk, List.mem_cons, List.not_mem_nil, or_false])) (by (try simp only [go_sem, ↓reduceIte]); (repeat' (first | exact .refl _ | exact AV.le_nil | exact AV.le_emp | exact AV.le_list _ _ | exact AV.le_any _ | exact lec_nil | refine AV.le_aggc rfl ?_ | refine AV.le_tupc rfl ?_ | refine lec_cons ?_ ?_))) (by ((try dsimp only); repeat' (first | with_reducible exact .refl _ | exact fresh.tok (by assumption) | refine weak_tok ?_ ?_))) ⟨rfl, rfl⟩)
end Go.Proofs.YtababmnmkmgbbaaGreat
/-
  A part of the proof: its theorems say what each gives.
-/
set_option maxRecDepth 100000
set_option linter.unusedSimpArgs false
set_option linter.unusedVariables false
namespace Go.Proofs.YtababmnmkmgbbaaGreat
open Go Fw
/-! The reference's answers are cq.Run's, in plain Lean. -/
theorem valE_T {y : List Val} {t : Trm} (h : t.var = true → (0 ≤ t.n ∧ t.n < y.length) ∧ (atV y t).k ≠ 0) : valE (envB y) t = valT y t := by
  unfold valE valT
  by_cases hv : t.var = true
  · obtain ⟨h1, h2⟩ := h hv
    rw [if_pos hv, if_pos hv, envB_at h1, if_neg h2, if_pos h1]; rfl
  · rw [if_neg hv, if_neg hv]
theorem allL_bf {b : List Rel} {l : List Atm} {x : List Val} {ys : List (List Val)} (h : extL b l [x] = some ys) : ys = bfOut b l [x] := by
  rw [extL_eq] at h
  split at h
  · cases h; rfl
  · cases h
theorem under_row {b : List Rel} {q : CQ} (h : cqE b q = 0) {y : List Val} (hy : y ∈ bfOut b q.body [none24]) : q.head.map (valE (envB y)) = q.head.map (valT y) :=
  List.map_congr_left fun t ht => valE_T fun hv => head_bound h y hy t ht hv
end Go.Proofs.YtababmnmkmgbbaaGreat
