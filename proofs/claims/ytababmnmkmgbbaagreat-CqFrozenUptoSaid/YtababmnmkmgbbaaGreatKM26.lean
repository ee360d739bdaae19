/-
  A part of the proof: its theorems say what each gives.
-/
import Derived.Test.YtababmnmkmgbbaaGreatKM22
import Derived.Test.YtababmnmkmgbbaaGreatKM23
set_option maxRecDepth 100000
set_option maxHeartbeats 4000000
set_option linter.unusedSimpArgs false
set_option linter.unusedVariables false
namespace Go.Proofs.YtababmnmkmgbbaaGreat
open Go Fw
/-! The reference: checks. -/
theorem c_zero (v : Val) (H : Hp) (h : sizeV v ≤ 4611686018427387904) : PureAt Tryz.prog 219 [cV v] H (.con (.bool (decide (cmpV v zV = 0)))) := by
  refine acalls_of (by kernel_rfl) Tryz.func219 rfl 6 Tryz.ntmps219 (by simp) [.tmp 2] rfl ?_
  ((repeat' (first | (refine awp_seq_k (fun K hK => ?_)) | (refine awp_reg _ rfl ?_; (try simp only [go_sem, Nat.reduceLT, Nat.reduceEqDiff, Nat.reduceLeDiff, Nat.reduceAdd, ↓reduceIte])) | (refine awp_ret ?_) | (refine PureAt.use (c_SameZ v _ h) ?_ <;> (try simp only [go_sem])) | (refine orAt_r 1 ?_) | (refine orAt_l ?_) | (refine hK _ ?_; clear hK; (try clear K)))))
  ((all_goals (try refine fin_pure (by (try simp only [forall_eq, resOk, List.mem_cons, List.not_mem_nil, or_false])) ?_ (by ((try dsimp only); repeat' ((with_reducible exact .refl _)))))); (all_goals (try simp only [go_sem, ↓reduceIte])))
theorem c_IndexI (l : List Int) (v : Int) (H : Hp) (hn : l.length ≤ 4611686018427387904) : PureAt Tryz.prog 342 [.list (encIs l) none, .con (.int .i64 v)] H (.con (.int .i64 (idxL (fun x => decide (v = x)) l))) := by
  refine acalls_of (by kernel_rfl) Tryz.func342 rfl 19 Tryz.ntmps342 (by simp) [.tmp 4] rfl ?_
  ((repeat' (first | (refine awp_seq_k (fun K hK => ?_)) | (refine awp_block ?_) | (refine awp_reg _ rfl ?_; (try simp only [go_sem, Nat.reduceLT, Nat.reduceAdd, ↓reduceIte, reduceCtorEq])) | (refine hK _ ?_; clear hK; (try clear K)))))
  refine awp_loopKH (ι := Nat) [0, 1, 7] (fun i => [(8, .con (.int .i64 (i : Int)))]) (fun i => i ≤ l.length ∧ ∀ y ∈ l.take i, decide (v = y) = false) (fun i => l.length - i) 0 (by intro; simp only [keepT_cons, keepT_nil, List.cons_append, List.nil_append, lk, Nat.reduceEqDiff, ↓reduceIte, reduceCtorEq]; rfl) ⟨by omega, by simp⟩ (by ((simp only [go_sem, ↓reduceIte]; done))) ?_
  intro i ⟨hi, h0⟩
  rcases Nat.lt_or_ge i l.length with hlt | hge
  · obtain ⟨x, hx, hm⟩ := at_lt hlt
    have hg : (encIs l).getD i .any = .con (.int .i64 x) := by simp [encIs, List.getD_eq_getElem?_getD, hx]
    have hcl : ((encIs l).getD i .any).cells.length = 1 := by rw [hg]; rfl
    cases hv : decide (v = x)
    · have hv2 : (v = x) = False := eq_false (of_decide_eq_false hv)
      ((repeat' (first | (refine awp_seq_k (fun K hK => ?_)) | (refine awp_block ?_) | (refine awp_reg _ rfl ?_; (try simp only [go_sem, Nat.reduceLT, Nat.reduceEqDiff, Nat.reduceLeDiff, Nat.reduceAdd, ↓reduceIte, reduceCtorEq, wrap_succ i (by omega), hg, hv2])) | (refine awp_cond _ rfl (fun hc => ?_) (fun hc => ?_) <;> (try (simp only [decide_eq_true_eq, decide_eq_false_iff_not] at hc)) <;> (try (exfalso; omega))) | (refine awp_skip ?_; (try simp only [sq, bk])) | (with_reducible apply And.intro) | (refine hK _ ?_; clear hK; (try clear K)))); (all_goals (try ((omega)))))
      have h1 := take_step hx hv h0
      refine ⟨i + 1, by omega, ⟨by omega, by assumption⟩, ?_⟩
      (refine st_le rfl ?_ (by ((try dsimp only); repeat' ((with_reducible exact .refl _)))); (try simp only [go_sem, Nat.reduceEqDiff, ↓reduceIte, reduceCtorEq]))
    · have hv2 : (v = x) = True := eq_true (of_decide_eq_true hv)
      ((repeat' (first | (refine awp_seq_k (fun K hK => ?_)) | (refine awp_block ?_) | (refine awp_reg _ rfl ?_; (try simp only [go_sem, Nat.reduceLT, Nat.reduceEqDiff, Nat.reduceLeDiff, Nat.reduceAdd, ↓reduceIte, reduceCtorEq, hg, hv2])) | (refine awp_cond _ rfl (fun hc => ?_) (fun hc => ?_) <;> (try (simp only [decide_eq_true_eq, decide_eq_false_iff_not, cds] at hc)) <;> (try (exfalso; omega))) | (refine awp_skip ?_; (try simp only [sq])) | (refine awp_ret ?_; (try simp only [sq, bk])) | (with_reducible apply And.intro) | (refine hK _ ?_; clear hK; (try clear K)))); (all_goals (try ((omega)))))
      rw [idxL_hit hx hv h0]
      ((all_goals (try refine fin_pure (by (try simp only [forall_eq, resOk, List.mem_cons, List.not_mem_nil, or_false])) ?_ (by ((try dsimp only); repeat' ((with_reducible exact .refl _)))))); (all_goals (try simp only [go_sem, ↓reduceIte])))
  · obtain rfl : i = l.length := by omega
    rw [List.take_length] at h0
    ((repeat' (first | (refine awp_seq_k (fun K hK => ?_)) | (refine awp_reg _ rfl ?_; (try simp only [go_sem, Nat.reduceLT, Nat.reduceEqDiff, Nat.reduceLeDiff, Nat.reduceAdd, ↓reduceIte, reduceCtorEq])) | (refine awp_cond _ rfl (fun hc => ?_) (fun hc => ?_) <;> (try (simp only [decide_eq_true_eq, decide_eq_false_iff_not] at hc)) <;> (try (exfalso; omega))) | (refine awp_exit ?_; (try simp only [sq, bk, ↓reduceIte])) | (refine awp_ret ?_) | (refine hK _ ?_; clear hK; (try clear K)) | (refine kk (by assumption) ?_))))
    ((all_goals (try refine fin_pure (by (try simp only [forall_eq, resOk, List.mem_cons, List.not_mem_nil, or_false])) ?_ (by ((try dsimp only); repeat' ((with_reducible exact .refl _)))))); (all_goals (try simp only [go_sem, ↓reduceIte, idxL_miss h0])))
theorem c_HasI (l : List Int) (v : Int) (H : Hp) (hn : l.length ≤ 4611686018427387904) : PureAt Tryz.prog 293 [.list (encIs l) none, .con (.int .i64 v)] H (.con (.bool (l.any fun x => decide (v = x)))) := by
  refine acalls_of (by kernel_rfl) Tryz.func293 rfl 9 Tryz.ntmps293 (by simp) [.tmp 4] rfl ?_
  ((repeat' (first | (refine awp_seq_k (fun K hK => ?_)) | (refine awp_reg _ rfl ?_; (try simp only [go_sem, Nat.reduceLT, Nat.reduceEqDiff, Nat.reduceAdd, ↓reduceIte, reduceCtorEq])) | (refine awp_ret ?_) | (refine PureAt.use (c_IndexI l v _ hn) ?_ <;> (try simp only [go_sem, Nat.reduceLT, ↓reduceIte])) | (refine orAt_l ?_) | (refine hK _ ?_; clear hK; (try clear K)))))
  ((all_goals (try refine fin_pure (by (try simp only [forall_eq, resOk, List.mem_cons, List.not_mem_nil, or_false])) ?_ (by ((try dsimp only); repeat' ((with_reducible exact .refl _)))))); (all_goals (try simp only [go_sem, ↓reduceIte, idxL_any])))
theorem plain_eq (k : Int) : ([1, 2, 3, 4, 5] : List Int).any (fun x => decide (k = x)) = (decide (1 ≤ k) && decide (k ≤ 5)) := by
  simp only [List.any_cons, List.any_nil, Bool.or_false]
  rw [Bool.eq_iff_iff]
  simp
  omega
theorem c_plain (k : Int) (H : Hp) : PureAt Tryz.prog 220 [.con (.int .i64 k)] H (.con (.bool (decide (1 ≤ k) && decide (k ≤ 5)))) := by
  have h := fun H => c_HasI [1, 2, 3, 4, 5] k H (by decide)
  simp only [plain_eq] at h
  refine acalls_of (by kernel_rfl) Tryz.func220 rfl 6 Tryz.ntmps220 (by simp) [.tmp 2] rfl ?_
  ((repeat' (first | (refine awp_seq_k (fun K hK => ?_)) | (refine awp_reg _ rfl ?_; (try simp only [go_sem, Nat.reduceLT, Nat.reduceEqDiff, Nat.reduceLeDiff, Nat.reduceAdd, Nat.reduceMul, ↓reduceIte, reduceCtorEq])) | (refine awp_ret ?_) | (refine PureAt.use (h _) ?_ <;> (try simp only [go_sem])) | (refine orAt_l ?_) | (with_reducible apply And.intro) | (refine hK _ ?_; clear hK; (try clear K)))); (all_goals (try ((decide)))))
  ((all_goals (try refine fin_pure (by (try simp only [forall_eq, resOk, List.mem_cons, List.not_mem_nil, or_false])) ?_ (by ((try dsimp only); repeat' ((with_reducible exact .refl _)))))); (all_goals (try simp only [go_sem, ↓reduceIte])))
theorem c_relOf1 (r : Rel) (nm : ByteArray) (H : Hp) : PureAt Tryz.prog 198 [cRel r, .ro [.con (.string nm)]] H (.con (.bool (decide (r.nm = nm)))) := by
  refine acalls_of (by kernel_rfl) Tryz.func198 rfl 8 Tryz.ntmps198 (by simp) [.tmp 3] rfl ?_
  ((repeat' (first | (refine awp_seq_k (fun K hK => ?_)) | (refine awp_reg _ rfl ?_; (try simp only [go_sem, Nat.reduceLT, Nat.reduceEqDiff, Nat.reduceLeDiff, Nat.reduceAdd, ↓reduceIte, reduceCtorEq])) | (refine awp_ret ?_) | (refine orAt_r 2 ?_) | (refine hK _ ?_; clear hK; (try clear K)))))
  ((all_goals (try refine fin_pure (by (try simp only [forall_eq, resOk, List.mem_cons, List.not_mem_nil, or_false])) ?_ (by ((try dsimp only); repeat' ((with_reducible exact .refl _)))))); (all_goals (try simp only [go_sem, ↓reduceIte])))
theorem c_relOf (b : List Rel) (nm : ByteArray) (H : Hp) (h : gBase b) : PureAt Tryz.prog 93 [.list (encRels b) none, .con (.string nm)] H (.tup [cRel ((findR b nm).getD zRel), .con (.bool (findR b nm).isSome)]) := by
  have h1 := h.1
  have hx := fun H => c_IdxRel b 198 [.ro [.con (.string nm)]] (fun r => decide (r.nm = nm)) H (by omega) (fun r _ => c_relOf1 r nm _)
  by_cases h0 : 0 ≤ idxL (fun r : Rel => decide (r.nm = nm)) b
  · obtain ⟨r, e1, e2⟩ := idxL_get h0
    have e3 : findR b nm = some r := e2
    rw [e3]
    obtain ⟨n, hn⟩ : ∃ n : Nat, idxL (fun r : Rel => decide (r.nm = nm)) b = n := ⟨_, (Int.toNat_of_nonneg h0).symm⟩
    rw [hn, Int.toNat_natCast] at e1
    obtain ⟨hlt, _⟩ := List.getElem?_eq_some_iff.1 e1
    rw [hn] at hx
    have hg := encRels_get e1
    have hn2 : ((n : Int) < 0) = False := eq_false (by omega)
    refine acalls_of (by kernel_rfl) Tryz.func93 rfl 17 Tryz.ntmps93 (by simp) [.cell 4 103, .tmp 5] rfl ?_
    ((repeat' (first | (refine awp_seq_k (fun K hK => ?_)) | (refine awp_reg _ rfl ?_; (try simp only [go_sem, Nat.reduceLT, Nat.reduceEqDiff, Nat.reduceLeDiff, Nat.reduceAdd, ↓reduceIte, reduceCtorEq, hg, hn2, decide_false, bls])) | (refine awp_cond _ rfl (fun hc => ?_) (fun hc => ?_) <;> (try (simp only [cds] at hc))) | (refine awp_skip ?_; (try simp only [sq])) | (refine awp_ret ?_) | (refine PureAt.use (hx _) ?_ <;> (try simp only [go_sem])) | (refine orAt_r 3 ?_) | (refine orAt_l ?_) | (with_reducible apply And.intro) | (refine all_fresh fun id fr => ?_) | (refine hK _ ?_; clear hK; (try clear K)))); (all_goals (try ((omega)))))
    (refine fin_le (.tup [cRel r, .con (.bool true)]) (H) (by (try simp only [forall_eq, resOk, List.mem_cons, List.not_mem_nil, or_false, forall_eq_or_imp]); (try simp only [go_sem, Nat.reduceEqDiff, Nat.reduceLeDiff, Nat.reduceAdd, ↓reduceIte])) (by (try simp only [go_sem, Nat.reduceEqDiff, ↓reduceIte]); (repeat' (first | exact .refl _ | exact AV.le_nil | exact AV.le_emp | exact AV.le_list _ _ | exact AV.le_any _ | exact lec_nil | refine AV.le_aggc rfl ?_ | refine AV.le_tupc rfl ?_ | refine lec_cons ?_ ?_))) (by ((try dsimp only); repeat' (first | with_reducible exact .refl _ | exact box_fresh (by assumption) | refine weak_box ?_ ?_))) ⟨rfl, rfl⟩)
  · have e3 : findR b nm = none := by
      unfold findR
      have := idxL_any (fun r : Rel => decide (r.nm = nm)) b
      rw [decide_eq_false h0] at this
      rw [List.find?_eq_none]
      intro x hx
      have h2 := List.any_eq_false.1 this.symm x hx
      simpa using h2
    have hn2 : (idxL (fun r : Rel => decide (r.nm = nm)) b < 0) = True := eq_true (by omega)
    rw [e3]
    refine acalls_of (by kernel_rfl) Tryz.func93 rfl 17 Tryz.ntmps93 (by simp) [.cell 4 103, .tmp 5] rfl ?_
    ((repeat' (first | (refine awp_seq_k (fun K hK => ?_)) | (refine awp_reg _ rfl ?_; (try simp only [go_sem, Nat.reduceLT, Nat.reduceEqDiff, Nat.reduceLeDiff, Nat.reduceAdd, ↓reduceIte, reduceCtorEq, hn2, decide_true, bls])) | (refine awp_cond _ rfl (fun hc => ?_) (fun hc => ?_) <;> (try (simp only [cds] at hc))) | (refine awp_ret ?_; (try simp only [sq])) | (refine PureAt.use (hx _) ?_ <;> (try simp only [go_sem])) | (refine orAt_r 3 ?_) | (refine orAt_l ?_) | (refine all_fresh fun id fr => ?_) | (refine hK _ ?_; clear hK; (try clear K)))))
    (refine fin_le (.tup [cRel zRel, .con (.bool false)]) (H) (by (try simp only [forall_eq, resOk, List.mem_cons, List.not_mem_nil, or_false, forall_eq_or_imp]); (try simp only [go_sem, Nat.reduceEqDiff, Nat.reduceLeDiff, Nat.reduceAdd, ↓reduceIte])) (by (try simp only [go_sem, Nat.reduceEqDiff, ↓reduceIte]); (repeat' (first | exact .refl _ | exact AV.le_nil | refine AV.le_aggc rfl ?_ | refine AV.le_tupc rfl ?_ | refine lec_cons ?_ ?_))) (by ((try dsimp only); repeat' (first | with_reducible exact .refl _ | exact box_fresh (by assumption) | refine weak_box ?_ ?_))) ⟨rfl, rfl⟩)
theorem c_termFault (t : Trm) (H : Hp) (h : gTrm t) : PureAt Tryz.prog 122 [cTrm t] H (.con (.int .i64 (termE t))) := by
  obtain ⟨h1, h2⟩ := h
  unfold termE
  refine acalls_of (by kernel_rfl) Tryz.func122 rfl 45 Tryz.ntmps122 (by simp) [.tmp 2] rfl ?_
  ((repeat' (first | (refine awp_seq_k (fun K hK => ?_)) | (refine awp_block ?_) | (refine awp_reg _ rfl ?_; (try simp only [go_sem, Nat.reduceLT, Nat.reduceEqDiff, Nat.reduceLeDiff, Nat.reduceAdd, ↓reduceIte, reduceCtorEq])) | (refine awp_cond _ rfl (fun hc => ?_) (fun hc => ?_) <;> (try (simp only [decide_eq_true_eq, decide_eq_false_iff_not, cds, Decidable.not_not] at hc))) | (refine awp_skip ?_; (try simp only [sq, bk])) | (refine awp_ret ?_; (try simp only [sq, bk])) | (refine PureAt.use (c_plain _ _) ?_ <;> (try simp only [go_sem])) | (refine PureAt.use (c_CheckV t.v _ h2.z) ?_ <;> (try simp only [go_sem])) | (refine ⟨_, fun hg => ⟨?_, c_zero t.v _ h2.z⟩, ?_⟩ <;> (try simp only [go_sem])) | (refine orAt_r 1 ?_) | (refine orAt_l ?_) | (with_reducible apply And.intro) | (refine hK _ ?_; clear hK; (try clear K)))); (all_goals (try (first | omega | (intro hh; simp_all; done)))))
  all_goals (((all_goals (try refine fin_pure (by (try simp only [forall_eq, resOk, List.mem_cons, List.not_mem_nil, or_false])) ?_ (by ((try dsimp only); repeat' ((with_reducible exact .refl _)))))); (all_goals (try simp only [go_sem, ↓reduceIte])); (all_goals (try (first | (simp [*]; done) | (simp_all; done))))); (all_goals (try (((congr 2; grind))))))
end Go.Proofs.YtababmnmkmgbbaaGreat
/-
  A part of the proof: its theorems say what each gives.
-/
set_option maxRecDepth 100000
set_option maxHeartbeats 4000000
set_option linter.unusedSimpArgs false
set_option linter.unusedVariables false
namespace Go.Proofs.YtababmnmkmgbbaaGreat
open Go Fw
/-! The reference: kinds of variables. -/
/-- A map that was written stays as it is from now on. -/
theorem awp_freezeMp {P : Program} {Q : Exit → St → Prop} {s : St} {c : Code} (d id : Nat) {es : MEs} {ck : Nat} (ks : List Nat) {T : List (Nat × AV)} (hT : keepT ks s.t = T) (hd : lk s.t d = .mp id) {bx : List (Nat × List AV)} {tk : List (Nat × Nat × Nat × Nat)} (hh : s.h = ⟨(id, [.mc es ck]) :: bx, tk⟩) (hfr : Hp.box ⟨bx, tk⟩ id = none)
    (step : awp P c Q ⟨s.n, (d, .mv es ck) :: T, ⟨bx, tk⟩⟩) : awp P c Q s := by
  refine awp_freezeX id (cs := [.mc es ck]) (by rw [hh]; simp [Hp.box]) ⟨s.n, (d, .mv es ck) :: T, ⟨bx, tk⟩⟩ rfl ⟨?_, ?_⟩ (by rw [hh]) (by rw [hh]; exact fleX_skip (fleX_refl hfr)) step
  · rw [hd]; exact AV.fle_mp
  · subst hT
    generalize hks : ks = q
    clear hks
    induction q with
    | nil => trivial
    | cons a q ih => exact ⟨AV.fle.refl _, ih⟩
/-- A map has the kinds of the variables. -/
def repK (es : MEs) (ks : List Int) : Prop := allI es ∧ (∀ n : Nat, n < 24 → lookV (.i n) es (.con (.int .i64 0)) false = .con (.int .i64 (ks.getD n 0)))
theorem repK_nil : repK [] kinds0 := ⟨allI_nil, fun n hn => by
  have : kinds0.getD n 0 = 0 := by unfold kinds0; rw [List.getD_eq_getElem?_getD, List.getElem?_replicate]; split <;> rfl
  rw [this]; rfl⟩
theorem repK_set {es : MEs} {ks : List Int} {c : Nat} (h : repK es ks) {n : Nat} (hn : n < ks.length) (v : Int) : repK (mset (.i n) (.con (.int .i64 v)) c es) (ks.set n v) := by
  refine ⟨allI_set h.1 _ _ _, fun m hm => ?_⟩
  have h2 := h.2 m hm
  unfold lookV at h2 ⊢
  rw [mget_set]
  by_cases e : m = n
  · subst e
    simp [List.getD_eq_getElem?_getD, hn]
  · have e2 : ¬ (MK.i (m : Int) = .i (n : Int)) := fun h => e (by injection h with h; omega)
    rw [if_neg e2]
    rw [show (ks.set n v).getD m 0 = ks.getD m 0 by simp [List.getD_eq_getElem?_getD, Ne.symm e]]
    exact h2
end Go.Proofs.YtababmnmkmgbbaaGreat
/-
  A part of the proof: its theorems say what each gives.
-/
set_option maxRecDepth 100000
set_option maxHeartbeats 4000000
set_option linter.unusedSimpArgs false
set_option linter.unusedVariables false
namespace Go.Proofs.YtababmnmkmgbbaaGreat
open Go Fw
/-! The reference: environments, in plain Lean and as maps. -/
abbrev Env := Int → Option Val
def updE (E : Env) (n : Int) (v : Val) : Env := fun m => if m = n then some v else E m
def fitsE : Env → List Trm → List Val → Option Env
  | E, t :: l, v :: r => if t.var = true then (match E t.n with
      | none => fitsE (updE E t.n v) l r
      | some w => if cmpV w v = 0 then fitsE E l r else none) else if cmpV t.v v = 0 then fitsE E l r else none
  | E, _, _ => some E
def repM (es : MEs) (E : Env) : Prop := allI es ∧ ∀ n : Int, mget (.i n) es = (E n).map cV
def gEnv (E : Env) : Prop := ∀ n v, E n = some v → gV v
theorem repM_nil : repM [] (fun _ => none) := ⟨allI_nil, fun n => rfl⟩
theorem repM_set {es : MEs} {E : Env} {c : Nat} (h : repM es E) (n : Int) (v : Val) : repM (mset (.i n) (cV v) c es) (updE E n v) := by
  refine ⟨allI_set h.1 _ _ _, fun m => ?_⟩
  rw [mget_set, h.2 m]
  unfold updE
  by_cases e : m = n
  · subst e; simp
  · rw [if_neg (by intro h; injection h with h; exact e h), if_neg e]
theorem gEnv_upd {E : Env} (h : gEnv E) {n : Int} {v : Val} (hv : gV v) : gEnv (updE E n v) := fun m w hw => by
  unfold updE at hw
  split at hw
  · cases hw; exact hv
  · exact h m w hw
theorem pw_inj {α β : Type} {f : α → β} : ∀ {l : List α}, (l.map f).Nodup → ∀ a ∈ l, ∀ b ∈ l, f a = f b → a = b
  | [], _, a, ha, _, _, _ => by cases ha
  | x :: l, h, a, ha, b, hb, e => by
    rw [List.map_cons, List.nodup_cons] at h
    rcases List.mem_cons.1 ha with ha2 | ha2 <;> rcases List.mem_cons.1 hb with hb2 | hb2
    · rw [ha2, hb2]
    · exact absurd (by rw [← ha2, e]; exact List.mem_map_of_mem hb2) h.1
    · exact absurd (by rw [← hb2, ← e]; exact List.mem_map_of_mem ha2) h.1
    · exact pw_inj h.2 a ha2 b hb2 e
theorem key_inj {es : MEs} (h : es.Pairwise fun a b => a.1 ≠ b.1) : ∀ a ∈ es, ∀ b ∈ es, a.1 = b.1 → a = b := by
  refine pw_inj (f := fun e : MK × AV × Nat => e.1) ?_
  rw [List.Nodup, List.pairwise_map]
  exact h
theorem mget_mem {es : MEs} (h : es.Pairwise fun a b => a.1 ≠ b.1) {e : MK × AV × Nat} (he : e ∈ es) : mget e.1 es = some e.2.1 := by
  unfold mget
  cases hf : es.find? fun q => decide (q.1 = e.1) with
  | none =>
    rw [List.find?_eq_none] at hf
    exact absurd (by simp) (hf e he)
  | some q =>
    have h1 := List.mem_of_find?_eq_some hf
    have h2 := List.find?_some hf
    rw [key_inj h q h1 e he (by simpa using h2)]; rfl
theorem mget_some {es : MEs} {k : MK} {v : AV} (h : mget k es = some v) : ∃ e ∈ es, e.1 = k ∧ e.2.1 = v := by
  unfold mget at h
  cases hf : es.find? fun q => decide (q.1 = k) with
  | none => rw [hf] at h; cases h
  | some q =>
    rw [hf] at h
    exact ⟨q, List.mem_of_find?_eq_some hf, by have := List.find?_some hf; simpa using this, by simpa using h⟩
/-- A copy of what a walk has met. -/
structure Cpd (es l es1 : MEs) : Prop where
  sub : ∀ e ∈ l, e ∈ es
  nd : (l.map (·.2.2)).Nodup
  al : allI es1
  a : ∀ e ∈ l, mget e.1 es1 = some e.2.1
  b : ∀ k v, mget k es1 = some v → ∃ e ∈ l, e.1 = k
theorem Cpd.nil (es : MEs) : Cpd es [] [] := ⟨by simp, by simp, allI_nil, by simp, fun k v h => by cases h⟩
theorem Cpd.step {es l es1 : MEs} {c c1 : Nat} (h : Cpd es l es1) (hs : Stm es c) (hi : allI es) {e : MK × AV × Nat} (he : e ∈ es) (hn : e.2.2 ∉ l.map (·.2.2)) : Cpd es (l ++ [e]) (mset e.1 e.2.1 c1 es1) where
  sub q hq := by
    rcases List.mem_append.1 hq with hq | hq
    · exact h.sub q hq
    · rw [List.mem_singleton.1 hq]; exact he
  nd := by
    rw [List.map_append, List.nodup_append]
    refine ⟨h.nd, by simp, fun a ha b hb => ?_⟩
    simp only [List.map_cons, List.map_nil, List.mem_singleton] at hb
    rw [hb]; exact fun e => hn (by rw [← e]; exact ha)
  al := by
    obtain ⟨n, hk⟩ := hi e he
    rw [hk]
    exact allI_set h.al _ _ _
  a q hq := by
    rw [mget_set]
    rcases List.mem_append.1 hq with hq2 | hq2
    · rw [if_neg, h.a q hq2]
      intro e1
      have := key_inj hs.1 q (h.sub q hq2) e he e1
      exact hn (by rw [← this]; exact List.mem_map_of_mem hq2)
    · rw [List.mem_singleton.1 hq2, if_pos rfl]
  b k v hk := by
    rw [mget_set] at hk
    split at hk
    · rename_i e1; exact ⟨e, by simp, e1.symm⟩
    · obtain ⟨q, hq, e1⟩ := h.b k v hk
      exact ⟨q, by simp [hq], e1⟩
theorem Cpd.done {es l es1 : MEs} {c : Nat} (h : Cpd es l es1) (hs : Stm es c) (hall : ∀ e ∈ es, e.2.2 ∈ l.map (·.2.2)) (k : MK) : mget k es1 = mget k es := by
  cases hk : mget k es with
  | some v =>
    obtain ⟨e, he, rfl, rfl⟩ := mget_some hk
    obtain ⟨q, hq, e1⟩ := List.mem_map.1 (hall e he)
    have := pw_inj hs.2.1 q (h.sub q hq) e he e1
    subst this
    exact h.a q hq
  | none =>
    cases hk1 : mget k es1 with
    | none => rfl
    | some v =>
      obtain ⟨e, he, rfl⟩ := h.b k v hk1
      rw [mget_mem hs.1 (h.sub e he)] at hk
      cases hk
theorem Cpd.rep {es l es1 : MEs} {c : Nat} {E : Env} (h : Cpd es l es1) (hs : Stm es c) (hall : ∀ e ∈ es, e.2.2 ∈ l.map (·.2.2)) (hr : repM es E) : repM es1 E :=
  ⟨h.al, fun n => by rw [h.done hs hall]; exact hr.2 n⟩
theorem Cpd.len {es l es1 : MEs} (h : Cpd es l es1) : l.length ≤ es.length := by
  have key : ∀ {l m : List Nat}, l.Nodup → (∀ x ∈ l, x ∈ m) → l.length ≤ m.length := by
    intro l
    induction l with
    | nil => intro m _ _; exact Nat.zero_le _
    | cons a l ih =>
      intro m hn hs
      obtain ⟨h1, h2⟩ := List.nodup_cons.1 hn
      have hm := hs a (by simp)
      have h3 := ih (m := m.erase a) h2 fun x hx => (List.mem_erase_of_ne (fun e => h1 (by rw [← e]; exact hx))).2 (hs x (by simp [hx]))
      rw [List.length_erase_of_mem hm] at h3
      have := List.length_pos_of_mem hm
      simp; omega
  have := key (l := l.map (·.2.2)) (m := es.map (·.2.2)) h.nd (fun x hx => by
    obtain ⟨q, hq, rfl⟩ := List.mem_map.1 hx
    exact List.mem_map_of_mem (h.sub q hq))
  simpa using this
end Go.Proofs.YtababmnmkmgbbaaGreat
