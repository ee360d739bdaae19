/-
  A part of the proof: its theorems say what each gives.
-/
import Derived.Test.YtababmnmkmgbbaaGreatKQxd
import Derived.Test.YtababmnmkmgbbaaGreatKM51
set_option maxRecDepth 100000
set_option maxHeartbeats 4000000
set_option linter.unusedSimpArgs false
set_option linter.unusedVariables false
namespace Go.Proofs.YtababmnmkmgbbaaGreat
open Go Fw
/-! The law of runs. -/
theorem c_SameRows1 (x y : List Val) (H : Hp) (hx : gRow x) (hy : gRow y) : PureAt Tryz.prog 147 [cRw x, cRw y] H (.con (.bool (decide (cmpR x y = 0)))) := by
  refine acalls_of (by kernel_rfl) Tryz.func147 rfl 9 Tryz.ntmps147 (by simp) [.tmp 4] rfl ?_
  ((repeat' (first | (refine awp_seq_k (fun K hK => ?_)) | (refine awp_reg _ rfl ?_; (try simp only [go_sem, Nat.reduceLT, Nat.reduceEqDiff, Nat.reduceLeDiff, Nat.reduceAdd, Nat.reduceMul, Int.reduceToNat, Nat.reducePow, ↓reduceIte, reduceCtorEq])) | (refine awp_ret ?_) | (refine PureAt.use (c_relCmp x y _ hx hy) ?_ <;> (try simp only [go_sem, Nat.reduceLT, Nat.reduceEqDiff, Nat.reduceLeDiff, Nat.reduceAdd, Nat.reduceMul, Int.reduceToNat, Nat.reducePow, ↓reduceIte, reduceCtorEq])) | (refine orAt_l ?_) | (refine hK _ ?_; clear hK; (try clear K)))))
  ((all_goals (try refine fin_pure (by (try simp only [List.mem_singleton, forall_eq, resOk, List.mem_cons, List.not_mem_nil, or_false, forall_eq_or_imp, and_self])) ?_ (by ((try dsimp only); repeat' ((with_reducible exact .refl _)))))); (all_goals (try simp only [go_sem, Nat.reduceLT, Nat.reduceEqDiff, Nat.reduceLeDiff, Nat.reduceAdd, Nat.reduceMul, Int.reduceToNat, Nat.reducePow, ↓reduceIte, reduceCtorEq])))
theorem c_SameRows (a b : List (List Val)) (H : Hp) (ha : gRws a) (hb : gRws b) : PureAt Tryz.prog 44 [.list (encRws a) none, .list (encRws b) none] H (.con (.bool (eqL (fun x y => decide (cmpR x y = 0)) a b))) := by
  have h1 := ha.1
  have h2 := hb.1
  refine acalls_of (by kernel_rfl) Tryz.func44 rfl 8 Tryz.ntmps44 (by simp) [.tmp 4] rfl ?_
  ((repeat' (first | (refine awp_seq_k (fun K hK => ?_)) | (refine awp_reg _ rfl ?_; (try simp only [go_sem, Nat.reduceLT, Nat.reduceEqDiff, Nat.reduceLeDiff, Nat.reduceAdd, Nat.reduceMul, Int.reduceToNat, Nat.reducePow, ↓reduceIte, reduceCtorEq])) | (refine awp_ret ?_) | (refine PureAt.use (c_EqfRow a b _ _ (fun x y => decide (cmpR x y = 0)) _ (by omega) (by omega) (fun x hx y hy => c_SameRows1 x y _ (ha.2 x hx) (hb.2 y hy))) ?_ <;> (try simp only [go_sem, Nat.reduceLT, Nat.reduceEqDiff, Nat.reduceLeDiff, Nat.reduceAdd, Nat.reduceMul, Int.reduceToNat, Nat.reducePow, ↓reduceIte, reduceCtorEq])) | (refine orAt_l ?_) | (refine hK _ ?_; clear hK; (try clear K)))))
  ((all_goals (try refine fin_pure (by (try simp only [List.mem_singleton, forall_eq, resOk, List.mem_cons, List.not_mem_nil, or_false, forall_eq_or_imp, and_self])) ?_ (by ((try dsimp only); repeat' ((with_reducible exact .refl _)))))); (all_goals (try simp only [go_sem, Nat.reduceLT, Nat.reduceEqDiff, Nat.reduceLeDiff, Nat.reduceAdd, Nat.reduceMul, Int.reduceToNat, Nat.reducePow, ↓reduceIte, reduceCtorEq])))
theorem sameRows_self (a : List (List Val)) : eqL (fun x y => decide (cmpR x y = 0)) a a = true := eqL_self fun x _ => by simp [to_cmpR.self]
theorem c_EqBndSelf (x : List Val) (H : Hp) (hx : gRow x) : PureAt Tryz.prog 50 [.list (encVs x) none, .list (encVs x) none, .fn 51 []] H (.con (.bool true)) := by
  have h := c_EqfBnd x x 51 [] (fun a c => decide (cmpV a c = 0)) H (by have := hx.1; omega) (by have := hx.1; omega) (fun a ha c hc => c_SameV a c H (hx.2 a ha).z (hx.2 c hc).z)
  rw [eqL_self fun a _ => by simp [cmpV_self]] at h
  exact h
theorem gRws_runL {b : List Rel} {w : CQ} (hb : gBase b) (hw : gCQ w) : gRws (runL b w) := by
  unfold runL
  split
  · rename_i h
    unfold runE at h
    split at h
    · split at h
      · split at h
        · simp at h
        · rename_i h3
          refine ⟨by omega, fun x hx => ?_⟩
          unfold ansL at hx
          obtain ⟨g1, g2⟩ := allL_good hb w.body (x := none24) rfl gRow_none
          have hg : ∀ z ∈ (allL b w.body none24).map fun x => w.head.map (valT x), gRow z := fun z hz => by
            obtain ⟨y, hy, rfl⟩ := List.mem_map.1 hz
            exact rowT_good (g2 y hy).2 hw.head
          exact hg x ((setU_mem to_cmpR (fun z hz => gRow_num (hg z hz)) x).1 hx)
      · rename_i h2; exact absurd h h2
    · rename_i h2; exact absurd h h2
  · exact ⟨by simp, by simp⟩
theorem c_CqRunsN (b : List Rel) (w : CQ) (H : Hp) (hb : gBase b) (hw : gCQ w) (hke : ¬ kindsE b w.body = 0) : PureAt Tryz.prog 6 [.list (encRels b) none, cCQ w] H (.con (.bool true)) := by
  have hkf : ∀ H, PureAt Tryz.prog 30 [.list (encRels b) none, .list (encAs w.body) none] H (.tup [.con (.map none), .con (.int .i64 (kindsE b w.body))]) := fun H => (c_KindsOf b w.body H hb hw.body).mono fun r H' h => by
    obtain ⟨g1, ⟨_, g2⟩ | ⟨g2, _⟩⟩ := h
    · exact ⟨g2, g1⟩
    · exact absurd g2 hke
  have hal := fun H => c_All b w.body none24 H hb hw.body gRow_none rfl
  have e1 : allE b w.body none24 = kindsE b w.body := by unfold allE; rw [if_neg hke]
  have e2 : allL b w.body none24 = [] := by unfold allL; rw [if_neg hke]
  rw [e1, e2] at hal
  have hrn := fun H => c_cqRun b w H hb hw
  have hrr := fun H => c_Ran b w H hb hw
  have hsr := fun H => c_SameRows (runL b w) (runL b w) H (gRws_runL hb hw) (gRws_runL hb hw)
  rw [sameRows_self] at hsr
  have hke2 := eq_false hke
  have hE0 : encRws [] = [] := rfl
  refine acalls_of (by kernel_rfl) Tryz.func6 rfl 153 Tryz.ntmps6 (by simp) [.tmp 4] rfl ?_
  ((repeat' (first | (refine awp_seq_k (fun K hK => ?_)) | (refine awp_reg _ rfl ?_; (try simp only [go_sem, Nat.reduceLT, Nat.reduceEqDiff, Nat.reduceLeDiff, Nat.reduceAdd, Nat.reduceMul, Int.reduceToNat, Nat.reducePow, ↓reduceIte, reduceCtorEq, hke2, hE0, List.length_nil, eq_self, ne_eq, not_true_eq_false, bne_self_eq_false, ↓pkv, decide_true, decide_false, bls, if_true, if_false])) | (refine awp_drawn2 (by kernel_rfl) (by kernel_rfl) ?_; (try simp only [go_sem, Nat.reduceLT, Nat.reduceEqDiff, Nat.reduceLeDiff, Nat.reduceAdd, Nat.reduceMul, Int.reduceToNat, Nat.reducePow, ↓reduceIte, reduceCtorEq, hke2, hE0, List.length_nil, eq_self, ne_eq, not_true_eq_false, bne_self_eq_false, ↓pkv, decide_true, decide_false, bls, if_true, if_false])) | (refine awp_cond _ rfl (fun hc => ?_) (fun hc => ?_) <;> (try (simp only [decide_eq_true_eq, decide_eq_false_iff_not, cds, Decidable.not_not, ite_or, ite_and] at hc))) | (refine awp_skip ?_; (try simp only [sq, bk, ↓reduceIte, Nat.reduceEqDiff, reduceCtorEq])) | (refine awp_ret ?_; (try simp only [sq, bk, ↓reduceIte, Nat.reduceEqDiff, reduceCtorEq])) | (refine PureAt.use (hrn _) ?_ <;> (try simp only [go_sem, Nat.reduceLT, Nat.reduceEqDiff, Nat.reduceLeDiff, Nat.reduceAdd, Nat.reduceMul, Int.reduceToNat, Nat.reducePow, ↓reduceIte, reduceCtorEq, hke2, hE0, List.length_nil, eq_self, ne_eq, not_true_eq_false, bne_self_eq_false, ↓pkv, decide_true, decide_false, bls, if_true, if_false])) | (refine PureAt.use (hrr _) ?_ <;> (try simp only [go_sem, Nat.reduceLT, Nat.reduceEqDiff, Nat.reduceLeDiff, Nat.reduceAdd, Nat.reduceMul, Int.reduceToNat, Nat.reducePow, ↓reduceIte, reduceCtorEq, hke2, hE0, List.length_nil, eq_self, ne_eq, not_true_eq_false, bne_self_eq_false, ↓pkv, decide_true, decide_false, bls, if_true, if_false])) | (refine PureAt.use (c_found _) ?_ <;> (try simp only [go_sem, Nat.reduceLT, Nat.reduceEqDiff, Nat.reduceLeDiff, Nat.reduceAdd, Nat.reduceMul, Int.reduceToNat, Nat.reducePow, ↓reduceIte, reduceCtorEq, hke2, hE0, List.length_nil, eq_self, ne_eq, not_true_eq_false, bne_self_eq_false, ↓pkv, decide_true, decide_false, bls, if_true, if_false])) | (refine PureAt.use (hkf _) ?_ <;> (try simp only [go_sem, Nat.reduceLT, Nat.reduceEqDiff, Nat.reduceLeDiff, Nat.reduceAdd, Nat.reduceMul, Int.reduceToNat, Nat.reducePow, ↓reduceIte, reduceCtorEq, hke2, hE0, List.length_nil, eq_self, ne_eq, not_true_eq_false, bne_self_eq_false, ↓pkv, decide_true, decide_false, bls, if_true, if_false])) | (refine ⟨_, hsr _, ?_⟩ <;> (try simp only [go_sem, Nat.reduceLT, Nat.reduceEqDiff, Nat.reduceLeDiff, Nat.reduceAdd, Nat.reduceMul, Int.reduceToNat, Nat.reducePow, ↓reduceIte, reduceCtorEq, hke2, hE0, List.length_nil, eq_self, ne_eq, not_true_eq_false, bne_self_eq_false, ↓pkv, decide_true, decide_false, bls, if_true, if_false])) | (refine ⟨_, c_None _, ?_⟩) | (refine ⟨_, hal _, ?_⟩ <;> (try simp only [go_sem, Nat.reduceLT, Nat.reduceEqDiff, Nat.reduceLeDiff, Nat.reduceAdd, Nat.reduceMul, Int.reduceToNat, Nat.reducePow, ↓reduceIte, reduceCtorEq, hke2, hE0, List.length_nil, eq_self, ne_eq, not_true_eq_false, bne_self_eq_false, ↓pkv, decide_true, decide_false, bls, if_true, if_false])) | (refine orAt_r 3 ?_) | (refine orAt_l ?_) | (refine hK _ ?_; clear hK; (try clear K)))))
  ((all_goals (try refine fin_pure (by (try simp only [List.mem_singleton, forall_eq, resOk, List.mem_cons, List.not_mem_nil, or_false, forall_eq_or_imp, and_self])) ?_ (by ((try dsimp only); repeat' ((with_reducible exact .refl _)))))); (all_goals (try simp only [go_sem, Nat.reduceLT, Nat.reduceEqDiff, Nat.reduceLeDiff, Nat.reduceAdd, Nat.reduceMul, Int.reduceToNat, Nat.reducePow, ↓reduceIte, reduceCtorEq])))
theorem c_CqRunsY (b : List Rel) (w : CQ) (H : Hp) (hb : gBase b) (hw : gCQ w) (hke : kindsE b w.body = 0) : PureAt Tryz.prog 6 [.list (encRels b) none, cCQ w] H (.con (.bool true)) := by
  have ho := kindsE_ok hke
  have h12 : w.body.length ≤ 12 := by
    unfold kindsE at hke
    split at hke
    · split at hke
      · simp at hke
      · omega
    · rename_i h2; exact absurd hke h2
  have hko := c_KindsOf b w.body
  have hal := fun H => c_All b w.body none24 H hb hw.body gRow_none rfl
  have hae : allE b w.body none24 = if (extL b w.body [none24]).isSome = true then 0 else 6 := by unfold allE; rw [if_pos hke]
  have hal2 : allL b w.body none24 = (extL b w.body [none24]).getD [] := by unfold allL; rw [if_pos hke]
  have hex := fun H => c_ExtendF b w.body none24 H hb hw.body gRow_none rfl
  rw [hae, hal2] at hal
  have hrn := fun H => c_cqRun b w H hb hw
  have hrr := fun H => c_Ran b w H hb hw
  have hsr := fun H => c_SameRows (runL b w) (runL b w) H (gRws_runL hb hw) (gRws_runL hb hw)
  rw [sameRows_self] at hsr
  have hE0 : encRws [] = [] := rfl
  have hAM := fun id H fr => c_AllM b w.body id H fr hb hw.body ho h12
  have hgood := fun ys (h : extL b w.body [none24] = some ys) => extL_good hb w.body [none24] h (fun x hx => by rw [List.mem_singleton.1 hx]; exact ⟨by simp [none24], gRow_none⟩)
  have hbn := fun ys (h : extL b w.body [none24] = some ys) y (hy : y ∈ ys) => found_bnd ho y (by rw [← allL_bf h]; exact hy)
  have hce : runE b w = 0 → cqE b w = 0 := fun h => by
    unfold runE at h
    split at h
    · assumption
    · rename_i h2; exact absurd h h2
  have hrow := fun ys (h : extL b w.body [none24] = some ys) y (hy : y ∈ ys) hf => under_row (hce hf) (y := y) (by rw [← allL_bf h]; exact hy)
  have hbd := fun ys (h : extL b w.body [none24] = some ys) y (hy : y ∈ ys) hf => head_bound (hce hf) y (by rw [← allL_bf h]; exact hy)
  cases hxx : extL b w.body [none24] with
  | none =>
    rw [hxx] at hal hex hAM
    simp only [Option.isSome_none, Option.getD_none, Bool.false_eq_true, if_false] at hal hex
    refine acalls_of (by kernel_rfl) Tryz.func6 rfl 153 Tryz.ntmps6 (by simp) [.tmp 4] rfl ?_
    ((repeat' (first | (refine awp_seq_k (fun K hK => ?_)) | (refine awp_reg _ rfl ?_; (try simp only [go_sem, Nat.reduceLT, Nat.reduceEqDiff, Nat.reduceLeDiff, Nat.reduceAdd, Nat.reduceMul, Int.reduceToNat, Nat.reducePow, ↓reduceIte, reduceCtorEq, hE0, List.length_nil, eq_self, ne_eq, not_true_eq_false, bne_self_eq_false, ↓pkv, decide_true, decide_false, bls, if_true, if_false])) | (refine awp_drawn2 (by kernel_rfl) (by kernel_rfl) ?_; (try simp only [go_sem, Nat.reduceLT, Nat.reduceEqDiff, Nat.reduceLeDiff, Nat.reduceAdd, Nat.reduceMul, Int.reduceToNat, Nat.reducePow, ↓reduceIte, reduceCtorEq, hE0, List.length_nil, eq_self, ne_eq, not_true_eq_false, bne_self_eq_false, ↓pkv, decide_true, decide_false, bls, if_true, if_false])) | (refine awp_cond _ rfl (fun hc => ?_) (fun hc => ?_) <;> (try (simp only [decide_eq_true_eq, decide_eq_false_iff_not, cds, Decidable.not_not, ite_or, ite_and] at hc))) | (refine awp_skip ?_; (try simp only [sq, bk, ↓reduceIte, Nat.reduceEqDiff, reduceCtorEq])) | (refine PureAt.use (hrn _) ?_ <;> (try simp only [go_sem, Nat.reduceLT, Nat.reduceEqDiff, Nat.reduceLeDiff, Nat.reduceAdd, Nat.reduceMul, Int.reduceToNat, Nat.reducePow, ↓reduceIte, reduceCtorEq, hE0, List.length_nil, eq_self, ne_eq, not_true_eq_false, bne_self_eq_false, ↓pkv, decide_true, decide_false, bls, if_true, if_false])) | (refine PureAt.use (hrr _) ?_ <;> (try simp only [go_sem, Nat.reduceLT, Nat.reduceEqDiff, Nat.reduceLeDiff, Nat.reduceAdd, Nat.reduceMul, Int.reduceToNat, Nat.reducePow, ↓reduceIte, reduceCtorEq, hE0, List.length_nil, eq_self, ne_eq, not_true_eq_false, bne_self_eq_false, ↓pkv, decide_true, decide_false, bls, if_true, if_false])) | (refine PureAt.use (c_found _) ?_ <;> (try simp only [go_sem, Nat.reduceLT, Nat.reduceEqDiff, Nat.reduceLeDiff, Nat.reduceAdd, Nat.reduceMul, Int.reduceToNat, Nat.reducePow, ↓reduceIte, reduceCtorEq, hE0, List.length_nil, eq_self, ne_eq, not_true_eq_false, bne_self_eq_false, ↓pkv, decide_true, decide_false, bls, if_true, if_false])) | (refine ⟨_, hsr _, ?_⟩ <;> (try simp only [go_sem, Nat.reduceLT, Nat.reduceEqDiff, Nat.reduceLeDiff, Nat.reduceAdd, Nat.reduceMul, Int.reduceToNat, Nat.reducePow, ↓reduceIte, reduceCtorEq, hE0, List.length_nil, eq_self, ne_eq, not_true_eq_false, bne_self_eq_false, ↓pkv, decide_true, decide_false, bls, if_true, if_false])) | (refine ⟨_, c_None _, ?_⟩) | (refine ⟨_, hal _, ?_⟩ <;> (try simp only [go_sem, Nat.reduceLT, Nat.reduceEqDiff, Nat.reduceLeDiff, Nat.reduceAdd, Nat.reduceMul, Int.reduceToNat, Nat.reducePow, ↓reduceIte, reduceCtorEq, hE0, List.length_nil, eq_self, ne_eq, not_true_eq_false, bne_self_eq_false, ↓pkv, decide_true, decide_false, bls, if_true, if_false])) | (refine orAt_r 3 ?_) | (refine orAt_l ?_) | (refine hK _ ?_; clear hK; (try clear K)))))
    refine ACalls.mono (hko _ hb hw.body) (fun r H' hx => ?_)
    obtain ⟨rfl, ⟨g1, _⟩ | ⟨_, es0, c0, hrep, rfl⟩⟩ := hx
    · exact absurd hke g1
    (try simp only [go_sem, Nat.reduceLT, Nat.reduceEqDiff, Nat.reduceLeDiff, Nat.reduceAdd, Nat.reduceMul, Int.reduceToNat, Nat.reducePow, ↓reduceIte, reduceCtorEq])
    ((repeat' (first | (refine awp_seq_k (fun K hK => ?_)) | (refine awp_reg _ rfl ?_; (try simp only [go_sem, Nat.reduceLT, Nat.reduceEqDiff, Nat.reduceLeDiff, Nat.reduceAdd, Nat.reduceMul, Int.reduceToNat, Nat.reducePow, ↓reduceIte, reduceCtorEq, hE0, List.length_nil, eq_self, ne_eq, not_true_eq_false, bne_self_eq_false, ↓pkv, decide_true, decide_false, bls, if_true, if_false])) | (refine awp_cond _ rfl (fun hc => ?_) (fun hc => ?_) <;> (try (simp only [decide_eq_true_eq, decide_eq_false_iff_not, cds, Decidable.not_not, ite_or, ite_and] at hc))) | (refine orAt_l ?_) | (refine all_fresh fun id fr => ?_) | (refine hK _ ?_; clear hK; (try clear K)))))
    refine ACalls.mono (hAM id _ fr) (fun r H'' hx => ?_)
    obtain ⟨rfl, ⟨_, rfl⟩ | ⟨ys, ps, hx1, _⟩⟩ := hx
    rotate_left
    · cases hx1
    (try simp only [go_sem, Nat.reduceLT, Nat.reduceEqDiff, Nat.reduceLeDiff, Nat.reduceAdd, Nat.reduceMul, Int.reduceToNat, Nat.reducePow, ↓reduceIte, reduceCtorEq])
    ((repeat' (first | (refine awp_seq_k (fun K hK => ?_)) | (refine awp_reg _ rfl ?_; (try simp only [go_sem, Nat.reduceLT, Nat.reduceEqDiff, Nat.reduceLeDiff, Nat.reduceAdd, Nat.reduceMul, Int.reduceToNat, Nat.reducePow, ↓reduceIte, reduceCtorEq, hE0, List.length_nil, eq_self, ne_eq, not_true_eq_false, bne_self_eq_false, ↓pkv, decide_true, decide_false, bls, if_true, if_false])) | (refine awp_cond _ rfl (fun hc => ?_) (fun hc => ?_) <;> (try (simp only [decide_eq_true_eq, decide_eq_false_iff_not, cds, Decidable.not_not, ite_or, ite_and] at hc)) <;> (try (exfalso; omega))) | (refine awp_ret ?_; (try simp only [sq, bk, ↓reduceIte, Nat.reduceEqDiff, reduceCtorEq])) | (refine hK _ ?_; clear hK; (try clear K)))))
    ((all_goals (try refine fin_pure (by (try simp only [List.mem_singleton, forall_eq, resOk, List.mem_cons, List.not_mem_nil, or_false, forall_eq_or_imp, and_self])) ?_ (by ((try dsimp only); repeat' ((with_reducible exact .refl _)))))); (all_goals (try simp only [go_sem, Nat.reduceLT, Nat.reduceEqDiff, Nat.reduceLeDiff, Nat.reduceAdd, Nat.reduceMul, Int.reduceToNat, Nat.reducePow, ↓reduceIte, reduceCtorEq])))
  | some ys =>
    have hg := hgood ys hxx
    have hyl : ys.length ≤ 20000 := extL_len w.body [none24] hxx (by simp)
    have hbn := hbn ys hxx
    have hrow := hrow ys hxx
    have hbd := hbd ys hxx
    rw [hxx] at hal hex hAM
    simp only [Option.isSome_some, Option.getD_some, if_true] at hal hex
    refine acalls_of (by kernel_rfl) Tryz.func6 rfl 153 Tryz.ntmps6 (by simp) [.tmp 4] rfl ?_
    ((repeat' (first | (refine awp_seq_k (fun K hK => ?_)) | (refine awp_reg _ rfl ?_; (try simp only [go_sem, Nat.reduceLT, Nat.reduceEqDiff, Nat.reduceLeDiff, Nat.reduceAdd, Nat.reduceMul, Int.reduceToNat, Nat.reducePow, ↓reduceIte, reduceCtorEq, hE0, List.length_nil, eq_self, ne_eq, not_true_eq_false, bne_self_eq_false, ↓pkv, decide_true, decide_false, bls, if_true, if_false])) | (refine awp_drawn2 (by kernel_rfl) (by kernel_rfl) ?_; (try simp only [go_sem, Nat.reduceLT, Nat.reduceEqDiff, Nat.reduceLeDiff, Nat.reduceAdd, Nat.reduceMul, Int.reduceToNat, Nat.reducePow, ↓reduceIte, reduceCtorEq, hE0, List.length_nil, eq_self, ne_eq, not_true_eq_false, bne_self_eq_false, ↓pkv, decide_true, decide_false, bls, if_true, if_false])) | (refine awp_cond _ rfl (fun hc => ?_) (fun hc => ?_) <;> (try (simp only [decide_eq_true_eq, decide_eq_false_iff_not, cds, Decidable.not_not, ite_or, ite_and] at hc))) | (refine awp_skip ?_; (try simp only [sq, bk, ↓reduceIte, Nat.reduceEqDiff, reduceCtorEq])) | (refine PureAt.use (hrn _) ?_ <;> (try simp only [go_sem, Nat.reduceLT, Nat.reduceEqDiff, Nat.reduceLeDiff, Nat.reduceAdd, Nat.reduceMul, Int.reduceToNat, Nat.reducePow, ↓reduceIte, reduceCtorEq, hE0, List.length_nil, eq_self, ne_eq, not_true_eq_false, bne_self_eq_false, ↓pkv, decide_true, decide_false, bls, if_true, if_false])) | (refine PureAt.use (hrr _) ?_ <;> (try simp only [go_sem, Nat.reduceLT, Nat.reduceEqDiff, Nat.reduceLeDiff, Nat.reduceAdd, Nat.reduceMul, Int.reduceToNat, Nat.reducePow, ↓reduceIte, reduceCtorEq, hE0, List.length_nil, eq_self, ne_eq, not_true_eq_false, bne_self_eq_false, ↓pkv, decide_true, decide_false, bls, if_true, if_false])) | (refine PureAt.use (c_found _) ?_ <;> (try simp only [go_sem, Nat.reduceLT, Nat.reduceEqDiff, Nat.reduceLeDiff, Nat.reduceAdd, Nat.reduceMul, Int.reduceToNat, Nat.reducePow, ↓reduceIte, reduceCtorEq, hE0, List.length_nil, eq_self, ne_eq, not_true_eq_false, bne_self_eq_false, ↓pkv, decide_true, decide_false, bls, if_true, if_false])) | (refine ⟨_, hsr _, ?_⟩ <;> (try simp only [go_sem, Nat.reduceLT, Nat.reduceEqDiff, Nat.reduceLeDiff, Nat.reduceAdd, Nat.reduceMul, Int.reduceToNat, Nat.reducePow, ↓reduceIte, reduceCtorEq, hE0, List.length_nil, eq_self, ne_eq, not_true_eq_false, bne_self_eq_false, ↓pkv, decide_true, decide_false, bls, if_true, if_false])) | (refine ⟨_, c_None _, ?_⟩) | (refine ⟨_, hal _, ?_⟩ <;> (try simp only [go_sem, Nat.reduceLT, Nat.reduceEqDiff, Nat.reduceLeDiff, Nat.reduceAdd, Nat.reduceMul, Int.reduceToNat, Nat.reducePow, ↓reduceIte, reduceCtorEq, hE0, List.length_nil, eq_self, ne_eq, not_true_eq_false, bne_self_eq_false, ↓pkv, decide_true, decide_false, bls, if_true, if_false])) | (refine orAt_r 3 ?_) | (refine orAt_l ?_) | (refine hK _ ?_; clear hK; (try clear K)))))
    refine ACalls.mono (hko _ hb hw.body) (fun r H' hx => ?_)
    obtain ⟨rfl, ⟨g1, _⟩ | ⟨_, es0, c0, hrep, rfl⟩⟩ := hx
    · exact absurd hke g1
    (try simp only [go_sem, Nat.reduceLT, Nat.reduceEqDiff, Nat.reduceLeDiff, Nat.reduceAdd, Nat.reduceMul, Int.reduceToNat, Nat.reducePow, ↓reduceIte, reduceCtorEq])
    ((repeat' (first | (refine awp_seq_k (fun K hK => ?_)) | (refine awp_reg _ rfl ?_; (try simp only [go_sem, Nat.reduceLT, Nat.reduceEqDiff, Nat.reduceLeDiff, Nat.reduceAdd, Nat.reduceMul, Int.reduceToNat, Nat.reducePow, ↓reduceIte, reduceCtorEq, hE0, List.length_nil, eq_self, ne_eq, not_true_eq_false, bne_self_eq_false, ↓pkv, decide_true, decide_false, bls, if_true, if_false])) | (refine awp_cond _ rfl (fun hc => ?_) (fun hc => ?_) <;> (try (simp only [decide_eq_true_eq, decide_eq_false_iff_not, cds, Decidable.not_not, ite_or, ite_and] at hc))) | (refine orAt_l ?_) | (refine all_fresh fun id fr => ?_) | (refine hK _ ?_; clear hK; (try clear K)))))
    refine ACalls.mono (hAM id _ fr) (fun r H'' hx => ?_)
    obtain ⟨rfl, ⟨hx1, _⟩ | ⟨ys2, ps, hx1, hps, rfl⟩⟩ := hx
    · cases hx1
    injection hx1 with hx1
    subst hx1
    have hpl := hps.len
    have c5 : ((ys.length : Int) = (ps.length : Int)) = True := eq_true (by omega)
    (try simp only [go_sem, Nat.reduceLT, Nat.reduceEqDiff, Nat.reduceLeDiff, Nat.reduceAdd, Nat.reduceMul, Int.reduceToNat, Nat.reducePow, ↓reduceIte, reduceCtorEq])
    ((repeat' (first | (refine awp_seq_k (fun K hK => ?_)) | (refine awp_block ?_) | (refine awp_reg _ rfl ?_; (try simp only [go_sem, Nat.reduceLT, Nat.reduceEqDiff, Nat.reduceLeDiff, Nat.reduceAdd, Nat.reduceMul, Int.reduceToNat, Nat.reducePow, ↓reduceIte, reduceCtorEq, hE0, c5, List.length_nil, eq_self, ne_eq, not_true_eq_false, bne_self_eq_false, ↓pkv, decide_true, decide_false, bls, if_true, if_false])) | (refine awp_drawn2 (by kernel_rfl) (by kernel_rfl) ?_; (try simp only [go_sem, Nat.reduceLT, Nat.reduceEqDiff, Nat.reduceLeDiff, Nat.reduceAdd, Nat.reduceMul, Int.reduceToNat, Nat.reducePow, ↓reduceIte, reduceCtorEq, hE0, c5, List.length_nil, eq_self, ne_eq, not_true_eq_false, bne_self_eq_false, ↓pkv, decide_true, decide_false, bls, if_true, if_false])) | (refine awp_cond _ rfl (fun hc => ?_) (fun hc => ?_) <;> (try (simp only [decide_eq_true_eq, decide_eq_false_iff_not, cds, Decidable.not_not, ite_or, ite_and] at hc))) | (refine awp_skip ?_; (try simp only [sq, bk, ↓reduceIte, Nat.reduceEqDiff, reduceCtorEq])) | (refine ⟨_, c_None _, ?_⟩) | (refine ⟨_, hex _, ?_⟩ <;> (try simp only [go_sem, Nat.reduceLT, Nat.reduceEqDiff, Nat.reduceLeDiff, Nat.reduceAdd, Nat.reduceMul, Int.reduceToNat, Nat.reducePow, ↓reduceIte, reduceCtorEq, hE0, c5, List.length_nil, eq_self, ne_eq, not_true_eq_false, bne_self_eq_false, ↓pkv, decide_true, decide_false, bls, if_true, if_false])) | (refine hK _ ?_; clear hK; (try clear K)))))
    refine awp_loopKH (ι := Nat) [3, 8, 13, 14, 108, 109] (fun i => [(110, .con (.int .i64 (i : Int)))]) (fun i => i ≤ ys.length) (fun i => ys.length - i) 0 (by intro; simp only [keepT_cons, keepT_nil, List.cons_append, List.nil_append, lk, Nat.reduceEqDiff, ↓reduceIte, reduceCtorEq, Nat.reduceAdd]; rfl) (by omega) (by ((simp only [go_sem, Nat.reduceLT, Nat.reduceEqDiff, Nat.reduceLeDiff, Nat.reduceAdd, Nat.reduceMul, Int.reduceToNat, Nat.reducePow, ↓reduceIte, reduceCtorEq]; done))) ?_
    intro i hi
    rcases Nat.lt_or_ge i ys.length with hlt | hge
    · obtain ⟨y, hy, hym⟩ := at_lt hlt
      obtain ⟨p, hp, hpr⟩ := hps.at hy
      have hg1 := encRws_get hy
      have hg2 := encPs_get hp
      obtain ⟨hy24, hyg⟩ := hg y hym
      have hbo := fun H => c_bound p.1 p.2 (envB y) H hpr
      rw [hbn y hym] at hbo
      have heq := fun H => c_EqBndSelf y H hyg
      by_cases hf : runE b w = 0
      · have hun := fun H => c_Under w.head p.1 p.2 (envB y) H hw.head hpr (fun t ht hv => by
          obtain ⟨g1, g2⟩ := hbd y hym hf t ht hv
          rw [envB_at g1, if_neg g2]; rfl)
        rw [hrow y hym hf] at hun
        have hro := fun H => c_Row w.head y H hw.head hyg
        have hzg := rowT_good hyg hw.head
        have hcm := fun H => c_relCmp (w.head.map (valT y)) (w.head.map (valT y)) H hzg hzg
        rw [to_cmpR.self] at hcm
        ((repeat' (first | (refine awp_seq_k (fun K hK => ?_)) | (refine awp_block ?_) | (refine awp_reg _ rfl ?_; (try simp only [go_sem, Nat.reduceLT, Nat.reduceEqDiff, Nat.reduceLeDiff, Nat.reduceAdd, Nat.reduceMul, Int.reduceToNat, Nat.reducePow, ↓reduceIte, reduceCtorEq, hg1, hg2, hf, wrap_succ i (by omega), hE0, List.length_nil, eq_self, ne_eq, not_true_eq_false, bne_self_eq_false, ↓pkv, decide_true, decide_false, bls, if_true, if_false])) | (refine awp_drawn2 (by kernel_rfl) (by kernel_rfl) ?_; (try simp only [go_sem, Nat.reduceLT, Nat.reduceEqDiff, Nat.reduceLeDiff, Nat.reduceAdd, Nat.reduceMul, Int.reduceToNat, Nat.reducePow, ↓reduceIte, reduceCtorEq, hg1, hg2, hf, wrap_succ i (by omega), hE0, List.length_nil, eq_self, ne_eq, not_true_eq_false, bne_self_eq_false, ↓pkv, decide_true, decide_false, bls, if_true, if_false])) | (refine awp_cond _ rfl (fun hc => ?_) (fun hc => ?_) <;> (try (simp only [decide_eq_true_eq, decide_eq_false_iff_not, cds, Decidable.not_not, ite_or, ite_and] at hc)) <;> (try (exfalso; omega))) | (refine awp_skip ?_; (try simp only [sq, bk, ↓reduceIte, Nat.reduceEqDiff, reduceCtorEq])) | (refine PureAt.use (hbo _) ?_ <;> (try simp only [go_sem, Nat.reduceLT, Nat.reduceEqDiff, Nat.reduceLeDiff, Nat.reduceAdd, Nat.reduceMul, Int.reduceToNat, Nat.reducePow, ↓reduceIte, reduceCtorEq, hg1, hg2, hf, wrap_succ i (by omega), hE0, List.length_nil, eq_self, ne_eq, not_true_eq_false, bne_self_eq_false, ↓pkv, decide_true, decide_false, bls, if_true, if_false])) | (refine ⟨_, heq _, ?_⟩ <;> (try simp only [go_sem, Nat.reduceLT, Nat.reduceEqDiff, Nat.reduceLeDiff, Nat.reduceAdd, Nat.reduceMul, Int.reduceToNat, Nat.reducePow, ↓reduceIte, reduceCtorEq, hg1, hg2, hf, wrap_succ i (by omega), hE0, List.length_nil, eq_self, ne_eq, not_true_eq_false, bne_self_eq_false, ↓pkv, decide_true, decide_false, bls, if_true, if_false])) | (refine ⟨_, hun _, ?_⟩) | (refine ⟨_, hro _, ?_⟩) | (refine ⟨_, hcm _, ?_⟩ <;> (try simp only [go_sem, Nat.reduceLT, Nat.reduceEqDiff, Nat.reduceLeDiff, Nat.reduceAdd, Nat.reduceMul, Int.reduceToNat, Nat.reducePow, ↓reduceIte, reduceCtorEq, hg1, hg2, hf, wrap_succ i (by omega), hE0, List.length_nil, eq_self, ne_eq, not_true_eq_false, bne_self_eq_false, ↓pkv, decide_true, decide_false, bls, if_true, if_false])) | (refine orAt_l ?_) | (with_reducible apply And.intro) | (refine hK _ ?_; clear hK; (try clear K)))); (all_goals (try ((omega)))))
        refine ⟨i + 1, by omega, by omega, ?_⟩
        (refine st_le rfl ?_ (by ((try dsimp only); repeat' ((with_reducible exact .refl _)))); (try simp only [go_sem, Nat.reduceLT, Nat.reduceEqDiff, Nat.reduceLeDiff, Nat.reduceAdd, Nat.reduceMul, Int.reduceToNat, Nat.reducePow, ↓reduceIte, reduceCtorEq]))
      · have hf2 := eq_false hf
        ((repeat' (first | (refine awp_seq_k (fun K hK => ?_)) | (refine awp_block ?_) | (refine awp_reg _ rfl ?_; (try simp only [go_sem, Nat.reduceLT, Nat.reduceEqDiff, Nat.reduceLeDiff, Nat.reduceAdd, Nat.reduceMul, Int.reduceToNat, Nat.reducePow, ↓reduceIte, reduceCtorEq, hg1, hg2, hf2, wrap_succ i (by omega), hE0, List.length_nil, eq_self, ne_eq, not_true_eq_false, bne_self_eq_false, ↓pkv, decide_true, decide_false, bls, if_true, if_false])) | (refine awp_drawn2 (by kernel_rfl) (by kernel_rfl) ?_; (try simp only [go_sem, Nat.reduceLT, Nat.reduceEqDiff, Nat.reduceLeDiff, Nat.reduceAdd, Nat.reduceMul, Int.reduceToNat, Nat.reducePow, ↓reduceIte, reduceCtorEq, hg1, hg2, hf2, wrap_succ i (by omega), hE0, List.length_nil, eq_self, ne_eq, not_true_eq_false, bne_self_eq_false, ↓pkv, decide_true, decide_false, bls, if_true, if_false])) | (refine awp_cond _ rfl (fun hc => ?_) (fun hc => ?_) <;> (try (simp only [decide_eq_true_eq, decide_eq_false_iff_not, cds, Decidable.not_not, ite_or, ite_and] at hc)) <;> (try (exfalso; omega))) | (refine awp_skip ?_; (try simp only [sq, bk, ↓reduceIte, Nat.reduceEqDiff, reduceCtorEq])) | (refine PureAt.use (hbo _) ?_ <;> (try simp only [go_sem, Nat.reduceLT, Nat.reduceEqDiff, Nat.reduceLeDiff, Nat.reduceAdd, Nat.reduceMul, Int.reduceToNat, Nat.reducePow, ↓reduceIte, reduceCtorEq, hg1, hg2, hf2, wrap_succ i (by omega), hE0, List.length_nil, eq_self, ne_eq, not_true_eq_false, bne_self_eq_false, ↓pkv, decide_true, decide_false, bls, if_true, if_false])) | (refine ⟨_, heq _, ?_⟩ <;> (try simp only [go_sem, Nat.reduceLT, Nat.reduceEqDiff, Nat.reduceLeDiff, Nat.reduceAdd, Nat.reduceMul, Int.reduceToNat, Nat.reducePow, ↓reduceIte, reduceCtorEq, hg1, hg2, hf2, wrap_succ i (by omega), hE0, List.length_nil, eq_self, ne_eq, not_true_eq_false, bne_self_eq_false, ↓pkv, decide_true, decide_false, bls, if_true, if_false])) | (refine ⟨AV.any, fun hg => False.elim hg, ?_⟩; (try simp only [go_sem, Nat.reduceLT, Nat.reduceEqDiff, Nat.reduceLeDiff, Nat.reduceAdd, Nat.reduceMul, Int.reduceToNat, Nat.reducePow, ↓reduceIte, reduceCtorEq, hg1, hg2, hf2, wrap_succ i (by omega), hE0, List.length_nil, eq_self, ne_eq, not_true_eq_false, bne_self_eq_false, ↓pkv, decide_true, decide_false, bls, if_true, if_false])) | (refine orAt_l ?_) | (with_reducible apply And.intro) | (refine hK _ ?_; clear hK; (try clear K)))); (all_goals (try (first | omega | (intro hh; simp only [Bool.or_eq_true, Bool.and_eq_true, Bool.not_eq_true', Bool.or_eq_false_iff, Bool.and_eq_false_iff, decide_eq_true_eq, decide_eq_false_iff_not, Bool.not_eq_false', bw, Bool.not_true, Bool.not_false, Bool.true_eq_false, Bool.false_eq_true, not_true_eq_false] at hh ⊢; (done))))))
        refine ⟨i + 1, by omega, by omega, ?_⟩
        (refine st_le rfl ?_ (by ((try dsimp only); repeat' ((with_reducible exact .refl _)))); (try simp only [go_sem, Nat.reduceLT, Nat.reduceEqDiff, Nat.reduceLeDiff, Nat.reduceAdd, Nat.reduceMul, Int.reduceToNat, Nat.reducePow, ↓reduceIte, reduceCtorEq]))
    · obtain rfl : i = ys.length := by omega
      ((repeat' (first | (refine awp_seq_k (fun K hK => ?_)) | (refine awp_reg _ rfl ?_; (try simp only [go_sem, Nat.reduceLT, Nat.reduceEqDiff, Nat.reduceLeDiff, Nat.reduceAdd, Nat.reduceMul, Int.reduceToNat, Nat.reducePow, ↓reduceIte, reduceCtorEq])) | (refine awp_cond _ rfl (fun hc => ?_) (fun hc => ?_) <;> (try (simp only [decide_eq_true_eq, decide_eq_false_iff_not, cds, Decidable.not_not, ite_or, ite_and] at hc)) <;> (try (exfalso; omega))) | (refine awp_exit ?_; (try simp only [sq, bk, ↓reduceIte, Nat.reduceEqDiff, reduceCtorEq])) | (refine awp_ret ?_) | (refine hK _ ?_; clear hK; (try clear K)) | (refine kk (by assumption) ?_))))
      ((all_goals (try refine fin_pure (by (try simp only [List.mem_singleton, forall_eq, resOk, List.mem_cons, List.not_mem_nil, or_false, forall_eq_or_imp, and_self])) ?_ (by ((try dsimp only); repeat' ((with_reducible exact .refl _)))))); (all_goals (try simp only [go_sem, Nat.reduceLT, Nat.reduceEqDiff, Nat.reduceLeDiff, Nat.reduceAdd, Nat.reduceMul, Int.reduceToNat, Nat.reducePow, ↓reduceIte, reduceCtorEq])))
theorem c_CqRuns (b : List Rel) (w : CQ) (H : Hp) (hb : gBase b) (hw : gCQ w) : PureAt Tryz.prog 6 [.list (encRels b) none, cCQ w] H (.con (.bool true)) := by
  by_cases hke : kindsE b w.body = 0
  · exact c_CqRunsY b w H hb hw hke
  · exact c_CqRunsN b w H hb hw hke
end Go.Proofs.YtababmnmkmgbbaaGreat
