/-
  A part of the proof: its theorems say what each gives.
-/
import Derived.Test.YtababmnmkmgbbaaGreatKQxc
import Derived.Test.YtababmnmkmgbbaaGreatKM41
import Derived.Test.YtababmnmkmgbbaaGreatKM49
set_option maxRecDepth 100000
set_option maxHeartbeats 4000000
set_option linter.unusedSimpArgs false
set_option linter.unusedVariables false
namespace Go.Proofs.YtababmnmkmgbbaaGreat
open Go Fw
/-! The reference: Ran. -/
theorem c_AllM (b : List Rel) (l : List Atm) (id : Nat) (H : Hp) (fr : fresh H id) (hb : gBase b) (hl : gAs l) (ho : okAtoms b 24 l) (h12 : l.length ≤ 12) :
    ACalls Tryz.prog 47 [.list (encRels b) none, .list (encAs l) none, .mp id] ⟨(id, [.mc [] 0]) :: H.bx, H.tk⟩ fun r H' => H' = H ∧
      ((extL b l [none24] = none ∧ r = .tup [.con (.slice none 0 0), .con (.int .i64 6)]) ∨ ∃ ys ps, extL b l [none24] = some ys ∧ Reps RepB ps ys ∧ r = .tup [.list (encPs ps) none, .con (.int .i64 0)]) := by
  refine ACalls.frzArg (cs := [.mc [] 0]) (args' := [.list (encRels b) none, .list (encAs l) none, .mv [] 0]) fr.1 (c_AllR b l none24 [] 0 ⟨H.bx, H.tk⟩ hb hl ho h12 (by simp [none24]) gRow_none (by rw [envB_none]; exact repM_nil)) rfl fun i hi => ?_
  match i, hi with
  | 0, _ => exact AV.fle.refl _
  | 1, _ => exact AV.fle.refl _
  | 2, _ => exact AV.fle_mp
theorem cqE_ok {b : List Rel} {w : CQ} (h : cqE b w = 0) : okAtoms b 24 w.body ∧ w.body.length ≤ 12 ∧ kindsE b w.body = 0 := by
  unfold cqE at h
  split at h
  · rename_i h1
    refine ⟨kindsE_ok h1, ?_, h1⟩
    unfold kindsE at h1
    split at h1
    · split at h1
      · simp at h1
      · omega
    · rename_i h2; exact absurd h1 h2
  · rename_i h1; exact absurd h h1
theorem gRws_insU {l : List (List Val)} {x : List Val} (hl : gRws l) (hx : gRow x) (hn : (insU cmpR x l).length ≤ 2000000) : gRws (insU cmpR x l) := ⟨hn, fun z hz => by
  rcases (mem_insU to_cmpR (gRow_num hx) (fun y hy => gRow_num (hl.2 y hy)) z).1 hz with e | h
  · rw [e]; exact hx
  · exact hl.2 z h⟩
theorem insU_le1 (x : List Val) : ∀ l : List (List Val), (insU cmpR x l).length ≤ l.length + 1
  | [] => Nat.le_refl _
  | y :: l => by
    have := insU_le1 x l
    unfold insU
    split
    · simp only [List.length_cons]; omega
    · split <;> simp
theorem c_Ran (b : List Rel) (w : CQ) (H : Hp) (hb : gBase b) (hw : gCQ w) : PureAt Tryz.prog 43 [.list (encRels b) none, cCQ w] H (.tup [.list (encRws (runL b w)) none, .con (.int .i64 (runE b w))]) := by
  have hck := fun H => c_CQFault b w H hb hw
  have h1 := hw.head
  by_cases hce : cqE b w = 0
  rotate_left
  · have e : runE b w = cqE b w := by unfold runE; rw [if_neg hce]
    have e2 : runL b w = [] := by unfold runL; rw [if_neg (by rw [e]; exact hce)]
    rw [e, e2]
    refine acalls_of (by kernel_rfl) Tryz.func43 rfl 46 Tryz.ntmps43 (by simp) [.tmp 4, .tmp 5] rfl ?_
    ((repeat' (first | (refine awp_seq_k (fun K hK => ?_)) | (refine awp_reg _ rfl ?_; (try simp only [go_sem, Nat.reduceLT, Nat.reduceEqDiff, Nat.reduceLeDiff, Nat.reduceAdd, Nat.reduceMul, Int.reduceToNat, Nat.reducePow, ↓reduceIte, reduceCtorEq, hce, ↓pkv, decide_true, decide_false, bls, if_true, if_false])) | (refine awp_cond _ rfl (fun hc => ?_) (fun hc => ?_) <;> (try (simp only [decide_eq_true_eq, decide_eq_false_iff_not, cds, Decidable.not_not, ite_or, ite_and] at hc))) | (refine awp_ret ?_; (try simp only [sq, bk, ↓reduceIte, Nat.reduceEqDiff, reduceCtorEq])) | (refine PureAt.use (hck _) ?_ <;> (try simp only [go_sem, Nat.reduceLT, Nat.reduceEqDiff, Nat.reduceLeDiff, Nat.reduceAdd, Nat.reduceMul, Int.reduceToNat, Nat.reducePow, ↓reduceIte, reduceCtorEq, hce, ↓pkv, decide_true, decide_false, bls, if_true, if_false])) | (refine orAt_r 3 ?_) | (refine orAt_l ?_) | (refine hK _ ?_; clear hK; (try clear K)))))
    (refine fin_le (.tup [.list (encRws []) none, .con (.int .i64 (cqE b w))]) (H) (by (try simp only [List.mem_singleton, forall_eq, resOk, List.mem_cons, List.not_mem_nil, or_false, forall_eq_or_imp, and_self])) (by (try simp only [go_sem, Nat.reduceLT, Nat.reduceEqDiff, Nat.reduceLeDiff, Nat.reduceAdd, Nat.reduceMul, Int.reduceToNat, Nat.reducePow, ↓reduceIte, reduceCtorEq]); (repeat' (first | exact .refl _ | exact AV.le_nil | refine AV.le_tupc rfl ?_ | refine lec_cons ?_ ?_))) (by ((try dsimp only); repeat' ((with_reducible exact .refl _)))) ⟨rfl, rfl⟩)
  rw [hce] at hck
  obtain ⟨ho, h12, hke⟩ := cqE_ok hce
  have hae : allE b w.body none24 = if (extL b w.body [none24]).isSome = true then 0 else 6 := by unfold allE; rw [if_pos hke]
  have hal : allL b w.body none24 = (extL b w.body [none24]).getD [] := by unfold allL; rw [if_pos hke]
  have hgood := fun ys (h : extL b w.body [none24] = some ys) => extL_good hb w.body [none24] h (fun x hx => by rw [List.mem_singleton.1 hx]; exact ⟨by simp [none24], gRow_none⟩)
  have hlen := fun ys (h : extL b w.body [none24] = some ys) => extL_len w.body [none24] h (by simp)
  have hans := fun ys (h : extL b w.body [none24] = some ys) => ran_ans hce h
  have hrow := fun ys (h : extL b w.body [none24] = some ys) y (hy : y ∈ ys) => under_row hce (y := y) (by rw [← allL_bf h]; exact hy)
  have hbnd := fun ys (h : extL b w.body [none24] = some ys) y (hy : y ∈ ys) => head_bound hce y (by rw [← allL_bf h]; exact hy)
  generalize hRL : runL b w = RL
  generalize hRE : runE b w = RE
  unfold runL runE at hRL
  unfold runE at hRE
  unfold ansL at hRL hRE
  rw [hal] at hRL hRE
  rw [hae] at hRL hRE
  refine acalls_of (by kernel_rfl) Tryz.func43 rfl 46 Tryz.ntmps43 (by simp) [.tmp 4, .tmp 5] rfl ?_
  ((repeat' (first | (refine awp_seq_k (fun K hK => ?_)) | (refine awp_reg _ rfl ?_; (try simp only [go_sem, Nat.reduceLT, Nat.reduceEqDiff, Nat.reduceLeDiff, Nat.reduceAdd, Nat.reduceMul, Int.reduceToNat, Nat.reducePow, ↓reduceIte, reduceCtorEq, ↓pkv, decide_true, decide_false, bls, if_true, if_false])) | (refine awp_cond _ rfl (fun hc => ?_) (fun hc => ?_) <;> (try (simp only [decide_eq_true_eq, decide_eq_false_iff_not, cds, Decidable.not_not, ite_or, ite_and] at hc))) | (refine awp_skip ?_; (try simp only [sq, bk, ↓reduceIte, Nat.reduceEqDiff, reduceCtorEq])) | (refine PureAt.use (hck _) ?_ <;> (try simp only [go_sem, Nat.reduceLT, Nat.reduceEqDiff, Nat.reduceLeDiff, Nat.reduceAdd, Nat.reduceMul, Int.reduceToNat, Nat.reducePow, ↓reduceIte, reduceCtorEq, ↓pkv, decide_true, decide_false, bls, if_true, if_false])) | (refine orAt_r 3 ?_) | (refine orAt_l ?_) | (refine all_fresh fun id fr => ?_) | (refine hK _ ?_; clear hK; (try clear K)))))
  refine ACalls.mono (c_AllM b w.body id H fr hb hw.body ho h12) (fun r H' hx => ?_)
  obtain ⟨rfl, ⟨hx1, rfl⟩ | ⟨ys, ps, hx1, hps, rfl⟩⟩ := hx
  · rw [hx1] at hRE hRL
    have e1 : RE = 6 := by rw [← hRE, if_pos hce]; simp
    have e2 : RL = [] := by rw [← hRL]; simp [hce]
    subst e1 e2
    (try simp only [go_sem, Nat.reduceLT, Nat.reduceEqDiff, Nat.reduceLeDiff, Nat.reduceAdd, Nat.reduceMul, Int.reduceToNat, Nat.reducePow, ↓reduceIte, reduceCtorEq])
    ((repeat' (first | (refine awp_seq_k (fun K hK => ?_)) | (refine awp_reg _ rfl ?_; (try simp only [go_sem, Nat.reduceLT, Nat.reduceEqDiff, Nat.reduceLeDiff, Nat.reduceAdd, Nat.reduceMul, Int.reduceToNat, Nat.reducePow, ↓reduceIte, reduceCtorEq, ↓pkv, decide_true, decide_false, bls, if_true, if_false])) | (refine awp_cond _ rfl (fun hc => ?_) (fun hc => ?_) <;> (try (simp only [decide_eq_true_eq, decide_eq_false_iff_not, cds, Decidable.not_not, ite_or, ite_and] at hc)) <;> (try (exfalso; omega))) | (refine awp_ret ?_; (try simp only [sq, bk, ↓reduceIte, Nat.reduceEqDiff, reduceCtorEq])) | (refine hK _ ?_; clear hK; (try clear K)))))
    (refine fin_le (.tup [.list (encRws []) none, .con (.int .i64 6)]) (H') (by (try simp only [List.mem_singleton, forall_eq, resOk, List.mem_cons, List.not_mem_nil, or_false, forall_eq_or_imp, and_self])) (by (try simp only [go_sem, Nat.reduceLT, Nat.reduceEqDiff, Nat.reduceLeDiff, Nat.reduceAdd, Nat.reduceMul, Int.reduceToNat, Nat.reducePow, ↓reduceIte, reduceCtorEq]); (repeat' (first | exact .refl _ | exact AV.le_nil | refine AV.le_tupc rfl ?_ | refine lec_cons ?_ ?_))) (by ((try dsimp only); repeat' ((with_reducible exact .refl _)))) ⟨rfl, rfl⟩)
  have hg := hgood ys hx1
  have hlen := hlen ys hx1
  have hrow := hrow ys hx1
  have hbnd := hbnd ys hx1
  have hans := hans ys hx1
  rw [hx1] at hRE hRL
  simp only [Option.isSome_some, Option.getD_some, if_true, if_pos hce, if_pos rfl] at hRE hRL
  rw [List.map_congr_left hrow] at hans
  obtain ⟨R, hRW⟩ : ∃ R, ys.map (fun y => w.head.map (valT y)) = R := ⟨_, rfl⟩
  simp only [hRW] at hans hRE hRL
  obtain ⟨U, hU⟩ : ∃ U, setU cmpR R = U := ⟨_, rfl⟩
  simp only [hU] at hans hRE hRL
  have hpl := hps.len
  have hRg : ∀ z ∈ R, gRow z := fun z hz => by
    rw [← hRW] at hz
    obtain ⟨y, hy, rfl⟩ := List.mem_map.1 hz
    exact rowT_good (hg y hy).2 h1
  have hRl : R.length = ys.length := by rw [← hRW, List.length_map]
  generalize hres : (if 300 < U.length then none else some U) = res at hans
  (try simp only [go_sem, Nat.reduceLT, Nat.reduceEqDiff, Nat.reduceLeDiff, Nat.reduceAdd, Nat.reduceMul, Int.reduceToNat, Nat.reducePow, ↓reduceIte, reduceCtorEq])
  ((repeat' (first | (refine awp_seq_k (fun K hK => ?_)) | (refine awp_block ?_) | (refine awp_reg _ rfl ?_; (try simp only [go_sem, Nat.reduceLT, Nat.reduceEqDiff, Nat.reduceLeDiff, Nat.reduceAdd, Nat.reduceMul, Int.reduceToNat, Nat.reducePow, ↓reduceIte, reduceCtorEq, ↓pkv, decide_true, decide_false, bls, if_true, if_false])) | (refine awp_cond _ rfl (fun hc => ?_) (fun hc => ?_) <;> (try (simp only [decide_eq_true_eq, decide_eq_false_iff_not, cds, Decidable.not_not, ite_or, ite_and] at hc))) | (refine awp_skip ?_; (try simp only [sq, bk, ↓reduceIte, Nat.reduceEqDiff, reduceCtorEq])) | (refine hK _ ?_; clear hK; (try clear K)))))
  refine awp_loopKG (ι := Nat × List (List Val)) [3, 29, 30] (fun q => [(9, .list (encRws q.2) none), (31, .con (.int .i64 (q.1 : Int)))]) (fun q => H') (fun q => q.1 ≤ ys.length ∧ gRws q.2 ∧ q.2.length ≤ 300 ∧ ranL cmpR q.2 (R.drop q.1) = res) (fun q => ys.length - q.1) (0, []) (by intro; simp only [keepT_cons, keepT_nil, List.cons_append, List.nil_append, lk, Nat.reduceEqDiff, ↓reduceIte, reduceCtorEq, Nat.reduceAdd]; rfl) ?_ ?_ ?_ ?_
  · exact ⟨by omega, ⟨by simp, by simp⟩, by simp, hans⟩
  · exact ⟨AV.le_nil, .refl _, trivial⟩
  · exact .refl _
  rintro ⟨i, cur⟩ ⟨hi, hcg, hcl, h0⟩
  simp only at hi hcg hcl h0
  rcases Nat.lt_or_ge i ys.length with hlt | hge
  · obtain ⟨y, hy, hym⟩ := at_lt hlt
    obtain ⟨p, hp, hpr⟩ := hps.at hy
    have hg2 := encPs_get hp
    have hRy : R[i]? = some (w.head.map (valT y)) := by rw [← hRW, List.getElem?_map, hy]; rfl
    have hzg := hRg _ (List.mem_of_getElem? hRy)
    have hun := fun H => c_Under w.head p.1 p.2 (envB y) H h1 hpr (fun t ht hv => by
      obtain ⟨g1, g2⟩ := hbnd y hym t ht hv
      rw [envB_at g1, if_neg g2]; rfl)
    rw [hrow y hym] at hun
    have hwi := fun H => c_With cur (w.head.map (valT y)) H hcg hzg
    have hil := insU_le1 (w.head.map (valT y)) cur
    have hgi := gRws_insU hcg hzg (by omega)
    rw [drop_at hRy, ranL] at h0
    generalize w.head.map (valT y) = z at *
    generalize insU cmpR z cur = nx at *
    by_cases h300 : 300 < nx.length
    · rw [if_pos h300] at h0
      subst h0
      have c3 : ((300 : Int) < (nx.length : Int)) = True := eq_true (by omega)
      have hU3 : 300 < U.length := by
        rcases Nat.lt_or_ge 300 U.length with h | h
        · exact h
        · rw [if_neg (by omega)] at hres; cases hres
      rw [if_pos hU3] at hRE
      subst hRE
      have e2 : RL = [] := by rw [← hRL]; simp [hU3]
      subst e2
      ((repeat' (first | (refine awp_seq_k (fun K hK => ?_)) | (refine awp_block ?_) | (refine awp_reg _ rfl ?_; (try simp only [go_sem, Nat.reduceLT, Nat.reduceEqDiff, Nat.reduceLeDiff, Nat.reduceAdd, Nat.reduceMul, Int.reduceToNat, Nat.reducePow, ↓reduceIte, reduceCtorEq, hg2, c3, ↓pkv, decide_true, decide_false, bls, if_true, if_false])) | (refine awp_cond _ rfl (fun hc => ?_) (fun hc => ?_) <;> (try (simp only [decide_eq_true_eq, decide_eq_false_iff_not, cds, Decidable.not_not, ite_or, ite_and] at hc)) <;> (try (exfalso; omega))) | (refine awp_skip ?_; (try simp only [sq, bk, ↓reduceIte, Nat.reduceEqDiff, reduceCtorEq])) | (refine awp_ret ?_; (try simp only [sq, bk, ↓reduceIte, Nat.reduceEqDiff, reduceCtorEq])) | (refine PureAt.use (hun _) ?_) | (refine PureAt.use (hwi _) ?_ <;> (try simp only [go_sem, Nat.reduceLT, Nat.reduceEqDiff, Nat.reduceLeDiff, Nat.reduceAdd, Nat.reduceMul, Int.reduceToNat, Nat.reducePow, ↓reduceIte, reduceCtorEq, hg2, c3, ↓pkv, decide_true, decide_false, bls, if_true, if_false])) | (refine orAt_l ?_) | (with_reducible apply And.intro) | (refine hK _ ?_; clear hK; (try clear K)))); (all_goals (try ((omega)))))
      (refine fin_le (.tup [.list (encRws []) none, .con (.int .i64 6)]) (H') (by (try simp only [List.mem_singleton, forall_eq, resOk, List.mem_cons, List.not_mem_nil, or_false, forall_eq_or_imp, and_self])) (by (try simp only [go_sem, Nat.reduceLT, Nat.reduceEqDiff, Nat.reduceLeDiff, Nat.reduceAdd, Nat.reduceMul, Int.reduceToNat, Nat.reducePow, ↓reduceIte, reduceCtorEq]); (repeat' (first | exact .refl _ | exact AV.le_nil | refine AV.le_tupc rfl ?_ | refine lec_cons ?_ ?_))) (by ((try dsimp only); repeat' ((with_reducible exact .refl _)))) ⟨rfl, rfl⟩)
    · rw [if_neg h300] at h0
      have c3 : ((300 : Int) < (nx.length : Int)) = False := eq_false (by omega)
      ((repeat' (first | (refine awp_seq_k (fun K hK => ?_)) | (refine awp_block ?_) | (refine awp_reg _ rfl ?_; (try simp only [go_sem, Nat.reduceLT, Nat.reduceEqDiff, Nat.reduceLeDiff, Nat.reduceAdd, Nat.reduceMul, Int.reduceToNat, Nat.reducePow, ↓reduceIte, reduceCtorEq, hg2, c3, wrap_succ i (by omega), ↓pkv, decide_true, decide_false, bls, if_true, if_false])) | (refine awp_cond _ rfl (fun hc => ?_) (fun hc => ?_) <;> (try (simp only [decide_eq_true_eq, decide_eq_false_iff_not, cds, Decidable.not_not, ite_or, ite_and] at hc)) <;> (try (exfalso; omega))) | (refine awp_skip ?_; (try simp only [sq, bk, ↓reduceIte, Nat.reduceEqDiff, reduceCtorEq])) | (refine PureAt.use (hun _) ?_) | (refine PureAt.use (hwi _) ?_ <;> (try simp only [go_sem, Nat.reduceLT, Nat.reduceEqDiff, Nat.reduceLeDiff, Nat.reduceAdd, Nat.reduceMul, Int.reduceToNat, Nat.reducePow, ↓reduceIte, reduceCtorEq, hg2, c3, wrap_succ i (by omega), ↓pkv, decide_true, decide_false, bls, if_true, if_false])) | (refine orAt_l ?_) | (with_reducible apply And.intro) | (refine hK _ ?_; clear hK; (try clear K)))); (all_goals (try ((omega)))))
      refine ⟨(i + 1, nx), by simp only; omega, ⟨by simp only; omega, hgi, by simp only; omega, h0⟩, ?_⟩
      (refine st_le rfl ?_ (by ((try dsimp only); repeat' ((with_reducible exact .refl _)))); (try simp only [go_sem, Nat.reduceLT, Nat.reduceEqDiff, Nat.reduceLeDiff, Nat.reduceAdd, Nat.reduceMul, Int.reduceToNat, Nat.reducePow, ↓reduceIte, reduceCtorEq]))
  · obtain rfl : i = ys.length := by omega
    rw [← hRl, List.drop_length, ranL] at h0
    subst h0
    have hU3 : ¬ 300 < U.length ∧ U = cur := by
      split at hres
      · cases hres
      · rename_i h; injection hres with h2; exact ⟨h, h2⟩
    obtain ⟨hU3, rfl⟩ := hU3
    rw [if_neg hU3] at hRE
    subst hRE
    have e2 : RL = U := by rw [← hRL]; simp [hU3]
    subst e2
    ((repeat' (first | (refine awp_seq_k (fun K hK => ?_)) | (refine awp_reg _ rfl ?_; (try simp only [go_sem, Nat.reduceLT, Nat.reduceEqDiff, Nat.reduceLeDiff, Nat.reduceAdd, Nat.reduceMul, Int.reduceToNat, Nat.reducePow, ↓reduceIte, reduceCtorEq])) | (refine awp_cond _ rfl (fun hc => ?_) (fun hc => ?_) <;> (try (simp only [decide_eq_true_eq, decide_eq_false_iff_not, cds, Decidable.not_not, ite_or, ite_and] at hc)) <;> (try (exfalso; omega))) | (refine awp_exit ?_; (try simp only [sq, bk, ↓reduceIte, Nat.reduceEqDiff, reduceCtorEq])) | (refine awp_ret ?_) | (refine hK _ ?_; clear hK; (try clear K)) | (refine kk (by assumption) ?_))))
    (refine fin_le (.tup [.list (encRws RL) none, .con (.int .i64 0)]) (H') (by (try simp only [List.mem_singleton, forall_eq, resOk, List.mem_cons, List.not_mem_nil, or_false, forall_eq_or_imp, and_self])) (by (try simp only [go_sem, Nat.reduceLT, Nat.reduceEqDiff, Nat.reduceLeDiff, Nat.reduceAdd, Nat.reduceMul, Int.reduceToNat, Nat.reducePow, ↓reduceIte, reduceCtorEq]); (repeat' (first | exact .refl _ | exact AV.le_nil | exact AV.le_emp | exact AV.le_list _ _ | exact AV.le_any _ | exact lec_nil | refine AV.le_aggc rfl ?_ | refine AV.le_tupc rfl ?_ | refine lec_cons ?_ ?_))) (by ((try dsimp only); repeat' ((with_reducible exact .refl _)))) ⟨rfl, rfl⟩)
end Go.Proofs.YtababmnmkmgbbaaGreat
