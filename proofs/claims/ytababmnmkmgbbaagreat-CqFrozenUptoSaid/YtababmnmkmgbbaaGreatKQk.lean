/-
  A part of the proof: its theorems say what each gives.
-/
import Derived.Test.YtababmnmkmgbbaaGreatKQj
import Derived.Test.YtababmnmkmgbbaaGreatKSe
set_option maxRecDepth 100000
set_option maxHeartbeats 4000000
set_option linter.unusedSimpArgs false
set_option linter.unusedVariables false
namespace Go.Proofs.YtababmnmkmgbbaaGreat
open Go Fw
/-! cq.Run. -/
theorem gV_zero : gV zV := gRow_none.2 zV (List.mem_replicate.2 ⟨by decide, rfl⟩)
theorem valT_good {x : List Val} {t : Trm} (hx : gRow x) (ht : gTrm t) : gV (valT x t) := by
  unfold valT
  split
  · split
    · rename_i h
      rw [List.getD_eq_getElem?_getD]
      cases e : x[t.n.toNat]? with
      | none => exact gV_zero
      | some v => exact hx.at e
    · exact gV_zero
  · exact ht.v
theorem rowT_good {x : List Val} {l : List Trm} (hx : gRow x) (hl : gTs l) : gRow (l.map (valT x)) := ⟨by rw [List.length_map]; exact hl.1, fun v hv => by
  obtain ⟨t, ht, rfl⟩ := List.mem_map.1 hv
  exact valT_good hx (hl.2 t ht)⟩
def ansL (b : List Rel) (q : CQ) : List (List Val) := setU cmpR ((allL b q.body none24).map fun x => q.head.map (valT x))
def runE (b : List Rel) (q : CQ) : Int := if cqE b q = 0 then (if allE b q.body none24 = 0 then (if 300 < (ansL b q).length then 6 else 0) else allE b q.body none24) else cqE b q
def runL (b : List Rel) (q : CQ) : List (List Val) := if runE b q = 0 then ansL b q else []
theorem extL_good {b : List Rel} (hb : gBase b) : ∀ (l : List Atm) (xs : List (List Val)) {ys : List (List Val)}, extL b l xs = some ys → (∀ x ∈ xs, x.length = 24 ∧ gRow x) → ∀ y ∈ ys, y.length = 24 ∧ gRow y
  | [], xs, ys, h, hx => by rw [extL] at h; cases h; exact hx
  | a :: l, xs, ys, h, hx => by
    rw [extL_cons, extXs_eq b a xs [] (by simp), List.nil_append] at h
    split at h
    · rw [Option.bind_some] at h
      refine extL_good hb l _ h fun x hx2 => ?_
      obtain ⟨x0, h0, h1⟩ := List.mem_flatMap.1 hx2
      obtain ⟨row, hr, h2⟩ := List.mem_filterMap.1 h1
      obtain ⟨g1, g2⟩ := hx x0 h0
      obtain ⟨g3, g4⟩ := bindR_good h2 g2 ((rowsOf_good hb a.rel).2 row hr)
      exact ⟨g3.trans g1, g4⟩
    · cases h
theorem extL_len {b : List Rel} : ∀ (l : List Atm) (xs : List (List Val)) {ys : List (List Val)}, extL b l xs = some ys → xs.length ≤ 20000 → ys.length ≤ 20000
  | [], xs, ys, h, hx => by rw [extL] at h; cases h; exact hx
  | a :: l, xs, ys, h, hx => by
    rw [extL_cons, extXs_eq b a xs [] (by simp), List.nil_append] at h
    split at h
    · rw [Option.bind_some] at h
      rename_i hh
      exact extL_len l _ h hh
    · cases h
theorem allL_good {b : List Rel} (hb : gBase b) (l : List Atm) {x : List Val} (h24 : x.length = 24) (hx : gRow x) : (allL b l x).length ≤ 20000 ∧ ∀ y ∈ allL b l x, y.length = 24 ∧ gRow y := by
  unfold allL
  split
  · cases h : extL b l [x] with
    | none => simp
    | some ys =>
      exact ⟨extL_len l _ h (by simp), extL_good hb l _ h fun z hz => by rw [List.mem_singleton.1 hz]; exact ⟨h24, hx⟩⟩
  · simp
theorem compare_nil (a b : List Val) (ha : gRow a) (hb : gRow b) : PureAt Tryz.prog 142 ([cRw a, cRw b] ++ []) ⟨[], []⟩ (.con (.int .i64 (cmpR a b))) := c_compare a b _ ha hb
theorem gRow_num {x : List Val} (h : gRow x) : numR x := fun v hv => (h.2 v hv).2
theorem c_cqRun (b : List Rel) (w : CQ) (H : Hp) (hb : gBase b) (hw : gCQ w) : PureAt Tryz.prog 42 [.list (encRels b) none, cCQ w] H (.tup [.list (encRws (runL b w)) none, .con (.int .i64 (runE b w))]) := by
  have hck := fun H => c_cqCheck b w H hb hw
  have h1 := hw.head
  by_cases hce : cqE b w = 0
  rotate_left
  · have e : runE b w = cqE b w := by unfold runE; rw [if_neg hce]
    have e2 : runL b w = [] := by unfold runL; rw [if_neg (by rw [e]; exact hce)]
    rw [e, e2]
    refine acalls_of (by kernel_rfl) Tryz.func42 rfl 51 Tryz.ntmps42 (by simp) [.tmp 4, .tmp 5] rfl ?_
    ((repeat' (first | (refine awp_seq_k (fun K hK => ?_)) | (refine awp_reg _ rfl ?_; (try simp only [go_sem, Nat.reduceLT, Nat.reduceEqDiff, Nat.reduceLeDiff, Nat.reduceAdd, ↓reduceIte, reduceCtorEq, hce, decide_true, bls])) | (refine awp_cond _ rfl (fun hc => ?_) (fun hc => ?_) <;> (try (simp only [cds] at hc))) | (refine awp_ret ?_; (try simp only [sq])) | (refine PureAt.use (hck _) ?_ <;> (try simp only [go_sem])) | (refine orAt_r 3 ?_) | (refine orAt_l ?_) | (refine hK _ ?_; clear hK; (try clear K)))))
    (refine fin_le (.tup [.list (encRws []) none, .con (.int .i64 (cqE b w))]) (H) (by (try simp only [forall_eq, resOk, List.mem_cons, List.not_mem_nil, or_false, forall_eq_or_imp, and_self])) (by (try simp only [go_sem, Nat.reduceEqDiff, ↓reduceIte]); (repeat' (first | exact .refl _ | exact AV.le_nil | refine AV.le_tupc rfl ?_ | refine lec_cons ?_ ?_))) (by ((try dsimp only); repeat' ((with_reducible exact .refl _)))) ⟨rfl, rfl⟩)
  rw [hce] at hck
  have hal := fun H => c_All b w.body none24 H hb hw.body gRow_none rfl
  by_cases hae : allE b w.body none24 = 0
  rotate_left
  · have e : runE b w = allE b w.body none24 := by unfold runE; rw [if_pos hce, if_neg hae]
    have e2 : runL b w = [] := by unfold runL; rw [if_neg (by rw [e]; exact hae)]
    rw [e, e2]
    refine acalls_of (by kernel_rfl) Tryz.func42 rfl 51 Tryz.ntmps42 (by simp) [.tmp 4, .tmp 5] rfl ?_
    ((repeat' (first | (refine awp_seq_k (fun K hK => ?_)) | (refine awp_reg _ rfl ?_; (try simp only [go_sem, Nat.reduceLT, Nat.reduceEqDiff, Nat.reduceLeDiff, Nat.reduceAdd, ↓reduceIte, reduceCtorEq, hae, decide_true, decide_false, bls])) | (refine awp_drawn (by kernel_rfl) (by kernel_rfl) ?_; (try simp only [go_sem, Nat.reduceLT, Nat.reduceEqDiff, Nat.reduceLeDiff, Nat.reduceAdd, ↓reduceIte, reduceCtorEq, bls])) | (refine awp_cond _ rfl (fun hc => ?_) (fun hc => ?_) <;> (try (simp only [cds] at hc))) | (refine awp_skip ?_; (try simp only [sq])) | (refine awp_ret ?_; (try simp only [sq])) | (refine PureAt.use (hck _) ?_ <;> (try simp only [go_sem])) | (refine ⟨_, c_None _, ?_⟩) | (refine ⟨_, hal _, ?_⟩ <;> (try simp only [go_sem, Nat.reduceLT, Nat.reduceAdd])) | (refine orAt_r 3 ?_) | (refine orAt_l ?_) | (refine hK _ ?_; clear hK; (try clear K)))))
    (refine fin_le (.tup [.list (encRws []) none, .con (.int .i64 (allE b w.body none24))]) (H) (by (try simp only [forall_eq, resOk, List.mem_cons, List.not_mem_nil, or_false, forall_eq_or_imp, and_self])) (by (try simp only [go_sem, Nat.reduceEqDiff, ↓reduceIte]); (repeat' (first | exact .refl _ | exact AV.le_nil | refine AV.le_tupc rfl ?_ | refine lec_cons ?_ ?_))) (by ((try dsimp only); repeat' ((with_reducible exact .refl _)))) ⟨rfl, rfl⟩)
  rw [hae] at hal
  obtain ⟨hal1, hal2⟩ := allL_good hb w.body (x := none24) rfl gRow_none
  unfold runL runE
  rw [if_pos hce, if_pos hae]
  unfold ansL
  generalize allL b w.body none24 = l at *
  generalize hR : l.map (fun x => w.head.map (valT x)) = R
  have hRl : R.length = l.length := by rw [← hR, List.length_map]
  have hRg : ∀ x ∈ R, gRow x := fun x hx => by
    rw [← hR] at hx
    obtain ⟨y, hy, rfl⟩ := List.mem_map.1 hx
    exact rowT_good (hal2 y hy).2 h1
  generalize hU : setU cmpR R = U
  generalize hre : (if 300 < U.length then (6 : Int) else 0) = RE
  generalize hrl : (if RE = 0 then U else []) = RL
  refine acalls_of (by kernel_rfl) Tryz.func42 rfl 51 Tryz.ntmps42 (by simp) [.tmp 4, .tmp 5] rfl ?_
  ((repeat' (first | (refine awp_seq_k (fun K hK => ?_)) | (refine awp_block ?_) | (refine awp_reg _ rfl ?_; (try simp only [go_sem, Nat.reduceLT, Nat.reduceEqDiff, Nat.reduceLeDiff, Nat.reduceAdd, ↓reduceIte, reduceCtorEq, decide_false, bls])) | (refine awp_drawn (by kernel_rfl) (by kernel_rfl) ?_; (try simp only [go_sem, Nat.reduceLT, Nat.reduceEqDiff, Nat.reduceLeDiff, Nat.reduceAdd, ↓reduceIte, reduceCtorEq, bls])) | (refine awp_cond _ rfl (fun hc => ?_) (fun hc => ?_) <;> (try (simp only [cds] at hc))) | (refine awp_skip ?_; (try simp only [sq])) | (refine PureAt.use (hck _) ?_ <;> (try simp only [go_sem])) | (refine ⟨_, c_None _, ?_⟩) | (refine ⟨_, hal _, ?_⟩ <;> (try simp only [go_sem, Nat.reduceLT, Nat.reduceAdd])) | (refine orAt_r 3 ?_) | (refine orAt_l ?_) | (refine hK _ ?_; clear hK; (try clear K)))))
  refine awp_loopKG (ι := Nat × Nat) [3, 29, 30] (fun q => [(9, .sl q.2 q.1 80 1), (31, .con (.int .i64 (q.1 : Int)))]) (fun q => ⟨hold q.2 (encRws (R.take q.1)) H.bx, H.tk⟩) (fun q => q.1 ≤ l.length ∧ (q.1 = 0 ∨ H.box q.2 = none)) (fun q => l.length - q.1) (0, 0) (by intro; simp only [keepT_cons, keepT_nil, List.cons_append, List.nil_append, lk, Nat.reduceEqDiff, ↓reduceIte]; rfl) ?_ ?_ ?_ ?_
  · exact ⟨by omega, .inl rfl⟩
  · simp only [go_sem, Nat.reduceEqDiff, ↓reduceIte]
  · exact .refl _
  rintro ⟨i, ix⟩ ⟨hi, hx0⟩
  simp only at hi hx0
  rcases Nat.lt_or_ge i l.length with hlt | hge
  · obtain ⟨x, hx, hm⟩ := at_lt hlt
    have hRx : R[i]? = some (w.head.map (valT x)) := by rw [← hR, List.getElem?_map, hx]; rfl
    have hg := encRws_get hx
    have hz : i = 0 ↔ encRws (R.take i) = [] := by
      rw [← List.length_eq_zero_iff (l := encRws _), encRws_length, List.length_take]; omega
    have hlen : (encRws (R.take i)).length = i * 1 := by rw [encRws_length, List.length_take]; omega
    have hsl := slC_hold (id := ix) (bx := H.bx) (tk := H.tk) hz
    have hok := eq_true (slOk_hold (id := ix) (k := 1) (bx := H.bx) (tk := H.tk) hz hlen)
    have hdz : delZ i ix (hold ix (encRws (R.take i)) H.bx) = H.bx := by
      rcases hx0 with h0 | h0
      · subst h0; rfl
      · exact delZ_hold h0 hz
    ((repeat' (first | (refine awp_seq_k (fun K hK => ?_)) | (refine awp_block ?_) | (refine awp_reg _ rfl ?_; (try simp only [go_sem, Nat.reduceLT, Nat.reduceEqDiff, Nat.reduceLeDiff, Nat.reduceAdd, Nat.reduceMul, ↓reduceIte, reduceCtorEq, hg, hsl, hok, hdz, wrap_succ i (by omega)])) | (refine awp_cond _ rfl (fun hc => ?_) (fun hc => ?_) <;> (try (simp only [decide_eq_true_eq, decide_eq_false_iff_not] at hc)) <;> (try (exfalso; omega))) | (refine awp_skip ?_; (try simp only [sq])) | (refine PureAt.use (c_Row w.head x _ h1 (hal2 x hm).2) ?_ <;> (try simp only [go_sem, Nat.reduceAdd, hsl, hok, hdz, flat_rw1])) | (refine orAt_l ?_) | (with_reducible apply And.intro) | (refine all_fresh fun id fr => ?_) | (refine hK _ ?_; clear hK; (try clear K)))); (all_goals (try (first | omega | decide | (simp only [List.mem_cons, List.not_mem_nil, or_false, forall_eq, AV.cells, List.length_cons, List.length_nil, Nat.reduceAdd]; done)))))
    refine ⟨(i + 1, id), by simp only; omega, ⟨by simp only; omega, .inr (fresh_hold fr).1.1⟩, ?_⟩
    have hh : hold id (encRws (R.take (i + 1))) H.bx = (id, encRws (R.take i) ++ [cRw (w.head.map (valT x))]) :: H.bx := by
      rw [take_at hRx, encRws_append]; exact hold_ne (by simp [encRws])
    (refine st_le rfl ?_ (by ((try dsimp only); (try simp only [hh,  ]); repeat' ((with_reducible exact .refl _)))); (try simp only [go_sem, Nat.reduceEqDiff, ↓reduceIte]))
  · obtain rfl : i = l.length := by omega
    rw [← hRl, List.take_length]
    have hfr : R = [] ∨ H.box ix = none := by
      rcases hx0 with h | h
      · exact .inl (List.eq_nil_of_length_eq_zero (by omega))
      · exact .inr h
    ((repeat' (first | (refine awp_seq_k (fun K hK => ?_)) | (refine awp_reg _ rfl ?_; (try simp only [go_sem, Nat.reduceLT, Nat.reduceEqDiff, ↓reduceIte])) | (refine awp_cond _ rfl (fun hc => ?_) (fun hc => ?_) <;> (try (simp only [decide_eq_true_eq, decide_eq_false_iff_not] at hc)) <;> (try (exfalso; omega))) | (refine awp_exit ?_; (try simp only [sq, bk, ↓reduceIte])) | (refine orAt_l ?_) | (refine hK _ ?_; clear hK; (try clear K)) | (refine kk (by assumption) ?_))))
    refine ACalls.mono (c_SortRw R ix 80 142 [] H.bx H.tk (by omega) hRg (fun a ha b hb => compare_nil a b (hRg a ha) (hRg b hb))) (fun r H' hx => ?_)
    obtain ⟨l', hp, hs, rfl⟩ := hx
    have hpl := hp.length_eq
    have hcu := cpR_setU hp hs (fun x hx => gRow_num (hRg x hx))
    rw [← hpl]
    ((repeat' (first | (refine awp_seq_k (fun K hK => ?_)) | (refine awp_reg _ rfl ?_; (try simp only [go_sem, Nat.reduceLT, Nat.reduceEqDiff, ↓reduceIte])) | (refine orAt_l ?_) | (refine hK _ ?_; clear hK; (try clear K)))))
    refine ACalls.mono (c_Compact l' ix 144 [] H.bx H.tk (by omega) (by rcases hfr with h | h; left; subst h; exact List.eq_nil_of_length_eq_zero hpl; right; exact h) (fun a ha b hb H => c_Run1 a b H (hRg a (hp.mem_iff.1 ha)) (hRg b (hp.mem_iff.1 hb)))) (fun r H' hx => ?_)
    obtain ⟨rfl, rfl⟩ := hx
    rw [hcu, hU]
    by_cases h300 : 300 < U.length
    · have c3 : ((300 : Int) < (U.length : Int)) = True := eq_true (by omega)
      rw [if_pos h300] at hre
      subst hre
      rw [if_neg (by decide)] at hrl
      subst hrl
      ((repeat' (first | (refine awp_seq_k (fun K hK => ?_)) | (refine awp_reg _ rfl ?_; (try simp only [go_sem, Nat.reduceLT, ↓reduceIte, c3, decide_true])) | (refine awp_cond _ rfl (fun hc => ?_) (fun hc => ?_) <;> (try (simp only [cds] at hc))) | (refine awp_ret ?_; (try simp only [sq])) | (with_reducible apply And.intro) | (refine hK _ ?_; clear hK; (try clear K)))); (all_goals (try ((omega)))))
      (refine fin_le (.tup [.list (encRws []) none, .con (.int .i64 6)]) (H) (by (try simp only [forall_eq, resOk, List.mem_cons, List.not_mem_nil, or_false, forall_eq_or_imp, and_self])) (by (try simp only [go_sem, Nat.reduceEqDiff, ↓reduceIte]); (repeat' (first | exact .refl _ | exact AV.le_nil | refine AV.le_tupc rfl ?_ | refine lec_cons ?_ ?_))) (by ((try dsimp only); repeat' ((with_reducible exact .refl _)))) ⟨rfl, rfl⟩)
    · have c3 : ((300 : Int) < (U.length : Int)) = False := eq_false (by omega)
      rw [if_neg h300] at hre
      subst hre
      rw [if_pos rfl] at hrl
      subst hrl
      ((repeat' (first | (refine awp_seq_k (fun K hK => ?_)) | (refine awp_reg _ rfl ?_; (try simp only [go_sem, Nat.reduceLT, Nat.reduceEqDiff, ↓reduceIte, c3, decide_false])) | (refine awp_cond _ rfl (fun hc => ?_) (fun hc => ?_) <;> (try (simp only [cds] at hc))) | (refine awp_skip ?_; (try simp only [sq])) | (refine awp_ret ?_) | (with_reducible apply And.intro) | (refine hK _ ?_; clear hK; (try clear K)))); (all_goals (try ((omega)))))
      (refine fin_le (.tup [.list (encRws U) none, .con (.int .i64 0)]) (H) (by (try simp only [forall_eq, resOk, List.mem_cons, List.not_mem_nil, or_false, forall_eq_or_imp, and_self])) (by (try simp only [go_sem, Nat.reduceEqDiff, ↓reduceIte]); (repeat' (first | exact .refl _ | exact AV.le_nil | exact AV.le_emp | exact AV.le_list _ _ | exact AV.le_any _ | exact lec_nil | refine AV.le_aggc rfl ?_ | refine AV.le_tupc rfl ?_ | refine lec_cons ?_ ?_))) (by ((try dsimp only); repeat' ((with_reducible exact .refl _)))) ⟨rfl, rfl⟩)
end Go.Proofs.YtababmnmkmgbbaaGreat
