/-
  A part of the proof: its theorems say what each gives.
-/
import Derived.Test.YtababmnmkmgbbaaGreatKM34
import Derived.Test.YtababmnmkmgbbaaGreatKFw1
import Derived.Test.YtababmnmkmgbbaaGreatKFw2
import Derived.Test.YtababmnmkmgbbaaGreatKFw3
set_option maxRecDepth 100000
set_option maxHeartbeats 4000000
set_option linter.unusedSimpArgs false
set_option linter.unusedVariables false
namespace Go.Proofs.YtababmnmkmgbbaaGreat
open Go Fw
/-! slices.CompactFunc at rows. -/
theorem AV.fle_slc {id n c e k k' : Nat} {cs xs : List AV} (h0 : 0 < n) (hn : n = xs.length) (hk : ∀ x ∈ xs, x.fits k) (hl : xs.length * k ≤ cs.length) (hg : ∀ i j, i < xs.length → j < k → (xs.getD i .any).cells.getD j .any = cs.getD (i * k + j) .any) :
    AV.fle id cs (.slc id 0 n c e k') (.list xs none) := fun σ w v hf hv => by
  subst hn
  exact AV.fle_sl hk hl hg σ w v hf (AV.le_slc h0 σ w v hv)
theorem rws_at {l : List (List Val)} {i : Nat} {x : List Val} (h : l[i]? = some x) (tl : List AV) : ((encRws l ++ tl).drop i).getD 0 .any = .list (encVs x) none := by
  obtain ⟨hl, _⟩ := List.getElem?_eq_some_iff.1 h
  rw [List.getD_eq_getElem?_getD, List.getElem?_drop, Nat.add_zero, List.getElem?_append_left (by rw [encRws_length]; exact hl)]
  simp [encRws, h]
theorem rws_len {l : List (List Val)} {i : Nat} (h : i < l.length) (tl : List AV) : (1 ≤ ((encRws l ++ tl).drop i).length) = True := eq_true (by rw [List.length_drop, List.length_append, encRws_length]; omega)
theorem rws_set {l : List (List Val)} {i : Nat} (h : i < l.length) (v : List Val) (tl : List AV) : (encRws l ++ tl).take i ++ [AV.list (encVs v) none] ++ (encRws l ++ tl).drop (i + 1) = encRws (l.set i v) ++ tl := by
  rw [List.take_append_of_le_length (by rw [encRws_length]; omega), List.drop_append_of_le_length (by rw [encRws_length]; omega), List.set_eq_take_append_cons_drop, if_pos h]
  simp [encRws]
theorem c_Compact (l : List (List Val)) (id g : Nat) (cap : List AV) (bx : List (Nat × List AV)) (tk : List (Nat × Nat × Nat × Nat)) (hsz : l.length ≤ 4611686018427387904) (hfr : l = [] ∨ Hp.box ⟨bx, tk⟩ id = none)
    (hcmp : ∀ a ∈ l, ∀ b ∈ l, ∀ H, PureAt Tryz.prog g ([cRw a, cRw b] ++ cap) H (.con (.bool (decide (cmpR a b = 0))))) :
    ACalls Tryz.prog 143 [.sl id l.length 80 1, .fn g cap] ⟨hold id (encRws l) bx, tk⟩ fun r H' => r = .list (encRws (cpR l)) none ∧ H' = ⟨bx, tk⟩ := by
  refine ACalls.frz (R := fun r H' => (l.length < 2 ∧ r = .sl id l.length 80 1 ∧ H' = ⟨hold id (encRws l) bx, tk⟩) ∨ (∃ (n c : Nat) (tl : List AV), r = .slc id 0 n c 80 1 ∧ n = (cpR l).length ∧ 0 < n ∧ H' = ⟨(id, encRws (cpR l) ++ tl) :: bx, tk⟩)) ?_ fun r H' h => ?_
  rotate_left
  · rcases h with ⟨h1, h2, h3⟩ | ⟨n, c, tl, h1, h2, h3, h4⟩
    · subst h2 h3
      match l, h1 with
      | [], _ => exact .inl ⟨_, AV.le_sl_nil id _ _, rfl, rfl⟩
      | [x], _ =>
        refine .inr ⟨id, encRws [x], .list (encRws [x]) none, ⟨bx, tk⟩, ?_, fle_slL (encRws_fits [x]) rfl, rfl, ?_, rfl, rfl⟩
        · show ((id, encRws [x]) :: bx).lookup id = _; simp
        · exact fleX_skip (fleX_refl (by rcases hfr with h | h; cases h; exact h))
    · subst h1 h4
      have hne : l ≠ [] := fun e => by rw [e] at h2; simp [cpR] at h2; omega
      refine .inr ⟨id, encRws (cpR l) ++ tl, .list (encRws (cpR l)) none, ⟨bx, tk⟩, ?_, AV.fle_slc h3 (by rw [encRws_length]; exact h2) (encRws_fits _) (by rw [List.length_append]; omega) (fun i j hi hj => ?_), rfl, ?_, rfl, rfl⟩
      · show ((id, encRws (cpR l) ++ tl) :: bx).lookup id = _; simp
      · obtain rfl : j = 0 := by omega
        rw [encRws_length] at hi
        obtain ⟨x, hx, _⟩ := at_lt hi
        rw [encRws_get hx, Nat.mul_one, Nat.add_zero, List.getD_eq_getElem?_getD (l := encRws (cpR l) ++ tl), List.getElem?_append_left (by rw [encRws_length]; exact hi)]
        simp [encRws, hx, AV.cells]
      · exact fleX_skip (fleX_refl (by rcases hfr with h | h; exact absurd h hne; exact h))
  rcases Nat.lt_or_ge l.length 2 with hlt | hge
  · have c1 : ((l.length : Int) < 2) = True := eq_true (by omega)
    refine acalls_of (by kernel_rfl) Tryz.func143 rfl 66 Tryz.ntmps143 (by simp) [.tmp 4] rfl ?_
    ((repeat' (first | (refine awp_seq_k (fun K hK => ?_)) | (refine awp_reg _ rfl ?_; (try simp only [go_sem, Nat.reduceLT, Nat.reduceAdd, ↓reduceIte, reduceCtorEq, c1, decide_true])) | (refine awp_cond _ rfl (fun hc => ?_) (fun hc => ?_) <;> (try (simp only [cds] at hc))) | (refine awp_ret ?_; (try simp only [sq])) | (refine hK _ ?_; clear hK; (try clear K)))))
    refine fin_any (x := .sl id l.length 80 1) (H := ⟨hold id (encRws l) bx, tk⟩) (by (try simp only [forall_eq, resOk, List.mem_cons, List.not_mem_nil, or_false])) (by (try simp only [go_sem, ↓reduceIte])) (by ((try dsimp only); repeat' ((with_reducible exact .refl _)))) ?_
    exact .inl ⟨hlt, rfl, rfl⟩
  have hne : encRws l ≠ [] := by intro e; have := congrArg List.length e; rw [encRws_length, List.length_nil] at this; omega
  obtain ⟨x0, l0, rfl⟩ := List.exists_cons_of_ne_nil (fun e : l = [] => by rw [e] at hge; simp at hge)
  generalize hL : x0 :: l0 = L at *
  have c1 : ((L.length : Int) < 2) = False := eq_false (by omega)
  rw [hold_ne hne]
  refine acalls_of (by kernel_rfl) Tryz.func143 rfl 66 Tryz.ntmps143 (by simp) [.tmp 4] rfl ?_
  refine awp_openSl 0 (id := id) (n := L.length) (e := 80) (k := 1) (cs := encRws L) (by simp only [go_sem, Nat.reduceAdd, ↓reduceIte]) (by omega) (by show ((id, encRws L) :: bx).lookup id = _; simp) (by rw [encRws_length, Nat.mul_one]) (fun m => ?_)
  generalize hrst : List.replicate (m * 1) AV.any = rst
  ((repeat' (first | (refine awp_seq_k (fun K hK => ?_)) | (refine awp_block ?_) | (refine awp_reg _ rfl ?_; (try simp only [go_sem, Nat.reduceLT, Nat.reduceEqDiff, Nat.reduceLeDiff, Nat.reduceAdd, ↓reduceIte, reduceCtorEq, c1, decide_false, bls])) | (refine awp_cond _ rfl (fun hc => ?_) (fun hc => ?_) <;> (try (simp only [cds] at hc))) | (refine awp_skip ?_; (try simp only [sq])) | (refine hK _ ?_; clear hK; (try clear K)))))
  refine awp_loopKG (ι := Nat) [0, 1] (fun q => [(5, .con (.int .i64 (q : Int)))]) (fun q => ⟨(id, encRws L ++ rst) :: bx, tk⟩) (fun q => 1 ≤ q ∧ q ≤ L.length ∧ cpR L = L.take q ++ cpGo (L.getD (q - 1) []) (L.drop q)) (fun q => L.length - q) 1 (by intro; simp only [keepT_cons, keepT_nil, List.cons_append, List.nil_append, lk, Nat.reduceEqDiff, ↓reduceIte, reduceCtorEq]; rfl) ?_ ?_ ?_ ?_
  · exact ⟨by omega, by omega, by rw [← hL]; simp [cpR]⟩
  · simp only [go_sem, Nat.reduceEqDiff, ↓reduceIte]
  · ((try dsimp only); repeat' ((with_reducible exact .refl _)))
  rintro q ⟨hq1, hq2, h0⟩
  rcases Nat.lt_or_ge q L.length with hlt | hge
  · obtain ⟨j, rfl⟩ : ∃ j, q = j + 1 := ⟨q - 1, by omega⟩
    obtain ⟨y, hy, hym⟩ := at_lt hlt
    obtain ⟨p, hp, hpm⟩ := at_lt (show j < L.length by omega)
    have q1 := rws_at hy rst
    have q2 := rws_at hp rst
    have q3 := rws_len hlt rst
    have q4 := rws_len (show j < L.length by omega) rst
    have w1 : IntKind.i64.wrap (((j + 1 : Nat) : Int) - 1) = (j : Int) := by rw [wrap_id (by omega) (by omega)]; omega
    rw [show j + 1 - 1 = j by omega, drop_at hy, List.getD_eq_getElem?_getD, hp, Option.getD_some, cpGo] at h0
    by_cases hc0 : cmpR y p = 0
    · have hcm := fun H => hcmp y hym p hpm H
      rw [decide_eq_true hc0] at hcm
      ((repeat' (first | (refine awp_mixed (id := 6) [0, 1, 2, 3, 4, 5, 6, 7, 8, 9, 10] [10] [(10, [])] (by kernel_rfl) (by kernel_rfl) ?_; (try simp only [go_sem, Nat.reduceLT, Nat.reduceEqDiff, ↓reduceIte, reduceCtorEq, q1, q2, q3, q4, w1, Nat.zero_add, Nat.mul_one])) | (refine awp_seq_k (fun K hK => ?_)) | (refine awp_block ?_) | (refine awp_reg _ rfl ?_; (try simp only [go_sem, Nat.reduceLT, Nat.reduceEqDiff, ↓reduceIte, reduceCtorEq, Nat.zero_add])) | (refine awp_cond _ rfl (fun hc => ?_) (fun hc => ?_) <;> (try (simp only [decide_eq_true_eq, decide_eq_false_iff_not, cds] at hc)) <;> (try (exfalso; omega))) | (refine awp_skip ?_; (try simp only [sq])) | (refine PureAt.use (hcm _) ?_) | (refine orAt_l ?_) | (with_reducible apply And.intro) | (refine hK _ ?_; clear hK; (try clear K)))); (all_goals (try ((omega)))))
      refine awp_loopKG (ι := Nat × List (List Val)) [0, 1, 6] (fun q => [(5, .con (.int .i64 (q.2.length : Int))), (7, .con (.int .i64 (q.1 : Int)))]) (fun q => ⟨(id, encRws (q.2 ++ L.drop q.2.length) ++ rst) :: bx, tk⟩) (fun q => 1 ≤ q.1 ∧ q.1 ≤ L.length - (j + 1) ∧ q.2.length + 1 ≤ j + 1 + q.1 ∧ cpR L = q.2 ++ cpGo (L.getD (j + q.1) []) (L.drop (j + 1 + q.1))) (fun q => L.length - (j + 1) - q.1) (1, L.take (j + 1)) (by intro; simp only [keepT_cons, keepT_nil, List.cons_append, List.nil_append, lk, Nat.reduceEqDiff, ↓reduceIte, reduceCtorEq]; rfl) ?_ ?_ ?_ ?_
      · refine ⟨by omega, by simp only; omega, by simp only [List.length_take]; omega, ?_⟩
        rw [if_pos hc0] at h0
        rw [List.getD_eq_getElem?_getD, hy]
        exact h0
      · simp only [go_sem, Nat.reduceEqDiff, ↓reduceIte, List.length_take, Nat.min_eq_left hq2]
      · simp only [List.length_take, Nat.min_eq_left hq2, List.take_append_drop]
        exact .refl _
      rintro ⟨r, w⟩ ⟨hr1, hr2, hr3, h1⟩
      simp only at hr1 hr2 hr3 h1
      have hmat : ∀ i, w.length ≤ i → (w ++ L.drop w.length)[i]? = L[i]? := fun i hi => by
        rw [List.getElem?_append_right hi, List.getElem?_drop]; congr 1; omega
      have hmln : (w ++ L.drop w.length).length = L.length := by rw [List.length_append, List.length_drop]; omega
      rcases Nat.lt_or_ge r (L.length - (j + 1)) with hlr | hgr
      · obtain ⟨r, rfl⟩ : ∃ j, r = j + 1 := ⟨r - 1, by omega⟩
        obtain ⟨y, hy, hym⟩ := at_lt (show j + 1 + (r + 1) < L.length by omega)
        obtain ⟨p, hp, hpm⟩ := at_lt (show j + 1 + r < L.length by omega)
        have g1 := rws_at ((hmat (j + 1 + (r + 1)) (by omega)).trans hy) rst
        have g2 := rws_at ((hmat (j + 1 + r) (by omega)).trans hp) rst
        have g3 := rws_len (l := w ++ L.drop w.length) (i := j + 1 + (r + 1)) (by omega) rst
        have g4 := rws_len (l := w ++ L.drop w.length) (i := j + 1 + r) (by omega) rst
        have g5 := rws_set (l := w ++ L.drop w.length) (i := w.length) (by omega) y rst
        have g6 : (w.length + 1 ≤ (encRws (w ++ L.drop w.length) ++ rst).length) = True := eq_true (by rw [List.length_append, encRws_length]; omega)
        have w2 : IntKind.i64.wrap (((r + 1 : Nat) : Int) - 1) = (r : Int) := by rw [wrap_id (by omega) (by omega)]; omega
        rw [show j + (r + 1) = j + 1 + r by omega, drop_at hy, List.getD_eq_getElem?_getD, hp, Option.getD_some, cpGo] at h1
        have hcm := fun H => hcmp y hym p hpm H
        by_cases hc1 : cmpR y p = 0
        · rw [if_pos hc1] at h1
          rw [decide_eq_true hc1] at hcm
          ((repeat' (first | (refine awp_mixed (id := 11) [0, 1, 2, 3, 4, 5, 6, 7, 8, 9, 10, 11] [10] [(10, [])] (by kernel_rfl) (by kernel_rfl) ?_; (try simp only [go_sem, Nat.reduceLT, Nat.reduceEqDiff, ↓reduceIte, reduceCtorEq, g1, g2, g3, g4, w2, Nat.mul_one])) | (refine awp_seq_k (fun K hK => ?_)) | (refine awp_block ?_) | (refine awp_reg _ rfl ?_; (try simp only [go_sem, Nat.reduceLT, Nat.reduceEqDiff, ↓reduceIte, reduceCtorEq, wrap_succ (r + 1) (by omega)])) | (refine awp_cond _ rfl (fun hc => ?_) (fun hc => ?_) <;> (try (simp only [decide_eq_true_eq, decide_eq_false_iff_not, cds] at hc)) <;> (try (exfalso; omega))) | (refine awp_skip ?_; (try simp only [sq, bk])) | (refine PureAt.use (hcm _) ?_ <;> (try simp only [go_sem, bls])) | (refine orAt_l ?_) | (with_reducible apply And.intro) | (refine hK _ ?_; clear hK; (try clear K)))); (all_goals (try ((omega)))))
          refine ⟨(r + 1 + 1, w), by simp only; omega, ⟨by simp only; omega, by simp only; omega, by simp only; omega, ?_⟩, ?_⟩
          · simp only
            rw [show j + (r + 1 + 1) = j + 1 + (r + 1) by omega, List.getD_eq_getElem?_getD, hy, Option.getD_some]
            exact h1
          · (refine st_le rfl ?_ (by ((try dsimp only); repeat' ((with_reducible exact .refl _)))); (try simp only [go_sem, Nat.reduceEqDiff, ↓reduceIte, reduceCtorEq]))
        · rw [if_neg hc1] at h1
          rw [decide_eq_false hc1] at hcm
          ((repeat' (first | (refine awp_mixed (id := 11) [0, 1, 2, 3, 4, 5, 6, 7, 8, 9, 10, 11] [10] [(10, [])] (by kernel_rfl) (by kernel_rfl) ?_; (try simp only [go_sem, Nat.reduceLT, Nat.reduceEqDiff, ↓reduceIte, reduceCtorEq, g1, g2, g3, g4, w2, Nat.mul_one])) | (refine awp_seq_k (fun K hK => ?_)) | (refine awp_block ?_) | (refine awp_reg _ rfl ?_; (try simp only [go_sem, Nat.reduceLT, Nat.reduceEqDiff, ↓reduceIte, reduceCtorEq, g1, g3, g5, g6, wrap_succ (r + 1) (by omega), wrap_succ w.length (by omega), Nat.zero_add, Nat.mul_one])) | (refine awp_cond _ rfl (fun hc => ?_) (fun hc => ?_) <;> (try (simp only [decide_eq_true_eq, decide_eq_false_iff_not, cds] at hc)) <;> (try (exfalso; omega))) | (refine awp_skip ?_; (try simp only [sq])) | (refine PureAt.use (hcm _) ?_ <;> (try simp only [go_sem, bls])) | (refine orAt_l ?_) | (with_reducible apply And.intro) | (refine hK _ ?_; clear hK; (try clear K)))); (all_goals (try ((omega)))))
          have hset : (w ++ L.drop w.length).set w.length y = w ++ [y] ++ L.drop (w ++ [y]).length := by
            rw [List.set_append_right _ _ (Nat.le_refl _), Nat.sub_self, List.drop_eq_getElem_cons (show w.length < L.length by omega), List.set_cons_zero]
            simp
          have hln : (w ++ [y]).length = w.length + 1 := by simp
          refine ⟨(r + 1 + 1, w ++ [y]), by simp only; omega, ⟨by simp only; omega, by simp only; omega, by simp only; omega, ?_⟩, ?_⟩
          · simp only
            rw [show j + (r + 1 + 1) = j + 1 + (r + 1) by omega, List.getD_eq_getElem?_getD, hy, Option.getD_some, h1, List.append_assoc]
            rfl
          · rw [hset]
            (refine st_le rfl ?_ (by ((try dsimp only); (try simp only [hln,  ]); repeat' ((with_reducible exact .refl _)))); (try simp only [go_sem, Nat.reduceEqDiff, ↓reduceIte, reduceCtorEq, hln]))
      · obtain rfl : r = L.length - (j + 1) := by omega
        rw [List.drop_of_length_le (show L.length ≤ j + 1 + (L.length - (j + 1)) by omega), cpGo, List.append_nil] at h1
        have e1 : (0 < L.length + m - w.length) = True := eq_true (by omega)
        have e2 : (0 < L.length - w.length) = True := eq_true (by omega)
        have e3 : (w.length + (L.length - w.length) ≤ (encRws (w ++ L.drop w.length) ++ rst).length) = True := eq_true (by rw [List.length_append, encRws_length]; omega)
        have ht : List.take w.length (encRws (w ++ L.drop w.length) ++ rst) = encRws (cpR L) := by
          rw [h1, encRws_append, List.append_assoc, List.take_left' (encRws_length w)]
        have hw0 : 0 < w.length := by rw [← h1, ← hL]; simp [cpR]
        ((repeat' (first | (refine awp_seq_k (fun K hK => ?_)) | (refine awp_reg _ rfl ?_; (try simp only [go_sem, Nat.reduceLT, Nat.reduceEqDiff, Int.reduceToNat, ↓reduceIte, reduceCtorEq, e1, e2, e3, ht, Nat.zero_add, Nat.mul_one, Nat.add_zero, Nat.sub_zero])) | (refine awp_cond _ rfl (fun hc => ?_) (fun hc => ?_) <;> (try (simp only [decide_eq_true_eq, decide_eq_false_iff_not] at hc)) <;> (try (exfalso; omega))) | (refine awp_exit ?_; (try simp only [sq, bk, ↓reduceIte])) | (refine awp_ret ?_; (try simp only [sq, bk])) | (with_reducible apply And.intro) | (refine hK _ ?_; clear hK; (try clear K)) | (refine kk (by assumption) ?_))); (all_goals (try (first | omega | decide))))
        rw [List.append_assoc]
        refine fin_any (x := .slc id 0 w.length (L.length + m) 80 1) (H := ⟨(id, _) :: bx, tk⟩) (by (try simp only [forall_eq, List.mem_cons, List.not_mem_nil, or_false, resOk])) rfl (.refl _) (.inr ⟨w.length, L.length + m, _, rfl, by rw [h1], hw0, rfl⟩)
    · rw [if_neg hc0] at h0
      have hcm := fun H => hcmp y hym p hpm H
      rw [decide_eq_false hc0] at hcm
      ((repeat' (first | (refine awp_mixed (id := 6) [0, 1, 2, 3, 4, 5, 6, 7, 8, 9, 10] [10] [(10, [])] (by kernel_rfl) (by kernel_rfl) ?_; (try simp only [go_sem, Nat.reduceLT, Nat.reduceEqDiff, ↓reduceIte, reduceCtorEq, q1, q2, q3, q4, w1, Nat.zero_add, Nat.mul_one])) | (refine awp_seq_k (fun K hK => ?_)) | (refine awp_block ?_) | (refine awp_reg _ rfl ?_; (try simp only [go_sem, Nat.reduceLT, Nat.reduceEqDiff, ↓reduceIte, reduceCtorEq, wrap_succ (j + 1) (by omega)])) | (refine awp_cond _ rfl (fun hc => ?_) (fun hc => ?_) <;> (try (simp only [decide_eq_true_eq, decide_eq_false_iff_not, cds] at hc)) <;> (try (exfalso; omega))) | (refine awp_skip ?_; (try simp only [sq, bk])) | (refine PureAt.use (hcm _) ?_) | (refine orAt_l ?_) | (with_reducible apply And.intro) | (refine hK _ ?_; clear hK; (try clear K)))); (all_goals (try ((omega)))))
      refine ⟨j + 1 + 1, by omega, ⟨by omega, by omega, ?_⟩, ?_⟩
      · rw [show j + 1 + 1 - 1 = j + 1 by omega, List.getD_eq_getElem?_getD, hy, take_at hy, h0]; simp
      · (refine st_le rfl ?_ (by ((try dsimp only); repeat' ((with_reducible exact .refl _)))); (try simp only [go_sem, Nat.reduceEqDiff, ↓reduceIte, reduceCtorEq]))
  · obtain rfl : q = L.length := by omega
    have hcp : cpR L = L := by rw [h0, List.take_length, List.drop_length]; simp [cpGo]
    ((repeat' (first | (refine awp_seq_k (fun K hK => ?_)) | (refine awp_reg _ rfl ?_; (try simp only [go_sem, Nat.reduceLT, Nat.reduceEqDiff, Nat.reduceLeDiff, Nat.reduceAdd, ↓reduceIte, reduceCtorEq])) | (refine awp_cond _ rfl (fun hc => ?_) (fun hc => ?_) <;> (try (simp only [decide_eq_true_eq, decide_eq_false_iff_not] at hc)) <;> (try (exfalso; omega))) | (refine awp_exit ?_; (try simp only [sq, bk, ↓reduceIte])) | (refine awp_ret ?_) | (refine hK _ ?_; clear hK; (try clear K)) | (refine kk (by assumption) ?_))))
    refine fin_any (x := .slc id 0 L.length (L.length + m) 80 1) (H := ⟨(id, encRws L ++ rst) :: bx, tk⟩) (by (try simp only [forall_eq, resOk, List.mem_cons, List.not_mem_nil, or_false])) (by (try simp only [go_sem, ↓reduceIte])) (by ((try dsimp only); repeat' ((with_reducible exact .refl _)))) ?_
    exact .inr ⟨L.length, L.length + m, rst, rfl, by rw [hcp], by omega, by rw [hcp]⟩
end Go.Proofs.YtababmnmkmgbbaaGreat
