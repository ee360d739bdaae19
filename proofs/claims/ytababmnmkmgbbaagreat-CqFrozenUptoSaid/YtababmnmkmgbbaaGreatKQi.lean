/-
  A part of the proof: its theorems say what each gives.
-/
import Derived.Test.YtababmnmkmgbbaaGreatKQg
import Derived.Test.YtababmnmkmgbbaaGreatKQh
import Derived.Test.YtababmnmkmgbbaaGreatKM23
set_option maxRecDepth 100000
set_option maxHeartbeats 4000000
set_option linter.unusedSimpArgs false
set_option linter.unusedVariables false
namespace Go.Proofs.YtababmnmkmgbbaaGreat
open Go Fw
/-! cq.Extend. -/
theorem bxP_cons (q : Nat × List Val) (p : Rws) (bx : List (Nat × List AV)) : bxP (q :: p) ++ bx = (q.1, flat (encVs q.2)) :: (bxP p ++ bx) := rfl
theorem rowsOf_good {b : List Rel} (h : gBase b) (nm : ByteArray) : gRws (rowsOf b nm) := by
  unfold rowsOf
  cases hf : findR b nm with
  | none => exact ⟨by simp, by simp⟩
  | some r => exact (h.2 r (findR_mem hf)).rows
theorem extL_cons (b : List Rel) (a : Atm) (l : List Atm) (xs : List (List Val)) : extL b (a :: l) xs = (extXs a (rowsOf b a.rel) [] xs).bind (extL b l) := by
  rw [extL]; cases extXs a (rowsOf b a.rel) [] xs <;> rfl
theorem extXs_cons (a : Atm) (rows acc : List (List Val)) (x : List Val) (xs : List (List Val)) : extXs a rows acc (x :: xs) = (extRows x a acc rows).bind (fun acc' => extXs a rows acc' xs) := by
  rw [extXs]; cases extRows x a acc rows <;> rfl
theorem c_Extend (b : List Rel) (l : List Atm) (first : List Val) (H : Hp) (hb : gBase b) (hl : gAs l) (hf : gRow first) (h24 : first.length = 24) :
    ACalls Tryz.prog 48 [.list (encRels b) none, .list (encAs l) none, .list (encVs first) none] H fun r H' => (extL b l [first] = none ∧ r = .tup [.con (.slice none 0 0), .con (.int .i64 6)] ∧ H' = H) ∨
      ∃ p : Rws, extL b l [first] = some (vlP p) ∧ p.length ≤ 20000 ∧ okP24 H.bx p ∧ r = .tup [.list (slP p) none, .con (.int .i64 0)] ∧ H' = ⟨bxP p ++ H.bx, H.tk⟩ := by
  obtain ⟨hl1, hl2⟩ := hl
  have hcl : ∀ H, ACalls Tryz.prog 150 [.list (encVs first) none] H (fun r H' => ∃ t, fresh H t ∧ r = .sl t 24 92 4 ∧ H' = ⟨(t, flat (encVs first)) :: H.bx, H.tk⟩) := fun H => by
    have := c_CloneBndX first H (by omega) (by omega)
    rw [h24] at this
    exact this
  generalize hres : extL b l [first] = res
  refine acalls_of (by kernel_rfl) Tryz.func48 rfl 71 Tryz.ntmps48 (by simp) [.tmp 6, .tmp 7] rfl ?_
  ((repeat' (first | (refine awp_seq_k (fun K hK => ?_)) | (refine awp_block ?_) | (refine awp_reg _ rfl ?_; (try simp only [go_sem, Nat.reduceLT, Nat.reduceEqDiff, Nat.reduceLeDiff, Nat.reduceAdd, Nat.reduceMul, ↓reduceIte, reduceCtorEq])) | (refine ACalls.ex (hcl _) (fun id fr => ?_) <;> ((try simp only [go_sem, Nat.reduceAdd]))) | (refine orAt_l ?_) | (with_reducible apply And.intro) | (refine hK _ ?_; clear hK; (try clear K)))); (all_goals (try ((decide)))))
  refine awp_loopKG (ι := Nat × Rws) [0, 23, 24] (fun q => [(8, .list (slP q.2) none), (25, .con (.int .i64 (q.1 : Int)))]) (fun q => ⟨bxP q.2 ++ H.bx, H.tk⟩) (fun q => q.1 ≤ l.length ∧ okP24 H.bx q.2 ∧ q.2.length ≤ 20000 ∧ extL b (l.drop q.1) (vlP q.2) = res) (fun q => l.length - q.1) (0, [(id, first)]) (by intro; simp only [keepT_cons, keepT_nil, List.cons_append, List.nil_append, lk, Nat.reduceEqDiff, ↓reduceIte, reduceCtorEq]; rfl) ?_ ?_ ?_ ?_
  · exact ⟨by omega, ⟨fr.1, ⟨h24, hf⟩, trivial⟩, by simp, by simpa [vlP] using hres⟩
  · simp only [go_sem, Nat.reduceEqDiff, ↓reduceIte, show slP [(id, first)] = [.sl id 24 92 4] from rfl]
  · exact .refl _
  clear fr
  rintro ⟨i, p⟩ ⟨hi, hp, hpl, h0⟩
  simp only at hi hp hpl h0
  rcases Nat.lt_or_ge i l.length with hlt | hge
  rotate_left
  · obtain rfl : i = l.length := by omega
    rw [List.drop_length, extL] at h0
    subst h0
    ((repeat' (first | (refine awp_seq_k (fun K hK => ?_)) | (refine awp_reg _ rfl ?_; (try simp only [go_sem, Nat.reduceLT, Nat.reduceEqDiff, ↓reduceIte, reduceCtorEq])) | (refine awp_cond _ rfl (fun hc => ?_) (fun hc => ?_) <;> (try (simp only [decide_eq_true_eq, decide_eq_false_iff_not] at hc)) <;> (try (exfalso; omega))) | (refine awp_exit ?_; (try simp only [sq, bk, ↓reduceIte])) | (refine awp_ret ?_; (try simp only [↓reduceIte, reduceCtorEq])) | (refine hK _ ?_; clear hK; (try clear K)) | (refine kk (by assumption) ?_))))
    refine fin_any (x := .tup [.list (slP p) none, .con (.int .i64 0)]) (H := ⟨bxP p ++ H.bx, H.tk⟩) (by (try simp only [forall_eq, resOk, List.mem_cons, List.not_mem_nil, or_false, forall_eq_or_imp, and_self])) (by (try simp only [go_sem, Nat.reduceEqDiff, ↓reduceIte])) (by ((try dsimp only); repeat' ((with_reducible exact .refl _)))) ?_
    exact .inr ⟨p, rfl, hpl, hp, rfl, rfl⟩
  obtain ⟨a, ha, hm⟩ := at_lt hlt
  have hg := encAs_get ha
  have hga := hl2 a hm
  have hvl := vlP_mem hp
  rw [drop_at ha, extL_cons] at h0
  refine awp_cut 2 (fun K hK => ?_)
  simp only [dropN] at hK
  have hK1 : ∀ s : St, St.le s ⟨71, [(0, .list (encRels b) none), (8, .list (slP p) none), (23, .list (encAs l) none), (24, .con (.int .i64 l.length)), (25, .con (.int .i64 (i : Int)))], ⟨bxP p ++ H.bx, H.tk⟩⟩ → K s := by
    intro s hs
    refine hK _ (awp_weak _ hs ?_)
    clear hs hK
    refine awp_freezeRows 8 [0, 23, 24, 25] (by decide) p [] (by simp only [keepT_cons, keepT_nil, lk, Nat.reduceEqDiff, ↓reduceIte, reduceCtorEq]; rfl) (by simp) hp (by rw [List.append_nil]; simp only [go_sem, ↓reduceIte, reduceCtorEq]) rfl ?_
    rw [List.append_nil]
    refine awp_seq_k (fun K hK => ?_)
    refine awp_block ?_
    refine awp_cut 3 (fun K4 hK4 => ?_)
    simp only [dropN] at hK4
    have hK5 : ∀ s : St, St.le s ⟨71, [(0, .list (encRels b) none), (8, .list (encRws (vlP p)) none), (10, .ro [.con (.string a.rel), .list (encTs a.args) none]), (11, .list (encRws (rowsOf b a.rel)) none), (23, .list (encAs l) none), (24, .con (.int .i64 l.length)), (25, .con (.int .i64 (i : Int)))], H⟩ → K4 s := by
      intro s hs
      refine hK4 _ (awp_weak _ hs ?_)
      clear hs hK4
      have hrg := rowsOf_good hb a.rel
      generalize rowsOf b a.rel = rows at h0 hrg
      obtain ⟨hrg1, hrg2⟩ := hrg
      have hnl : (vlP p).length ≤ 20000 := by rw [vlP_length]; exact hpl
      generalize hvp : vlP p = now at h0 hvl hnl
      ((repeat' (first | (refine awp_seq_k (fun K hK => ?_)) | (refine awp_block ?_) | (refine awp_reg _ rfl ?_; (try simp only [go_sem, Nat.reduceLT, Nat.reduceEqDiff, ↓reduceIte, reduceCtorEq])) | (refine hK _ ?_; clear hK; (try clear K)))))
      refine awp_nilK 13 81 1 [0, 10, 11, 23, 24, 25, 39, 40, 41] (by simp only [keepT_cons, keepT_nil, lk, Nat.reduceEqDiff, ↓reduceIte, reduceCtorEq]; rfl) (by simp only [go_sem, Nat.reduceEqDiff, ↓reduceIte]) (fun t frt => ?_)
      refine awp_loopKG (ι := Nat × Rws) [0, 10, 11, 23, 24, 25, 39, 40] (fun q => [(13, .list (slP q.2) (some t)), (41, .con (.int .i64 (q.1 : Int)))]) (fun q => ⟨bxP q.2 ++ H.bx, (t, q.2.length, 81, 1) :: H.tk⟩) (fun q => q.1 ≤ now.length ∧ okP24 H.bx q.2 ∧ q.2.length ≤ 20000 ∧ (extXs a rows (vlP q.2) (now.drop q.1)).bind (extL b (l.drop (i + 1))) = res) (fun q => now.length - q.1) (0, []) (by intro; simp only [keepT_cons, keepT_nil, List.cons_append, List.nil_append, lk, Nat.reduceEqDiff, ↓reduceIte, reduceCtorEq]; rfl) ?_ ?_ ?_ ?_
      · exact ⟨by omega, trivial, by simp, by simpa [vlP] using h0⟩
      · simp only [go_sem, Nat.reduceEqDiff, ↓reduceIte, reduceCtorEq, show slP [] = [] from rfl]
      · exact .refl _
      rintro ⟨j, q⟩ ⟨hj, hq, hql, h1⟩
      simp only at hj hq hql h1
      rcases Nat.lt_or_ge j now.length with hlj | hgj
      rotate_left
      · obtain rfl : j = now.length := by omega
        rw [List.drop_length, extXs, Option.bind_some] at h1
        ((repeat' (first | (refine awp_seq_k (fun K hK => ?_)) | (refine awp_reg _ rfl ?_; (try simp only [go_sem, Nat.reduceLT, Nat.reduceEqDiff, ↓reduceIte, reduceCtorEq, wrap_succ i (by omega)])) | (refine awp_cond _ rfl (fun hc => ?_) (fun hc => ?_) <;> (try (simp only [decide_eq_true_eq, decide_eq_false_iff_not] at hc)) <;> (try (exfalso; omega))) | (refine awp_exit ?_; (try simp only [sq, bk, ↓reduceIte])) | (refine hK _ ?_; clear hK; (try clear K)) | (refine kk (by assumption) ?_))))
        refine ⟨(i + 1, q), by simp only; omega, ⟨by simp only; omega, hq, hql, h1⟩, ?_⟩
        refine st_le rfl ?_ (weak_tok (i := t) (by have := frt.2; exact this) (.refl _))
        simp only [go_sem, Nat.reduceLT, Nat.reduceEqDiff, Nat.reduceLeDiff, Nat.reduceAdd, ↓reduceIte, reduceCtorEq]
      obtain ⟨x, hx, hxm⟩ := at_lt hlj
      obtain ⟨hx24, hxg⟩ := hvl x hxm
      have hg2 := encRws_get hx
      rw [drop_at hx, extXs_cons] at h1
      ((repeat' (first | (refine awp_seq_k (fun K hK => ?_)) | (refine awp_block ?_) | (refine awp_reg _ rfl ?_; (try simp only [go_sem, Nat.reduceLT, Nat.reduceEqDiff, Nat.reduceLeDiff, Nat.reduceAdd, ↓reduceIte, reduceCtorEq, hg2])) | (refine awp_cond _ rfl (fun hc => ?_) (fun hc => ?_) <;> (try (simp only [decide_eq_true_eq, decide_eq_false_iff_not] at hc)) <;> (try (exfalso; omega))) | (refine awp_skip ?_; (try simp only [sq])) | (with_reducible apply And.intro) | (refine hK _ ?_; clear hK; (try clear K)))); (all_goals (try ((omega)))))
      refine awp_loopKG (ι := Nat × Rws) [0, 10, 11, 15, 23, 24, 25, 39, 40, 41, 45, 46] (fun q => [(13, .list (slP q.2) (some t)), (47, .con (.int .i64 (q.1 : Int)))]) (fun q => ⟨bxP q.2 ++ H.bx, (t, q.2.length, 81, 1) :: H.tk⟩) (fun q => q.1 ≤ rows.length ∧ okP24 H.bx q.2 ∧ q.2.length ≤ 20000 ∧ ((extRows x a (vlP q.2) (rows.drop q.1)).bind (fun acc' => extXs a rows acc' (now.drop (j + 1)))).bind (extL b (l.drop (i + 1))) = res) (fun q => rows.length - q.1) (0, q) (by intro; simp only [keepT_cons, keepT_nil, List.cons_append, List.nil_append, lk, Nat.reduceEqDiff, ↓reduceIte, reduceCtorEq]; rfl) ?_ ?_ ?_ ?_
      · exact ⟨by omega, hq, hql, by simpa using h1⟩
      · simp only [go_sem, Nat.reduceEqDiff, ↓reduceIte]
      · exact .refl _
      clear hq h1 hql
      rintro ⟨m, q⟩ ⟨hm2, hq, hql, h1⟩
      simp only at hm2 hq hql h1
      rcases Nat.lt_or_ge m rows.length with hlm | hgm
      rotate_left
      · obtain rfl : m = rows.length := by omega
        rw [List.drop_length, extRows, Option.bind_some] at h1
        ((repeat' (first | (refine awp_seq_k (fun K hK => ?_)) | (refine awp_reg _ rfl ?_; (try simp only [go_sem, Nat.reduceLT, Nat.reduceEqDiff, ↓reduceIte, reduceCtorEq, wrap_succ j (by omega)])) | (refine awp_cond _ rfl (fun hc => ?_) (fun hc => ?_) <;> (try (simp only [decide_eq_true_eq, decide_eq_false_iff_not] at hc)) <;> (try (exfalso; omega))) | (refine awp_exit ?_; (try simp only [sq, bk, ↓reduceIte])) | (refine hK _ ?_; clear hK; (try clear K)) | (refine kk (by assumption) ?_))))
        refine ⟨(j + 1, q), by simp only; omega, ⟨by simp only; omega, hq, hql, h1⟩, ?_⟩
        (refine st_le rfl ?_ (by ((try dsimp only); repeat' (((refine weak_tokeq (by (rfl))))))); (try simp only [go_sem, Nat.reduceEqDiff, ↓reduceIte, reduceCtorEq]))
      obtain ⟨row, hrow, hrm⟩ := at_lt hlm
      have hgr := hrg2 row hrm
      have hg3 := encRws_get hrow
      rw [drop_at hrow, extRows] at h1
      cases hbr : bindR x a row with
      | none =>
        rw [hbr, show addO (vlP q) none = vlP q from rfl, vlP_length] at h1
        have hcb := fun H => c_bindN (x := x) (a := a) (row := row) H hxg (by omega) hga hgr hbr
        rw [if_neg (show ¬ 20000 < q.length by omega)] at h1
        have c3 : ((20000 : Int) < (q.length : Int)) = False := eq_false (by omega)
        ((repeat' (first | (refine awp_seq_k (fun K hK => ?_)) | (refine awp_block ?_) | (refine awp_reg _ rfl ?_; (try simp only [go_sem, Nat.reduceLT, Nat.reduceEqDiff, Nat.reduceLeDiff, Nat.reduceAdd, ↓reduceIte, reduceCtorEq, hg3, c3, wrap_succ m (by omega), decide_false])) | (refine awp_cond _ rfl (fun hc => ?_) (fun hc => ?_) <;> (try (simp only [decide_eq_true_eq, decide_eq_false_iff_not, cds] at hc)) <;> (try (exfalso; omega))) | (refine awp_skip ?_; (try simp only [sq, bk])) | (refine PureAt.use (hcb _) ?_ <;> (try simp only [go_sem, Nat.reduceLT, Nat.reduceAdd])) | (refine orAt_l ?_) | (with_reducible apply And.intro) | (refine hK _ ?_; clear hK; (try clear K)))); (all_goals (try ((omega)))))
        refine ⟨(m + 1, q), by simp only; omega, ⟨by simp only; omega, hq, hql, h1⟩, ?_⟩
        (refine st_le rfl ?_ (by ((try dsimp only); repeat' (((refine weak_tokeq (by (rfl))))))); (try simp only [go_sem, Nat.reduceEqDiff, ↓reduceIte, reduceCtorEq]))
      | some y =>
        rw [hbr, show addO (vlP q) (some y) = vlP q ++ [y] from rfl, List.length_append, vlP_length, List.length_singleton] at h1
        have hcb := fun H => c_bindS (x := x) (a := a) (row := row) (y := y) H hxg hx24 hga hgr hbr
        obtain ⟨hy1, hy2⟩ := bindR_good hbr hxg hgr
        have hln : ∀ i, (slP q ++ [AV.sl i 24 92 4]).length = q.length + 1 := fun i => by rw [List.length_append, slP_length]; rfl
        by_cases hov : 20000 < q.length + 1
        · rw [if_pos hov] at h1
          simp only [Option.bind_none] at h1
          subst h1
          have c3 : ((20000 : Int) < ((q.length + 1 : Nat) : Int)) = True := eq_true (by omega)
          ((repeat' (first | (refine awp_seq_k (fun K hK => ?_)) | (refine awp_block ?_) | (refine awp_reg _ rfl ?_; (try simp only [go_sem, Nat.reduceLT, Nat.reduceEqDiff, Nat.reduceLeDiff, Nat.reduceAdd, Nat.reduceMul, ↓reduceIte, reduceCtorEq, hg3, c3, hln, decide_true, bls])) | (refine awp_cond _ rfl (fun hc => ?_) (fun hc => ?_) <;> (try (simp only [decide_eq_true_eq, decide_eq_false_iff_not, cds] at hc)) <;> (try (exfalso; omega))) | (refine awp_skip ?_; (try simp only [sq])) | (refine awp_ret ?_; (try simp only [sq, bk, reduceCtorEq])) | (refine ACalls.ex (hcb _) (fun id fr => ?_) <;> ((try have := NeI.of_frt fr); (try simp only [go_sem, Nat.reduceLT, Nat.reduceAdd]))) | (refine orAt_l ?_) | (with_reducible apply And.intro) | (refine hK _ ?_; clear hK; (try clear K)))); (all_goals (try (first | omega | decide | (simp only [List.mem_cons, List.not_mem_nil, or_false, forall_eq, AV.cells, List.length_cons, List.length_nil, Nat.reduceAdd]; done)))))
          have hq2 : okP24 H.bx ((id, y) :: q) := ⟨fr.1, ⟨hy1.trans hx24, hy2⟩, hq⟩
          refine fin_any (x := .tup [.con (.slice none 0 0), .con (.int .i64 6)]) (H := H) (by (try simp only [forall_eq, List.mem_cons, List.not_mem_nil, or_false, forall_eq_or_imp, and_self, resOk])) rfl (weak_tok (i := t) (by have := frt.2; exact this) (weak_bxP hq2 (.refl _))) (by (exact .inl ⟨trivial, rfl, rfl⟩))
        · rw [if_neg hov] at h1
          have c3 : ((20000 : Int) < ((q.length + 1 : Nat) : Int)) = False := eq_false (by omega)
          ((repeat' (first | (refine awp_seq_k (fun K hK => ?_)) | (refine awp_block ?_) | (refine awp_reg _ rfl ?_; (try simp only [go_sem, Nat.reduceLT, Nat.reduceEqDiff, Nat.reduceLeDiff, Nat.reduceAdd, Nat.reduceMul, ↓reduceIte, reduceCtorEq, hg3, c3, hln, wrap_succ m (by omega), decide_false, bls])) | (refine awp_cond _ rfl (fun hc => ?_) (fun hc => ?_) <;> (try (simp only [decide_eq_true_eq, decide_eq_false_iff_not, cds] at hc)) <;> (try (exfalso; omega))) | (refine awp_skip ?_; (try simp only [sq, bk])) | (refine ACalls.ex (hcb _) (fun id fr => ?_) <;> ((try have := NeI.of_frt fr); (try simp only [go_sem, Nat.reduceLT, Nat.reduceAdd]))) | (refine orAt_l ?_) | (with_reducible apply And.intro) | (refine hK _ ?_; clear hK; (try clear K)))); (all_goals (try (first | omega | decide | (simp only [List.mem_cons, List.not_mem_nil, or_false, forall_eq, AV.cells, List.length_cons, List.length_nil, Nat.reduceAdd]; done)))))
          have hq2 : okP24 H.bx ((id, y) :: q) := ⟨fr.1, ⟨hy1.trans hx24, hy2⟩, hq⟩
          refine ⟨(m + 1, (id, y) :: q), by simp only; omega, ⟨by simp only; omega, hq2, by simp only [List.length_cons]; omega, by rw [vlP_cons]; exact h1⟩, ?_⟩
          (refine st_le rfl ?_ (by ((try dsimp only); (try simp only [bxP_cons,  List.length_cons]); repeat' (((refine weak_tokeq (by (rfl))))))); (try simp only [go_sem, Nat.reduceEqDiff, ↓reduceIte, reduceCtorEq, slP_cons]))
    clear hK4
    have hx := fun H => c_IdxRel b 152 [.ro [.con (.string a.rel), .list (encTs a.args) none]] (fun r => decide (r.nm = a.rel)) H (by have := hb.1; omega) (fun r _ => c_Ext1 r a.rel _ _)
    by_cases h0' : 0 ≤ idxL (fun r : Rel => decide (r.nm = a.rel)) b
    · obtain ⟨r, e1, e2⟩ := idxL_get h0'
      have e3 : rowsOf b a.rel = r.rows := by unfold rowsOf findR; rw [e2]; rfl
      rw [e3] at hK5
      obtain ⟨n, hn⟩ : ∃ n : Nat, idxL (fun r : Rel => decide (r.nm = a.rel)) b = n := ⟨_, (Int.toNat_of_nonneg h0').symm⟩
      rw [hn, Int.toNat_natCast] at e1
      obtain ⟨hlt2, _⟩ := List.getElem?_eq_some_iff.1 e1
      rw [hn] at hx
      have hgr := encRels_get e1
      have hn2 : (0 ≤ (n : Int)) = True := eq_true (by omega)
      ((repeat' (first | (refine awp_seq_k (fun K hK => ?_)) | (refine awp_reg _ rfl ?_; (try simp only [go_sem, Nat.reduceLT, Nat.reduceEqDiff, Nat.reduceLeDiff, Nat.reduceAdd, ↓reduceIte, reduceCtorEq, hg, hgr, hn2, decide_true, bls])) | (refine awp_cond _ rfl (fun hc => ?_) (fun hc => ?_) <;> (try (simp only [cds] at hc))) | (refine PureAt.use (hx _) ?_ <;> (try simp only [go_sem])) | (refine orAt_r 10 ?_; (try simp only [go_sem, Nat.reduceLT, Nat.reduceAdd, ↓reduceIte, bls])) | (refine orAt_l ?_) | (with_reducible apply And.intro) | (refine awpN_zero ?_) | (refine hK _ ?_; clear hK; (try clear K)))); (all_goals (try ((omega)))))
      exact hK5 _ (by (refine st_le rfl ?_ (by ((try dsimp only); repeat' ((with_reducible exact .refl _)))); (try simp only [go_sem, Nat.reduceEqDiff, ↓reduceIte, reduceCtorEq])))
    · have e3 : rowsOf b a.rel = [] := by
        unfold rowsOf findR
        have := idxL_any (fun r : Rel => decide (r.nm = a.rel)) b
        rw [decide_eq_false h0'] at this
        rw [List.find?_eq_none.2]
        · rfl
        · intro x hx
          have h2 := List.any_eq_false.1 this.symm x hx
          simpa using h2
      rw [e3] at hK5
      have hn2 : (0 ≤ idxL (fun r : Rel => decide (r.nm = a.rel)) b) = False := eq_false h0'
      ((repeat' (first | (refine awp_seq_k (fun K hK => ?_)) | (refine awp_reg _ rfl ?_; (try simp only [go_sem, Nat.reduceLT, Nat.reduceEqDiff, Nat.reduceLeDiff, Nat.reduceAdd, ↓reduceIte, reduceCtorEq, hg, hn2, decide_false, bls])) | (refine awp_cond _ rfl (fun hc => ?_) (fun hc => ?_) <;> (try (simp only [cds] at hc))) | (refine awp_skip ?_; (try simp only [sq])) | (refine PureAt.use (hx _) ?_ <;> (try simp only [go_sem])) | (refine orAt_r 10 ?_; (try simp only [go_sem, Nat.reduceLT, Nat.reduceAdd, ↓reduceIte, bls])) | (refine orAt_l ?_) | (with_reducible apply And.intro) | (refine awpN_zero ?_) | (refine hK _ ?_; clear hK; (try clear K)))); (all_goals (try ((omega)))))
      have hE0 : encRws [] = [] := rfl
      exact hK5 _ (by (refine st_le rfl ?_ (by ((try dsimp only); repeat' ((with_reducible exact .refl _)))); (try simp only [go_sem, Nat.reduceEqDiff, ↓reduceIte, reduceCtorEq, hE0])))
  clear hK
  have c5 : ((i : Int) < (l.length : Int)) = True := eq_true (by omega)
  ((repeat' (first | (refine awp_reg _ rfl ?_; (try simp only [go_sem, Nat.reduceLT, Nat.reduceEqDiff, ↓reduceIte, reduceCtorEq, c5, decide_true])) | (refine awp_cond _ rfl (fun hc => ?_) (fun hc => ?_) <;> (try (simp only [cds] at hc))) | (refine awp_skip ?_; (try simp only [sq])) | (refine awpN_zero ?_))))
  exact hK1 _ (by (refine st_le rfl ?_ (by ((try dsimp only); repeat' ((with_reducible exact .refl _)))); (try simp only [go_sem, Nat.reduceEqDiff, ↓reduceIte, reduceCtorEq])))
end Go.Proofs.YtababmnmkmgbbaaGreat
