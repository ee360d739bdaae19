/-
  A part of the proof: its theorems say what each gives.
-/
import Derived.Test.YtdlbbcjacjockaaKRb
set_option maxRecDepth 100000
set_option maxHeartbeats 8000000
set_option linter.unusedSimpArgs false
set_option linter.unusedVariables false
namespace Go.Proofs.Ytdlbbcjacjockaa
open Go Fw
/-! The reference: the bytes of an entry. -/
abbrev tokB (H : Hp) (l : Byt) : AV → Hp → Prop := fun r H' => ∃ t, fresh H t ∧ r = .list (encB l) (some t) ∧ H' = ⟨H.bx, (t, l.length, 5, 1) :: H.tk⟩
theorem le_hd {a : Byt} {tk : Option Nat} {xs : List AV} : (AV.list (.list (encB a) tk :: xs) none).le (.list (.list (encB a) none :: xs) none) :=
  AV.le_elems rfl fun i hi k hk => by
    cases i with
    | zero =>
      simp only [List.getD_cons_zero] at hk ⊢
      have h1 : 1 = k := hk.1
      subst h1
      refine ⟨⟨rfl, fun y hy => ?_⟩, fun j hj => ?_⟩
      · have : y ∈ [AV.list (encB a) none] := hy
        rw [List.mem_singleton] at this; subst this; rfl
      · obtain rfl : j = 0 := by omega
        exact AV.le_list _ _
    | succ i =>
      simp only [List.getD_cons_succ] at hk ⊢
      exact ⟨hk, fun j _ => .refl _⟩
theorem weak_mid {bx : List (Nat × List AV)} {tk : List (Nat × Nat × Nat × Nat)} {t u m m' e k : Nat} {n : Nat × Nat × Nat} (h : m = m') (hu : Hp.tok ⟨bx, tk⟩ u = none) : Weak ⟨bx, (t, m, e, k) :: (u, n) :: tk⟩ ⟨bx, (t, m', e, k) :: tk⟩ := by
  subst h
  refine ⟨fun i c hi => ⟨c, hi, .refl c⟩, fun j d hj => ?_⟩
  rw [tok_cons] at hj ⊢
  by_cases e1 : t = j
  · rw [if_pos e1] at hj ⊢; exact hj
  · rw [if_neg e1] at hj ⊢
    rw [tok_cons]
    by_cases e2 : u = j
    · subst e2; rw [show Hp.tok ⟨bx, tk⟩ u = none from hu] at hj; cases hj
    · rw [if_neg e2]; exact hj
theorem zig_ref {n : Int} (h0 : -9223372036854775808 ≤ n) (h : n < 0) : IntKind.u64.wrap (IntKind.u64.wrap (2 * IntKind.u64.wrap (IntKind.i64.wrap (0 - IntKind.i64.wrap (n + 1)))) + 1) = (zig n : Int) := by
  rw [wrap_id (n := n + 1) (by omega) (by omega), wrap_id (by omega) (by omega), u64_wrap, u64_wrap, u64_wrap]
  unfold zig u64
  rw [if_pos h]
  omega
theorem zig_ref0 {n : Int} (h0 : n ≤ 9223372036854775807) (h : ¬ n < 0) : IntKind.u64.wrap (2 * IntKind.u64.wrap n) = (zig n : Int) := by
  rw [u64_wrap, u64_wrap]
  unfold zig u64
  rw [if_neg h]
  omega
theorem u8_1 : ((UInt8.toNat 1 : Nat) : Int) = 1 := rfl
theorem u8_0 : ((UInt8.toNat 0 : Nat) : Int) = 0 := rfl
theorem cc2 (a b : Byt) (H : Hp) (h : a.length + b.length ≤ 900000000) : ACalls Try.prog 15 [.list [.list (encB a) none, .list (encB b) none] none] H (tokB H (a ++ b)) := by
  have := c_ConcatB [a, b] H (by simp) (by simp; omega)
  rw [show [a, b].flatten = a ++ b by simp] at this
  exact this
theorem ccq (q : Byt) (tk : Option Nat) (l : List Byt) (H : Hp) (hl : l.length ≤ 100) (h : q.length + l.flatten.length ≤ 900000000) : ACalls Try.prog 15 [.list (.list (encB q) tk :: encBs l) none] H (tokB H (q ++ l.flatten)) := by
  have h1 := c_ConcatB (q :: l) H (by simp only [List.length_cons]; omega) (by simp only [List.flatten_cons, List.length_append]; omega)
  refine ACalls.args h1 rfl fun i hi => ?_
  obtain rfl : i = 0 := by simpa using hi
  exact le_hd
theorem cc4 (q a b c : Byt) (tk : Option Nat) (H : Hp) (h : q.length + (a.length + (b.length + c.length)) ≤ 900000000) : ACalls Try.prog 15 [.list [.list (encB q) tk, .list (encB a) none, .list (encB b) none, .list (encB c) none] none] H (tokB H (q ++ (a ++ (b ++ c)))) := by
  have := ccq q tk [a, b, c] H (by simp) (by simp; omega)
  simpa [List.flatten, encBs] using this
theorem cc3 (q a b : Byt) (tk : Option Nat) (H : Hp) (h : q.length + (a.length + b.length) ≤ 900000000) : ACalls Try.prog 15 [.list [.list (encB q) tk, .list (encB a) none, .list (encB b) none] none] H (tokB H (q ++ (a ++ b))) := by
  have := ccq q tk [a, b] H (by simp) (by simp; omega)
  simpa [List.flatten, encBs] using this
theorem c_Body (x : Ent) (H : Hp) (hw : WfE x) (hs : SmallE x) : ACalls Try.prog 38 [cE x] H (tokB H (bodyB x)) := by
  have hch := hs.ch
  have e0 : IntKind.u64.wrap (x.ch.length : Int) = (x.ch.length : Int) := u64_nat (by omega)
  have hall := hs.all
  have hbod : bodyB x = sev (u64 x.no) ++ sev x.ch.length ++ chsB x.ch := rfl
  have hb : ∀ i, (sev (u64 x.no) ++ sev x.ch.length ++ chsB (x.ch.take i)).length ≤ 900000000 := fun i => by
    have h1 := flatMap_take_le chgB x.ch i
    rw [hbod] at hall
    simp only [List.length_append] at hall ⊢
    unfold chsB at hall ⊢
    omega
  have hb0 : (sev (u64 x.no)).length + (sev x.ch.length).length ≤ 900000000 := by have := hb 0; simp only [List.length_append] at this; omega
  have c2 := fun H => cc2 (sev (u64 x.no)) (sev x.ch.length) H hb0
  generalize hpre : sev (u64 x.no) ++ sev x.ch.length = pre at *
  have hu := u64_lt x.no
  refine acalls_of (by kernel_rfl) Try.func38 rfl 101 Try.ntmps38 (by simp) [.tmp 2] rfl ?_
  ((repeat' (first | (refine awp_mixed (id := 1) [0, 1, 2, 3, 4, 5, 6, 7, 8, 9, 10, 11] [10] [(10, [])] (by kernel_rfl) (by kernel_rfl) ?_; (try simp only [go_sem, Nat.reduceLT, Nat.reduceEqDiff, Nat.reduceLeDiff, Nat.reduceAdd, Nat.reduceMul, Int.reduceToNat, Nat.reducePow, ↓reduceIte, reduceCtorEq, u64_wrap, e0])) | (refine awp_seq_k (fun K hK => ?_)) | (refine awp_block ?_) | (refine awp_reg _ rfl ?_; (try simp only [go_sem, Nat.reduceLT, Nat.reduceEqDiff, Nat.reduceLeDiff, Nat.reduceAdd, Nat.reduceMul, Int.reduceToNat, Nat.reducePow, ↓reduceIte, reduceCtorEq, u64_wrap, e0])) | (refine ACalls.ex (c2 _) (fun id fr => ?_) <;> ((try simp only [go_sem, Nat.reduceLT, Nat.reduceEqDiff, Nat.reduceLeDiff, Nat.reduceAdd, Nat.reduceMul, Int.reduceToNat, Nat.reducePow, ↓reduceIte, reduceCtorEq, u64_wrap, e0]))) | (refine ⟨_, fun H => c_sevens (u64 x.no) _ hu, ?_⟩ <;> (try simp only [go_sem, Nat.reduceLT, Nat.reduceEqDiff, Nat.reduceLeDiff, Nat.reduceAdd, Nat.reduceMul, Int.reduceToNat, Nat.reducePow, ↓reduceIte, reduceCtorEq, u64_wrap, e0])) | (refine ⟨_, fun H => c_sevens x.ch.length _ (by omega), ?_⟩ <;> (try simp only [go_sem, Nat.reduceLT, Nat.reduceEqDiff, Nat.reduceLeDiff, Nat.reduceAdd, Nat.reduceMul, Int.reduceToNat, Nat.reducePow, ↓reduceIte, reduceCtorEq, u64_wrap, e0])) | (refine orAt_r 1 ?_) | (with_reducible apply And.intro) | (refine hK _ ?_; clear hK; (try clear K)))); (all_goals (try ((decide)))))
  rename Nat => t0
  rename fresh _ _ => frt0
  refine awp_loop (ι := Nat × Nat) (fun i => ⟨101, [(3, .list (encB (pre ++ chsB (x.ch.take i.1))) (some i.2)), (21, .list (encCs x.ch) none), (22, .con (.int .i64 x.ch.length)), (23, .con (.int .i64 (i.1 : Int)))], ⟨H.bx, (i.2, (pre ++ chsB (x.ch.take i.1)).length, 5, 1) :: H.tk⟩⟩)
    (fun i => i.1 ≤ x.ch.length ∧ fresh H i.2) (fun i => x.ch.length - i.1) (0, t0) ⟨by omega, frt0⟩ ?_ ?_
  · (refine st_le rfl ?_ (by ((try dsimp only); (try simp only [chsB, List.take_zero, List.flatMap_nil, List.append_nil,  List.length_append, List.length_cons, List.length_nil, Nat.zero_add]); repeat' (((refine weak_tokeq (by (rfl))))))); (try simp only [go_sem, Nat.reduceLT, Nat.reduceEqDiff, Nat.reduceLeDiff, Nat.reduceAdd, Nat.reduceMul, Int.reduceToNat, Nat.reducePow, ↓reduceIte, reduceCtorEq, chsB, List.take_zero, List.flatMap_nil, List.append_nil]))
  intro ⟨i, tq⟩ ⟨hi, hfq⟩
  simp only at hi hfq
  rcases Nat.lt_or_ge i x.ch.length with hlt | hge
  · have hg := encCs_get hlt
    have hb1 := hb i
    have hb2 := hb (i + 1)
    have hst : chsB (x.ch.take (i + 1)) = chsB (x.ch.take i) ++ chgB x.ch[i] := flatMap_snoc chgB hlt
    rw [hst] at hb2
    obtain ⟨hr1, hr2, hr3⟩ := hs.row x.ch[i] (List.getElem_mem hlt)
    have hwr := hw.ch x.ch[i] (List.getElem_mem hlt)
    generalize x.ch[i] = c at *
    obtain ⟨rel, del, row⟩ := c
    simp only at hg hr1 hr2 hr3 hwr
    have hcg : chgB ⟨rel, del, row⟩ = sev (if del then 1 else 0) ++ txtB rel ++ sev row.length ++ rowB row := rfl
    generalize hpi : pre ++ chsB (x.ch.take i) = pi at *
    rw [← List.append_assoc, hpi, hcg] at hb2
    simp only [List.length_append, txtB, sb_length] at hb2
    have er : IntKind.u64.wrap (row.length : Int) = (row.length : Int) := u64_nat (by omega)
    have es : IntKind.u64.wrap (rel.size : Int) = (rel.size : Int) := u64_nat (by omega)
    have hsd : sev (if del = true then 1 else 0) = [if del = true then 1 else 0] := by cases del <;> (rw [sev_small (by decide)]; rfl)
    ((repeat' (first | (refine awp_seq_k (fun K hK => ?_)) | (refine awp_block ?_) | (refine awp_reg _ rfl ?_; (try simp only [go_sem, Nat.reduceLT, Nat.reduceEqDiff, Nat.reduceLeDiff, Nat.reduceAdd, Nat.reduceMul, Int.reduceToNat, Nat.reducePow, ↓reduceIte, reduceCtorEq, hg, er])) | (refine awp_condT rfl (by (first | rfl | (simp only [decide_eq_true_eq, decide_eq_false_iff_not, Bool.or_eq_true, Bool.and_eq_true, Bool.not_eq_true', Bool.not_eq_false', Bool.or_eq_false_iff, Bool.and_eq_false_imp, Bool.not_true, Bool.not_false, Bool.true_eq_false, Bool.false_eq_true, not_true_eq_false, Decidable.not_not, ite_or, ite_and, hg, er]; omega))) ?_) | (refine awp_skip ?_; (try simp only [sq, bk, ↓reduceIte, Nat.reduceEqDiff, reduceCtorEq])) | (refine orAt_r 5 ?_; (try simp only [go_sem, Nat.reduceLT, Nat.reduceEqDiff, Nat.reduceLeDiff, Nat.reduceAdd, Nat.reduceMul, Int.reduceToNat, Nat.reducePow, ↓reduceIte, reduceCtorEq, hg, er])) | (with_reducible apply And.intro) | (refine hK _ ?_; clear hK; (try clear K)))); (all_goals (try ((omega)))))
    refine awp_join hK ⟨101, [(3, .list (encB pi) (some tq)), (5, .ro [.con (.string rel), .con (.bool del), .list (encVs row) none]), (6, .con (.int .u8 ((if del then 1 else 0 : UInt8).toNat : Int))), (21, .list (encCs x.ch) none), (22, .con (.int .i64 x.ch.length)), (23, .con (.int .i64 (i : Int)))], ⟨H.bx, (tq, pi.length, 5, 1) :: H.tk⟩⟩ rfl (fun hc => ?_) (fun hc => ?_) ?_
    · ((repeat' (((refine awp_reg _ rfl ?_; (try simp only [go_sem, Nat.reduceLT, Nat.reduceEqDiff, Nat.reduceLeDiff, Nat.reduceAdd, Nat.reduceMul, Int.reduceToNat, Nat.reducePow, ↓reduceIte, reduceCtorEq]))))))
      simp only [hc]
      (refine st_le rfl ?_ (by ((try dsimp only); repeat' (((refine weak_tokeq (by (rfl))))))); (try simp only [go_sem, Nat.reduceLT, Nat.reduceEqDiff, Nat.reduceLeDiff, Nat.reduceAdd, Nat.reduceMul, Int.reduceToNat, Nat.reducePow, ↓reduceIte, reduceCtorEq, u8_1, u8_0, Bool.false_eq_true, if_true, if_false]))
    · ((repeat' (((refine awp_skip ?_; (try simp only [sq, bk, ↓reduceIte, Nat.reduceEqDiff, reduceCtorEq]))))))
      simp only [hc]
      (refine st_le rfl ?_ (by ((try dsimp only); repeat' (((refine weak_tokeq (by (rfl))))))); (try simp only [go_sem, Nat.reduceLT, Nat.reduceEqDiff, Nat.reduceLeDiff, Nat.reduceAdd, Nat.reduceMul, Int.reduceToNat, Nat.reducePow, ↓reduceIte, reduceCtorEq, u8_1, u8_0, Bool.false_eq_true, if_true, if_false]))
    have hA : encB pi ++ [AV.con (.int .u8 ((if del then 1 else 0 : UInt8).toNat : Int))] = encB (pi ++ [if del = true then 1 else 0]) := by rw [encB_append]; rfl
    have hA2 : (pi ++ [if del = true then (1 : UInt8) else 0]).length = pi.length + 1 := by simp
    have hb3 := hb2
    rw [hsd] at hb3
    simp only [List.length_cons, List.length_nil] at hb3
    have c4 := fun tk H => cc4 (pi ++ [if del = true then 1 else 0]) (sev rel.size) (sb rel) (sev row.length) tk H (by rw [hA2, sb_length]; omega)
    ((repeat' (first | (refine awp_mixed (id := 9) [0, 1, 2, 3, 4, 5, 6, 7, 8, 9, 10, 11, 12, 13, 14, 15, 16] [15] [(15, [])] (by kernel_rfl) (by kernel_rfl) ?_; (try simp only [go_sem, Nat.reduceLT, Nat.reduceEqDiff, Nat.reduceLeDiff, Nat.reduceAdd, Nat.reduceMul, Int.reduceToNat, Nat.reducePow, ↓reduceIte, reduceCtorEq, hg, er, es, hA, bytesA_eq])) | (refine awp_seq_k (fun K hK => ?_)) | (refine awp_block ?_) | (refine awp_reg _ rfl ?_; (try simp only [go_sem, Nat.reduceLT, Nat.reduceEqDiff, Nat.reduceLeDiff, Nat.reduceAdd, Nat.reduceMul, Int.reduceToNat, Nat.reducePow, ↓reduceIte, reduceCtorEq, hg, er, es, hA, bytesA_eq])) | (refine ACalls.ex (c4 _ _) (fun id fr => ?_) <;> ((try have := NeI.of_frt fr); (try simp only [go_sem, Nat.reduceLT, Nat.reduceEqDiff, Nat.reduceLeDiff, Nat.reduceAdd, Nat.reduceMul, Int.reduceToNat, Nat.reducePow, ↓reduceIte, reduceCtorEq, hg, er, es, hA, bytesA_eq]))) | (refine ⟨_, fun H => c_sevens rel.size _ (by omega), ?_⟩ <;> (try simp only [go_sem, Nat.reduceLT, Nat.reduceEqDiff, Nat.reduceLeDiff, Nat.reduceAdd, Nat.reduceMul, Int.reduceToNat, Nat.reducePow, ↓reduceIte, reduceCtorEq, hg, er, es, hA, bytesA_eq])) | (refine ⟨_, fun H => c_sevens row.length _ (by omega), ?_⟩ <;> (try simp only [go_sem, Nat.reduceLT, Nat.reduceEqDiff, Nat.reduceLeDiff, Nat.reduceAdd, Nat.reduceMul, Int.reduceToNat, Nat.reducePow, ↓reduceIte, reduceCtorEq, hg, er, es, hA, bytesA_eq])) | (refine orAt_l ?_) | (with_reducible apply And.intro) | (refine hK _ ?_; clear hK; (try clear K)))); (all_goals (try (first | omega | decide | (simp only [List.mem_singleton, List.mem_cons, List.not_mem_nil, or_false, forall_eq_or_imp, forall_eq, AV.cells, List.length_cons, List.length_nil, and_self, Nat.reduceAdd]; done)))))
    · simp only [maxLen]; omega
    rename Nat => t1
    rename fresh _ _ => frt1
    have hft1 : fresh H t1 := ⟨frt1.1, (fr_dropt frt1).2⟩
    have hq0 : pi ++ [if del = true then 1 else 0] ++ (sev rel.size ++ (sb rel ++ sev row.length)) = pi ++ (sev (if del = true then 1 else 0) ++ txtB rel ++ sev row.length) := by rw [hsd]; unfold txtB; simp only [List.append_assoc]
    generalize hq : pi ++ [if del = true then 1 else 0] ++ (sev rel.size ++ (sb rel ++ sev row.length)) = q at *
    have hqr : pi ++ chgB ⟨rel, del, row⟩ = q ++ rowB row := by rw [hcg, hq0]; simp only [List.append_assoc]
    have hqlen : q.length + (rowB row).length ≤ 900000000 := by
      rw [hq0]; simp only [List.length_append, txtB, sb_length]; omega
    have hql : ∀ j, (q ++ rowB (row.take j)).length ≤ 900000000 := fun j => by
      have h1 := flatMap_take_le valB row j
      simp only [List.length_append]; unfold rowB at *; omega
    refine awp_loop (ι := Nat × Nat) (fun j => ⟨101, [(3, .list (encB (q ++ rowB (row.take j.1))) (some j.2)), (21, .list (encCs x.ch) none), (22, .con (.int .i64 x.ch.length)), (23, .con (.int .i64 (i : Int))), (50, .list (encVs row) none), (51, .con (.int .i64 row.length)), (52, .con (.int .i64 (j.1 : Int)))], ⟨H.bx, (j.2, (q ++ rowB (row.take j.1)).length, 5, 1) :: H.tk⟩⟩)
      (fun j => j.1 ≤ row.length ∧ fresh H j.2) (fun j => row.length - j.1) (0, t1) ⟨by omega, hft1⟩ ?_ ?_
    · exact st_le rfl (by simp only [go_sem, Nat.reduceLT, Nat.reduceEqDiff, Nat.reduceLeDiff, Nat.reduceAdd, Nat.reduceMul, Int.reduceToNat, Nat.reducePow, ↓reduceIte, reduceCtorEq, rowB, List.take_zero, List.flatMap_nil, List.append_nil]) (weak_mid (by simp [rowB]) hfq.2)
    intro ⟨j, tr⟩ ⟨hj, hfr⟩
    simp only at hj hfr
    rcases Nat.lt_or_ge j row.length with hlj | hgj
    · have hgv := encVs_get hlj
      have hj1 := hql j
      have hj2 := hql (j + 1)
      have hsj : rowB (row.take (j + 1)) = rowB (row.take j) ++ valB row[j] := flatMap_snoc valB hlj
      rw [hsj] at hj2
      have hv3 := hr3 row[j] (List.getElem_mem hlj)
      have hvw := hwr row[j] (List.getElem_mem hlj)
      generalize row[j] = v at *
      have hvb : valB v = sev (u64 v.k) ++ if v.k = 5 then txtB v.s else sev (u64 (zig v.n)) := rfl
      have hzl := zig_lt hvw.2
      have hzu : u64 (zig v.n) = zig v.n := (unzig_zig hvw.2.1 hvw.2.2).1
      generalize hqj : q ++ rowB (row.take j) = qj at *
      have hE : q ++ (rowB (row.take j) ++ valB v) = qj ++ valB v := by rw [← List.append_assoc, hqj]
      rw [← List.append_assoc, hqj] at hj2
      have hvs : IntKind.u64.wrap (v.s.size : Int) = (v.s.size : Int) := u64_nat (by omega)
      have h10 := sev_len10 v.k
      by_cases hk5 : v.k = 5
      · rw [if_pos hk5] at hvb
        rw [hvb] at hj2
        simp only [List.length_append, txtB, sb_length] at hj2
        have hB : encB qj ++ encB (sev (u64 v.k)) = encB (qj ++ sev (u64 v.k)) := by rw [encB_append]
        have c3 := fun tk H => cc3 (qj ++ sev (u64 v.k)) (sev v.s.size) (sb v.s) tk H (by rw [sb_length, List.length_append]; omega)
        ((repeat' (first | (refine awp_mixed (id := 16) [0, 1, 2, 3, 4, 5, 6, 7, 8, 9, 10, 11] [10] [(10, [])] (by kernel_rfl) (by kernel_rfl) ?_; (try simp only [go_sem, Nat.reduceLT, Nat.reduceEqDiff, Nat.reduceLeDiff, Nat.reduceAdd, Nat.reduceMul, Int.reduceToNat, Nat.reducePow, ↓reduceIte, reduceCtorEq, hgv, u64_wrap, hB, bytesA_eq, hvs])) | (refine awp_seq_k (fun K hK => ?_)) | (refine awp_block ?_) | (refine awp_reg _ rfl ?_; (try simp only [go_sem, Nat.reduceLT, Nat.reduceEqDiff, Nat.reduceLeDiff, Nat.reduceAdd, Nat.reduceMul, Int.reduceToNat, Nat.reducePow, ↓reduceIte, reduceCtorEq, hgv, u64_wrap, hB, bytesA_eq, hvs])) | (refine awp_cond _ rfl (fun hc => ?_) (fun hc => ?_) <;> (try (simp only [decide_eq_true_eq, decide_eq_false_iff_not, Bool.or_eq_true, Bool.and_eq_true, Bool.not_eq_true', Bool.not_eq_false', Bool.or_eq_false_iff, Bool.and_eq_false_imp, Bool.not_eq_false, Bool.not_eq_true, Bool.not_true, Bool.not_false, Bool.true_eq_false, Bool.false_eq_true, not_true_eq_false, Decidable.not_not, ite_or, ite_and] at hc)) <;> (try (exfalso; omega))) | (refine awp_skip ?_; (try simp only [sq, bk, ↓reduceIte, Nat.reduceEqDiff, reduceCtorEq])) | (refine PureAt.use (c_sevens (u64 v.k) _ (u64_lt _)) ?_ <;> (try simp only [go_sem, Nat.reduceLT, Nat.reduceEqDiff, Nat.reduceLeDiff, Nat.reduceAdd, Nat.reduceMul, Int.reduceToNat, Nat.reducePow, ↓reduceIte, reduceCtorEq, hgv, u64_wrap, hB, bytesA_eq, hvs])) | (refine ACalls.ex (c3 _ _) (fun id fr => ?_) <;> ((try have := NeI.of_frt fr); (try simp only [go_sem, Nat.reduceLT, Nat.reduceEqDiff, Nat.reduceLeDiff, Nat.reduceAdd, Nat.reduceMul, Int.reduceToNat, Nat.reducePow, ↓reduceIte, reduceCtorEq, hgv, u64_wrap, hB, bytesA_eq, hvs]))) | (refine ⟨_, fun H => c_sevens v.s.size _ (by omega), ?_⟩ <;> (try simp only [go_sem, Nat.reduceLT, Nat.reduceEqDiff, Nat.reduceLeDiff, Nat.reduceAdd, Nat.reduceMul, Int.reduceToNat, Nat.reducePow, ↓reduceIte, reduceCtorEq, hgv, u64_wrap, hB, bytesA_eq, hvs])) | (refine orAt_r 8 ?_; (try simp only [go_sem, Nat.reduceLT, Nat.reduceEqDiff, Nat.reduceLeDiff, Nat.reduceAdd, Nat.reduceMul, Int.reduceToNat, Nat.reducePow, ↓reduceIte, reduceCtorEq, hgv, u64_wrap, hB, bytesA_eq, hvs])) | (with_reducible apply And.intro) | (refine hK _ ?_; clear hK; (try clear K)))); (all_goals (try (first | omega | decide))))
        · simp only [maxLen]; omega
        refine ⟨(j + 1, id), by simp only; omega, ⟨by simp only; omega, fr.1, (fr_dropt fr).2⟩, ?_⟩
        simp only
        rw [hsj, hE, hvb]
        exact st_le rfl (by simp only [go_sem, Nat.reduceLT, Nat.reduceEqDiff, Nat.reduceLeDiff, Nat.reduceAdd, Nat.reduceMul, Int.reduceToNat, Nat.reducePow, ↓reduceIte, reduceCtorEq, wrap_succ j (by omega), txtB, List.append_assoc]) (weak_mid (by simp only [List.length_append, txtB, sb_length] <;> omega) hfr.2)
      · rw [if_neg hk5, hzu] at hvb
        rw [hvb] at hj2
        simp only [List.length_append] at hj2
        have hkw := u64_wrap v.k
        have hB : ∀ l : Byt, encB qj ++ encB l = encB (qj ++ l) := fun l => by rw [encB_append]
        have hB2 : ∀ l : Byt, encB (qj ++ sev (u64 v.k)) ++ encB l = encB (qj ++ sev (u64 v.k) ++ l) := fun l => by simp only [encB_append]
        have hl2 : (qj ++ sev (u64 v.k)).length = qj.length + (sev (u64 v.k)).length := List.length_append
        rcases Int.lt_or_le v.n 0 with hneg | hpos
        · have hz := zig_ref hvw.2.1 hneg
          ((repeat' (first | (refine awp_seq_k (fun K hK => ?_)) | (refine awp_block ?_) | (refine awp_reg _ rfl ?_; (try simp only [go_sem, Nat.reduceLT, Nat.reduceEqDiff, Nat.reduceLeDiff, Nat.reduceAdd, Nat.reduceMul, Int.reduceToNat, Nat.reducePow, ↓reduceIte, reduceCtorEq, hgv, hkw, hB, hB2, hl2, hz])) | (refine awp_cond _ rfl (fun hc => ?_) (fun hc => ?_) <;> (try (simp only [decide_eq_true_eq, decide_eq_false_iff_not, Bool.or_eq_true, Bool.and_eq_true, Bool.not_eq_true', Bool.not_eq_false', Bool.or_eq_false_iff, Bool.and_eq_false_imp, Bool.not_eq_false, Bool.not_eq_true, Bool.not_true, Bool.not_false, Bool.true_eq_false, Bool.false_eq_true, not_true_eq_false, Decidable.not_not, ite_or, ite_and] at hc)) <;> (try (exfalso; omega))) | (refine awp_skip ?_; (try simp only [sq, bk, ↓reduceIte, Nat.reduceEqDiff, reduceCtorEq])) | (refine PureAt.use (c_sevens (u64 v.k) _ (u64_lt _)) ?_ <;> (try simp only [go_sem, Nat.reduceLT, Nat.reduceEqDiff, Nat.reduceLeDiff, Nat.reduceAdd, Nat.reduceMul, Int.reduceToNat, Nat.reducePow, ↓reduceIte, reduceCtorEq, hgv, hkw, hB, hB2, hl2, hz])) | (refine PureAt.use (c_sevens (zig v.n) _ (by omega)) ?_ <;> (try simp only [go_sem, Nat.reduceLT, Nat.reduceEqDiff, Nat.reduceLeDiff, Nat.reduceAdd, Nat.reduceMul, Int.reduceToNat, Nat.reducePow, ↓reduceIte, reduceCtorEq, hgv, hkw, hB, hB2, hl2, hz])) | (refine orAt_r 8 ?_; (try simp only [go_sem, Nat.reduceLT, Nat.reduceEqDiff, Nat.reduceLeDiff, Nat.reduceAdd, Nat.reduceMul, Int.reduceToNat, Nat.reducePow, ↓reduceIte, reduceCtorEq, hgv, hkw, hB, hB2, hl2, hz])) | (with_reducible apply And.intro) | (refine hK _ ?_; clear hK; (try clear K)))); (all_goals (try ((omega)))))
          refine ⟨(j + 1, tr), by simp only; omega, ⟨by simp only; omega, hfr⟩, ?_⟩
          simp only
          rw [hsj, hE, hvb]
          (refine st_le rfl ?_ (by ((try dsimp only); (try simp only [wrap_succ j (by omega), List.append_assoc,  List.length_append, List.length_cons, List.length_nil, Nat.zero_add]); repeat' (((refine weak_tokeq (by (omega))))))); (try simp only [go_sem, Nat.reduceLT, Nat.reduceEqDiff, Nat.reduceLeDiff, Nat.reduceAdd, Nat.reduceMul, Int.reduceToNat, Nat.reducePow, ↓reduceIte, reduceCtorEq, wrap_succ j (by omega), List.append_assoc]))
        · have hz := zig_ref0 hvw.2.2 (by omega)
          ((repeat' (first | (refine awp_seq_k (fun K hK => ?_)) | (refine awp_block ?_) | (refine awp_reg _ rfl ?_; (try simp only [go_sem, Nat.reduceLT, Nat.reduceEqDiff, Nat.reduceLeDiff, Nat.reduceAdd, Nat.reduceMul, Int.reduceToNat, Nat.reducePow, ↓reduceIte, reduceCtorEq, hgv, hkw, hB, hB2, hl2, hz])) | (refine awp_cond _ rfl (fun hc => ?_) (fun hc => ?_) <;> (try (simp only [decide_eq_true_eq, decide_eq_false_iff_not, Bool.or_eq_true, Bool.and_eq_true, Bool.not_eq_true', Bool.not_eq_false', Bool.or_eq_false_iff, Bool.and_eq_false_imp, Bool.not_eq_false, Bool.not_eq_true, Bool.not_true, Bool.not_false, Bool.true_eq_false, Bool.false_eq_true, not_true_eq_false, Decidable.not_not, ite_or, ite_and] at hc)) <;> (try (exfalso; omega))) | (refine awp_skip ?_; (try simp only [sq, bk, ↓reduceIte, Nat.reduceEqDiff, reduceCtorEq])) | (refine PureAt.use (c_sevens (u64 v.k) _ (u64_lt _)) ?_ <;> (try simp only [go_sem, Nat.reduceLT, Nat.reduceEqDiff, Nat.reduceLeDiff, Nat.reduceAdd, Nat.reduceMul, Int.reduceToNat, Nat.reducePow, ↓reduceIte, reduceCtorEq, hgv, hkw, hB, hB2, hl2, hz])) | (refine PureAt.use (c_sevens (zig v.n) _ (by omega)) ?_ <;> (try simp only [go_sem, Nat.reduceLT, Nat.reduceEqDiff, Nat.reduceLeDiff, Nat.reduceAdd, Nat.reduceMul, Int.reduceToNat, Nat.reducePow, ↓reduceIte, reduceCtorEq, hgv, hkw, hB, hB2, hl2, hz])) | (refine orAt_r 8 ?_; (try simp only [go_sem, Nat.reduceLT, Nat.reduceEqDiff, Nat.reduceLeDiff, Nat.reduceAdd, Nat.reduceMul, Int.reduceToNat, Nat.reducePow, ↓reduceIte, reduceCtorEq, hgv, hkw, hB, hB2, hl2, hz])) | (with_reducible apply And.intro) | (refine hK _ ?_; clear hK; (try clear K)))); (all_goals (try ((omega)))))
          refine ⟨(j + 1, tr), by simp only; omega, ⟨by simp only; omega, hfr⟩, ?_⟩
          simp only
          rw [hsj, hE, hvb]
          (refine st_le rfl ?_ (by ((try dsimp only); (try simp only [wrap_succ j (by omega), List.append_assoc,  List.length_append, List.length_cons, List.length_nil, Nat.zero_add]); repeat' (((refine weak_tokeq (by (omega))))))); (try simp only [go_sem, Nat.reduceLT, Nat.reduceEqDiff, Nat.reduceLeDiff, Nat.reduceAdd, Nat.reduceMul, Int.reduceToNat, Nat.reducePow, ↓reduceIte, reduceCtorEq, wrap_succ j (by omega), List.append_assoc]))
    · obtain rfl : j = row.length := by omega
      ((repeat' (first | (refine awp_seq_k (fun K hK => ?_)) | (refine awp_reg _ rfl ?_; (try simp only [go_sem, Nat.reduceLT, Nat.reduceEqDiff, Nat.reduceLeDiff, Nat.reduceAdd, Nat.reduceMul, Int.reduceToNat, Nat.reducePow, ↓reduceIte, reduceCtorEq, wrap_succ i (by omega), List.take_length])) | (refine awp_cond _ rfl (fun hc => ?_) (fun hc => ?_) <;> (try (simp only [decide_eq_true_eq, decide_eq_false_iff_not, Bool.or_eq_true, Bool.and_eq_true, Bool.not_eq_true', Bool.not_eq_false', Bool.or_eq_false_iff, Bool.and_eq_false_imp, Bool.not_eq_false, Bool.not_eq_true, Bool.not_true, Bool.not_false, Bool.true_eq_false, Bool.false_eq_true, not_true_eq_false, Decidable.not_not, ite_or, ite_and] at hc)) <;> (try (exfalso; omega))) | (refine awp_exit ?_; (try simp only [sq, bk, ↓reduceIte, Nat.reduceEqDiff, reduceCtorEq])) | (refine hK _ ?_; clear hK; (try clear K)) | (refine kk (by assumption) ?_))))
      refine ⟨(i + 1, tr), by simp only; omega, ⟨by simp only; omega, hfr⟩, ?_⟩
      simp only
      rw [hst, ← List.append_assoc, hpi, hqr]
      (refine st_le rfl ?_ (by ((try dsimp only); (try simp only [ List.length_append, List.length_cons, List.length_nil, Nat.zero_add]); repeat' (((refine weak_tokeq (by (rfl))))))); (try simp only [go_sem, Nat.reduceLT, Nat.reduceEqDiff, Nat.reduceLeDiff, Nat.reduceAdd, Nat.reduceMul, Int.reduceToNat, Nat.reducePow, ↓reduceIte, reduceCtorEq]))
  · obtain rfl : i = x.ch.length := by omega
    ((repeat' (first | (refine awp_seq_k (fun K hK => ?_)) | (refine awp_reg _ rfl ?_; (try simp only [go_sem, Nat.reduceLT, Nat.reduceEqDiff, Nat.reduceLeDiff, Nat.reduceAdd, Nat.reduceMul, Int.reduceToNat, Nat.reducePow, ↓reduceIte, reduceCtorEq, List.take_length])) | (refine awp_cond _ rfl (fun hc => ?_) (fun hc => ?_) <;> (try (simp only [decide_eq_true_eq, decide_eq_false_iff_not, Bool.or_eq_true, Bool.and_eq_true, Bool.not_eq_true', Bool.not_eq_false', Bool.or_eq_false_iff, Bool.and_eq_false_imp, Bool.not_eq_false, Bool.not_eq_true, Bool.not_true, Bool.not_false, Bool.true_eq_false, Bool.false_eq_true, not_true_eq_false, Decidable.not_not, ite_or, ite_and] at hc)) <;> (try (exfalso; omega))) | (refine awp_exit ?_; (try simp only [sq, bk, ↓reduceIte, Nat.reduceEqDiff, reduceCtorEq])) | (refine awp_ret ?_) | (refine hK _ ?_; clear hK; (try clear K)) | (refine kk (by assumption) ?_))))
    exact fin_le (.list (encB (bodyB x)) (some tq)) ⟨H.bx, (tq, (bodyB x).length, 5, 1) :: H.tk⟩ (by (try simp only [List.mem_singleton, forall_eq, List.mem_cons, List.not_mem_nil, or_false, forall_eq_or_imp, and_self, resOk])) (by simp only [go_sem, Nat.reduceLT, Nat.reduceEqDiff, Nat.reduceLeDiff, Nat.reduceAdd, Nat.reduceMul, Int.reduceToNat, Nat.reducePow, ↓reduceIte, reduceCtorEq, hbod]) (by rw [hbod]; exact .refl _) ⟨tq, hfq, rfl, rfl⟩
end Go.Proofs.Ytdlbbcjacjockaa
