/-
  A part of the proof: its theorems say what each gives.
-/
import Derived.Test.YtababmnmkmgbbaaGreatKQzc
import Derived.Test.YtababmnmkmgbbaaGreatKM28
import Derived.Test.YtababmnmkmgbbaaGreatKM40
set_option maxRecDepth 100000
set_option maxHeartbeats 4000000
set_option linter.unusedSimpArgs false
set_option linter.unusedVariables false
namespace Go.Proofs.YtababmnmkmgbbaaGreat
open Go Fw
/-! The reference: frozen queries. -/
theorem AV.le_mv {es es' : MEs} {c : Nat} (hl : es'.length = es.length) (h : ∀ (i : Nat) (e' : MK × AV × Nat), es'[i]? = some e' → ∃ e, es[i]? = some e ∧ e.1 = e'.1 ∧ e.2.2 = e'.2.2 ∧ e.2.1.le e'.2.1) : (AV.mv es c).le (.mv es' c) := fun σ w v hv => by
  cases hv with
  | mv _ clock b o us hf hb hst hs hk hv =>
    exact .mv es' c b o us hf hb hst (by omega) (fun i u e' hu he => by
      obtain ⟨e, h1, h2, h3, h4⟩ := h i e' he
      rw [← h2, ← h3]; exact hk i u e hu h1) (fun i u e' hu he => by
      obtain ⟨e, h1, h2, h3, h4⟩ := h i e' he
      exact h4 _ _ _ (hv i u e hu h1))
def esQ (f : Int → AV) (n : Nat) : MEs := (List.range n).map fun (i : Nat) => (MK.i (i : Int), f (i : Int), i)
def rawM (n : Int) : AV := .agg [.con (.int .i64 11), .con (.int .i64 n), .con (.string ⟨#[]⟩), .con (.slice none 0 0)]
theorem esQ_len (f : Int → AV) (n : Nat) : (esQ f n).length = n := by simp [esQ]
theorem esQ_succ (f : Int → AV) (n : Nat) : esQ f (n + 1) = esQ f n ++ [(.i (n : Int), f n, n)] := by simp [esQ, List.range_succ]
theorem esQ_has (f : Int → AV) (n : Nat) : mhas (.i (n : Int)) (esQ f n) = false := by
  unfold mhas esQ
  rw [List.any_eq_false]
  intro e he
  obtain ⟨i, hi, rfl⟩ := List.mem_map.1 he
  have := List.mem_range.1 hi
  simp only [decide_eq_true_eq]
  intro h
  injection h with h
  omega
theorem esQ_set (f : Int → AV) (n : Nat) : mset (.i (n : Int)) (f n) n (esQ f n) = esQ f (n + 1) := by
  unfold mset; rw [esQ_has, esQ_succ]; rfl
theorem esQ_clk (f : Int → AV) (n : Nat) : mclk (.i (n : Int)) n (esQ f n) = n + 1 := by unfold mclk; rw [esQ_has]; rfl
theorem esQ_all (f : Int → AV) (n : Nat) : allI (esQ f n) := fun e he => by
  obtain ⟨i, hi, rfl⟩ := List.mem_map.1 he
  exact ⟨_, rfl⟩
theorem esQ_get (f : Int → AV) (n : Nat) (k : Int) : mget (.i k) (esQ f n) = if 0 ≤ k ∧ k < n then some (f k) else none := by
  induction n with
  | zero => rw [if_neg (by omega)]; rfl
  | succ n ih =>
    rw [esQ_succ]
    unfold mget at ih ⊢
    rw [List.find?_append]
    cases hf : (esQ f n).find? fun e => decide (e.1 = MK.i k) with
    | some q =>
      rw [hf] at ih
      simp only [Option.map_some, Option.some_or] at ih ⊢
      rw [ih]
      by_cases h : 0 ≤ k ∧ k < n
      · rw [if_pos h, if_pos (by omega)]
      · rw [if_neg h] at ih; cases ih
    | none =>
      rw [hf] at ih
      by_cases h : k = n
      · subst h
        rw [if_pos (by omega)]
        simp
      · have h2 : ¬ MK.i (n : Int) = MK.i k := fun e => by injection e with e; omega
        by_cases h3 : 0 ≤ k ∧ k < n
        · rw [if_pos h3] at ih; cases ih
        · rw [if_neg (by omega)]
          simp [h2]
def marksE : Env := fun n => if 0 ≤ n ∧ n < 24 then some (markV n) else none
def esM : MEs := esQ (fun n => cV (markV n)) 24
theorem repM_marks : repM esM marksE := ⟨esQ_all _ _, fun n => by
  unfold esM marksE
  rw [esQ_get, show ((24 : Nat) : Int) = 24 from rfl]
  by_cases h : 0 ≤ n ∧ n < 24
  · rw [if_pos h, if_pos h]; rfl
  · rw [if_neg h, if_neg h]; rfl⟩
theorem c_marksS (H : Hp) : ACalls Tryz.prog 178 [] H fun r H' => ∃ m, fresh H m ∧ r = .mp m ∧ H' = ⟨(m, [.mc (esQ rawM 24) 24]) :: H.bx, H.tk⟩ := by
  refine acalls_of (by kernel_rfl) Tryz.func178 rfl 13 Tryz.ntmps178 (by simp) [.tmp 0] rfl ?_
  ((repeat' (first | (refine awp_seq_k (fun K hK => ?_)) | (refine awp_block ?_) | (refine awp_reg _ rfl ?_; (try simp only [go_sem, Nat.reduceLT, Nat.reduceAdd, ↓reduceIte, reduceCtorEq])) | (refine all_fresh fun id fr => ?_) | (refine hK _ ?_; clear hK; (try clear K)))))
  obtain ⟨m, hm⟩ : ∃ x, x = id := ⟨_, rfl⟩
  subst hm
  have frm := fr
  clear fr
  refine awp_loopKG (ι := Nat) [1] (fun q => [(4, .con (.int .i64 (q : Int)))]) (fun q => ⟨(m, [.mc (esQ rawM q) q]) :: H.bx, H.tk⟩) (fun q => q ≤ 24) (fun q => 24 - q) 0 (by intro; simp only [keepT_cons, keepT_nil, List.cons_append, List.nil_append, lk, Nat.reduceEqDiff, ↓reduceIte, reduceCtorEq, Nat.reduceAdd]; rfl) ?_ ?_ ?_ ?_
  · exact Nat.zero_le _
  · simp only [go_sem, Nat.reduceEqDiff, ↓reduceIte]
  · exact .refl _
  intro i hi
  rcases Nat.lt_or_ge i 24 with hlt | hge
  · have c1 : ((i : Int) < 24) = True := eq_true (by omega)
    have q2 : ∀ k : Int, mOk Tryz.prog 3 (.i k) (esQ rawM i) = True := fun k => eq_true (mOk_i ty_int3 (esQ_all _ _) k)
    have q3 : mset (.i (i : Int)) (.agg [.con (.int .i64 11), .con (.int .i64 i), .con (.string ⟨#[]⟩), .con (.slice none 0 0)]) i (esQ rawM i) = esQ rawM (i + 1) := esQ_set rawM i
    have q4 := esQ_clk rawM i
    ((repeat' (first | (refine awp_seq_k (fun K hK => ?_)) | (refine awp_block ?_) | (refine awp_reg _ rfl ?_; (try simp only [go_sem, Nat.reduceLT, Nat.reduceEqDiff, Nat.reduceLeDiff, Nat.reduceAdd, Nat.reduceMul, Int.reduceToNat, Nat.reducePow, ↓reduceIte, reduceCtorEq, c1, q2, wrap_succ i (by omega), ↓pkv, decide_true, decide_false, bls, if_true, if_false])) | (refine awp_cond _ rfl (fun hc => ?_) (fun hc => ?_) <;> (try (simp only [decide_eq_true_eq, decide_eq_false_iff_not, cds, Decidable.not_not, ite_or, ite_and] at hc))) | (refine awp_skip ?_; (try simp only [sq, bk, ↓reduceIte, Nat.reduceEqDiff, reduceCtorEq])) | (refine hK _ ?_; clear hK; (try clear K)))))
    refine ⟨i + 1, by omega, by omega, ?_⟩
    (refine st_le rfl ?_ (by ((try dsimp only); (try simp only [q3, q4,  List.length_append, List.length_cons, List.length_nil, Nat.zero_add]); repeat' ((with_reducible exact .refl _)))); (try simp only [go_sem, Nat.reduceLT, Nat.reduceEqDiff, Nat.reduceLeDiff, Nat.reduceAdd, Nat.reduceMul, Int.reduceToNat, Nat.reducePow, ↓reduceIte, reduceCtorEq, q3, q4]))
  · obtain rfl : i = 24 := by omega
    ((repeat' (first | (refine awp_seq_k (fun K hK => ?_)) | (refine awp_reg _ rfl ?_; (try simp only [go_sem, Nat.reduceLT, Nat.reduceEqDiff, Nat.reduceLeDiff, Nat.reduceAdd, ↓reduceIte, reduceCtorEq])) | (refine awp_cond _ rfl (fun hc => ?_) (fun hc => ?_) <;> (try (simp only [decide_eq_true_eq, decide_eq_false_iff_not] at hc)) <;> (try (exfalso; omega))) | (refine awp_exit ?_; (try simp only [sq, bk, ↓reduceIte])) | (refine awp_ret ?_) | (refine hK _ ?_; clear hK; (try clear K)) | (refine kk (by assumption) ?_))))
    refine fin_any (x := .mp m) (H := ⟨(m, [.mc (esQ rawM 24) 24]) :: H.bx, H.tk⟩) (by (try simp only [List.mem_singleton, forall_eq, resOk, List.mem_cons, List.not_mem_nil, or_false, forall_eq_or_imp, and_self])) (by (try simp only [go_sem, Nat.reduceLT, Nat.reduceEqDiff, Nat.reduceLeDiff, Nat.reduceAdd, Nat.reduceMul, Int.reduceToNat, Nat.reducePow, ↓reduceIte, reduceCtorEq])) (by ((try dsimp only); repeat' ((with_reducible exact .refl _)))) ?_
    exact ⟨m, frm, rfl, rfl⟩
theorem c_marksR (H : Hp) : PureAt Tryz.prog 178 [] H (.mv (esQ rawM 24) 24) :=
  ACalls.frz (c_marksS H) fun r H' ⟨t, h1, h2, h3⟩ => by
    subst h2 h3
    refine .inr ⟨t, [.mc (esQ rawM 24) 24], .mv (esQ rawM 24) 24, H, ?_, AV.fle_mp, rfl, fleX_skip (fleX_refl h1.1), rfl, rfl⟩
    show ((t, _) :: H.bx).lookup t = _; simp
theorem c_marks (H : Hp) : PureAt Tryz.prog 178 [] H (.mv esM 24) := by
  refine acalls_le (c_marksR H) fun r H' h => ?_
  obtain ⟨rfl, rfl⟩ := h
  refine ⟨.mv esM 24, AV.le_mv (by unfold esM; rw [esQ_len, esQ_len]) fun i e' he => ?_, rfl, rfl⟩
  unfold esM esQ at he
  rw [List.getElem?_map] at he
  obtain ⟨j, hj, rfl⟩ := Option.map_eq_some_iff.1 he
  refine ⟨(MK.i (j : Int), rawM j, j), by unfold esQ; rw [List.getElem?_map, hj]; rfl, rfl, rfl, ?_⟩
  unfold rawM
  show (AV.agg _).le (.agg _)
  (repeat' (first | exact .refl _ | exact AV.le_nil | refine AV.le_aggc rfl ?_ | refine lec_cons ?_ ?_))
def fzR (l : List Atm) (nm : ByteArray) : List (List Val) := (l.filter fun a => decide (a.rel = nm)).map fun a => a.args.map (valT marks24)
theorem fzR_all (w : CQ) (nm : ByteArray) : fzR w.body nm = fzRows w nm := rfl
theorem setU_snoc (l : List (List Val)) (x : List Val) : setU cmpR (l ++ [x]) = insU cmpR x (setU cmpR l) := by unfold setU; rw [List.foldl_append]; rfl
theorem fzR_yes {l : List Atm} {j : Nat} {a : Atm} {nm : ByteArray} (h : l[j]? = some a) (hn : a.rel = nm) : fzR (l.take (j + 1)) nm = fzR (l.take j) nm ++ [a.args.map (valT marks24)] := by
  unfold fzR; rw [take_at h, List.filter_append, List.map_append]; simp [hn]
theorem fzR_no {l : List Atm} {j : Nat} {a : Atm} {nm : ByteArray} (h : l[j]? = some a) (hn : ¬ a.rel = nm) : fzR (l.take (j + 1)) nm = fzR (l.take j) nm := by
  unfold fzR; rw [take_at h, List.filter_append]; simp [hn]
theorem fzR_good {l : List Atm} (hl : gAs l) (j : Nat) (nm : ByteArray) : (∀ x ∈ fzR (l.take j) nm, gRow x) ∧ (fzR (l.take j) nm).length ≤ 2000000 := by
  refine ⟨fun x hx => ?_, ?_⟩
  · unfold fzR at hx
    obtain ⟨a, ha, rfl⟩ := List.mem_map.1 hx
    exact rowT_good gRow_marks (hl.2 a (List.mem_of_mem_take (List.mem_filter.1 ha).1))
  · unfold fzR
    rw [List.length_map]
    have h1 := List.length_filter_le (fun a : Atm => decide (a.rel = nm)) (l.take j)
    have h2 := hl.1
    rw [List.length_take] at h1
    omega
theorem gRws_setU {l : List (List Val)} (h : ∀ x ∈ l, gRow x) (hl : l.length ≤ 2000000) : gRws (setU cmpR l) := ⟨by have := setU_len cmpR l; omega, fun x hx => h x ((setU_mem to_cmpR (fun z hz => gRow_num (h z hz)) x).1 hx)⟩
/-- Variables in range. -/
structure rngQ (w : CQ) : Prop where
  body : ∀ a ∈ w.body, ∀ t ∈ a.args, t.var = true → 0 ≤ t.n ∧ t.n < 24
  head : ∀ t ∈ w.head, t.var = true → 0 ≤ t.n ∧ t.n < 24
theorem rngQ_of {b : List Rel} {w : CQ} (h : cqE b w = 0) : rngQ w where
  body a ha := (kindsE_ok (cqE_kinds h) a ha).2
  head := by
    have hk := cqE_kinds h
    unfold cqE at h
    rw [if_pos hk] at h
    split at h
    · simp at h
    · exact fun t ht hv => (headTE_ok _ _ h t ht hv).1
theorem valE_mark {l : List Trm} (h : ∀ t ∈ l, t.var = true → 0 ≤ t.n ∧ t.n < 24) : l.map (valE marksE) = l.map (valT marks24) := List.map_congr_left fun t ht => by
  by_cases hv : t.var = true
  · have hr := h t ht hv
    rw [valT_mark hv hr]
    unfold valE marksE
    rw [if_pos hv, if_pos hr]; rfl
  · unfold valE valT; rw [if_neg hv, if_neg hv]
theorem c_UnderM (l : List Trm) (H : Hp) (hl : gTs l) (h : ∀ t ∈ l, t.var = true → 0 ≤ t.n ∧ t.n < 24) : PureAt Tryz.prog 54 [.list (encTs l) none, .mv esM 24] H (.list (encVs (l.map (valT marks24))) none) := by
  have := c_Under l esM 24 marksE H hl repM_marks (fun t ht hv => by unfold marksE; rw [if_pos (h t ht hv)]; rfl)
  rw [valE_mark h] at this
  exact this
def encRN (l : List Rel) : List AV := l.map fun x => .agg [.con (.string x.nm), .list (encCols x.cols) none, .con (.slice none 0 0), .list (encRws x.rows) none]
@[go_sem] theorem encRN_length (l : List Rel) : (encRN l).length = l.length := by simp [encRN]
theorem encRN_append (a b : List Rel) : encRN (a ++ b) = encRN a ++ encRN b := by simp [encRN]
theorem encRN_le {l : List Rel} (h : ∀ r ∈ l, r.key = []) (t : Option Nat) : (AV.list (encRN l) t).le (.list (encRels l) none) := (AV.le_list _ _).trans (AV.le_listc (xs := encRN l) (ys := encRels l) (by rw [encRN_length, encRels_length]) fun i hi => by
  rw [encRN_length] at hi
  obtain ⟨r, hr, hm⟩ := at_lt hi
  have e1 : (encRN l).getD i .any = .agg [.con (.string r.nm), .list (encCols r.cols) none, .con (.slice none 0 0), .list (encRws r.rows) none] := by simp [encRN, List.getD_eq_getElem?_getD, hr]
  rw [e1, encRels_get hr, h r hm]
  refine ⟨rfl, fun z hz => ?_, fun j hj => ?_⟩
  · simp only [AV.cells, List.mem_cons, List.not_mem_nil, or_false] at hz
    rcases hz with rfl | rfl | rfl | rfl <;> rfl
  · match j, hj with
    | 0, _ => exact .refl _
    | 1, _ => exact .refl _
    | 2, _ => exact AV.le_nil
    | 3, _ => exact .refl _)
theorem c_Frozen (b : List Rel) (w : CQ) (H : Hp) (hb : gBase b) (hw : gCQ w) (hv : rngQ w) : PureAt Tryz.prog 85 [.list (encRels b) none, cCQ w] H (.tup [.list (encRels (fzB b w)) none, .list (encVs (fzH w)) none]) := by
  have hb1 := hb.1
  have hw1 := hw.body.1
  have hfl : (fzB b w).length = b.length := by unfold fzB; rw [List.length_map]
  refine acalls_of (by kernel_rfl) Tryz.func85 rfl 52 Tryz.ntmps85 (by simp) [.tmp 4, .tmp 5] rfl ?_
  ((repeat' (first | (refine awp_seq_k (fun K hK => ?_)) | (refine awp_block ?_) | (refine awp_reg _ rfl ?_; (try simp only [go_sem, Nat.reduceLT, Nat.reduceEqDiff, Nat.reduceLeDiff, Nat.reduceAdd, Nat.reduceMul, Int.reduceToNat, Nat.reducePow, ↓reduceIte, reduceCtorEq])) | (refine orAt_r 3 ?_) | (refine hK _ ?_; clear hK; (try clear K)))))
  refine awp_nilK 6 103 4 [3, 12, 13, 14] (by simp only [keepT_cons, keepT_nil, List.cons_append, List.nil_append, lk, Nat.reduceEqDiff, ↓reduceIte, reduceCtorEq, Nat.reduceAdd]; rfl) (by simp only [go_sem, Nat.reduceLT, Nat.reduceEqDiff, Nat.reduceLeDiff, Nat.reduceAdd, Nat.reduceMul, Int.reduceToNat, Nat.reducePow, ↓reduceIte, reduceCtorEq]) (fun t frt => ?_)
  refine awp_loopKT (ι := Nat) rfl [3, 12, 13] (fun i => [(14, .con (.int .i64 (i : Int))), (6, .list (encRN ((fzB b w).take i)) (some t))]) (fun i => i) (fun i => i ≤ b.length) (fun i => b.length - i) 0 (by intro; simp only [keepT_cons, keepT_nil, List.cons_append, List.nil_append, lk, Nat.reduceEqDiff, ↓reduceIte, reduceCtorEq, Nat.reduceAdd]; rfl) (by omega) (by ((simp only [go_sem, Nat.reduceLT, Nat.reduceEqDiff, Nat.reduceLeDiff, Nat.reduceAdd, Nat.reduceMul, Int.reduceToNat, Nat.reducePow, ↓reduceIte, reduceCtorEq]; (repeat' apply And.intro) <;> (exact AV.le.refl _)))) (by (rfl)) ?_
  intro i hi
  rcases Nat.lt_or_ge i b.length with hlt | hge
  · obtain ⟨r, hr, hm⟩ := at_lt hlt
    have hg := encRels_get hr
    ((repeat' (first | (refine awp_seq_k (fun K hK => ?_)) | (refine awp_block ?_) | (refine awp_reg _ rfl ?_; (try simp only [go_sem, Nat.reduceLT, Nat.reduceEqDiff, Nat.reduceLeDiff, Nat.reduceAdd, Nat.reduceMul, Int.reduceToNat, Nat.reducePow, ↓reduceIte, reduceCtorEq, hg])) | (refine awp_cond _ rfl (fun hc => ?_) (fun hc => ?_) <;> (try (simp only [decide_eq_true_eq, decide_eq_false_iff_not, cds, Decidable.not_not, ite_or, ite_and] at hc)) <;> (try (exfalso; omega))) | (refine awp_skip ?_; (try simp only [sq, bk, ↓reduceIte, Nat.reduceEqDiff, reduceCtorEq])) | (refine orAt_r 8 ?_; (try simp only [go_sem, Nat.reduceLT, Nat.reduceEqDiff, Nat.reduceLeDiff, Nat.reduceAdd, Nat.reduceMul, Int.reduceToNat, Nat.reducePow, ↓reduceIte, reduceCtorEq, hg])) | (with_reducible apply And.intro) | (refine hK _ ?_; clear hK; (try clear K)))); (all_goals (try ((omega)))))
    refine awp_loopKG (ι := Nat) [3, 6, 8, 12, 13, 14, 19, 20] (fun q => [(9, .list (encRws (setU cmpR (fzR (w.body.take q) r.nm))) none), (21, .con (.int .i64 (q : Int)))]) (fun q => ⟨H.bx, (t, i, 103, 4) :: H.tk⟩) (fun q => q ≤ w.body.length) (fun q => w.body.length - q) 0 (by intro; simp only [keepT_cons, keepT_nil, List.cons_append, List.nil_append, lk, Nat.reduceEqDiff, ↓reduceIte, reduceCtorEq, Nat.reduceAdd]; rfl) ?_ ?_ ?_ ?_
    · exact Nat.zero_le _
    · exact ⟨AV.le_nil, .refl _, trivial⟩
    · exact .refl _
    intro j hj
    rcases Nat.lt_or_ge j w.body.length with hlt2 | hge2
    · obtain ⟨a, ha, hma⟩ := at_lt hlt2
      have hg2 := encAs_get ha
      obtain ⟨hfg, hfn⟩ := fzR_good hw.body j r.nm
      by_cases hn : a.rel = r.nm
      · have hn2 := eq_true hn
        have hst := fzR_yes ha hn
        have hag := hw.body.2 a hma
        have hun := fun H => c_UnderM a.args H hag (hv.body a hma)
        have hwi := fun H => c_With (setU cmpR (fzR (w.body.take j) r.nm)) (a.args.map (valT marks24)) H (gRws_setU hfg hfn) (rowT_good gRow_marks hag)
        rw [← setU_snoc, ← hst] at hwi
        ((repeat' (first | (refine awp_seq_k (fun K hK => ?_)) | (refine awp_block ?_) | (refine awp_reg _ rfl ?_; (try simp only [go_sem, Nat.reduceLT, Nat.reduceEqDiff, Nat.reduceLeDiff, Nat.reduceAdd, Nat.reduceMul, Int.reduceToNat, Nat.reducePow, ↓reduceIte, reduceCtorEq, hg2, hn2, wrap_succ j (by omega), ↓pkv, decide_true, decide_false, bls, if_true, if_false])) | (refine awp_drawn2 (by kernel_rfl) (by kernel_rfl) ?_; (try simp only [go_sem, Nat.reduceLT, Nat.reduceEqDiff, Nat.reduceLeDiff, Nat.reduceAdd, Nat.reduceMul, Int.reduceToNat, Nat.reducePow, ↓reduceIte, reduceCtorEq, hg2, hn2, wrap_succ j (by omega), ↓pkv, decide_true, decide_false, bls, if_true, if_false])) | (refine awp_cond _ rfl (fun hc => ?_) (fun hc => ?_) <;> (try (simp only [decide_eq_true_eq, decide_eq_false_iff_not, cds, Decidable.not_not, ite_or, ite_and] at hc)) <;> (try (exfalso; omega))) | (refine awp_skip ?_; (try simp only [sq, bk, ↓reduceIte, Nat.reduceEqDiff, reduceCtorEq])) | (refine ⟨_, c_marks _, ?_⟩) | (refine ⟨_, hun _, ?_⟩) | (refine ⟨_, hwi _, ?_⟩ <;> (try simp only [go_sem, Nat.reduceLT, Nat.reduceEqDiff, Nat.reduceLeDiff, Nat.reduceAdd, Nat.reduceMul, Int.reduceToNat, Nat.reducePow, ↓reduceIte, reduceCtorEq, hg2, hn2, wrap_succ j (by omega), ↓pkv, decide_true, decide_false, bls, if_true, if_false])) | (refine orAt_r 11 ?_; (try simp only [go_sem, Nat.reduceLT, Nat.reduceEqDiff, Nat.reduceLeDiff, Nat.reduceAdd, Nat.reduceMul, Int.reduceToNat, Nat.reducePow, ↓reduceIte, reduceCtorEq, hg2, hn2, wrap_succ j (by omega), ↓pkv, decide_true, decide_false, bls, if_true, if_false])) | (with_reducible apply And.intro) | (refine hK _ ?_; clear hK; (try clear K)))); (all_goals (try ((omega)))))
        refine ⟨j + 1, by omega, by omega, ?_⟩
        (refine st_le rfl ?_ (by ((try dsimp only); repeat' (((refine weak_tokeq (by (rfl))))))); (try simp only [go_sem, Nat.reduceEqDiff, ↓reduceIte, reduceCtorEq]))
      · have hn2 := eq_false hn
        have hst := fzR_no ha hn
        ((repeat' (first | (refine awp_seq_k (fun K hK => ?_)) | (refine awp_block ?_) | (refine awp_reg _ rfl ?_; (try simp only [go_sem, Nat.reduceLT, Nat.reduceEqDiff, Nat.reduceLeDiff, Nat.reduceAdd, Nat.reduceMul, Int.reduceToNat, Nat.reducePow, ↓reduceIte, reduceCtorEq, hg2, hn2, wrap_succ j (by omega), ↓pkv, decide_true, decide_false, bls, if_true, if_false])) | (refine awp_cond _ rfl (fun hc => ?_) (fun hc => ?_) <;> (try (simp only [decide_eq_true_eq, decide_eq_false_iff_not, cds, Decidable.not_not, ite_or, ite_and] at hc)) <;> (try (exfalso; omega))) | (refine awp_skip ?_; (try simp only [sq, bk, ↓reduceIte, Nat.reduceEqDiff, reduceCtorEq])) | (refine orAt_r 11 ?_; (try simp only [go_sem, Nat.reduceLT, Nat.reduceEqDiff, Nat.reduceLeDiff, Nat.reduceAdd, Nat.reduceMul, Int.reduceToNat, Nat.reducePow, ↓reduceIte, reduceCtorEq, hg2, hn2, wrap_succ j (by omega), ↓pkv, decide_true, decide_false, bls, if_true, if_false])) | (with_reducible apply And.intro) | (refine hK _ ?_; clear hK; (try clear K)))); (all_goals (try ((omega)))))
        refine ⟨j + 1, by omega, by omega, ?_⟩
        (refine st_le rfl ?_ (by ((try dsimp only); repeat' (((refine weak_tokeq (by (rfl))))))); (try simp only [go_sem, Nat.reduceLT, Nat.reduceEqDiff, Nat.reduceLeDiff, Nat.reduceAdd, Nat.reduceMul, Int.reduceToNat, Nat.reducePow, ↓reduceIte, reduceCtorEq, hst]))
    · obtain rfl : j = w.body.length := by omega
      rw [List.take_length, fzR_all]
      have hfr : (fzB b w)[i]? = some (fzRel w r) := by unfold fzB; rw [List.getElem?_map, hr]; rfl
      have hst : encRN ((fzB b w).take (i + 1)) = encRN ((fzB b w).take i) ++ [.agg [.con (.string r.nm), .list (encCols r.cols) none, .con (.slice none 0 0), .list (encRws (setU cmpR (fzRows w r.nm))) none]] := by rw [take_at hfr, encRN_append]; rfl
      have hln : ((fzB b w).take i).length = i := by rw [List.length_take]; omega
      ((repeat' (first | (refine awp_seq_k (fun K hK => ?_)) | (refine awp_reg _ rfl ?_; (try simp only [go_sem, Nat.reduceLT, Nat.reduceEqDiff, Nat.reduceLeDiff, Nat.reduceAdd, Nat.reduceMul, Int.reduceToNat, Nat.reducePow, ↓reduceIte, reduceCtorEq, wrap_succ i (by omega), hln, ↓pkv, decide_true, decide_false, bls, if_true, if_false])) | (refine awp_cond _ rfl (fun hc => ?_) (fun hc => ?_) <;> (try (simp only [decide_eq_true_eq, decide_eq_false_iff_not, cds, Decidable.not_not, ite_or, ite_and] at hc)) <;> (try (exfalso; omega))) | (refine awp_exit ?_; (try simp only [sq, bk, ↓reduceIte, Nat.reduceEqDiff, reduceCtorEq])) | (refine orAt_l ?_) | (with_reducible apply And.intro) | (refine hK _ ?_; clear hK; (try clear K)) | (refine kk (by assumption) ?_))); (all_goals (try (first | omega | decide | (simp only [List.mem_singleton, List.mem_cons, List.not_mem_nil, or_false, forall_eq_or_imp, forall_eq, AV.cells, List.length_cons, List.length_nil, and_self, Nat.reduceAdd]; done)))))
      refine ⟨i + 1, by omega, by omega, ?_⟩
      (refine st_le rfl ?_ (by ((try dsimp only); repeat' (((refine weak_tokeq (by (rfl))))))); (try simp only [go_sem, Nat.reduceEqDiff, ↓reduceIte, hst]))
  · obtain rfl : i = b.length := by omega
    rw [← hfl, List.take_length]
    ((repeat' (first | (refine awp_seq_k (fun K hK => ?_)) | (refine awp_reg _ rfl ?_; (try simp only [go_sem, Nat.reduceLT, Nat.reduceEqDiff, Nat.reduceLeDiff, Nat.reduceAdd, Nat.reduceMul, Int.reduceToNat, Nat.reducePow, ↓reduceIte, reduceCtorEq])) | (refine awp_drawn2 (by kernel_rfl) (by kernel_rfl) ?_; (try simp only [go_sem, Nat.reduceLT, Nat.reduceEqDiff, Nat.reduceLeDiff, Nat.reduceAdd, Nat.reduceMul, Int.reduceToNat, Nat.reducePow, ↓reduceIte, reduceCtorEq])) | (refine awp_cond _ rfl (fun hc => ?_) (fun hc => ?_) <;> (try (simp only [decide_eq_true_eq, decide_eq_false_iff_not, cds, Decidable.not_not, ite_or, ite_and] at hc)) <;> (try (exfalso; omega))) | (refine awp_exit ?_; (try simp only [sq, bk, ↓reduceIte, Nat.reduceEqDiff, reduceCtorEq])) | (refine awp_ret ?_) | (refine ⟨_, c_marks _, ?_⟩) | (refine ⟨_, c_UnderM w.head _ hw.head hv.head, ?_⟩ <;> (try simp only [go_sem, Nat.reduceLT, Nat.reduceEqDiff, Nat.reduceLeDiff, Nat.reduceAdd, Nat.reduceMul, Int.reduceToNat, Nat.reducePow, ↓reduceIte, reduceCtorEq])) | (refine hK _ ?_; clear hK; (try clear K)) | (refine kk (by assumption) ?_))))
    have hkey : ∀ r ∈ fzB b w, r.key = [] := fun r hr => by
      unfold fzB at hr
      obtain ⟨s, _, rfl⟩ := List.mem_map.1 hr
      rfl
    refine fin_le (.tup [.list (encRels (fzB b w)) none, .list (encVs (fzH w)) none]) H (by (try simp only [List.mem_singleton, forall_eq, List.mem_cons, List.not_mem_nil, or_false, forall_eq_or_imp, and_self, resOk])) ?_ (weak_tok (by have := frt.2; exact this) (.refl _)) ⟨rfl, rfl⟩
    simp only [go_sem, Nat.reduceLT, Nat.reduceEqDiff, ↓reduceIte, reduceCtorEq]
    refine AV.le_tupc rfl (lec_cons (encRN_le hkey _) (lec_cons (.refl _) lec_nil))
end Go.Proofs.YtababmnmkmgbbaaGreat
