/-
  A part of the proof: its theorems say what each gives.
-/
import Derived.Test.YtdlbbcjacjockaaKBa
import Derived.Lib.Zigzag
set_option maxRecDepth 100000
set_option maxHeartbeats 4000000
set_option linter.unusedSimpArgs false
set_option linter.unusedVariables false
namespace Go.Proofs.Ytdlbbcjacjockaa
open Go Fw
/-! Data as the proof sees them. -/
theorem getD_map {α : Type} {f : α → AV} {l : List α} {i : Nat} (h : i < l.length) : (l.map f).getD i .any = f l[i] := by
  simp [List.getD_eq_getElem?_getD, h]
abbrev cV (v : Val) : AV := .agg [.con (.int .i64 v.k), .con (.int .i64 v.n), .con (.string v.s), .list (encFs v.fs) none]
theorem encV_eq (v : Val) : encV v = cV v := by cases v; rw [encV_mk]
def encVs (l : List Val) : List AV := l.map cV
@[go_sem] theorem encVs_length (l : List Val) : (encVs l).length = l.length := by simp [encVs]
theorem encVs_get {l : List Val} {i : Nat} (h : i < l.length) : (encVs l).getD i .any = .agg [.con (.int .i64 l[i].k), .con (.int .i64 l[i].n), .con (.string l[i].s), .list (encFs l[i].fs) none] := getD_map h
@[go_sem] theorem encVs_cells (l : List Val) : (∀ y, y ∈ encVs l → y.cells.length = 4) = True := eq_true fun y hy => by obtain ⟨v, _, rfl⟩ := List.mem_map.1 hy; rfl
def encCs (l : List Chg) : List AV := l.map fun c => .agg [.con (.string c.rel), .con (.bool c.del), .list (encVs c.row) none]
@[go_sem] theorem encCs_length (l : List Chg) : (encCs l).length = l.length := by simp [encCs]
theorem encCs_get {l : List Chg} {i : Nat} (h : i < l.length) : (encCs l).getD i .any = .agg [.con (.string l[i].rel), .con (.bool l[i].del), .list (encVs l[i].row) none] := getD_map h
@[go_sem] theorem encCs_cells (l : List Chg) : (∀ y, y ∈ encCs l → y.cells.length = 3) = True := eq_true fun y hy => by obtain ⟨v, _, rfl⟩ := List.mem_map.1 hy; rfl
abbrev cE (x : Ent) : AV := .agg [.con (.int .i64 x.no), .list (encCs x.ch) none]
def encEs (l : List Ent) : List AV := l.map cE
@[go_sem] theorem encEs_length (l : List Ent) : (encEs l).length = l.length := by simp [encEs]
theorem encEs_get {l : List Ent} {i : Nat} (h : i < l.length) : (encEs l).getD i .any = .agg [.con (.int .i64 l[i].no), .list (encCs l[i].ch) none] := getD_map h
@[go_sem] theorem encEs_cells (l : List Ent) : (∀ y, y ∈ encEs l → y.cells.length = 2) = True := eq_true fun y hy => by obtain ⟨v, _, rfl⟩ := List.mem_map.1 hy; rfl
/-! The bytes of an entry. -/
theorem u64_wrap (n : Int) : IntKind.u64.wrap n = (u64 n : Int) := by
  simp [IntKind.wrap, IntKind.signed, IntKind.bits, u64]; omega
theorem u64_nat {n : Nat} (h : n < 18446744073709551616) : IntKind.u64.wrap (n : Int) = (n : Int) := by rw [u64_wrap, u64_id (by omega) (by omega)]
theorem c_logtext (l : Byt) (t : Nat) (s : ByteArray) (H : Hp) (ht : H.tok t = some (l.length, 5, 1)) (hl : l.length ≤ 1000000000) (hs : s.size ≤ 1000000000) :
    ACalls Try.prog 77 [.list (encB l) (some t), .con (.string s)] H fun r H' => r = .list (encB (l ++ txtB s)) (some t) ∧ H' = H.grow t (l ++ txtB s).length := by
  have h10 := sev_len (n := s.size) 9 (by omega)
  have e0 : IntKind.u64.wrap (s.size : Int) = (s.size : Int) := u64_nat (by omega)
  have e1 := sb_length s
  refine acalls_of (by kernel_rfl) Try.func77 rfl 12 Try.ntmps77 (by simp) [.tmp 4] rfl ?_
  ((repeat' (first | (refine awp_seq_k (fun K hK => ?_)) | (refine awp_reg _ rfl ?_; (try simp only [go_sem, Nat.reduceLT, Nat.reduceEqDiff, Nat.reduceLeDiff, Nat.reduceAdd, Nat.reduceMul, Int.reduceToNat, Nat.reducePow, ↓reduceIte, reduceCtorEq, ht, e0, bytesA_eq, sb_length])) | (refine awp_ret ?_) | (refine ACalls.det (c_lognumber l t s.size H ht hl (by omega)) ?_ <;> (try simp only [go_sem, Nat.reduceLT, Nat.reduceEqDiff, Nat.reduceLeDiff, Nat.reduceAdd, Nat.reduceMul, Int.reduceToNat, Nat.reducePow, ↓reduceIte, reduceCtorEq, ht, e0, bytesA_eq, sb_length])) | (with_reducible apply And.intro) | (refine hK _ ?_; clear hK; (try clear K)))); (all_goals (try (((simp only [List.length_append, List.length_cons, List.length_nil, List.length_take, List.length_drop] <;> omega))))))
  · unfold txtB
    ((all_goals (try refine fin_pure (by (try simp only [List.mem_singleton, forall_eq, resOk, List.mem_cons, List.not_mem_nil, or_false, forall_eq_or_imp, and_self])) ?_ (by ((try dsimp only); (try simp only [encB_append, List.append_assoc,  List.length_append, List.length_cons, List.length_nil, Nat.zero_add]); repeat' ((refine weak_grow (by (omega)))))))); (all_goals (try simp only [go_sem, Nat.reduceLT, Nat.reduceEqDiff, Nat.reduceLeDiff, Nat.reduceAdd, Nat.reduceMul, Int.reduceToNat, Nat.reducePow, ↓reduceIte, reduceCtorEq, encB_append, List.append_assoc])))
theorem zig_neg {n : Int} (h0 : -9223372036854775808 ≤ n) (h : n < 0) : Go.bits .xor .u64 (if IntKind.u64.signed = true then -1 else IntKind.u64.max) (u64 ((u64 n : Int) * 2 ^ 1) : Int) = (zig n : Int) := by
  have := Lib.zigzag_neg h0 h
  rw [u64_wrap n, u64_wrap] at this
  rw [Int.pow_one, show (if IntKind.u64.signed = true then -1 else IntKind.u64.max) = IntKind.u64.max from by decide, this]
  unfold Lib.zigzag zig
  rw [if_neg (by omega), if_pos h]
  omega
theorem zig_pos {n : Int} (h0 : n ≤ 9223372036854775807) (h : ¬ n < 0) : (u64 ((u64 n : Int) * 2 ^ 1) : Int) = (zig n : Int) := by
  rw [Int.pow_one, u64_id (n := n) (by omega) (by omega), u64_id (by omega) (by omega)]
  unfold zig
  rw [if_neg h]
  omega
theorem zig_lt {n : Int} (h : okI n) : zig n < 18446744073709551616 := by
  unfold okI at h; unfold zig; split <;> omega
/-- All the bytes are few. -/
structure SmallE (x : Ent) : Prop where
  ch : x.ch.length ≤ 1000000
  row : ∀ c ∈ x.ch, c.row.length ≤ 1000000 ∧ c.rel.size ≤ 2000000 ∧ ∀ v ∈ c.row, v.s.size ≤ 2000000
  all : (bodyB x).length ≤ 900000000
theorem flatMap_take_le {α : Type} (f : α → Byt) (l : List α) (i : Nat) : ((l.take i).flatMap f).length ≤ (l.flatMap f).length := by
  conv => rhs; rw [← List.take_append_drop i l, List.flatMap_append, List.length_append]
  omega
theorem flatMap_snoc {α : Type} (f : α → Byt) {l : List α} {i : Nat} (h : i < l.length) : (l.take (i + 1)).flatMap f = (l.take i).flatMap f ++ f l[i] := by
  rw [List.take_succ_eq_append_getElem h, List.flatMap_append]; simp
theorem c_body (x : Ent) (H : Hp) (hw : WfE x) (hs : SmallE x) : ACalls Try.prog 43 [cE x] H fun r H' => ∃ t, fresh H t ∧ r = .list (encB (bodyB x)) (some t) ∧ H' = ⟨H.bx, (t, (bodyB x).length, 5, 1) :: H.tk⟩ := by
  have hch := hs.ch
  have e0 : IntKind.u64.wrap (x.ch.length : Int) = (x.ch.length : Int) := u64_nat (by omega)
  have c1 : ∀ H, ACalls Try.prog 76 [.con (.slice none 0 0), .con (.int .u64 (u64 x.no : Int))] H fun r H' => ∃ t, fresh H t ∧ r = .list (encB (sev (u64 x.no))) (some t) ∧ H' = ⟨H.bx, (t, (sev (u64 x.no)).length, 5, 1) :: H.tk⟩ := by
    intro H
    refine ACalls.nil_tok 5 1 fun t h1 h2 => ?_
    refine ACalls.mono (c_lognumber [] t (u64 x.no) _ (by simp [Hp.tok]) (by simp) (u64_lt _)) fun r H' ⟨h3, h4⟩ => ⟨t, ⟨h2, h1⟩, h3, ?_⟩
    rw [h4]
    simp [Hp.grow, updT]
  have hall := hs.all
  have hbod : bodyB x = sev (u64 x.no) ++ sev x.ch.length ++ chsB x.ch := rfl
  have hb : ∀ i, (sev (u64 x.no) ++ sev x.ch.length ++ chsB (x.ch.take i)).length ≤ 900000000 := fun i => by
    have h1 := flatMap_take_le chgB x.ch i
    rw [hbod] at hall
    simp only [List.length_append] at hall ⊢
    unfold chsB at hall ⊢
    omega
  have hb0 : (sev (u64 x.no)).length ≤ 900000000 := by have := hb 0; simp only [List.length_append] at this; omega
  generalize hpre : sev (u64 x.no) ++ sev x.ch.length = pre at *
  refine acalls_of (by kernel_rfl) Try.func43 rfl 75 Try.ntmps43 (by simp) [.tmp 2] rfl ?_
  ((repeat' (first | (refine awp_seq_k (fun K hK => ?_)) | (refine awp_block ?_) | (refine awp_reg _ rfl ?_; (try simp only [go_sem, Nat.reduceLT, Nat.reduceEqDiff, Nat.reduceLeDiff, Nat.reduceAdd, Nat.reduceMul, Int.reduceToNat, Nat.reducePow, ↓reduceIte, reduceCtorEq, u64_wrap, e0, hpre])) | (refine ACalls.ex (c1 _) (fun id fr => ?_) <;> ((try simp only [go_sem, Nat.reduceLT, Nat.reduceEqDiff, Nat.reduceLeDiff, Nat.reduceAdd, Nat.reduceMul, Int.reduceToNat, Nat.reducePow, ↓reduceIte, reduceCtorEq, u64_wrap, e0, hpre]))) | (refine ACalls.det (c_lognumber _ _ _ _ (by simp only [go_sem, Nat.reduceLT, Nat.reduceEqDiff, Nat.reduceLeDiff, Nat.reduceAdd, Nat.reduceMul, Int.reduceToNat, Nat.reducePow, ↓reduceIte, reduceCtorEq]) (by omega) (by omega)) ?_ <;> (try simp only [go_sem, Nat.reduceLT, Nat.reduceEqDiff, Nat.reduceLeDiff, Nat.reduceAdd, Nat.reduceMul, Int.reduceToNat, Nat.reducePow, ↓reduceIte, reduceCtorEq, u64_wrap, e0, hpre])) | (refine orAt_r 1 ?_) | (refine hK _ ?_; clear hK; (try clear K)))))
  refine awp_loop (ι := Nat) (fun i => ⟨75, [(3, .list (encB (pre ++ chsB (x.ch.take i))) (some id)), (21, .list (encCs x.ch) none), (22, .con (.int .i64 x.ch.length)), (23, .con (.int .i64 (i : Int)))], ⟨H.bx, (id, (pre ++ chsB (x.ch.take i)).length, 5, 1) :: H.tk⟩⟩)
    (fun i => i ≤ x.ch.length) (fun i => x.ch.length - i) 0 (by omega) ?_ ?_
  · (refine st_le rfl ?_ (by ((try dsimp only); (try simp only [chsB, List.take_zero, List.flatMap_nil, List.append_nil,  List.length_append, List.length_cons, List.length_nil, Nat.zero_add]); repeat' (((refine weak_tokeq (by (rfl))))))); (try simp only [go_sem, Nat.reduceLT, Nat.reduceEqDiff, Nat.reduceLeDiff, Nat.reduceAdd, Nat.reduceMul, Int.reduceToNat, Nat.reducePow, ↓reduceIte, reduceCtorEq, chsB, List.take_zero, List.flatMap_nil, List.append_nil]))
  intro i hi
  rcases Nat.lt_or_ge i x.ch.length with hlt | hge
  · have hg := encCs_get hlt
    have hb1 := hb i
    have hb2 := hb (i + 1)
    have hst : chsB (x.ch.take (i + 1)) = chsB (x.ch.take i) ++ chgB x.ch[i] := flatMap_snoc chgB hlt
    rw [hst] at hb2
    obtain ⟨hr1, hr2, hr3⟩ := hs.row x.ch[i] (List.getElem_mem hlt)
    have hwr := hw.ch x.ch[i] (List.getElem_mem hlt)
    generalize x.ch[i] = c at *
    obtain ⟨rel, del, row⟩ := c
    simp only at hg hr1 hr2 hr3 hwr
    have hcg : chgB ⟨rel, del, row⟩ = sev (if del then 1 else 0) ++ txtB rel ++ sev row.length ++ rowB row := rfl
    generalize hpi : pre ++ chsB (x.ch.take i) = pi at *
    rw [← List.append_assoc, hpi, hcg] at hb2
    simp only [List.length_append] at hb2
    have er : IntKind.u64.wrap (row.length : Int) = (row.length : Int) := u64_nat (by omega)
    generalize hq : pi ++ sev (if del = true then 1 else 0) ++ txtB rel ++ sev row.length = q at *
    have hqr : pi ++ chgB ⟨rel, del, row⟩ = q ++ rowB row := by rw [hcg, ← hq]; simp only [List.append_assoc]
    have hql : ∀ j, (q ++ rowB (row.take j)).length ≤ 900000000 := fun j => by
      have h1 := flatMap_take_le valB row j
      rw [← hq]; simp only [List.length_append]; unfold rowB at *; omega
    have hql0 : q.length ≤ 900000000 := by have := hql 0; simp only [List.length_append] at this; omega
    ((repeat' (first | (refine awp_seq_k (fun K hK => ?_)) | (refine awp_block ?_) | (refine awp_reg _ rfl ?_; (try simp only [go_sem, Nat.reduceLT, Nat.reduceEqDiff, Nat.reduceLeDiff, Nat.reduceAdd, Nat.reduceMul, Int.reduceToNat, Nat.reducePow, ↓reduceIte, reduceCtorEq, hg, er])) | (refine awp_condT rfl (by (first | rfl | (simp only [decide_eq_true_eq, decide_eq_false_iff_not, Bool.or_eq_true, Bool.and_eq_true, Bool.not_eq_true', Bool.not_eq_false', Bool.or_eq_false_iff, Bool.and_eq_false_imp, Bool.not_true, Bool.not_false, Bool.true_eq_false, Bool.false_eq_true, not_true_eq_false, Decidable.not_not, ite_or, ite_and, hg, er]; omega))) ?_) | (refine awp_skip ?_; (try simp only [sq, bk, ↓reduceIte, Nat.reduceEqDiff, reduceCtorEq])) | (refine orAt_r 5 ?_; (try simp only [go_sem, Nat.reduceLT, Nat.reduceEqDiff, Nat.reduceLeDiff, Nat.reduceAdd, Nat.reduceMul, Int.reduceToNat, Nat.reducePow, ↓reduceIte, reduceCtorEq, hg, er])) | (with_reducible apply And.intro) | (refine hK _ ?_; clear hK; (try clear K)))); (all_goals (try ((omega)))))
    refine awp_join hK ⟨75, [(3, .list (encB pi) (some id)), (5, .ro [.con (.string rel), .con (.bool del), .list (encVs row) none]), (6, .con (.int .u64 ((if del then 1 else 0 : Nat) : Int))), (21, .list (encCs x.ch) none), (22, .con (.int .i64 x.ch.length)), (23, .con (.int .i64 (i : Int)))], ⟨H.bx, (id, pi.length, 5, 1) :: H.tk⟩⟩ rfl (fun hc => ?_) (fun hc => ?_) ?_
    · ((repeat' (((refine awp_reg _ rfl ?_; (try simp only [go_sem, Nat.reduceLT, Nat.reduceEqDiff, Nat.reduceLeDiff, Nat.reduceAdd, Nat.reduceMul, Int.reduceToNat, Nat.reducePow, ↓reduceIte, reduceCtorEq]))))))
      simp only [hc]
      (refine st_le rfl ?_ (by ((try dsimp only); repeat' (((refine weak_tokeq (by (rfl))))))); (try simp only [go_sem, Nat.reduceLT, Nat.reduceEqDiff, Nat.reduceLeDiff, Nat.reduceAdd, Nat.reduceMul, Int.reduceToNat, Nat.reducePow, ↓reduceIte, reduceCtorEq]))
    · ((repeat' (((refine awp_skip ?_; (try simp only [sq, bk, ↓reduceIte, Nat.reduceEqDiff, reduceCtorEq]))))))
      simp only [hc]
      (refine st_le rfl ?_ (by ((try dsimp only); repeat' (((refine weak_tokeq (by (rfl))))))); (try simp only [go_sem, Nat.reduceLT, Nat.reduceEqDiff, Nat.reduceLeDiff, Nat.reduceAdd, Nat.reduceMul, Int.reduceToNat, Nat.reducePow, ↓reduceIte, reduceCtorEq]))
    ((repeat' (first | (refine awp_mixed (id := 9) [0, 1, 3, 4, 2, 5, 6] [2, 5] [(2, [4]), (5, [])] (by kernel_rfl) (by kernel_rfl) ?_; (try simp only [go_sem, Nat.reduceLT, Nat.reduceEqDiff, Nat.reduceLeDiff, Nat.reduceAdd, Nat.reduceMul, Int.reduceToNat, Nat.reducePow, ↓reduceIte, reduceCtorEq, hg, er])) | (refine awp_seq_k (fun K hK => ?_)) | (refine awp_block ?_) | (refine awp_reg _ rfl ?_; (try simp only [go_sem, Nat.reduceLT, Nat.reduceEqDiff, Nat.reduceLeDiff, Nat.reduceAdd, Nat.reduceMul, Int.reduceToNat, Nat.reducePow, ↓reduceIte, reduceCtorEq, hg, er])) | (refine ACalls.det (c_lognumber _ _ (if del = true then 1 else 0) _ (by simp only [go_sem, Nat.reduceLT, Nat.reduceEqDiff, Nat.reduceLeDiff, Nat.reduceAdd, Nat.reduceMul, Int.reduceToNat, Nat.reducePow, ↓reduceIte, reduceCtorEq]) (by omega) (by split <;> omega)) ?_ <;> (try simp only [go_sem, Nat.reduceLT, Nat.reduceEqDiff, Nat.reduceLeDiff, Nat.reduceAdd, Nat.reduceMul, Int.reduceToNat, Nat.reducePow, ↓reduceIte, reduceCtorEq, hg, er])) | (refine ACalls.det (c_lognumber _ _ row.length _ (by simp only [go_sem, Nat.reduceLT, Nat.reduceEqDiff, Nat.reduceLeDiff, Nat.reduceAdd, Nat.reduceMul, Int.reduceToNat, Nat.reducePow, ↓reduceIte, reduceCtorEq]) (by simp only [List.length_append]; omega) (by omega)) ?_ <;> (try simp only [go_sem, Nat.reduceLT, Nat.reduceEqDiff, Nat.reduceLeDiff, Nat.reduceAdd, Nat.reduceMul, Int.reduceToNat, Nat.reducePow, ↓reduceIte, reduceCtorEq, hg, er])) | (refine ACalls.det (c_logtext _ _ _ _ (by simp only [go_sem, Nat.reduceLT, Nat.reduceEqDiff, Nat.reduceLeDiff, Nat.reduceAdd, Nat.reduceMul, Int.reduceToNat, Nat.reducePow, ↓reduceIte, reduceCtorEq]) (by simp only [List.length_append]; omega) (by omega)) ?_ <;> (try simp only [go_sem, Nat.reduceLT, Nat.reduceEqDiff, Nat.reduceLeDiff, Nat.reduceAdd, Nat.reduceMul, Int.reduceToNat, Nat.reducePow, ↓reduceIte, reduceCtorEq, hg, er])) | (refine hK _ ?_; clear hK; (try clear K)))))
    simp only [hq]
    refine awp_loop (ι := Nat) (fun j => ⟨75, [(3, .list (encB (q ++ rowB (row.take j))) (some id)), (21, .list (encCs x.ch) none), (22, .con (.int .i64 x.ch.length)), (23, .con (.int .i64 (i : Int))), (42, .list (encVs row) none), (43, .con (.int .i64 row.length)), (44, .con (.int .i64 (j : Int)))], ⟨H.bx, (id, (q ++ rowB (row.take j)).length, 5, 1) :: H.tk⟩⟩)
      (fun j => j ≤ row.length) (fun j => row.length - j) 0 (by omega) ?_ ?_
    · (refine st_le rfl ?_ (by ((try dsimp only); (try simp only [rowB, List.take_zero, List.flatMap_nil, List.append_nil,  List.length_append, List.length_cons, List.length_nil, Nat.zero_add]); repeat' (((refine weak_tokeq (by (rfl))))))); (try simp only [go_sem, Nat.reduceLT, Nat.reduceEqDiff, Nat.reduceLeDiff, Nat.reduceAdd, Nat.reduceMul, Int.reduceToNat, Nat.reducePow, ↓reduceIte, reduceCtorEq, rowB, List.take_zero, List.flatMap_nil, List.append_nil]))
    intro j hj
    rcases Nat.lt_or_ge j row.length with hlj | hgj
    · have hgv := encVs_get hlj
      have hj1 := hql j
      have hj2 := hql (j + 1)
      have hsj : rowB (row.take (j + 1)) = rowB (row.take j) ++ valB row[j] := flatMap_snoc valB hlj
      rw [hsj] at hj2
      have hv3 := hr3 row[j] (List.getElem_mem hlj)
      have hvw := hwr row[j] (List.getElem_mem hlj)
      generalize row[j] = v at *
      have hvb : valB v = sev (u64 v.k) ++ if v.k = 5 then txtB v.s else sev (u64 (zig v.n)) := rfl
      have hzl := zig_lt hvw.2
      have hzu : u64 (zig v.n) = zig v.n := (unzig_zig hvw.2.1 hvw.2.2).1
      generalize hqj : q ++ rowB (row.take j) = qj at *
      rw [← List.append_assoc, hqj] at hj2
      by_cases hk : v.k = 5
      · rw [if_pos hk] at hvb
        rw [hvb] at hj2
        simp only [List.length_append] at hj2
        ((repeat' (first | (refine awp_seq_k (fun K hK => ?_)) | (refine awp_block ?_) | (refine awp_reg _ rfl ?_; (try simp only [go_sem, Nat.reduceLT, Nat.reduceEqDiff, Nat.reduceLeDiff, Nat.reduceAdd, Nat.reduceMul, Int.reduceToNat, Nat.reducePow, ↓reduceIte, reduceCtorEq, hgv, u64_wrap])) | (refine awp_cond _ rfl (fun hc => ?_) (fun hc => ?_) <;> (try (simp only [decide_eq_true_eq, decide_eq_false_iff_not, Bool.or_eq_true, Bool.and_eq_true, Bool.not_eq_true', Bool.not_eq_false', Bool.or_eq_false_iff, Bool.and_eq_false_imp, Bool.not_eq_false, Bool.not_eq_true, Bool.not_true, Bool.not_false, Bool.true_eq_false, Bool.false_eq_true, not_true_eq_false, Decidable.not_not, ite_or, ite_and] at hc)) <;> (try (exfalso; omega))) | (refine awp_skip ?_; (try simp only [sq, bk, ↓reduceIte, Nat.reduceEqDiff, reduceCtorEq])) | (refine awp_exit ?_; (try simp only [sq, bk, ↓reduceIte, Nat.reduceEqDiff, reduceCtorEq])) | (refine ACalls.det (c_lognumber _ _ (u64 v.k) _ (by simp only [go_sem, Nat.reduceLT, Nat.reduceEqDiff, Nat.reduceLeDiff, Nat.reduceAdd, Nat.reduceMul, Int.reduceToNat, Nat.reducePow, ↓reduceIte, reduceCtorEq]) (by omega) (u64_lt _)) ?_ <;> (try simp only [go_sem, Nat.reduceLT, Nat.reduceEqDiff, Nat.reduceLeDiff, Nat.reduceAdd, Nat.reduceMul, Int.reduceToNat, Nat.reducePow, ↓reduceIte, reduceCtorEq, hgv, u64_wrap])) | (refine ACalls.det (c_logtext _ _ v.s _ (by simp only [go_sem, Nat.reduceLT, Nat.reduceEqDiff, Nat.reduceLeDiff, Nat.reduceAdd, Nat.reduceMul, Int.reduceToNat, Nat.reducePow, ↓reduceIte, reduceCtorEq]) (by simp only [List.length_append]; omega) (by omega)) ?_ <;> (try simp only [go_sem, Nat.reduceLT, Nat.reduceEqDiff, Nat.reduceLeDiff, Nat.reduceAdd, Nat.reduceMul, Int.reduceToNat, Nat.reducePow, ↓reduceIte, reduceCtorEq, hgv, u64_wrap])) | (refine orAt_r 8 ?_; (try simp only [go_sem, Nat.reduceLT, Nat.reduceEqDiff, Nat.reduceLeDiff, Nat.reduceAdd, Nat.reduceMul, Int.reduceToNat, Nat.reducePow, ↓reduceIte, reduceCtorEq, hgv, u64_wrap])) | (with_reducible apply And.intro) | (refine hK _ ?_; clear hK; (try clear K)) | (refine kk (by assumption) ?_))); (all_goals (try ((omega)))))
        refine ⟨j + 1, by omega, by omega, ?_⟩
        rw [hsj, ← List.append_assoc, hqj, hvb]
        (refine st_le rfl ?_ (by ((try dsimp only); (try simp only [encB_append, List.append_assoc, wrap_succ j (by omega),  List.length_append, List.length_cons, List.length_nil, Nat.zero_add]); repeat' (((refine weak_tokeq (by (rfl))))))); (try simp only [go_sem, Nat.reduceLT, Nat.reduceEqDiff, Nat.reduceLeDiff, Nat.reduceAdd, Nat.reduceMul, Int.reduceToNat, Nat.reducePow, ↓reduceIte, reduceCtorEq, encB_append, List.append_assoc, wrap_succ j (by omega)]))
      · rw [if_neg hk, hzu] at hvb
        rw [hvb] at hj2
        simp only [List.length_append] at hj2
        by_cases hn : v.n < 0
        · have hz := zig_neg hvw.2.1 hn
          ((repeat' (first | (refine awp_seq_k (fun K hK => ?_)) | (refine awp_block ?_) | (refine awp_reg _ rfl ?_; (try simp only [go_sem, Nat.reduceLT, Nat.reduceEqDiff, Nat.reduceLeDiff, Nat.reduceAdd, Nat.reduceMul, Int.reduceToNat, Nat.reducePow, ↓reduceIte, reduceCtorEq, hgv, u64_wrap, hz])) | (refine awp_cond _ rfl (fun hc => ?_) (fun hc => ?_) <;> (try (simp only [decide_eq_true_eq, decide_eq_false_iff_not, Bool.or_eq_true, Bool.and_eq_true, Bool.not_eq_true', Bool.not_eq_false', Bool.or_eq_false_iff, Bool.and_eq_false_imp, Bool.not_eq_false, Bool.not_eq_true, Bool.not_true, Bool.not_false, Bool.true_eq_false, Bool.false_eq_true, not_true_eq_false, Decidable.not_not, ite_or, ite_and] at hc)) <;> (try (exfalso; omega))) | (refine awp_skip ?_; (try simp only [sq, bk, ↓reduceIte, Nat.reduceEqDiff, reduceCtorEq])) | (refine ACalls.det (c_lognumber _ _ (u64 v.k) _ (by simp only [go_sem, Nat.reduceLT, Nat.reduceEqDiff, Nat.reduceLeDiff, Nat.reduceAdd, Nat.reduceMul, Int.reduceToNat, Nat.reducePow, ↓reduceIte, reduceCtorEq]) (by omega) (u64_lt _)) ?_ <;> (try simp only [go_sem, Nat.reduceLT, Nat.reduceEqDiff, Nat.reduceLeDiff, Nat.reduceAdd, Nat.reduceMul, Int.reduceToNat, Nat.reducePow, ↓reduceIte, reduceCtorEq, hgv, u64_wrap, hz])) | (refine ACalls.det (c_lognumber _ _ (zig v.n) _ (by simp only [go_sem, Nat.reduceLT, Nat.reduceEqDiff, Nat.reduceLeDiff, Nat.reduceAdd, Nat.reduceMul, Int.reduceToNat, Nat.reducePow, ↓reduceIte, reduceCtorEq]) (by simp only [List.length_append]; omega) (by omega)) ?_ <;> (try simp only [go_sem, Nat.reduceLT, Nat.reduceEqDiff, Nat.reduceLeDiff, Nat.reduceAdd, Nat.reduceMul, Int.reduceToNat, Nat.reducePow, ↓reduceIte, reduceCtorEq, hgv, u64_wrap, hz])) | (refine orAt_r 8 ?_; (try simp only [go_sem, Nat.reduceLT, Nat.reduceEqDiff, Nat.reduceLeDiff, Nat.reduceAdd, Nat.reduceMul, Int.reduceToNat, Nat.reducePow, ↓reduceIte, reduceCtorEq, hgv, u64_wrap, hz])) | (with_reducible apply And.intro) | (refine hK _ ?_; clear hK; (try clear K)))); (all_goals (try ((omega)))))
          refine ⟨j + 1, by omega, by omega, ?_⟩
          rw [hsj, ← List.append_assoc, hqj, hvb]
          (refine st_le rfl ?_ (by ((try dsimp only); (try simp only [encB_append, List.append_assoc, wrap_succ j (by omega),  List.length_append, List.length_cons, List.length_nil, Nat.zero_add]); repeat' (((refine weak_tokeq (by (rfl))))))); (try simp only [go_sem, Nat.reduceLT, Nat.reduceEqDiff, Nat.reduceLeDiff, Nat.reduceAdd, Nat.reduceMul, Int.reduceToNat, Nat.reducePow, ↓reduceIte, reduceCtorEq, encB_append, List.append_assoc, wrap_succ j (by omega)]))
        · have hz := zig_pos hvw.2.2 hn
          ((repeat' (first | (refine awp_seq_k (fun K hK => ?_)) | (refine awp_block ?_) | (refine awp_reg _ rfl ?_; (try simp only [go_sem, Nat.reduceLT, Nat.reduceEqDiff, Nat.reduceLeDiff, Nat.reduceAdd, Nat.reduceMul, Int.reduceToNat, Nat.reducePow, ↓reduceIte, reduceCtorEq, hgv, u64_wrap, hz])) | (refine awp_cond _ rfl (fun hc => ?_) (fun hc => ?_) <;> (try (simp only [decide_eq_true_eq, decide_eq_false_iff_not, Bool.or_eq_true, Bool.and_eq_true, Bool.not_eq_true', Bool.not_eq_false', Bool.or_eq_false_iff, Bool.and_eq_false_imp, Bool.not_eq_false, Bool.not_eq_true, Bool.not_true, Bool.not_false, Bool.true_eq_false, Bool.false_eq_true, not_true_eq_false, Decidable.not_not, ite_or, ite_and] at hc)) <;> (try (exfalso; omega))) | (refine awp_skip ?_; (try simp only [sq, bk, ↓reduceIte, Nat.reduceEqDiff, reduceCtorEq])) | (refine ACalls.det (c_lognumber _ _ (u64 v.k) _ (by simp only [go_sem, Nat.reduceLT, Nat.reduceEqDiff, Nat.reduceLeDiff, Nat.reduceAdd, Nat.reduceMul, Int.reduceToNat, Nat.reducePow, ↓reduceIte, reduceCtorEq]) (by omega) (u64_lt _)) ?_ <;> (try simp only [go_sem, Nat.reduceLT, Nat.reduceEqDiff, Nat.reduceLeDiff, Nat.reduceAdd, Nat.reduceMul, Int.reduceToNat, Nat.reducePow, ↓reduceIte, reduceCtorEq, hgv, u64_wrap, hz])) | (refine ACalls.det (c_lognumber _ _ (zig v.n) _ (by simp only [go_sem, Nat.reduceLT, Nat.reduceEqDiff, Nat.reduceLeDiff, Nat.reduceAdd, Nat.reduceMul, Int.reduceToNat, Nat.reducePow, ↓reduceIte, reduceCtorEq]) (by simp only [List.length_append]; omega) (by omega)) ?_ <;> (try simp only [go_sem, Nat.reduceLT, Nat.reduceEqDiff, Nat.reduceLeDiff, Nat.reduceAdd, Nat.reduceMul, Int.reduceToNat, Nat.reducePow, ↓reduceIte, reduceCtorEq, hgv, u64_wrap, hz])) | (refine orAt_r 8 ?_; (try simp only [go_sem, Nat.reduceLT, Nat.reduceEqDiff, Nat.reduceLeDiff, Nat.reduceAdd, Nat.reduceMul, Int.reduceToNat, Nat.reducePow, ↓reduceIte, reduceCtorEq, hgv, u64_wrap, hz])) | (with_reducible apply And.intro) | (refine hK _ ?_; clear hK; (try clear K)))); (all_goals (try ((omega)))))
          refine ⟨j + 1, by omega, by omega, ?_⟩
          rw [hsj, ← List.append_assoc, hqj, hvb]
          (refine st_le rfl ?_ (by ((try dsimp only); (try simp only [encB_append, List.append_assoc, wrap_succ j (by omega),  List.length_append, List.length_cons, List.length_nil, Nat.zero_add]); repeat' (((refine weak_tokeq (by (rfl))))))); (try simp only [go_sem, Nat.reduceLT, Nat.reduceEqDiff, Nat.reduceLeDiff, Nat.reduceAdd, Nat.reduceMul, Int.reduceToNat, Nat.reducePow, ↓reduceIte, reduceCtorEq, encB_append, List.append_assoc, wrap_succ j (by omega)]))
    · obtain rfl : j = row.length := by omega
      ((repeat' (first | (refine awp_seq_k (fun K hK => ?_)) | (refine awp_reg _ rfl ?_; (try simp only [go_sem, Nat.reduceLT, Nat.reduceEqDiff, Nat.reduceLeDiff, Nat.reduceAdd, Nat.reduceMul, Int.reduceToNat, Nat.reducePow, ↓reduceIte, reduceCtorEq, wrap_succ i (by omega)])) | (refine awp_cond _ rfl (fun hc => ?_) (fun hc => ?_) <;> (try (simp only [decide_eq_true_eq, decide_eq_false_iff_not, Bool.or_eq_true, Bool.and_eq_true, Bool.not_eq_true', Bool.not_eq_false', Bool.or_eq_false_iff, Bool.and_eq_false_imp, Bool.not_eq_false, Bool.not_eq_true, Bool.not_true, Bool.not_false, Bool.true_eq_false, Bool.false_eq_true, not_true_eq_false, Decidable.not_not, ite_or, ite_and] at hc)) <;> (try (exfalso; omega))) | (refine awp_exit ?_; (try simp only [sq, bk, ↓reduceIte, Nat.reduceEqDiff, reduceCtorEq])) | (refine hK _ ?_; clear hK; (try clear K)) | (refine kk (by assumption) ?_))))
      refine ⟨i + 1, by omega, by omega, ?_⟩
      rw [hst, ← List.append_assoc, hpi, hqr]
      (refine st_le rfl ?_ (by ((try dsimp only); (try simp only [List.take_length,  List.length_append, List.length_cons, List.length_nil, Nat.zero_add]); repeat' (((refine weak_tokeq (by (rfl))))))); (try simp only [go_sem, Nat.reduceLT, Nat.reduceEqDiff, Nat.reduceLeDiff, Nat.reduceAdd, Nat.reduceMul, Int.reduceToNat, Nat.reducePow, ↓reduceIte, reduceCtorEq, List.take_length]))
  · obtain rfl : i = x.ch.length := by omega
    ((repeat' (first | (refine awp_seq_k (fun K hK => ?_)) | (refine awp_reg _ rfl ?_; (try simp only [go_sem, Nat.reduceLT, Nat.reduceEqDiff, Nat.reduceLeDiff, Nat.reduceAdd, Nat.reduceMul, Int.reduceToNat, Nat.reducePow, ↓reduceIte, reduceCtorEq, List.take_length])) | (refine awp_cond _ rfl (fun hc => ?_) (fun hc => ?_) <;> (try (simp only [decide_eq_true_eq, decide_eq_false_iff_not, Bool.or_eq_true, Bool.and_eq_true, Bool.not_eq_true', Bool.not_eq_false', Bool.or_eq_false_iff, Bool.and_eq_false_imp, Bool.not_eq_false, Bool.not_eq_true, Bool.not_true, Bool.not_false, Bool.true_eq_false, Bool.false_eq_true, not_true_eq_false, Decidable.not_not, ite_or, ite_and] at hc)) <;> (try (exfalso; omega))) | (refine awp_exit ?_; (try simp only [sq, bk, ↓reduceIte, Nat.reduceEqDiff, reduceCtorEq])) | (refine awp_ret ?_) | (refine hK _ ?_; clear hK; (try clear K)) | (refine kk (by assumption) ?_))))
    refine fin_any (x := .list (encB (bodyB x)) (some id)) (H := ⟨H.bx, (id, (bodyB x).length, 5, 1) :: H.tk⟩) (by simp [resOk]) (by simp only [go_sem, Nat.reduceLT, Nat.reduceEqDiff, Nat.reduceLeDiff, Nat.reduceAdd, Nat.reduceMul, Int.reduceToNat, Nat.reducePow, ↓reduceIte, reduceCtorEq, hbod]) (by rw [hbod]; exact .refl _) ⟨id, fr, rfl, rfl⟩
end Go.Proofs.Ytdlbbcjacjockaa
