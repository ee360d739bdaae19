/-
  A part of the proof: its theorems say what each gives.
-/
import Derived.Test.YtababmnmkmgbbaaGreatKQx
import Derived.Test.YtababmnmkmgbbaaGreatKSe
import Derived.Test.YtababmnmkmgbbaaGreatKFw1
import Derived.Test.YtababmnmkmgbbaaGreatKFw2
import Derived.Test.YtababmnmkmgbbaaGreatKFw3
set_option maxRecDepth 100000
set_option maxHeartbeats 4000000
set_option linter.unusedSimpArgs false
set_option linter.unusedVariables false
namespace Go.Proofs.YtababmnmkmgbbaaGreat
open Go Fw
/-! The reference: All. -/
def maxL : List Int → Int
  | [] => 0
  | a :: l => l.foldl max a
theorem foldl_max_lt (c : Int) : ∀ (l : List Int) (a : Int), c < l.foldl max a ↔ c < a ∨ ∃ n ∈ l, c < n
  | [], a => by simp
  | b :: l, a => by
    rw [List.foldl_cons, foldl_max_lt c l]
    constructor
    · rintro (h | ⟨n, h1, h2⟩)
      · by_cases h3 : c < a
        · exact .inl h3
        · exact .inr ⟨b, by simp, by omega⟩
      · exact .inr ⟨n, by simp [h1], h2⟩
    · rintro (h | ⟨n, h1, h2⟩)
      · exact .inl (by omega)
      · rcases List.mem_cons.1 h1 with e | h1
        · subst e; exact .inl (by omega)
        · exact .inr ⟨n, h1, h2⟩
theorem maxL_any {l : List Int} (h : l ≠ []) (c : Int) : c < maxL l ↔ l.any (fun n => decide (c < n)) = true := by
  cases l with
  | nil => exact absurd rfl h
  | cons a l =>
    rw [maxL, foldl_max_lt, List.any_eq_true]
    simp
theorem encIs_gt {l : List Int} {i : Nat} {n : Int} (h : l[i]? = some n) : (encIs l).getD i .any = .con (.int .i64 n) := by simp [encIs, List.getD_eq_getElem?_getD, h]
theorem encIs_fits1 (l : List Int) : ∀ x ∈ encIs l, x.fits 1 := by
  intro x hx
  obtain ⟨y, _, rfl⟩ := List.mem_map.1 hx
  exact ⟨rfl, by simp [AV.cells, AV.one, Value.oneCell']⟩
theorem c_Max (l : List Int) (H : Hp) (h : l ≠ []) (hn : l.length ≤ 2000000) : PureAt Tryz.prog 149 [.list (encIs l) none] H (.con (.int .i64 (maxL l))) := by
  have h0 : 0 < l.length := List.length_pos_iff.2 h
  obtain ⟨a, ha, _⟩ := at_lt h0
  have hg0 := encIs_gt ha
  have c1 : ((l.length : Int) < 1) = False := eq_false (by omega)
  have hfin : maxL l = (l.drop 1).foldl max a := by
    cases l with
    | nil => simp at ha
    | cons b l => simp at ha; subst ha; rfl
  generalize hr : maxL l = r at hfin
  refine acalls_of (by kernel_rfl) Tryz.func149 rfl 25 Tryz.ntmps149 (by simp) [.tmp 2] rfl ?_
  ((repeat' (first | (refine awp_seq_k (fun K hK => ?_)) | (refine awp_block ?_) | (refine awp_reg _ rfl ?_; (try simp only [go_sem, Nat.reduceLT, Nat.reduceLeDiff, Nat.reduceAdd, Int.reduceToNat, ↓reduceIte, reduceCtorEq, c1, hg0, decide_false])) | (refine awp_cond _ rfl (fun hc => ?_) (fun hc => ?_) <;> (try (simp only [cds] at hc))) | (refine awp_skip ?_; (try simp only [sq])) | (with_reducible apply And.intro) | (refine hK _ ?_; clear hK; (try clear K)))); (all_goals (try ((omega)))))
  refine awp_loopKG (ι := Nat × Int) [0] (fun q => [(4, .con (.int .i64 (q.1 : Int))), (3, .con (.int .i64 q.2))]) (fun q => H) (fun q => q.1 ≤ l.length ∧ (l.drop q.1).foldl max q.2 = r) (fun q => l.length - q.1) (1, a) (by intro; simp only [keepT_cons, keepT_nil, List.cons_append, List.nil_append, lk, ↓reduceIte, reduceCtorEq]; rfl) ?_ ?_ ?_ ?_
  · exact ⟨by omega, hfin.symm⟩
  · simp only [go_sem, Nat.reduceEqDiff, ↓reduceIte]
  · exact .refl _
  rintro ⟨i, n⟩ ⟨hi, h1⟩
  simp only at hi h1
  rcases Nat.lt_or_ge i l.length with hlt | hge
  · obtain ⟨x, hx, hm⟩ := at_lt hlt
    have hg := encIs_gt hx
    rw [drop_at hx, List.foldl_cons] at h1
    ((repeat' (first | (refine awp_seq_k (fun K hK => ?_)) | (refine awp_block ?_) | (refine awp_reg _ rfl ?_; (try simp only [go_sem, Nat.reduceLT, Nat.reduceEqDiff, Nat.reduceLeDiff, Nat.reduceAdd, ↓reduceIte, reduceCtorEq, wrap_succ i (by omega), hg])) | (refine awp_cond _ rfl (fun hc => ?_) (fun hc => ?_) <;> (try (simp only [decide_eq_true_eq, decide_eq_false_iff_not] at hc)) <;> (try (exfalso; omega))) | (refine awp_skip ?_; (try simp only [sq])) | (with_reducible apply And.intro) | (refine hK _ ?_; clear hK; (try clear K)))); (all_goals (try ((omega)))))
    refine ⟨(i + 1, max n x), by simp only; omega, ⟨by simp only; omega, h1⟩, ?_⟩
    (refine st_le rfl ?_ (by ((try dsimp only); repeat' ((with_reducible exact .refl _)))); (try simp only [go_sem, Nat.reduceEqDiff, ↓reduceIte, reduceCtorEq]))
  · obtain rfl : i = l.length := by omega
    rw [List.drop_length] at h1
    ((repeat' (first | (refine awp_seq_k (fun K hK => ?_)) | (refine awp_reg _ rfl ?_; (try simp only [go_sem, Nat.reduceLT, Nat.reduceEqDiff, Nat.reduceLeDiff, Nat.reduceAdd, ↓reduceIte, reduceCtorEq])) | (refine awp_cond _ rfl (fun hc => ?_) (fun hc => ?_) <;> (try (simp only [decide_eq_true_eq, decide_eq_false_iff_not] at hc)) <;> (try (exfalso; omega))) | (refine awp_exit ?_; (try simp only [sq, bk, ↓reduceIte])) | (refine awp_ret ?_) | (refine hK _ ?_; clear hK; (try clear K)) | (refine kk (by assumption) ?_))))
    ((all_goals (try refine fin_pure (by (try simp only [forall_eq, resOk, List.mem_cons, List.not_mem_nil, or_false])) ?_ (by ((try dsimp only); repeat' ((with_reducible exact .refl _)))))); (all_goals (try simp only [go_sem, ↓reduceIte])); (all_goals (try (((simp_all []; done))))))
theorem c_AllR (b : List Rel) (l : List Atm) (x : List Val) (es : MEs) (ec : Nat) (H : Hp) (hb : gBase b) (hl : gAs l) (ho : okAtoms b 24 l) (h12 : l.length ≤ 12) (h24 : x.length = 24) (hx : gRow x) (hE : repM es (envB x)) :
    ACalls Tryz.prog 47 [.list (encRels b) none, .list (encAs l) none, .mv es ec] H fun r H' => H' = H ∧
      ((extL b l [x] = none ∧ r = .tup [.con (.slice none 0 0), .con (.int .i64 6)]) ∨ ∃ ys ps, extL b l [x] = some ys ∧ Reps RepB ps ys ∧ r = .tup [.list (encPs ps) none, .con (.int .i64 0)]) := by
  have hl1 := hl.1
  have hz := allZ_eq (rowsLe_of hb) l x
  have hlen := envsZ_len b l x (List.replicate (l.length + 1) 0) (by simp)
  rw [List.length_replicate] at hlen
  have w1 : IntKind.i64.wrap ((l.length : Int) + 1) = ((l.length + 1 : Nat) : Int) := wrap_succ _ (by omega)
  have hE0 : (List.replicate (l.length + 1) [AV.con (.int .i64 0)]).flatten = encIs (List.replicate (l.length + 1) 0) := by
    generalize l.length + 1 = n
    induction n with
    | zero => rfl
    | succ n ih => rw [List.replicate_succ, List.flatten_cons, ih, List.replicate_succ]; rfl
  have hl0 : (((l.length + 1 : Nat) : Int) * ((8 : Nat) : Int) ≤ 281474976710656) = True := eq_true (by omega)
  have hl2 : (0 ≤ ((l.length + 1 : Nat) : Int)) = True := eq_true (by omega)
  refine acalls_of (by kernel_rfl) Tryz.func47 rfl 29 Tryz.ntmps47 (by simp) [.tmp 6, .tmp 7] rfl ?_
  refine awp_cut 2 (fun K hK => ?_)
  simp only [dropN] at hK
  have hK1 : ∀ (s : St) (id : Nat), fresh H id → St.le s ⟨29, [(0, .list (encRels b) none), (1, .list (encAs l) none), (2, .mv es ec), (8, .sl id (l.length + 1) 3 1)], ⟨(id, encIs (List.replicate (l.length + 1) 0)) :: H.bx, H.tk⟩⟩ → K s := by
    intro s id fr hs
    refine hK _ (awp_weak _ hs ?_)
    clear hs hK
    refine awp_openSl 8 (id := id) (n := l.length + 1) (e := 3) (k := 1) (cs := encIs (List.replicate (l.length + 1) 0)) (by simp only [go_sem, Nat.reduceEqDiff, ↓reduceIte, reduceCtorEq]) (by omega) (by show ((id, _) :: H.bx).lookup id = _; simp) (by simp [encIs]) (fun m => ?_)
    generalize List.replicate (m * 1) AV.any = post
    refine awp_cut 1 (fun K2 hK2 => ?_)
    simp only [dropN] at hK2
    have hK3 : ∀ (s : St) (ps : List (MEs × Nat)), Reps RepB ps (envsZ b l x (List.replicate (l.length + 1) 0)).1 → St.le s ⟨29, [(1, .list (encAs l) none), (8, .slc id 0 (l.length + 1) (l.length + 1 + m) 3 1), (9, .list (encPs ps) none)], ⟨(id, encIs (envsZ b l x (List.replicate (l.length + 1) 0)).2 ++ post) :: H.bx, H.tk⟩⟩ → K2 s := by
      intro s ps hps hs
      refine hK2 _ (awp_weak _ hs ?_)
      clear hs hK2
      generalize hE : envsZ b l x (List.replicate (l.length + 1) 0) = E at *
      refine awp_freezeX id (cs := encIs E.2 ++ post) (by show ((id, _) :: H.bx).lookup id = _; simp) ⟨29, [(1, .list (encAs l) none), (8, .list (encIs E.2) none), (9, .list (encPs ps) none)], H⟩ rfl ⟨AV.fle.refl _, ?_, AV.fle.refl _, trivial⟩ rfl (fleX_skip (fleX_refl fr.1)) ?_
      · refine AV.fle_slc (by omega) (by rw [encIs_length, hlen]) (encIs_fits1 _) (by rw [encIs_length, List.length_append, encIs_length]; omega) fun i j hi hj => ?_
        obtain rfl : j = 0 := by omega
        rw [encIs_length] at hi
        obtain ⟨n, hn, _⟩ := at_lt hi
        rw [encIs_gt hn, Nat.mul_one, Nat.add_zero, List.getD_eq_getElem?_getD (l := encIs E.2 ++ post), List.getElem?_append_left (by rw [encIs_length]; exact hi), ← List.getD_eq_getElem?_getD, encIs_gt hn]
        rfl
      unfold allZ at hz
      rw [hE] at hz
      have hdr : List.drop 1 (List.take (l.length + 1) (encIs E.2)) = encIs E.2.tail := by
        rw [List.take_of_length_le (by rw [encIs_length]; omega), List.drop_one]; unfold encIs; rw [List.map_tail]
      by_cases h0 : l.length = 0
      · have c1 : ((0 : Int) < (l.length : Int)) = False := eq_false (by omega)
        have htl : E.2.tail = [] := List.eq_nil_of_length_eq_zero (by rw [List.length_tail]; omega)
        rw [htl, List.any_nil, if_neg (by simp)] at hz
        ((repeat' (first | (refine awp_seq_k (fun K hK => ?_)) | (refine awp_reg _ rfl ?_; (try simp only [go_sem, Nat.reduceLT, Nat.reduceEqDiff, Int.reduceToNat, ↓reduceIte, c1, ↓pkv, decide_false, bls])) | (refine awp_cond _ rfl (fun hc => ?_) (fun hc => ?_) <;> (try (simp only [cds] at hc))) | (refine awp_skip ?_; (try simp only [sq])) | (refine awp_ret ?_) | (refine ⟨AV.any, fun hg => False.elim hg, ?_⟩; (try simp only [go_sem])) | (with_reducible apply And.intro) | (refine hK _ ?_; clear hK; (try clear K)))); (all_goals (try (((intro hh; simp only at hh ⊢; (done)))))))
        refine fin_any (x := .tup [.list (encPs ps) none, .con (.int .i64 0)]) (H := H) (by (try simp only [forall_eq, List.mem_cons, List.not_mem_nil, or_false, forall_eq_or_imp, and_self, resOk])) rfl (.refl _) ⟨rfl, .inr ⟨E.1, ps, hz.symm, hps, rfl⟩⟩
      · have c1 : ((0 : Int) < (l.length : Int)) = True := eq_true (by omega)
        have hne : E.2.tail ≠ [] := fun e => by have := congrArg List.length e; rw [List.length_tail, List.length_nil] at this; omega
        have hmx := fun H => c_Max E.2.tail H hne (by rw [List.length_tail]; omega)
        have hma := maxL_any hne 20000
        have hl5 : (encIs E.2).length = l.length + 1 := by rw [encIs_length, hlen]
        have hcl : (∀ y, y ∈ encIs E.2 → y.cells.length = 1) = True := eq_true fun y hy => (encIs_fits1 _ y hy).1
        have c3 : ((1 : Int) ≤ ((l.length + 1 : Nat) : Int)) = True := eq_true (by omega)
        by_cases hf : 20000 < maxL E.2.tail
        · have c2 := eq_true hf
          rw [if_pos (hma.1 hf)] at hz
          ((repeat' (first | (refine awp_seq_k (fun K hK => ?_)) | (refine awp_reg _ rfl ?_; (try simp only [go_sem, Nat.reduceLT, Nat.reduceEqDiff, Int.reduceToNat, ↓reduceIte, reduceCtorEq, c1, c3, hl5, hcl, hdr, ↓pkv, decide_true, bls])) | (refine awp_cond _ rfl (fun hc => ?_) (fun hc => ?_) <;> (try (simp only [cds] at hc))) | (refine awp_ret ?_; (try simp only [sq])) | (refine ⟨_, hmx _, ?_⟩ <;> (try simp only [go_sem, c2, decide_true])) | (with_reducible apply And.intro) | (refine hK _ ?_; clear hK; (try clear K)))); (all_goals (try ((omega)))))
          refine fin_any (x := .tup [.con (.slice none 0 0), .con (.int .i64 6)]) (H := H) (by (try simp only [forall_eq, List.mem_cons, List.not_mem_nil, or_false, forall_eq_or_imp, and_self, resOk])) rfl (.refl _) ⟨rfl, .inl ⟨hz.symm, rfl⟩⟩
        · have c2 := eq_false hf
          rw [if_neg (fun h => hf (hma.2 h))] at hz
          ((repeat' (first | (refine awp_seq_k (fun K hK => ?_)) | (refine awp_reg _ rfl ?_; (try simp only [go_sem, Nat.reduceLT, Nat.reduceEqDiff, Int.reduceToNat, ↓reduceIte, reduceCtorEq, c1, c3, hl5, hcl, hdr, ↓pkv, decide_true, bls])) | (refine awp_cond _ rfl (fun hc => ?_) (fun hc => ?_) <;> (try (simp only [cds] at hc))) | (refine awp_skip ?_; (try simp only [sq])) | (refine awp_ret ?_) | (refine ⟨_, hmx _, ?_⟩ <;> (try simp only [go_sem, c2, decide_false])) | (with_reducible apply And.intro) | (refine hK _ ?_; clear hK; (try clear K)))); (all_goals (try ((omega)))))
          refine fin_any (x := .tup [.list (encPs ps) none, .con (.int .i64 0)]) (H := H) (by (try simp only [forall_eq, List.mem_cons, List.not_mem_nil, or_false, forall_eq_or_imp, and_self, resOk])) rfl (.refl _) ⟨rfl, .inr ⟨E.1, ps, hz.symm, hps, rfl⟩⟩
    clear hK2
    ((repeat' (first | (refine awp_reg _ rfl ?_; (try simp only [go_sem, Nat.reduceLT, Nat.reduceEqDiff, ↓reduceIte, reduceCtorEq])) | (refine orAt_l ?_))))
    refine ACalls.mono (c_Envs b hb l x es ec (List.replicate (l.length + 1) 0) [] post id (l.length + 1 + m) ⟨(id, encIs (List.replicate (l.length + 1) 0) ++ post) :: H.bx, H.tk⟩ hl ho h24 hx hE (by simp) h12 (okLv_zero _) (by rw [List.replicate_succ]; simp) (by rw [List.replicate_succ]; simp) (by omega) (by show ((id, _) :: H.bx).lookup id = _; simp)) (fun r H' hx' => ?_)
    obtain ⟨ps, rfl, hps, rfl⟩ := hx'
    have hset : Hp.set ⟨(id, encIs (List.replicate (l.length + 1) 0) ++ post) :: H.bx, H.tk⟩ id ([] ++ encIs (envsZ b l x (List.replicate (l.length + 1) 0)).2 ++ post) = ⟨(id, encIs (envsZ b l x (List.replicate (l.length + 1) 0)).2 ++ post) :: H.bx, H.tk⟩ := by
      unfold Hp.set setB; rw [updB, if_pos rfl, List.nil_append]
    rw [hset]
    (try simp only [go_sem, Nat.reduceLT, Nat.reduceLeDiff, Nat.reduceAdd, ↓reduceIte])
    refine awpN_zero ?_
    exact hK3 _ ps hps (by (refine st_le rfl ?_ (by ((try dsimp only); repeat' ((with_reducible exact .refl _)))); (try simp only [go_sem, Nat.reduceEqDiff, ↓reduceIte, reduceCtorEq])))
  clear hK
  ((repeat' (first | (refine awp_reg _ rfl ?_; (try simp only [go_sem, Nat.reduceLT, Nat.reduceEqDiff, Nat.reduceAdd, ↓reduceIte, reduceCtorEq, w1, hE0, hl0, hl2, Int.toNat_natCast])) | (refine all_fresh fun id fr => ?_) | (refine awpN_zero ?_))))
  exact hK1 _ id fr (by (refine st_le rfl ?_ (by ((try dsimp only); repeat' ((with_reducible exact .refl _)))); (try simp only [go_sem, Nat.reduceEqDiff, ↓reduceIte, reduceCtorEq])))
end Go.Proofs.YtababmnmkmgbbaaGreat
