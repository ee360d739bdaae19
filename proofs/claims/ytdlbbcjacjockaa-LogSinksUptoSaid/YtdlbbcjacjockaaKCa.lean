/-
  A part of the proof: its theorems say what each gives.
-/
import Derived.Test.YtdlbbcjacjockaaKLc
import Derived.Test.YtdlbbcjacjockaaKLe
import Derived.Test.YtdlbbcjacjockaaKFw1
import Derived.Test.YtdlbbcjacjockaaKFw2
import Derived.Test.YtdlbbcjacjockaaKFw3
set_option maxRecDepth 100000
set_option maxHeartbeats 8000000
set_option linter.unusedSimpArgs false
set_option linter.unusedVariables false
namespace Go.Proofs.Ytdlbbcjacjockaa
open Go Fw
/-! value.Copy, log.Copy. -/
theorem encF_fits (fs : List Fld) : ∀ x ∈ encFs fs, x.fits 5 := by
  intro x hx
  rw [encFs_map] at hx
  obtain ⟨⟨nm, ⟨k, n, s, gs⟩⟩, _, rfl⟩ := List.mem_map.1 hx
  rw [encF_mk]
  exact ⟨rfl, by simp [AV.cells, AV.one, Value.oneCell']⟩
theorem c_Copy_aux : ∀ (m : Nat) (k n : Int) (s : ByteArray) (fs : List Fld) (H : Hp), sizeV (.mk k n s fs) ≤ m → m ≤ 100000000 →
    PureAt Try.prog 51 [.agg [.con (.int .i64 k), .con (.int .i64 n), .con (.string s), .list (encFs fs) none]] H (.agg [.con (.int .i64 k), .con (.int .i64 n), .con (.string s), .list (encFs fs) none]) := by
  intro m
  induction m with
  | zero => intro k n s fs H h; have := sizeV_pos (.mk k n s fs); omega
  | succ m ih =>
  intro k n s fs H hm hb
  rw [sizeV] at hm
  have hlen := len_sizeFs fs
  refine acalls_of (by kernel_rfl) Try.func51 rfl 28 Try.ntmps51 (by simp) [.cell 2 50] rfl ?_
  ((repeat' (first | (refine awp_seq_k (fun K hK => ?_)) | (refine awp_reg _ rfl ?_; (try simp only [go_sem, Nat.reduceLT, Nat.reduceEqDiff, Nat.reduceLeDiff, Nat.reduceAdd, Nat.reduceMul, Int.reduceToNat, Nat.reducePow, ↓reduceIte, reduceCtorEq])) | (refine orAt_l ?_) | (refine all_fresh fun id fr => ?_; (try have := NeI.of_fr fr)) | (refine hK _ ?_; clear hK; (try clear K)))))
  rename_i b1 fb1
  rename Nat => b2
  rename fresh _ _ => fb2
  refine ACalls.mono (c_CloneField fs (by omega) _) fun r H' hR => ?_
  rcases hR with ⟨he, rfl, rfl⟩ | ⟨hne, bi, fbi, rfl, rfl⟩
  · obtain rfl : fs = [] := by cases fs with
      | nil => rfl
      | cons f r => simp [encFs] at he
    (try simp only [go_sem, Nat.reduceLT, Nat.reduceEqDiff, Nat.reduceLeDiff, Nat.reduceAdd, Nat.reduceMul, Int.reduceToNat, Nat.reducePow, ↓reduceIte, reduceCtorEq])
    ((repeat' (first | (refine awp_seq_k (fun K hK => ?_)) | (refine awp_block ?_) | (refine awp_reg _ rfl ?_; (try simp only [go_sem, Nat.reduceLT, Nat.reduceEqDiff, Nat.reduceLeDiff, Nat.reduceAdd, Nat.reduceMul, Int.reduceToNat, Nat.reducePow, ↓reduceIte, reduceCtorEq])) | (refine hK _ ?_; clear hK; (try clear K)))))
    refine awp_loop (ι := Nat) (fun i => ⟨28, [(1, .ptr b1 0), (2, .ptr b2 0), (10, .con (.int .i64 (0 : Int))), (11, .con (.int .i64 (i : Int)))], ⟨(b2, [.con (.int .i64 0), .con (.int .i64 0), .con (.string ⟨#[]⟩), .con (.slice none 0 0)]) :: (b1, [.con (.int .i64 k), .con (.int .i64 n), .con (.string s), .list (encFs []) none]) :: H.bx, H.tk⟩⟩)
      (fun i => i = 0) (fun i => 0) 0 rfl ?_ ?_
    · (refine st_le rfl ?_ (by ((try dsimp only); repeat' (first | with_reducible exact .refl _ | refine weak_boxle (by (repeat' ((exact .refl _)))) ?_))); (try simp only [go_sem, Nat.reduceLT, Nat.reduceEqDiff, Nat.reduceLeDiff, Nat.reduceAdd, Nat.reduceMul, Int.reduceToNat, Nat.reducePow, ↓reduceIte, reduceCtorEq]))
    intro i hi
    subst hi
    ((repeat' (first | (refine awp_seq_k (fun K hK => ?_)) | (refine awp_reg _ rfl ?_; (try simp only [go_sem, Nat.reduceLT, Nat.reduceEqDiff, Nat.reduceLeDiff, Nat.reduceAdd, Nat.reduceMul, Int.reduceToNat, Nat.reducePow, ↓reduceIte, reduceCtorEq])) | (refine awp_cond _ rfl (fun hc => ?_) (fun hc => ?_) <;> (try (simp only [decide_eq_true_eq, decide_eq_false_iff_not, Bool.or_eq_true, Bool.and_eq_true, Bool.not_eq_true', Bool.not_eq_false', Bool.or_eq_false_iff, Bool.and_eq_false_imp, Bool.not_eq_false, Bool.not_eq_true, Bool.not_true, Bool.not_false, Bool.true_eq_false, Bool.false_eq_true, not_true_eq_false, Decidable.not_not, ite_or, ite_and] at hc)) <;> (try (exfalso; omega))) | (refine awp_exit ?_; (try simp only [sq, bk, ↓reduceIte, Nat.reduceEqDiff, reduceCtorEq])) | (refine awp_ret ?_) | (refine hK _ ?_; clear hK; (try clear K)) | (refine kk (by assumption) ?_))))
    refine fin_pure ?_ ?_ ?_
    · simp only [List.mem_singleton, forall_eq, resOk]
      simp only [go_sem, Nat.reduceLT, Nat.reduceEqDiff, Nat.reduceLeDiff, Nat.reduceAdd, Nat.reduceMul, Int.reduceToNat, Nat.reducePow, ↓reduceIte, reduceCtorEq]
    · simp only [go_sem, Nat.reduceLT, Nat.reduceEqDiff, Nat.reduceLeDiff, Nat.reduceAdd, Nat.reduceMul, Int.reduceToNat, Nat.reducePow, ↓reduceIte, reduceCtorEq]
    · ((try dsimp only); repeat' (first | with_reducible exact .refl _ | exact box_fresh (by assumption) | exact box_fr (fr_drop (by assumption)) | refine weak_box ?_ ?_))
  · have nA := NeI.of_fr fbi
    have nB := NeI.of_fr (fr_drop fbi)
    (try simp only [go_sem, Nat.reduceLT, Nat.reduceEqDiff, Nat.reduceLeDiff, Nat.reduceAdd, Nat.reduceMul, Int.reduceToNat, Nat.reducePow, ↓reduceIte, reduceCtorEq])
    ((repeat' (first | (refine awp_seq_k (fun K hK => ?_)) | (refine awp_block ?_) | (refine awp_reg _ rfl ?_; (try simp only [go_sem, Nat.reduceLT, Nat.reduceEqDiff, Nat.reduceLeDiff, Nat.reduceAdd, Nat.reduceMul, Int.reduceToNat, Nat.reducePow, ↓reduceIte, reduceCtorEq])) | (refine hK _ ?_; clear hK; (try clear K)))))
    refine awp_loop (ι := Nat) (fun i => ⟨28, [(1, .ptr b1 0), (2, .ptr b2 0), (10, .con (.int .i64 fs.length)), (11, .con (.int .i64 (i : Int)))], ⟨(bi, flat (encFs fs)) :: (b2, [.con (.int .i64 0), .con (.int .i64 0), .con (.string ⟨#[]⟩), .con (.slice none 0 0)]) :: (b1, [.con (.int .i64 k), .con (.int .i64 n), .con (.string s), .sl bi fs.length 128 5]) :: H.bx, H.tk⟩⟩)
      (fun i => i ≤ fs.length) (fun i => fs.length - i) 0 (by omega) ?_ ?_
    · (refine st_le rfl ?_ (by ((try dsimp only); repeat' ((with_reducible exact .refl _)))); (try simp only [go_sem, Nat.reduceLT, Nat.reduceEqDiff, Nat.reduceLeDiff, Nat.reduceAdd, Nat.reduceMul, Int.reduceToNat, Nat.reducePow, ↓reduceIte, reduceCtorEq]))
    intro i hi
    rcases Nat.lt_or_ge i fs.length with hlt | hge
    · obtain ⟨nm, k', n', s', gs, hf⟩ := fld_at hlt
      have hg := encFs_get hf
      have hz := (sizeFs_at hf).2
      simp only [sizeF] at hz
      have hfl := flat_len (encFs_cells fs)
      rw [encFs_length] at hfl
      have hmid := flat_mid (i := i) (o := 1) (m := 4) (encFs_cells fs) (by rw [encFs_length]; exact hlt) (by omega)
      rw [hg] at hmid
      have hmid2 : List.take 4 (List.drop (i * 5 + 1) (flat (encFs fs))) = [.con (.int .i64 k'), .con (.int .i64 n'), .con (.string s'), .list (encFs gs) none] := hmid
      have hov : List.take (i * 5 + 1) (flat (encFs fs)) ++ [AV.con (.int .i64 k'), .con (.int .i64 n'), .con (.string s'), .list (encFs gs) none] ++ List.drop (i * 5 + 1 + 4) (flat (encFs fs)) = flat (encFs fs) := over_same (ys := [.con (.int .i64 k'), .con (.int .i64 n'), .con (.string s'), .list (encFs gs) none]) hmid2
      ((repeat' (first | (refine awp_mixed (id := 5) [0, 1, 2, 3, 4, 5, 6, 7, 8, 9, 10, 11, 12] [12] [(12, [])] (by kernel_rfl) (by kernel_rfl) ?_; (try simp only [go_sem, Nat.reduceLT, Nat.reduceEqDiff, Nat.reduceLeDiff, Nat.reduceAdd, Nat.reduceMul, Int.reduceToNat, Nat.reducePow, ↓reduceIte, reduceCtorEq, hmid2, hov, wrap_succ i (by omega)])) | (refine awp_seq_k (fun K hK => ?_)) | (refine awp_block ?_) | (refine awp_reg _ rfl ?_; (try simp only [go_sem, Nat.reduceLT, Nat.reduceEqDiff, Nat.reduceLeDiff, Nat.reduceAdd, Nat.reduceMul, Int.reduceToNat, Nat.reducePow, ↓reduceIte, reduceCtorEq, hmid2, hov, wrap_succ i (by omega)])) | (refine awp_condT rfl (by (first | rfl | (simp only [decide_eq_true_eq, decide_eq_false_iff_not, Bool.or_eq_true, Bool.and_eq_true, Bool.not_eq_true', Bool.not_eq_false', Bool.or_eq_false_iff, Bool.and_eq_false_imp, Bool.not_true, Bool.not_false, Bool.true_eq_false, Bool.false_eq_true, not_true_eq_false, Decidable.not_not, ite_or, ite_and, hmid2, hov, wrap_succ i (by omega)]; omega))) ?_) | (refine awp_skip ?_; (try simp only [sq, bk, ↓reduceIte, Nat.reduceEqDiff, reduceCtorEq])) | (refine ⟨_, fun H => ih k' n' s' gs _ (by omega) (by omega), ?_⟩ <;> (try simp only [go_sem, Nat.reduceLT, Nat.reduceEqDiff, Nat.reduceLeDiff, Nat.reduceAdd, Nat.reduceMul, Int.reduceToNat, Nat.reducePow, ↓reduceIte, reduceCtorEq, hmid2, hov, wrap_succ i (by omega)])) | (with_reducible apply And.intro) | (refine hK _ ?_; clear hK; (try clear K)))); (all_goals (try (first | omega | (simp only [List.length_append, List.length_cons, List.length_nil, List.length_take, List.length_drop] <;> omega)))))
      refine ⟨i + 1, by omega, by omega, ?_⟩
      (refine st_le rfl ?_ (by ((try dsimp only); repeat' ((with_reducible exact .refl _)))); (try simp only [go_sem, Nat.reduceLT, Nat.reduceEqDiff, Nat.reduceLeDiff, Nat.reduceAdd, Nat.reduceMul, Int.reduceToNat, Nat.reducePow, ↓reduceIte, reduceCtorEq, hov]))
    · obtain rfl : i = fs.length := by omega
      refine awp_freezeX bi (by simp only [box_cons, if_true]) ⟨28, [(1, .ptr b1 0), (2, .ptr b2 0), (10, .con (.int .i64 fs.length)), (11, .con (.int .i64 fs.length))], ⟨(b2, [.con (.int .i64 0), .con (.int .i64 0), .con (.string ⟨#[]⟩), .con (.slice none 0 0)]) :: (b1, [.con (.int .i64 k), .con (.int .i64 n), .con (.string s), .list (encFs fs) none]) :: H.bx, H.tk⟩⟩ rfl (by simp only [go_sem, Nat.reduceLT, Nat.reduceEqDiff, Nat.reduceLeDiff, Nat.reduceAdd, Nat.reduceMul, Int.reduceToNat, Nat.reducePow, ↓reduceIte, reduceCtorEq]) rfl
        (fleX_skip (fleX_cons (Ne.symm nA.ne) ⟨.refl _, .refl _, .refl _, .refl _, trivial⟩ (fleX_cons (Ne.symm nB.ne) ⟨.refl _, .refl _, .refl _, fle_slL (encF_fits fs) (by rw [encFs_length]), trivial⟩ (fleX_refl (fr_drop (fr_drop fbi)).1)))) ?_
      ((repeat' (first | (refine awp_seq_k (fun K hK => ?_)) | (refine awp_reg _ rfl ?_; (try simp only [go_sem, Nat.reduceLT, Nat.reduceEqDiff, Nat.reduceLeDiff, Nat.reduceAdd, Nat.reduceMul, Int.reduceToNat, Nat.reducePow, ↓reduceIte, reduceCtorEq])) | (refine awp_cond _ rfl (fun hc => ?_) (fun hc => ?_) <;> (try (simp only [decide_eq_true_eq, decide_eq_false_iff_not, Bool.or_eq_true, Bool.and_eq_true, Bool.not_eq_true', Bool.not_eq_false', Bool.or_eq_false_iff, Bool.and_eq_false_imp, Bool.not_eq_false, Bool.not_eq_true, Bool.not_true, Bool.not_false, Bool.true_eq_false, Bool.false_eq_true, not_true_eq_false, Decidable.not_not, ite_or, ite_and] at hc)) <;> (try (exfalso; omega))) | (refine awp_exit ?_; (try simp only [sq, bk, ↓reduceIte, Nat.reduceEqDiff, reduceCtorEq])) | (refine awp_ret ?_) | (refine hK _ ?_; clear hK; (try clear K)) | (refine kk (by assumption) ?_))))
      refine fin_pure ?_ ?_ ?_
      · simp only [List.mem_singleton, forall_eq, resOk]
        simp only [go_sem, Nat.reduceLT, Nat.reduceEqDiff, Nat.reduceLeDiff, Nat.reduceAdd, Nat.reduceMul, Int.reduceToNat, Nat.reducePow, ↓reduceIte, reduceCtorEq]
      · simp only [go_sem, Nat.reduceLT, Nat.reduceEqDiff, Nat.reduceLeDiff, Nat.reduceAdd, Nat.reduceMul, Int.reduceToNat, Nat.reducePow, ↓reduceIte, reduceCtorEq]
      · ((try dsimp only); repeat' (first | with_reducible exact .refl _ | exact box_fresh (by assumption) | exact box_fr (fr_drop (by assumption)) | refine weak_box ?_ ?_))
theorem c_CopyV (v : Val) (H : Hp) (h : sizeV v ≤ 100000000) : PureAt Try.prog 51 [.agg [.con (.int .i64 v.k), .con (.int .i64 v.n), .con (.string v.s), .list (encFs v.fs) none]] H (.agg [.con (.int .i64 v.k), .con (.int .i64 v.n), .con (.string v.s), .list (encFs v.fs) none]) := by
  obtain ⟨k, n, s, fs⟩ := v
  exact c_Copy_aux _ k n s fs H (Nat.le_refl _) h
theorem c_logCopy (x : Ent) (H : Hp) (h1 : x.ch.length ≤ 1000000) (h2 : ∀ c ∈ x.ch, c.row.length ≤ 1000000 ∧ ∀ v ∈ c.row, sizeV v ≤ 100000000) : PureAt Try.prog 21 [cE x] H (cE x) := by
  refine acalls_of (by kernel_rfl) Try.func21 rfl 45 Try.ntmps21 (by simp) [.cell 2 27] rfl ?_
  ((repeat' (first | (refine awp_seq_k (fun K hK => ?_)) | (refine awp_block ?_) | (refine awp_reg _ rfl ?_; (try simp only [go_sem, Nat.reduceLT, Nat.reduceEqDiff, Nat.reduceLeDiff, Nat.reduceAdd, Nat.reduceMul, Int.reduceToNat, Nat.reducePow, ↓reduceIte, reduceCtorEq])) | (refine orAt_r 1 ?_) | (refine orAt_l ?_) | (refine all_fresh fun id fr => ?_; (try have := NeI.of_fr fr)) | (refine hK _ ?_; clear hK; (try clear K)))))
  rename_i b2 fb2
  rename Nat => b3
  rename fresh _ _ => fb3
  refine awp_nil 71 3 (fun t => ⟨45, [(2, .ptr b2 0), (3, .ptr b3 0), (13, .list (encCs x.ch) none), (14, .con (.int .i64 x.ch.length)), (15, .con (.int .i64 (0 : Int)))], ⟨(b3, [.con (.int .i64 x.no), .list [] (some t)]) :: (b2, [.con (.int .i64 0), .con (.slice none 0 0)]) :: H.bx, (t, 0, 71, 3) :: H.tk⟩⟩) (fun t => rfl) (fun t => by simp only [go_sem, Nat.reduceLT, Nat.reduceEqDiff, Nat.reduceLeDiff, Nat.reduceAdd, Nat.reduceMul, Int.reduceToNat, Nat.reducePow, ↓reduceIte, reduceCtorEq]) (fun t => by simp only [go_sem, Nat.reduceLT, Nat.reduceEqDiff, Nat.reduceLeDiff, Nat.reduceAdd, Nat.reduceMul, Int.reduceToNat, Nat.reducePow, ↓reduceIte, reduceCtorEq]) (fun t => rfl) (fun tc frc => ?_)
  refine awp_loop (ι := Nat) (fun i => ⟨45, [(2, .ptr b2 0), (3, .ptr b3 0), (13, .list (encCs x.ch) none), (14, .con (.int .i64 x.ch.length)), (15, .con (.int .i64 (i : Int)))], ⟨(b3, [.con (.int .i64 x.no), .list (encCs (x.ch.take i)) (some tc)]) :: (b2, [.con (.int .i64 0), .con (.slice none 0 0)]) :: H.bx, (tc, (x.ch.take i).length, 71, 3) :: H.tk⟩⟩)
    (fun i => i ≤ x.ch.length) (fun i => x.ch.length - i) 0 (by omega) ?_ ?_
  · (refine st_le rfl ?_ (by ((try dsimp only); (try simp only [List.take_zero, encCs, List.map_nil,  List.length_append, List.length_cons, List.length_nil, Nat.zero_add]); repeat' (((refine weak_tokeq (by (rfl))))))); (try simp only [go_sem, Nat.reduceLT, Nat.reduceEqDiff, Nat.reduceLeDiff, Nat.reduceAdd, Nat.reduceMul, Int.reduceToNat, Nat.reducePow, ↓reduceIte, reduceCtorEq, List.take_zero, encCs, List.map_nil]))
  intro i hi
  rcases Nat.lt_or_ge i x.ch.length with hlt | hge
  · have hg := encCs_get hlt
    have hst : encCs (x.ch.take (i + 1)) = encCs (x.ch.take i) ++ [.agg [.con (.string x.ch[i].rel), .con (.bool x.ch[i].del), .list (encVs x.ch[i].row) none]] := by
      rw [List.take_succ_eq_append_getElem hlt, encCs, List.map_append]; rfl
    have hln : (x.ch.take i).length = i := by rw [List.length_take]; omega
    have hln2 : (x.ch.take (i + 1)).length = i + 1 := by rw [List.length_take]; omega
    obtain ⟨hr1, hr2⟩ := h2 _ (List.getElem_mem hlt)
    generalize x.ch[i] = c at *
    obtain ⟨rel, del, row⟩ := c
    simp only at hg hst hr1 hr2
    ((repeat' (first | (refine awp_seq_k (fun K hK => ?_)) | (refine awp_block ?_) | (refine awp_reg _ rfl ?_; (try simp only [go_sem, Nat.reduceLT, Nat.reduceEqDiff, Nat.reduceLeDiff, Nat.reduceAdd, Nat.reduceMul, Int.reduceToNat, Nat.reducePow, ↓reduceIte, reduceCtorEq, hg])) | (refine awp_condT rfl (by (first | rfl | (simp only [decide_eq_true_eq, decide_eq_false_iff_not, Bool.or_eq_true, Bool.and_eq_true, Bool.not_eq_true', Bool.not_eq_false', Bool.or_eq_false_iff, Bool.and_eq_false_imp, Bool.not_true, Bool.not_false, Bool.true_eq_false, Bool.false_eq_true, not_true_eq_false, Decidable.not_not, ite_or, ite_and, hg]; omega))) ?_) | (refine awp_skip ?_; (try simp only [sq, bk, ↓reduceIte, Nat.reduceEqDiff, reduceCtorEq])) | (refine orAt_r 5 ?_; (try simp only [go_sem, Nat.reduceLT, Nat.reduceEqDiff, Nat.reduceLeDiff, Nat.reduceAdd, Nat.reduceMul, Int.reduceToNat, Nat.reducePow, ↓reduceIte, reduceCtorEq, hg])) | (with_reducible apply And.intro) | (refine hK _ ?_; clear hK; (try clear K)))); (all_goals (try ((omega)))))
    refine awp_nil 50 4 (fun t => ⟨45, [(2, .ptr b2 0), (3, .ptr b3 0), (5, .ro [.con (.string rel), .con (.bool del), .list (encVs row) none]), (6, .list [] (some t)), (13, .list (encCs x.ch) none), (14, .con (.int .i64 x.ch.length)), (15, .con (.int .i64 (i : Int))), (20, .list (encVs row) none), (21, .con (.int .i64 row.length)), (22, .con (.int .i64 (0 : Int)))],
      ⟨(b3, [.con (.int .i64 x.no), .list (encCs (x.ch.take i)) (some tc)]) :: (b2, [.con (.int .i64 0), .con (.slice none 0 0)]) :: H.bx, (t, 0, 50, 4) :: (tc, (x.ch.take i).length, 71, 3) :: H.tk⟩⟩) (fun t => rfl) (fun t => by simp only [go_sem, Nat.reduceLT, Nat.reduceEqDiff, Nat.reduceLeDiff, Nat.reduceAdd, Nat.reduceMul, Int.reduceToNat, Nat.reducePow, ↓reduceIte, reduceCtorEq]) (fun t => by simp only [go_sem, Nat.reduceLT, Nat.reduceEqDiff, Nat.reduceLeDiff, Nat.reduceAdd, Nat.reduceMul, Int.reduceToNat, Nat.reducePow, ↓reduceIte, reduceCtorEq]) (fun t => rfl) (fun tr frr => ?_)
    have n1 := NeI.of_frt frr
    refine awp_loop (ι := Nat) (fun j => ⟨45, [(2, .ptr b2 0), (3, .ptr b3 0), (5, .ro [.con (.string rel), .con (.bool del), .list (encVs row) none]), (6, .list (encVs (row.take j)) (some tr)), (13, .list (encCs x.ch) none), (14, .con (.int .i64 x.ch.length)), (15, .con (.int .i64 (i : Int))), (20, .list (encVs row) none), (21, .con (.int .i64 row.length)), (22, .con (.int .i64 (j : Int)))],
      ⟨(b3, [.con (.int .i64 x.no), .list (encCs (x.ch.take i)) (some tc)]) :: (b2, [.con (.int .i64 0), .con (.slice none 0 0)]) :: H.bx, (tr, (row.take j).length, 50, 4) :: (tc, (x.ch.take i).length, 71, 3) :: H.tk⟩⟩)
      (fun j => j ≤ row.length) (fun j => row.length - j) 0 (by omega) ?_ ?_
    · (refine st_le rfl ?_ (by ((try dsimp only); (try simp only [List.take_zero, encVs, List.map_nil,  List.length_append, List.length_cons, List.length_nil, Nat.zero_add]); repeat' (((refine weak_tokeq (by (rfl))))))); (try simp only [go_sem, Nat.reduceLT, Nat.reduceEqDiff, Nat.reduceLeDiff, Nat.reduceAdd, Nat.reduceMul, Int.reduceToNat, Nat.reducePow, ↓reduceIte, reduceCtorEq, List.take_zero, encVs, List.map_nil]))
    intro j hj
    rcases Nat.lt_or_ge j row.length with hlj | hgj
    · have hgv := encVs_get hlj
      have hsv : encVs (row.take (j + 1)) = encVs (row.take j) ++ [.agg [.con (.int .i64 row[j].k), .con (.int .i64 row[j].n), .con (.string row[j].s), .list (encFs row[j].fs) none]] := by
        rw [List.take_succ_eq_append_getElem hlj, encVs, List.map_append]; rfl
      have hlv : (row.take j).length = j := by rw [List.length_take]; omega
      have hlv2 : (row.take (j + 1)).length = j + 1 := by rw [List.length_take]; omega
      have hr3 := hr2 _ (List.getElem_mem hlj)
      generalize row[j] = v at *
      ((repeat' (first | (refine awp_seq_k (fun K hK => ?_)) | (refine awp_block ?_) | (refine awp_reg _ rfl ?_; (try simp only [go_sem, Nat.reduceLT, Nat.reduceEqDiff, Nat.reduceLeDiff, Nat.reduceAdd, Nat.reduceMul, Int.reduceToNat, Nat.reducePow, ↓reduceIte, reduceCtorEq, hgv, wrap_succ j (by omega), hlv])) | (refine awp_cond _ rfl (fun hc => ?_) (fun hc => ?_) <;> (try (simp only [decide_eq_true_eq, decide_eq_false_iff_not, Bool.or_eq_true, Bool.and_eq_true, Bool.not_eq_true', Bool.not_eq_false', Bool.or_eq_false_iff, Bool.and_eq_false_imp, Bool.not_eq_false, Bool.not_eq_true, Bool.not_true, Bool.not_false, Bool.true_eq_false, Bool.false_eq_true, not_true_eq_false, Decidable.not_not, ite_or, ite_and] at hc)) <;> (try (exfalso; omega))) | (refine awp_skip ?_; (try simp only [sq, bk, ↓reduceIte, Nat.reduceEqDiff, reduceCtorEq])) | (refine PureAt.use (c_CopyV v _ hr3) ?_ <;> (try simp only [go_sem, Nat.reduceLT, Nat.reduceEqDiff, Nat.reduceLeDiff, Nat.reduceAdd, Nat.reduceMul, Int.reduceToNat, Nat.reducePow, ↓reduceIte, reduceCtorEq, hgv, wrap_succ j (by omega), hlv])) | (refine orAt_r 8 ?_; (try simp only [go_sem, Nat.reduceLT, Nat.reduceEqDiff, Nat.reduceLeDiff, Nat.reduceAdd, Nat.reduceMul, Int.reduceToNat, Nat.reducePow, ↓reduceIte, reduceCtorEq, hgv, wrap_succ j (by omega), hlv])) | (refine orAt_l ?_) | (with_reducible apply And.intro) | (refine hK _ ?_; clear hK; (try clear K)))); (all_goals (try (first | omega | decide | (simp only [List.mem_singleton, List.mem_cons, List.not_mem_nil, or_false, forall_eq_or_imp, forall_eq, AV.cells, List.length_cons, List.length_nil, and_self, Nat.reduceAdd]; done)))))
      refine ⟨j + 1, by omega, by omega, ?_⟩
      (refine st_le rfl ?_ (by ((try dsimp only); (try simp only [hsv, hlv, hlv2,  List.length_append, List.length_cons, List.length_nil, Nat.zero_add]); repeat' (((refine weak_tokeq (by (rfl))))))); (try simp only [go_sem, Nat.reduceLT, Nat.reduceEqDiff, Nat.reduceLeDiff, Nat.reduceAdd, Nat.reduceMul, Int.reduceToNat, Nat.reducePow, ↓reduceIte, reduceCtorEq, hsv, hlv, hlv2]))
    · obtain rfl : j = row.length := by omega
      refine awp_weak ⟨45, [(2, .ptr b2 0), (3, .ptr b3 0), (5, .ro [.con (.string rel), .con (.bool del), .list (encVs row) none]), (6, .list (encVs row) none), (13, .list (encCs x.ch) none), (14, .con (.int .i64 x.ch.length)), (15, .con (.int .i64 (i : Int))), (22, .con (.int .i64 (row.length : Int))), (21, .con (.int .i64 (row.length : Int)))],
        ⟨(b3, [.con (.int .i64 x.no), .list (encCs (x.ch.take i)) (some tc)]) :: (b2, [.con (.int .i64 0), .con (.slice none 0 0)]) :: H.bx, (tc, (x.ch.take i).length, 71, 3) :: H.tk⟩⟩ (st_le rfl (by simp only [go_sem, Nat.reduceLT, Nat.reduceEqDiff, Nat.reduceLeDiff, Nat.reduceAdd, Nat.reduceMul, Int.reduceToNat, Nat.reducePow, ↓reduceIte, reduceCtorEq, List.take_length]) (weak_tok frr.2 (.refl _))) ?_
      ((repeat' (first | (refine awp_seq_k (fun K hK => ?_)) | (refine awp_reg _ rfl ?_; (try simp only [go_sem, Nat.reduceLT, Nat.reduceEqDiff, Nat.reduceLeDiff, Nat.reduceAdd, Nat.reduceMul, Int.reduceToNat, Nat.reducePow, ↓reduceIte, reduceCtorEq, wrap_succ i (by omega), hln])) | (refine awp_cond _ rfl (fun hc => ?_) (fun hc => ?_) <;> (try (simp only [decide_eq_true_eq, decide_eq_false_iff_not, Bool.or_eq_true, Bool.and_eq_true, Bool.not_eq_true', Bool.not_eq_false', Bool.or_eq_false_iff, Bool.and_eq_false_imp, Bool.not_eq_false, Bool.not_eq_true, Bool.not_true, Bool.not_false, Bool.true_eq_false, Bool.false_eq_true, not_true_eq_false, Decidable.not_not, ite_or, ite_and] at hc)) <;> (try (exfalso; omega))) | (refine awp_exit ?_; (try simp only [sq, bk, ↓reduceIte, Nat.reduceEqDiff, reduceCtorEq])) | (refine orAt_l ?_) | (with_reducible apply And.intro) | (refine hK _ ?_; clear hK; (try clear K)) | (refine kk (by assumption) ?_))); (all_goals (try (first | omega | decide | (simp only [List.mem_singleton, List.mem_cons, List.not_mem_nil, or_false, forall_eq_or_imp, forall_eq, AV.cells, List.length_cons, List.length_nil, and_self, Nat.reduceAdd]; done)))))
      refine ⟨i + 1, by omega, by omega, ?_⟩
      (refine st_le rfl ?_ (by ((try dsimp only); (try simp only [hst, hln, hln2,  List.length_append, List.length_cons, List.length_nil, Nat.zero_add]); repeat' (((refine weak_tokeq (by (rfl))))))); (try simp only [go_sem, Nat.reduceLT, Nat.reduceEqDiff, Nat.reduceLeDiff, Nat.reduceAdd, Nat.reduceMul, Int.reduceToNat, Nat.reducePow, ↓reduceIte, reduceCtorEq, hst, hln, hln2]))
  · obtain rfl : i = x.ch.length := by omega
    rw [List.take_length]
    ((repeat' (first | (refine awp_seq_k (fun K hK => ?_)) | (refine awp_reg _ rfl ?_; (try simp only [go_sem, Nat.reduceLT, Nat.reduceEqDiff, Nat.reduceLeDiff, Nat.reduceAdd, Nat.reduceMul, Int.reduceToNat, Nat.reducePow, ↓reduceIte, reduceCtorEq])) | (refine awp_cond _ rfl (fun hc => ?_) (fun hc => ?_) <;> (try (simp only [decide_eq_true_eq, decide_eq_false_iff_not, Bool.or_eq_true, Bool.and_eq_true, Bool.not_eq_true', Bool.not_eq_false', Bool.or_eq_false_iff, Bool.and_eq_false_imp, Bool.not_eq_false, Bool.not_eq_true, Bool.not_true, Bool.not_false, Bool.true_eq_false, Bool.false_eq_true, not_true_eq_false, Decidable.not_not, ite_or, ite_and] at hc)) <;> (try (exfalso; omega))) | (refine awp_exit ?_; (try simp only [sq, bk, ↓reduceIte, Nat.reduceEqDiff, reduceCtorEq])) | (refine awp_ret ?_) | (refine hK _ ?_; clear hK; (try clear K)) | (refine kk (by assumption) ?_))))
    refine fin_le (cE x) H ?_ ?_ ?_ ⟨rfl, rfl⟩
    · simp only [List.mem_singleton, forall_eq, resOk]
      simp only [go_sem, Nat.reduceLT, Nat.reduceEqDiff, Nat.reduceLeDiff, Nat.reduceAdd, Nat.reduceMul, Int.reduceToNat, Nat.reducePow, ↓reduceIte, reduceCtorEq]
    · simp only [go_sem, Nat.reduceLT, Nat.reduceEqDiff, Nat.reduceLeDiff, Nat.reduceAdd, Nat.reduceMul, Int.reduceToNat, Nat.reducePow, ↓reduceIte, reduceCtorEq]
      (repeat' (first | exact .refl _ | exact AV.le_list _ _ | refine AV.le_aggc rfl ?_ | refine lec_cons ?_ ?_))
    · ((try dsimp only); repeat' (first | with_reducible exact .refl _ | exact box_fresh (by assumption) | exact tok_fr (by assumption) | exact box_fr (fr_drop (by assumption)) | refine weak_box ?_ ?_ | refine weak_tok ?_ ?_))
end Go.Proofs.Ytdlbbcjacjockaa
