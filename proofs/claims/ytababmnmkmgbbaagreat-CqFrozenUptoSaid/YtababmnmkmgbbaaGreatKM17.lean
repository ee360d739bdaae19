/-
  A part of the proof: its theorems say what each gives.
-/
import Derived.Test.YtababmnmkmgbbaaGreatKM7
import Derived.Test.YtababmnmkmgbbaaGreatKFw1
import Derived.Test.YtababmnmkmgbbaaGreatKFw2
import Derived.Test.YtababmnmkmgbbaaGreatKFw3
import Derived.Test.YtababmnmkmgbbaaGreatKM4
set_option maxRecDepth 100000
set_option maxHeartbeats 4000000
set_option linter.unusedSimpArgs false
set_option linter.unusedVariables false
namespace Go.Proofs.YtababmnmkmgbbaaGreat
open Go Fw
theorem c_CloneField (fs : List Fld) (hl : fs.length ≤ 1000000000) (H : Hp) : ACalls Tryz.prog 208 [.list (encFs fs) none] H
    (fun r H' => (encFs fs = [] ∧ r = .list [] none ∧ H' = H) ∨ (encFs fs ≠ [] ∧ ∃ id, fresh H id ∧ r = .sl id fs.length 274 5 ∧ H' = ⟨(id, flat (encFs fs)) :: H.bx, H.tk⟩)) := by
  refine acalls_le (R := fun r H' => (encFs fs = [] ∧ (r = .emp ∨ r = .con (.slice none 0 0)) ∧ H' = H) ∨ (encFs fs ≠ [] ∧ ∃ id, fresh H id ∧ r = .sl id fs.length 274 5 ∧ H' = ⟨(id, flat (encFs fs)) :: H.bx, H.tk⟩)) ?_ (fun r H' h => by
    rcases h with ⟨h1, rfl | rfl, h3⟩ | h
    · exact ⟨_, AV.le_emp, .inl ⟨h1, rfl, h3⟩⟩
    · exact ⟨_, AV.le_nil, .inl ⟨h1, rfl, h3⟩⟩
    · exact ⟨r, .rfl, .inr h⟩)
  refine acalls_of (by kernel_rfl) Tryz.func208 rfl 8 Tryz.ntmps208 (by simp) [.tmp 2] rfl ?_
  ((repeat' (first | (refine awp_seq_k (fun K hK => ?_)) | (refine awp_reg _ rfl ?_; (try simp only [go_sem, Nat.reduceLT, Nat.reduceEqDiff, Nat.reduceLeDiff, Nat.reduceAdd, Nat.reduceMul, ↓reduceIte, reduceCtorEq])) | (refine awp_cond _ rfl (fun hc => ?_) (fun hc => ?_)) | (refine awp_skip ?_; (try simp only [sq])) | (refine awp_ret ?_; (try simp only [sq])) | (refine orAt_l ?_) | (with_reducible apply And.intro) | (refine all_fresh fun id fr => ?_) | (refine all_nil fun b hb => ?_) | (refine all_e fun he => ?_) | (refine all_ne fun hne => ?_) | (refine hK _ ?_; clear hK; (try clear K)))); (all_goals (try ((omega)))))
  · refine fin_any (x := .con (.slice none 0 0)) (H := H) (by (try simp only [forall_eq, resOk, List.mem_cons, List.not_mem_nil, or_false])) (by (try simp only [go_sem, ↓reduceIte])) (by ((try dsimp only); repeat' ((with_reducible exact .refl _)))) ?_
    exact .inl ⟨hb hc, .inr rfl, rfl⟩
  · refine fin_any (x := .emp) (H := H) (by (try simp only [forall_eq, resOk, List.mem_cons, List.not_mem_nil, or_false])) (by (try simp only [go_sem, ↓reduceIte])) (by ((try dsimp only); repeat' ((with_reducible exact .refl _)))) ?_
    exact .inl ⟨he, .inl rfl, rfl⟩
  · refine fin_any (x := .sl id fs.length 274 5) (H := ⟨(id, flat (encFs fs)) :: H.bx, H.tk⟩) (by (try simp only [forall_eq, resOk, List.mem_cons, List.not_mem_nil, or_false])) (by (try simp only [go_sem, ↓reduceIte])) (by ((try dsimp only); repeat' ((with_reducible exact .refl _)))) ?_
    exact .inr ⟨hne, id, fr, rfl, rfl⟩
end Go.Proofs.YtababmnmkmgbbaaGreat
/-
  A part of the proof: its theorems say what each gives.
-/
set_option maxRecDepth 100000
set_option maxHeartbeats 8000000
set_option linter.unusedSimpArgs false
set_option linter.unusedVariables false
namespace Go.Proofs.YtababmnmkmgbbaaGreat
open Go Fw
/-! value.Copy -/
theorem encF_fits (fs : List Fld) : ∀ x ∈ encFs fs, x.fits 5 := by
  intro x hx
  rw [encFs_map] at hx
  obtain ⟨⟨nm, ⟨k, n, s, gs⟩⟩, _, rfl⟩ := List.mem_map.1 hx
  rw [encF_mk]
  exact ⟨rfl, by simp [AV.cells, AV.one, Value.oneCell']⟩
theorem c_Copy_aux : ∀ (m : Nat) (k n : Int) (s : ByteArray) (fs : List Fld) (H : Hp), sizeV (.mk k n s fs) ≤ m → m ≤ 100000000 →
    PureAt Tryz.prog 103 [.agg [.con (.int .i64 k), .con (.int .i64 n), .con (.string s), .list (encFs fs) none]] H (.agg [.con (.int .i64 k), .con (.int .i64 n), .con (.string s), .list (encFs fs) none]) := by
  intro m
  induction m with
  | zero => intro k n s fs H h; have := sizeV_pos (.mk k n s fs); omega
  | succ m ih =>
  intro k n s fs H hm hb
  rw [sizeV] at hm
  have hlen := len_sizeFs fs
  refine acalls_of (by kernel_rfl) Tryz.func103 rfl 28 Tryz.ntmps103 (by simp) [.cell 2 92] rfl ?_
  ((repeat' (first | (refine awp_seq_k (fun K hK => ?_)) | (refine awp_reg _ rfl ?_; (try simp only [go_sem, Nat.reduceLT, Nat.reduceEqDiff, Nat.reduceLeDiff, Nat.reduceAdd, ↓reduceIte, reduceCtorEq])) | (refine orAt_l ?_) | (refine all_fresh fun id fr => ?_; (try have := NeI.of_fr fr)) | (refine hK _ ?_; clear hK; (try clear K)))))
  rename_i b1 fb1
  rename Nat => b2
  rename fresh _ _ => fb2
  refine ACalls.mono (c_CloneField fs (by omega) _) fun r H' hR => ?_
  rcases hR with ⟨he, rfl, rfl⟩ | ⟨hne, bi, fbi, rfl, rfl⟩
  · obtain rfl : fs = [] := by cases fs with
      | nil => rfl
      | cons f r => simp [encFs] at he
    (try simp only [go_sem, Nat.reduceLT, Nat.reduceLeDiff, Nat.reduceAdd, ↓reduceIte])
    ((repeat' (first | (refine awp_seq_k (fun K hK => ?_)) | (refine awp_block ?_) | (refine awp_reg _ rfl ?_; (try simp only [go_sem, Nat.reduceLT, Nat.reduceEqDiff, Nat.reduceLeDiff, Nat.reduceAdd, ↓reduceIte, reduceCtorEq])) | (refine hK _ ?_; clear hK; (try clear K)))))
    refine awp_loop (ι := Nat) (fun i => ⟨28, [(1, .ptr b1 0), (2, .ptr b2 0), (10, .con (.int .i64 (0 : Int))), (11, .con (.int .i64 (i : Int)))], ⟨(b2, [.con (.int .i64 0), .con (.int .i64 0), .con (.string ⟨#[]⟩), .con (.slice none 0 0)]) :: (b1, [.con (.int .i64 k), .con (.int .i64 n), .con (.string s), .list (encFs []) none]) :: H.bx, H.tk⟩⟩)
      (fun i => i = 0) (fun i => 0) 0 rfl ?_ ?_
    · (refine st_le rfl ?_ (by ((try dsimp only); repeat' (first | with_reducible exact .refl _ | refine weak_boxle (by (repeat' ((exact .refl _)))) ?_))); (try simp only [go_sem, Nat.reduceEqDiff, ↓reduceIte]))
    intro i hi
    subst hi
    ((repeat' (first | (refine awp_seq_k (fun K hK => ?_)) | (refine awp_reg _ rfl ?_; (try simp only [go_sem, Nat.reduceLT, Nat.reduceEqDiff, Nat.reduceLeDiff, Nat.reduceAdd, ↓reduceIte, reduceCtorEq])) | (refine awp_cond _ rfl (fun hc => ?_) (fun hc => ?_) <;> (try (simp only [decide_eq_true_eq, decide_eq_false_iff_not] at hc)) <;> (try (exfalso; omega))) | (refine awp_exit ?_; (try simp only [sq, bk, ↓reduceIte])) | (refine awp_ret ?_) | (refine hK _ ?_; clear hK; (try clear K)) | (refine kk (by assumption) ?_))))
    refine fin_pure ?_ ?_ ?_
    · simp only [List.mem_singleton, forall_eq, resOk]
      simp only [go_sem, Nat.reduceLT, Nat.reduceEqDiff, Nat.reduceLeDiff, Nat.reduceAdd, ↓reduceIte, reduceCtorEq]
    · simp only [go_sem, Nat.reduceEqDiff, ↓reduceIte]
    · ((try dsimp only); repeat' (first | with_reducible exact .refl _ | exact box_fresh (by assumption) | exact box_fr (fr_drop (by assumption)) | refine weak_box ?_ ?_))
  · have nA := NeI.of_fr fbi
    have nB := NeI.of_fr (fr_drop fbi)
    (try simp only [go_sem, Nat.reduceLT, Nat.reduceLeDiff, Nat.reduceAdd, ↓reduceIte])
    ((repeat' (first | (refine awp_seq_k (fun K hK => ?_)) | (refine awp_block ?_) | (refine awp_reg _ rfl ?_; (try simp only [go_sem, Nat.reduceLT, Nat.reduceEqDiff, Nat.reduceLeDiff, Nat.reduceAdd, ↓reduceIte, reduceCtorEq])) | (refine hK _ ?_; clear hK; (try clear K)))))
    refine awp_loop (ι := Nat) (fun i => ⟨28, [(1, .ptr b1 0), (2, .ptr b2 0), (10, .con (.int .i64 fs.length)), (11, .con (.int .i64 (i : Int)))], ⟨(bi, flat (encFs fs)) :: (b2, [.con (.int .i64 0), .con (.int .i64 0), .con (.string ⟨#[]⟩), .con (.slice none 0 0)]) :: (b1, [.con (.int .i64 k), .con (.int .i64 n), .con (.string s), .sl bi fs.length 274 5]) :: H.bx, H.tk⟩⟩)
      (fun i => i ≤ fs.length) (fun i => fs.length - i) 0 (by omega) ?_ ?_
    · (refine st_le rfl ?_ (by ((try dsimp only); repeat' ((with_reducible exact .refl _)))); (try simp only [go_sem, Nat.reduceEqDiff, ↓reduceIte]))
    intro i hi
    rcases Nat.lt_or_ge i fs.length with hlt | hge
    · obtain ⟨nm, k', n', s', gs, hf⟩ := fld_at hlt
      have hg := encFs_get hf
      have hz := (sizeFs_at hf).2
      simp only [sizeF] at hz
      have hfl := flat_len (encFs_cells fs)
      rw [encFs_length] at hfl
      have hmid := flat_mid (i := i) (o := 1) (m := 4) (encFs_cells fs) (by rw [encFs_length]; exact hlt) (by omega)
      rw [hg] at hmid
      have hmid2 : List.take 4 (List.drop (i * 5 + 1) (flat (encFs fs))) = [.con (.int .i64 k'), .con (.int .i64 n'), .con (.string s'), .list (encFs gs) none] := hmid
      have hov : List.take (i * 5 + 1) (flat (encFs fs)) ++ [AV.con (.int .i64 k'), .con (.int .i64 n'), .con (.string s'), .list (encFs gs) none] ++ List.drop (i * 5 + 1 + 4) (flat (encFs fs)) = flat (encFs fs) := over_same (ys := [.con (.int .i64 k'), .con (.int .i64 n'), .con (.string s'), .list (encFs gs) none]) hmid2
      ((repeat' (first | (refine awp_mixed (id := 5) [0, 1, 2, 3, 4, 5, 6, 7, 8, 9, 10, 11, 12] [12] [(12, [])] (by kernel_rfl) (by kernel_rfl) ?_; (try simp only [go_sem, Nat.reduceLT, Nat.reduceEqDiff, Nat.reduceLeDiff, Nat.reduceAdd, ↓reduceIte, reduceCtorEq, hmid2])) | (refine awp_seq_k (fun K hK => ?_)) | (refine awp_block ?_) | (refine awp_reg _ rfl ?_; (try simp only [go_sem, Nat.reduceLT, Nat.reduceEqDiff, ↓reduceIte, wrap_succ i (by omega)])) | (refine awp_condT rfl (by (first | rfl | (simp only [decide_eq_true_eq]; omega))) ?_) | (refine awp_skip ?_; (try simp only [sq])) | (refine ⟨_, fun H => ih k' n' s' gs _ (by omega) (by omega), ?_⟩ <;> (try simp only [go_sem, Nat.reduceAdd, hov])) | (with_reducible apply And.intro) | (refine hK _ ?_; clear hK; (try clear K)))); (all_goals (try (first | omega | (simp only [List.length_drop] <;> omega)))))
      refine ⟨i + 1, by omega, by omega, ?_⟩
      (refine st_le rfl ?_ (by ((try dsimp only); repeat' ((with_reducible exact .refl _)))); (try simp only [go_sem, Nat.reduceEqDiff, ↓reduceIte]))
    · obtain rfl : i = fs.length := by omega
      refine awp_freezeX bi (by simp only [box_cons, if_true]) ⟨28, [(1, .ptr b1 0), (2, .ptr b2 0), (10, .con (.int .i64 fs.length)), (11, .con (.int .i64 fs.length))], ⟨(b2, [.con (.int .i64 0), .con (.int .i64 0), .con (.string ⟨#[]⟩), .con (.slice none 0 0)]) :: (b1, [.con (.int .i64 k), .con (.int .i64 n), .con (.string s), .list (encFs fs) none]) :: H.bx, H.tk⟩⟩ rfl (by simp only [go_sem, Nat.reduceEqDiff, ↓reduceIte]) rfl
        (fleX_skip (fleX_cons (Ne.symm nA.ne) ⟨.refl _, .refl _, .refl _, .refl _, trivial⟩ (fleX_cons (Ne.symm nB.ne) ⟨.refl _, .refl _, .refl _, fle_slL (encF_fits fs) (by rw [encFs_length]), trivial⟩ (fleX_refl (fr_drop (fr_drop fbi)).1)))) ?_
      ((repeat' (first | (refine awp_seq_k (fun K hK => ?_)) | (refine awp_reg _ rfl ?_; (try simp only [go_sem, Nat.reduceLT, Nat.reduceEqDiff, Nat.reduceLeDiff, Nat.reduceAdd, ↓reduceIte])) | (refine awp_cond _ rfl (fun hc => ?_) (fun hc => ?_) <;> (try (simp only [decide_eq_true_eq, decide_eq_false_iff_not] at hc)) <;> (try (exfalso; omega))) | (refine awp_exit ?_; (try simp only [sq, bk, ↓reduceIte])) | (refine awp_ret ?_) | (refine hK _ ?_; clear hK; (try clear K)) | (refine kk (by assumption) ?_))))
      refine fin_pure ?_ ?_ ?_
      · simp only [List.mem_singleton, forall_eq, resOk]
        simp only [go_sem, Nat.reduceLT, Nat.reduceEqDiff, Nat.reduceLeDiff, Nat.reduceAdd, ↓reduceIte, reduceCtorEq]
      · simp only [go_sem, Nat.reduceEqDiff, ↓reduceIte]
      · ((try dsimp only); repeat' (first | with_reducible exact .refl _ | exact box_fresh (by assumption) | exact box_fr (fr_drop (by assumption)) | refine weak_box ?_ ?_))
theorem c_CopyV (v : Val) (H : Hp) (h : sizeV v ≤ 100000000) : PureAt Tryz.prog 103 [.agg [.con (.int .i64 v.k), .con (.int .i64 v.n), .con (.string v.s), .list (encFs v.fs) none]] H (.agg [.con (.int .i64 v.k), .con (.int .i64 v.n), .con (.string v.s), .list (encFs v.fs) none]) := by
  obtain ⟨k, n, s, fs⟩ := v
  exact c_Copy_aux _ k n s fs H (Nat.le_refl _) h
end Go.Proofs.YtababmnmkmgbbaaGreat
