/-
  A part of the proof: its theorems say what each gives.
-/
import Derived.Test.YtababmnmkmgbbaaGreatKM5
import Derived.Lib.Strings
import Derived.Lib.Slices
import Derived.Lib.Walk
import Derived.Lib.Bytealg
import Derived.Test.YtababmnmkmgbbaaGreatKTy
import Derived.Test.YtababmnmkmgbbaaGreatKFw1
import Derived.Test.YtababmnmkmgbbaaGreatKFw2
import Derived.Test.YtababmnmkmgbbaaGreatKFw3
import Derived.Test.YtababmnmkmgbbaaGreatKM4
set_option maxRecDepth 100000
set_option maxHeartbeats 4000000
set_option linter.unusedSimpArgs false
set_option linter.unusedVariables false
namespace Go.Proofs.YtababmnmkmgbbaaGreat
open Go Fw
theorem con_inv {σ : G} {w : World} {v u : Value} (h : VR σ w (.con v) u) : u = v := by cases h; rfl
/-- A contract on plain values. -/
theorem pure_of_calls {P : Program} {f : Nat} {vs : List Value} {v : Value} (hc : callB P f = true) (h : ∀ w, Calls P f vs.toArray w fun e w' => e = .returned v ∧ w' = w) (H : Hp) : PureAt P f (vs.map .con) H (.con v) := by
  refine ⟨hc, fun σ w us hs hv => ?_⟩
  have e : us = vs.toArray := by
    refine Array.ext (by rw [hv.1]; simp) fun i h1 h2 => ?_
    have hi : i < vs.length := by simpa using h2
    have := hv.2 i (by simpa using hi)
    simp only [List.getD_eq_getElem?_getD, List.getElem?_map, List.getElem?_eq_getElem hi, Option.map_some, Option.getD_some, Array.getD_eq_getD_getElem?, Array.getElem?_eq_getElem h1] at this
    simpa using con_inv this
  rw [e]
  refine (h w).mono ?_
  rintro x w' ⟨rfl, rfl⟩
  exact ⟨.con v, H, σ, v, rfl, ⟨rfl, rfl⟩, .refl _ _, hs, .con v⟩
def cmpS (a b : ByteArray) : Int := Lib.compareBytes a.data.toList b.data.toList
theorem c_CompareString_raw (a b : ByteArray) (w : World) : Calls Tryz.prog 311 #[.string a, .string b] w fun e w' => e = .returned (.int .i64 (cmpS a b)) ∧ w' = w := by
  go_enter Tryz.func311, Tryz.ntmps311
  go_wp2
  rw [run_callFunc_extern Tryz.func350 (by kernel_rfl) (by kernel_rfl) (by kernel_rfl) (e := Extern.BytealgCompare.compare) (by kernel_rfl), Lib.run_compareString]
  simp only [Result.andThen]
  rw [Oper.upon_value]
  go_wp2
  go_ret
  exact ⟨rfl, rfl⟩
theorem c_CompareString (a b : ByteArray) (H : Hp) : PureAt Tryz.prog 311 [.con (.string a), .con (.string b)] H (.con (.int .i64 (cmpS a b))) :=
  pure_of_calls (vs := [.string a, .string b]) (by kernel_rfl) (c_CompareString_raw a b) H
theorem c_strCompare (a b : ByteArray) (H : Hp) : PureAt Tryz.prog 241 [.con (.string a), .con (.string b)] H (.con (.int .i64 (cmpS a b))) := by
  refine acalls_of (by kernel_rfl) Tryz.func241 rfl 8 Tryz.ntmps241 (by simp) [.tmp 4] rfl ?_
  ((repeat' (first | (refine awp_seq_k (fun K hK => ?_)) | (refine awp_reg _ rfl ?_; (try simp only [go_sem, Nat.reduceLT, Nat.reduceEqDiff, Nat.reduceAdd, ↓reduceIte, reduceCtorEq])) | (refine awp_ret ?_) | (refine PureAt.use (c_CompareString _ _ _) ?_ <;> (try simp only [go_sem])) | (refine orAt_l ?_) | (refine hK _ ?_; clear hK; (try clear K)))))
  ((all_goals (try refine fin_pure (by (try simp only [forall_eq, resOk, List.mem_cons, List.not_mem_nil, or_false])) ?_ (by ((try dsimp only); repeat' ((with_reducible exact .refl _)))))); (all_goals (try simp only [go_sem, ↓reduceIte])))
theorem c_isNaN (a : Int) (H : Hp) : PureAt Tryz.prog 244 [.con (.int .i64 a)] H (.con (.bool false)) := by
  refine acalls_of (by kernel_rfl) Tryz.func244 rfl 6 Tryz.ntmps244 (by simp) [.tmp 2] rfl ?_
  ((repeat' (first | (refine awp_seq_k (fun K hK => ?_)) | (refine awp_reg _ rfl ?_; (try simp only [go_sem, Nat.reduceLT, Nat.reduceEqDiff, Nat.reduceAdd, ↓reduceIte, reduceCtorEq])) | (refine awp_ret ?_) | (refine hK _ ?_; clear hK; (try clear K)))))
  ((all_goals (try refine fin_pure (by (try simp only [forall_eq, resOk, List.mem_cons, List.not_mem_nil, or_false])) ?_ (by ((try dsimp only); repeat' ((with_reducible exact .refl _)))))); (all_goals (try simp only [go_sem, ↓reduceIte])); (all_goals (try (((simp [*]; done))))))
def cmpI (a b : Int) : Int := if a < b then -1 else if b < a then 1 else 0
theorem c_cmpCompare (a b : Int) (H : Hp) : PureAt Tryz.prog 155 [.con (.int .i64 a), .con (.int .i64 b)] H (.con (.int .i64 (cmpI a b))) := by
  refine acalls_of (by kernel_rfl) Tryz.func155 rfl 20 Tryz.ntmps155 (by simp) [.tmp 4] rfl ?_
  ((repeat' (first | (refine awp_seq_k (fun K hK => ?_)) | (refine awp_reg _ rfl ?_; (try simp only [go_sem, Nat.reduceLT, Nat.reduceEqDiff, Nat.reduceAdd, ↓reduceIte, reduceCtorEq])) | (refine awp_cond _ rfl (fun hc => ?_) (fun hc => ?_) <;> (try (simp only [decide_eq_true_eq, decide_eq_false_iff_not, cds] at hc))) | (refine awp_skip ?_; (try simp only [sq])) | (refine awp_ret ?_; (try simp only [sq])) | (refine PureAt.use (c_isNaN _ _) ?_ <;> (try simp only [go_sem])) | (refine orAt_l ?_) | (refine hK _ ?_; clear hK; (try clear K)))))
  ((all_goals (try refine fin_pure (by (try simp only [forall_eq, resOk, List.mem_cons, List.not_mem_nil, or_false])) ?_ (by ((try dsimp only); repeat' ((with_reducible exact .refl _)))))); (all_goals (try simp only [go_sem, ↓reduceIte, cmpI])); (all_goals (try (((simp [*]; done))))))
theorem c_cmpOr (l : List Int) (H : Hp) (hl : l.length ≤ 4611686018427387904) : PureAt Tryz.prog 211 [.list (l.map fun n => .con (.int .i64 n)) none] H (.con (.int .i64 (firstL (fun x => x) l))) := by
  refine acalls_of (by kernel_rfl) Tryz.func211 rfl 18 Tryz.ntmps211 (by simp) [.tmp 2] rfl ?_
  ((repeat' (first | (refine awp_seq_k (fun K hK => ?_)) | (refine awp_block ?_) | (refine awp_reg _ rfl ?_; (try simp only [go_sem, Nat.reduceLT, Nat.reduceAdd, ↓reduceIte, reduceCtorEq])) | (refine hK _ ?_; clear hK; (try clear K)))))
  refine awp_loop (ι := Nat) (fun i => ⟨18, [(3, .con (.int .i64 0)), (6, .list (l.map fun n => .con (.int .i64 n)) none), (7, .con (.int .i64 l.length)), (8, .con (.int .i64 (i : Int)))], H⟩)
    (fun i => i ≤ l.length ∧ firstL (fun x => x) (l.take i) = 0) (fun i => l.length - i) 0 ⟨by omega, rfl⟩ ?_ ?_
  · (refine st_le rfl ?_ (by ((try dsimp only); repeat' ((with_reducible exact .refl _)))); (try simp only [go_sem, Nat.reduceEqDiff, ↓reduceIte, reduceCtorEq]))
  intro i ⟨hi, h0⟩
  rcases Nat.lt_or_ge i l.length with hlt | hge
  · have hf : l[i]? = some l[i] := by simp [hlt]
    generalize l[i] = x at hf
    have hg : (l.map fun n => AV.con (.int .i64 n)).getD i .any = .con (.int .i64 x) := by rw [List.getD_eq_getElem?_getD, List.getElem?_map, hf]; rfl
    ((repeat' (first | (refine awp_seq_k (fun K hK => ?_)) | (refine awp_block ?_) | (refine awp_reg _ rfl ?_; (try simp only [go_sem, Nat.reduceLT, Nat.reduceEqDiff, Nat.reduceLeDiff, Nat.reduceAdd, ↓reduceIte, wrap_succ i (by omega), hg])) | (refine awp_cond _ rfl (fun hc => ?_) (fun hc => ?_) <;> (try (simp only [decide_eq_true_eq, decide_eq_false_iff_not, Decidable.not_not] at hc)) <;> (try (exfalso; omega))) | (refine awp_skip ?_; (try simp only [sq, bk])) | (refine awp_ret ?_; (try simp only [sq, bk])) | (with_reducible apply And.intro) | (refine hK _ ?_; clear hK; (try clear K)))); (all_goals (try ((omega)))))
    · ((all_goals (try refine fin_pure (by (try simp only [forall_eq, resOk, List.mem_cons, List.not_mem_nil, or_false])) ?_ (by ((try dsimp only); repeat' ((with_reducible exact .refl _)))))); (all_goals (try simp only [go_sem, ↓reduceIte])); (all_goals (try (((simp [*, firstL_hit h0 hf]; done))))))
    · have h1 := firstL_step h0 hf (by assumption)
      refine ⟨i + 1, by omega, ⟨by omega, by assumption⟩, ?_⟩
      (refine st_le rfl ?_ (by ((try dsimp only); repeat' ((with_reducible exact .refl _)))); (try simp only [go_sem, Nat.reduceEqDiff, ↓reduceIte, reduceCtorEq]))
  · obtain rfl : i = l.length := by omega
    rw [List.take_length] at h0
    ((repeat' (first | (refine awp_seq_k (fun K hK => ?_)) | (refine awp_reg _ rfl ?_; (try simp only [go_sem, Nat.reduceLT, Nat.reduceEqDiff, Nat.reduceLeDiff, Nat.reduceAdd, ↓reduceIte, reduceCtorEq])) | (refine awp_cond _ rfl (fun hc => ?_) (fun hc => ?_) <;> (try (simp only [decide_eq_true_eq, decide_eq_false_iff_not] at hc)) <;> (try (exfalso; omega))) | (refine awp_exit ?_; (try simp only [sq, bk, ↓reduceIte])) | (refine awp_ret ?_) | (refine hK _ ?_; clear hK; (try clear K)) | (refine kk (by assumption) ?_))))
    ((all_goals (try refine fin_pure (by (try simp only [forall_eq, resOk, List.mem_cons, List.not_mem_nil, or_false])) ?_ (by ((try dsimp only); repeat' ((with_reducible exact .refl _)))))); (all_goals (try simp only [go_sem, ↓reduceIte])); (all_goals (try (((simp [*]; done))))))
end Go.Proofs.YtababmnmkmgbbaaGreat
/-
  A part of the proof: its theorems say what each gives.
-/
set_option maxRecDepth 100000
set_option maxHeartbeats 4000000
set_option linter.unusedSimpArgs false
set_option linter.unusedVariables false
namespace Go.Proofs.YtababmnmkmgbbaaGreat
open Go Fw

theorem c_Size_aux : ∀ (m : Nat) (k n : Int) (s : ByteArray) (fs : List Fld) (H : Hp), sizeV (.mk k n s fs) ≤ m → m ≤ 4611686018427387904 →
    PureAt Tryz.prog 294 [.agg [.con (.int .i64 k), .con (.int .i64 n), .con (.string s), .list (encFs fs) none]] H (.con (.int .i64 (sizeV (.mk k n s fs)))) := by
  intro m
  induction m with
  | zero => intro k n s fs H h; have := sizeV_pos (.mk k n s fs); omega
  | succ m ih =>
  intro k n s fs H hm hb
  rw [sizeV] at hm ⊢
  have hlen := len_sizeFs fs
  refine acalls_of (by kernel_rfl) Tryz.func294 rfl 20 Tryz.ntmps294 (by simp) [.tmp 2] rfl ?_
  ((repeat' (first | (refine awp_seq_k (fun K hK => ?_)) | (refine awp_block ?_) | (refine awp_reg _ rfl ?_; (try simp only [go_sem, Nat.reduceLT, Nat.reduceEqDiff, Nat.reduceLeDiff, Nat.reduceAdd, ↓reduceIte, reduceCtorEq])) | (refine orAt_r 1 ?_) | (refine hK _ ?_; clear hK; (try clear K)))))
  refine awp_loop (ι := Nat) (fun i => ⟨20, [(1, .ro [.con (.int .i64 k), .con (.int .i64 n), .con (.string s), .list (encFs fs) none]), (3, .con (.int .i64 ((1 + sizeFs (fs.take i) : Nat) : Int))), (7, .list (encFs fs) none), (8, .con (.int .i64 fs.length)), (9, .con (.int .i64 (i : Int)))], H⟩) (fun i => i ≤ fs.length) (fun i => fs.length - i) 0 (by omega) ?_ ?_
  · (refine st_le rfl ?_ (by ((try dsimp only); repeat' ((with_reducible exact .refl _)))); (try simp only [go_sem, Nat.reduceEqDiff, Nat.reduceAdd, ↓reduceIte, List.take_zero, sizeFs]))
  intro i hi
  rcases Nat.lt_or_ge i fs.length with hlt | hge
  · obtain ⟨nm, k', n', s', gs, hf⟩ := fld_at hlt
    have hg := encFs_get hf
    obtain ⟨hs1, hs2⟩ := sizeFs_at hf
    rw [sizeF, sizeV] at hs1 hs2
    ((repeat' (first | (refine awp_seq_k (fun K hK => ?_)) | (refine awp_block ?_) | (refine awp_reg _ rfl ?_; (try simp only [go_sem, Nat.reduceLT, Nat.reduceEqDiff, Nat.reduceLeDiff, Nat.reduceAdd, ↓reduceIte, reduceCtorEq, wrap_succ i (by omega), hg])) | (refine awp_cond _ rfl (fun hc => ?_) (fun hc => ?_) <;> (try (simp only [decide_eq_true_eq, decide_eq_false_iff_not] at hc)) <;> (try (exfalso; omega))) | (refine awp_skip ?_; (try simp only [sq])) | (refine PureAt.use (ih k' n' s' gs _ (by rw [sizeV]; omega) (by omega)) ?_ <;> (try simp only [go_sem])) | (refine orAt_r 5 ?_; (try simp only [go_sem, Nat.reduceLT, Nat.reduceAdd, ↓reduceIte])) | (refine orAt_l ?_) | (with_reducible apply And.intro) | (refine hK _ ?_; clear hK; (try clear K)))); (all_goals (try ((omega)))))
    refine ⟨i + 1, by omega, by omega, ?_⟩
    have hz : ((1 + sizeFs (fs.take (i+1)) : Nat) : Int) = IntKind.i64.wrap (((1 + sizeFs (fs.take i) : Nat) : Int) + ((sizeV (.mk k' n' s' gs) : Nat) : Int)) := by
      rw [wrap_id (by rw [sizeV]; omega) (by rw [sizeV]; omega), hs1, sizeV]; omega
    rw [hz]
    (refine st_le rfl ?_ (by ((try dsimp only); repeat' ((with_reducible exact .refl _)))); (try simp only [go_sem, Nat.reduceEqDiff, ↓reduceIte, reduceCtorEq]))
  · obtain rfl : i = fs.length := by omega
    ((repeat' (first | (refine awp_seq_k (fun K hK => ?_)) | (refine awp_reg _ rfl ?_; (try simp only [go_sem, Nat.reduceLT, Nat.reduceEqDiff, ↓reduceIte, List.take_length])) | (refine awp_cond _ rfl (fun hc => ?_) (fun hc => ?_) <;> (try (simp only [decide_eq_true_eq, decide_eq_false_iff_not] at hc)) <;> (try (exfalso; omega))) | (refine awp_exit ?_; (try simp only [sq, bk, ↓reduceIte])) | (refine awp_ret ?_) | (refine hK _ ?_; clear hK; (try clear K)) | (refine kk (by assumption) ?_))))
    ((all_goals (try refine fin_pure (by (try simp only [forall_eq, resOk, List.mem_cons, List.not_mem_nil, or_false])) ?_ (by ((try dsimp only); repeat' ((with_reducible exact .refl _)))))); (all_goals (try simp only [go_sem, ↓reduceIte])))
end Go.Proofs.YtababmnmkmgbbaaGreat
