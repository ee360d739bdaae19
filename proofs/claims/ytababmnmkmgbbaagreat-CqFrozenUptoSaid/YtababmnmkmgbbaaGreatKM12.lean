/-
  A part of the proof: its theorems say what each gives.
-/
import Derived.Test.YtababmnmkmgbbaaGreatKM11
import Derived.Test.YtababmnmkmgbbaaGreatKM6
import Derived.Test.YtababmnmkmgbbaaGreatKM5
import Derived.Test.YtababmnmkmgbbaaGreatKM7
set_option maxRecDepth 100000
set_option maxHeartbeats 4000000
set_option linter.unusedSimpArgs false
set_option linter.unusedVariables false
namespace Go.Proofs.YtababmnmkmgbbaaGreat
open Go Fw
mutual
/-- What a node and those below it lack. -/
def nodeE : Val → Bool → Int
  | .mk k n s fs, root => if k < 0 ∨ 12 ≤ k ∨ k = 10 ∨ k = 11 ∧ root = false ∨ unusedB k n s fs.length = true then 3 else if numberB k n = false then 11 else
    if fieldsE k s fs = 0 then nodesE fs else fieldsE k s fs
def nodesE : List Fld → Int
  | [] => 0
  | f :: r => if nodeF f = 0 then nodesE r else nodeF f
def nodeF : Fld → Int
  | .mk _ v => nodeE v false
end
theorem nodesE_eq (fs : List Fld) : nodesE fs = firstL nodeF fs := by
  induction fs with
  | nil => rw [nodesE, firstL]
  | cons f r ih => rw [nodesE, firstL, ih]
theorem c_node_aux : ∀ (m : Nat) (k n : Int) (s : ByteArray) (fs : List Fld) (root : Bool) (H : Hp), sizeV (.mk k n s fs) ≤ m → m ≤ 4611686018427387904 →
    PureAt Tryz.prog 296 [.agg [.con (.int .i64 k), .con (.int .i64 n), .con (.string s), .list (encFs fs) none], .con (.bool root)] H (.con (.int .i64 (nodeE (.mk k n s fs) root))) := by
  intro m
  induction m with
  | zero => intro k n s fs root H h; have := sizeV_pos (.mk k n s fs); omega
  | succ m ih =>
  intro k n s fs root H hm hb
  rw [sizeV] at hm
  rw [nodeE]
  have hlen := len_sizeFs fs
  refine acalls_of (by kernel_rfl) Tryz.func296 rfl 59 Tryz.ntmps296 (by simp) [.tmp 4] rfl ?_
  have c1 := c_unused k n s (encFs fs)
  rw [encFs_length] at c1
  ((repeat' (first | (refine awp_seq_k (fun K hK => ?_)) | (refine awp_block ?_) | (refine awp_reg _ rfl ?_; (try simp only [go_sem, Nat.reduceLT, Nat.reduceEqDiff, Nat.reduceLeDiff, Nat.reduceAdd, ↓reduceIte, reduceCtorEq])) | (refine awp_cond _ rfl (fun hc => ?_) (fun hc => ?_) <;> (try (simp only [decide_eq_true_eq, decide_eq_false_iff_not, cds, Decidable.not_not] at hc))) | (refine awp_skip ?_; (try simp only [sq, bk])) | (refine awp_ret ?_; (try simp only [sq, bk])) | (refine PureAt.use (c_number _ _ _ _ _) ?_ <;> (try simp only [go_sem])) | (refine PureAt.use (c_fields k n s fs _ (by omega)) ?_ <;> (try simp only [go_sem])) | (refine ⟨_, fun hg => ⟨?_, c1 _⟩, ?_⟩ <;> (try simp only [go_sem])) | (refine orAt_r 2 ?_) | (refine orAt_l ?_) | (with_reducible apply And.intro) | (refine hK _ ?_; clear hK; (try clear K)))); (all_goals (try (first | omega | (intro hh; simp only [Bool.and_eq_true, Bool.not_eq_true', Bool.or_eq_false_iff, Bool.and_eq_false_iff, decide_eq_true_eq, decide_eq_false_iff_not, Bool.not_eq_false'] at hh ⊢; (omega))))))
  · ((all_goals (try refine fin_pure (by (try simp only [forall_eq, resOk, List.mem_cons, List.not_mem_nil, or_false])) ?_ (by ((try dsimp only); repeat' ((with_reducible exact .refl _)))))); (all_goals (try simp only [go_sem, ↓reduceIte])))
    grind
  · ((all_goals (try refine fin_pure (by (try simp only [forall_eq, resOk, List.mem_cons, List.not_mem_nil, or_false])) ?_ (by ((try dsimp only); repeat' ((with_reducible exact .refl _)))))); (all_goals (try simp only [go_sem, ↓reduceIte])); (all_goals (try (((simp_all; done))))))
  · ((all_goals (try refine fin_pure (by (try simp only [forall_eq, resOk, List.mem_cons, List.not_mem_nil, or_false])) ?_ (by ((try dsimp only); repeat' ((with_reducible exact .refl _)))))); (all_goals (try simp only [go_sem, ↓reduceIte])))
    grind
  refine awp_loop (ι := Nat) (fun i => ⟨59, [(2, .ro [.con (.int .i64 k), .con (.int .i64 n), .con (.string s), .list (encFs fs) none]), (46, .list (encFs fs) none), (47, .con (.int .i64 fs.length)), (48, .con (.int .i64 (i : Int)))], H⟩)
    (fun i => i ≤ fs.length ∧ firstL nodeF (fs.take i) = 0) (fun i => fs.length - i) 0 ⟨by omega, rfl⟩ ?_ ?_
  · (refine st_le rfl ?_ (by ((try dsimp only); repeat' ((with_reducible exact .refl _)))); (try simp only [go_sem, Nat.reduceEqDiff, ↓reduceIte, reduceCtorEq]))
  intro i ⟨hi, h0⟩
  rcases Nat.lt_or_ge i fs.length with hlt | hge
  · obtain ⟨nm, k', n', s', gs, hf⟩ := fld_at hlt
    have hg := encFs_get hf
    have hz := sizeFs_at hf
    have hz2 := hz.2
    simp only [sizeF] at hz2
    ((repeat' (first | (refine awp_seq_k (fun K hK => ?_)) | (refine awp_block ?_) | (refine awp_reg _ rfl ?_; (try simp only [go_sem, Nat.reduceLT, Nat.reduceEqDiff, Nat.reduceLeDiff, Nat.reduceAdd, ↓reduceIte, reduceCtorEq, wrap_succ i (by omega), hg])) | (refine awp_cond _ rfl (fun hc => ?_) (fun hc => ?_) <;> (try (simp only [decide_eq_true_eq, decide_eq_false_iff_not, Decidable.not_not] at hc)) <;> (try (exfalso; omega))) | (refine awp_skip ?_; (try simp only [sq, bk])) | (refine awp_ret ?_; (try simp only [sq, bk])) | (refine PureAt.use (ih k' n' s' gs false _ (by omega) (by omega)) ?_ <;> (try simp only [go_sem])) | (refine orAt_r 7 ?_; (try simp only [go_sem, Nat.reduceLT, Nat.reduceAdd, ↓reduceIte])) | (refine orAt_l ?_) | (with_reducible apply And.intro) | (refine hK _ ?_; clear hK; (try clear K)))); (all_goals (try ((omega)))))
    · ((all_goals (try refine fin_pure (by (try simp only [forall_eq, resOk, List.mem_cons, List.not_mem_nil, or_false])) ?_ (by ((try dsimp only); repeat' ((with_reducible exact .refl _)))))); (all_goals (try simp only [go_sem, ↓reduceIte])))
      have e := firstL_hit (g := nodeF) h0 hf (by rw [nodeF]; exact hc)
      rw [nodeF] at e
      rw [nodesE_eq, e]; grind
    · have h1 := firstL_step (g := nodeF) h0 hf (by rw [nodeF]; exact hc)
      refine ⟨i + 1, by omega, ⟨by omega, by assumption⟩, ?_⟩
      (refine st_le rfl ?_ (by ((try dsimp only); repeat' ((with_reducible exact .refl _)))); (try simp only [go_sem, Nat.reduceEqDiff, ↓reduceIte, reduceCtorEq]))
  · obtain rfl : i = fs.length := by omega
    rw [List.take_length] at h0
    ((repeat' (first | (refine awp_seq_k (fun K hK => ?_)) | (refine awp_reg _ rfl ?_; (try simp only [go_sem, Nat.reduceLT, Nat.reduceEqDiff, Nat.reduceLeDiff, Nat.reduceAdd, ↓reduceIte, reduceCtorEq])) | (refine awp_cond _ rfl (fun hc => ?_) (fun hc => ?_) <;> (try (simp only [decide_eq_true_eq, decide_eq_false_iff_not] at hc)) <;> (try (exfalso; omega))) | (refine awp_exit ?_; (try simp only [sq, bk, ↓reduceIte])) | (refine awp_ret ?_) | (refine hK _ ?_; clear hK; (try clear K)) | (refine kk (by assumption) ?_))))
    ((all_goals (try refine fin_pure (by (try simp only [forall_eq, resOk, List.mem_cons, List.not_mem_nil, or_false])) ?_ (by ((try dsimp only); repeat' ((with_reducible exact .refl _)))))); (all_goals (try simp only [go_sem, ↓reduceIte])))
    rw [nodesE_eq, h0]; grind
theorem c_node (v : Val) (root : Bool) (H : Hp) (h : sizeV v ≤ 4611686018427387904) : PureAt Tryz.prog 296 [encV v, .con (.bool root)] H (.con (.int .i64 (nodeE v root))) := by
  obtain ⟨k, n, s, fs⟩ := v
  rw [encV_mk]
  exact c_node_aux _ k n s fs root H (Nat.le_refl _) h
theorem deepFs_append (a b : List Fld) : deepFs (a ++ b) = max (deepFs a) (deepFs b) := by
  induction a with
  | nil => simp [deepFs]
  | cons f r ih => simp [deepFs, ih, Nat.max_assoc]
theorem deepFs_step {fs : List Fld} {i : Nat} {f : Fld} (h : fs[i]? = some f) : deepFs (fs.take (i + 1)) = max (deepFs (fs.take i)) (deepF f) := by
  rw [List.take_add_one, h, deepFs_append]; simp [deepFs]
theorem deep_size : ∀ (m : Nat), (∀ v, sizeV v ≤ m → deepV v ≤ sizeV v) ∧ (∀ fs, sizeFs fs ≤ m → deepFs fs ≤ sizeFs fs) := by
  intro m
  induction m with
  | zero =>
    refine ⟨fun v h => by have := sizeV_pos v; omega, fun fs h => ?_⟩
    cases fs with
    | nil => simp [deepFs]
    | cons f r => have := len_sizeFs (f :: r); simp at this; omega
  | succ m ih =>
    have hv : ∀ v, sizeV v ≤ m + 1 → deepV v ≤ sizeV v := by
      intro v h
      obtain ⟨k, n, s, fs⟩ := v
      rw [sizeV] at h ⊢
      rw [deepV]
      have := ih.2 fs (by omega)
      omega
    refine ⟨hv, fun fs h => ?_⟩
    induction fs with
    | nil => simp [deepFs]
    | cons f r ihr =>
      obtain ⟨nm, v⟩ := f
      rw [sizeFs, sizeF] at h ⊢
      rw [deepFs, deepF]
      have h1 := hv v (by omega)
      have h2 := ihr (by omega)
      omega
theorem deepV_le (v : Val) : deepV v ≤ sizeV v := (deep_size _).1 v (Nat.le_refl _)
theorem c_Deep_aux : ∀ (m : Nat) (k n : Int) (s : ByteArray) (fs : List Fld) (H : Hp), sizeV (.mk k n s fs) ≤ m → m ≤ 4611686018427387904 →
    PureAt Tryz.prog 295 [.agg [.con (.int .i64 k), .con (.int .i64 n), .con (.string s), .list (encFs fs) none]] H (.con (.int .i64 (deepV (.mk k n s fs)))) := by
  intro m
  induction m with
  | zero => intro k n s fs H h; have := sizeV_pos (.mk k n s fs); omega
  | succ m ih =>
  intro k n s fs H hm hb
  have hd := deepV_le (.mk k n s fs)
  rw [sizeV] at hm hd
  rw [deepV] at hd ⊢
  have hlen := len_sizeFs fs
  refine acalls_of (by kernel_rfl) Tryz.func295 rfl 21 Tryz.ntmps295 (by simp) [.tmp 2] rfl ?_
  ((repeat' (first | (refine awp_seq_k (fun K hK => ?_)) | (refine awp_block ?_) | (refine awp_reg _ rfl ?_; (try simp only [go_sem, Nat.reduceLT, Nat.reduceEqDiff, Nat.reduceLeDiff, Nat.reduceAdd, ↓reduceIte, reduceCtorEq])) | (refine orAt_r 1 ?_) | (refine hK _ ?_; clear hK; (try clear K)))))
  refine awp_loop (ι := Nat) (fun i => ⟨21, [(1, .ro [.con (.int .i64 k), .con (.int .i64 n), .con (.string s), .list (encFs fs) none]), (3, .con (.int .i64 (deepFs (fs.take i) : Nat))), (7, .list (encFs fs) none), (8, .con (.int .i64 fs.length)), (9, .con (.int .i64 (i : Int)))], H⟩)
    (fun i => i ≤ fs.length) (fun i => fs.length - i) 0 (by omega) ?_ ?_
  · (refine st_le rfl ?_ (by ((try dsimp only); repeat' ((with_reducible exact .refl _)))); (try simp only [go_sem, Nat.reduceEqDiff, ↓reduceIte, deepFs]))
  intro i hi
  rcases Nat.lt_or_ge i fs.length with hlt | hge
  · obtain ⟨nm, k', n', s', gs, hf⟩ := fld_at hlt
    have hg := encFs_get hf
    have hz := sizeFs_at hf
    have hz2 := hz.2
    simp only [sizeF] at hz2
    have hs := deepFs_step hf
    rw [deepF] at hs
    ((repeat' (first | (refine awp_seq_k (fun K hK => ?_)) | (refine awp_block ?_) | (refine awp_reg _ rfl ?_; (try simp only [go_sem, Nat.reduceLT, Nat.reduceEqDiff, Nat.reduceLeDiff, Nat.reduceAdd, ↓reduceIte, reduceCtorEq, wrap_succ i (by omega), hg])) | (refine awp_cond _ rfl (fun hc => ?_) (fun hc => ?_) <;> (try (simp only [decide_eq_true_eq, decide_eq_false_iff_not] at hc)) <;> (try (exfalso; omega))) | (refine awp_skip ?_; (try simp only [sq])) | (refine PureAt.use (ih k' n' s' gs _ (by omega) (by omega)) ?_ <;> (try simp only [go_sem])) | (refine orAt_r 5 ?_; (try simp only [go_sem, Nat.reduceLT, Nat.reduceAdd, ↓reduceIte])) | (refine orAt_l ?_) | (with_reducible apply And.intro) | (refine hK _ ?_; clear hK; (try clear K)))); (all_goals (try ((omega)))))
    refine ⟨i + 1, by omega, by omega, ?_⟩
    (refine st_le rfl ?_ (by ((try dsimp only); repeat' ((with_reducible exact .refl _)))); (try simp only [go_sem, Nat.reduceEqDiff, ↓reduceIte, hs, cast_max]))
  · obtain rfl : i = fs.length := by omega
    ((repeat' (first | (refine awp_seq_k (fun K hK => ?_)) | (refine awp_reg _ rfl ?_; (try simp only [go_sem, Nat.reduceLT, Nat.reduceEqDiff, ↓reduceIte, List.take_length, wrap_succ (deepFs fs) (by omega)])) | (refine awp_cond _ rfl (fun hc => ?_) (fun hc => ?_) <;> (try (simp only [decide_eq_true_eq, decide_eq_false_iff_not] at hc)) <;> (try (exfalso; omega))) | (refine awp_exit ?_; (try simp only [sq, bk, ↓reduceIte])) | (refine awp_ret ?_) | (refine hK _ ?_; clear hK; (try clear K)) | (refine kk (by assumption) ?_))))
    ((all_goals (try refine fin_pure (by (try simp only [forall_eq, resOk, List.mem_cons, List.not_mem_nil, or_false])) ?_ (by ((try dsimp only); repeat' ((with_reducible exact .refl _)))))); (all_goals (try simp only [go_sem, ↓reduceIte])))
/-- What a value lacks. -/
def checkE (v : Val) : Int := if (2000 : Int) < sizeV v ∨ (40 : Int) < deepV v then 2 else nodeE v true
theorem c_Check (v : Val) (H : Hp) (h : sizeV v ≤ 4611686018427387904) : PureAt Tryz.prog 221 [encV v] H (.con (.int .i64 (checkE v))) := by
  obtain ⟨k, n, s, fs⟩ := v
  rw [encV_mk]
  refine acalls_of (by kernel_rfl) Tryz.func221 rfl 13 Tryz.ntmps221 (by simp) [.tmp 2] rfl ?_
  have c1 := c_node (.mk k n s fs) true
  rw [encV_mk] at c1
  ((repeat' (first | (refine awp_seq_k (fun K hK => ?_)) | (refine awp_reg _ rfl ?_; (try simp only [go_sem, Nat.reduceLT, Nat.reduceEqDiff, Nat.reduceLeDiff, Nat.reduceAdd, ↓reduceIte, reduceCtorEq])) | (refine awp_cond _ rfl (fun hc => ?_) (fun hc => ?_) <;> (try (simp only [decide_eq_true_eq, decide_eq_false_iff_not, cds] at hc))) | (refine awp_skip ?_; (try simp only [sq])) | (refine awp_ret ?_; (try simp only [sq])) | (refine PureAt.use (c_Size_aux _ k n s fs _ (Nat.le_refl _) h) ?_ <;> (try simp only [go_sem, Nat.reduceLT, Nat.reduceEqDiff, Nat.reduceLeDiff, Nat.reduceAdd, ↓reduceIte])) | (refine PureAt.use (c1 _ h) ?_ <;> (try simp only [go_sem])) | (refine ⟨_, fun hg => ⟨?_, c_Deep_aux _ k n s fs _ (Nat.le_refl _) h⟩, ?_⟩ <;> (try simp only [go_sem])) | (refine orAt_r 1 ?_) | (refine orAt_l ?_) | (with_reducible apply And.intro) | (refine hK _ ?_; clear hK; (try clear K)))); (all_goals (try (first | omega | (intro hh; simp only [Bool.not_eq_true', decide_eq_false_iff_not] at hh ⊢; (omega))))))
  ((all_goals (try refine fin_pure (by (try simp only [forall_eq, resOk, List.mem_cons, List.not_mem_nil, or_false])) ?_ (by ((try dsimp only); repeat' ((with_reducible exact .refl _)))))); (all_goals (try simp only [go_sem, ↓reduceIte, checkE])); (all_goals (try (((simp [*]; done))))))
end Go.Proofs.YtababmnmkmgbbaaGreat
/-
  A part of the proof: its theorems say what each gives.
-/
set_option maxRecDepth 100000
set_option linter.unusedSimpArgs false
set_option linter.unusedVariables false
namespace Go.Proofs.YtababmnmkmgbbaaGreat
open Go Fw
/-! Package rel, in plain Lean. -/
def cmpR : List Val → List Val → Int := cmpL cmpV
def colI (cols : List Col) (k : ByteArray) : Int := idxL (fun c : Col => decide (c.nm = k)) cols
def colsE : List Col → List Col → Int
  | _, [] => 0
  | pre, c :: l => if nameB c.nm = false then 15 else if pre.any (fun d => decide (d.nm = c.nm)) = true then 5 else if c.kd < 1 ∨ 5 < c.kd then 8 else colsE (pre ++ [c]) l
def keysE (cols : List Col) : List ByteArray → List ByteArray → Int
  | _, [] => 0
  | pre, k :: l => if colI cols k < 0 then 15 else if pre.any (fun d => decide (k = d)) = true then 5 else keysE cols (pre ++ [k]) l
def headE (r : Rel) : Int := if nameB r.nm = false then 15 else if r.cols.length = 0 then 3 else if 12 < r.cols.length then 2 else if colsE [] r.cols = 0 then keysE r.cols [] r.key else colsE [] r.cols
def valsE : List Col → List Val → Int
  | c :: m, v :: l => if checkE v = 0 then (if v.k ≠ c.kd ∧ v.k ≠ 11 then 8 else valsE m l) else checkE v
  | _, _ => 0
def rowE (cols : List Col) (l : List Val) : Int := if l.length = cols.length then valsE cols l else 3
def rowsE (cols : List Col) : List (List Val) → List (List Val) → Int
  | _, [] => 0
  | pre, l :: ls => if rowE cols l = 0 then (if pre.getLast?.any (fun q => decide (0 ≤ cmpR q l)) = true then 9 else rowsE cols (pre ++ [l]) ls) else rowE cols l
def keyAt (cols : List Col) (k : ByteArray) : Nat := (colI cols k).toNat
def agreeB (r : Rel) (a b : List Val) : Bool := !(r.key.any fun k => !decide (cmpV (a.getD (keyAt r.cols k) (.mk 0 0 ⟨#[]⟩ [])) (b.getD (keyAt r.cols k) (.mk 0 0 ⟨#[]⟩ [])) = 0))
def pairsE (r : Rel) : List (List Val) → List (List Val) → Int
  | _, [] => 0
  | pre, a :: ls => if pre.any (fun b => agreeB r a b) = true then 16 else pairsE r (pre ++ [a]) ls
def relE (r : Rel) : Int := if headE r = 0 then (if 300 < r.rows.length then 2 else if rowsE r.cols [] r.rows = 0 then (if r.key.length = 0 then 0 else pairsE r [] r.rows) else rowsE r.cols [] r.rows) else headE r
def relsE : List Rel → List Rel → Int
  | _, [] => 0
  | pre, r :: l => if relE r = 0 then (if pre.getLast?.any (fun q => decide (0 ≤ cmpS q.nm r.nm)) = true then 9 else relsE (pre ++ [r]) l) else relE r
def baseE (b : List Rel) : Int := if 12 < b.length then 2 else relsE [] b
def findR (b : List Rel) (nm : ByteArray) : Option Rel := b.find? fun r => decide (r.nm = nm)
end Go.Proofs.YtababmnmkmgbbaaGreat
