/-
  A part of the proof: its theorems say what each gives.
-/
import Derived.Test.YtababmnmkmgbbaaGreatKM6
import Derived.Test.YtababmnmkmgbbaaGreatKM4
set_option maxRecDepth 100000
set_option maxHeartbeats 4000000
set_option linter.unusedSimpArgs false
set_option linter.unusedVariables false
namespace Go.Proofs.YtababmnmkmgbbaaGreat
open Go Fw
/-- What CompareFunc gives over lists of n and m elements whose comparison at i is c i. -/
def cmpN (c : Nat → Int) (n m : Nat) : Int := if firstE c (min n m) = 0 then cmpI n m else firstE c (min n m)
theorem c_CompareField (xs ys : List AV) (q : Nat) (c : Nat → Int) (H : Hp) (hx : ∀ i, i < xs.length → ∃ a b c d e, xs.getD i .any = .agg [.con (.string a), .con (.int .i64 b), .con (.int .i64 c), .con (.string d), .list e none])
    (hy : ∀ i, i < ys.length → ∃ a b c d e, ys.getD i .any = .agg [.con (.string a), .con (.int .i64 b), .con (.int .i64 c), .con (.string d), .list e none]) (hn : xs.length ≤ 4611686018427387904) (hm : ys.length ≤ 4611686018427387904)
    (hp : ∀ i, i < xs.length → i < ys.length → ∀ H, PureAt Tryz.prog q [xs.getD i .any, ys.getD i .any] H (.con (.int .i64 (c i)))) :
    PureAt Tryz.prog 242 [.list xs none, .list ys none, .fn q []] H (.con (.int .i64 (cmpN c xs.length ys.length))) := by
  refine acalls_of (by kernel_rfl) Tryz.func242 rfl 39 Tryz.ntmps242 (by simp) [.tmp 6] rfl ?_
  ((repeat' (first | (refine awp_seq_k (fun K hK => ?_)) | (refine awp_block ?_) | (refine awp_reg _ rfl ?_; (try simp only [go_sem, Nat.reduceLT, Nat.reduceAdd, ↓reduceIte, reduceCtorEq])) | (refine hK _ ?_; clear hK; (try clear K)))))
  refine awp_loop (ι := Nat) (fun i => ⟨39, [(1, .list ys none), (0, .list xs none), (2, .fn q []), (11, .list xs none), (12, .con (.int .i64 xs.length)), (13, .con (.int .i64 (i : Int)))], H⟩)
    (fun i => i ≤ xs.length ∧ i ≤ ys.length ∧ ∀ j, j < i → c j = 0) (fun i => xs.length - i) 0 ⟨by omega, by omega, fun j hj => by omega⟩ ?_ ?_
  · (refine st_le rfl ?_ (by ((try dsimp only); repeat' ((with_reducible exact .refl _)))); (try simp only [go_sem, Nat.reduceEqDiff, ↓reduceIte, reduceCtorEq]))
  intro i ⟨hi, hi2, h0⟩
  rcases Nat.lt_or_ge i xs.length with hlt | hge
  · rcases Nat.lt_or_ge i ys.length with hlt2 | hge2
    · obtain ⟨a1, a2, a3, a4, a5, hg⟩ := hx i hlt
      obtain ⟨b1, b2, b3, b4, b5, hg2⟩ := hy i hlt2
      have hpi := hp i hlt hlt2
      rw [hg, hg2] at hpi
      ((repeat' (first | (refine awp_seq_k (fun K hK => ?_)) | (refine awp_block ?_) | (refine awp_reg _ rfl ?_; (try simp only [go_sem, Nat.reduceLT, Nat.reduceEqDiff, Nat.reduceLeDiff, Nat.reduceAdd, ↓reduceIte, reduceCtorEq, wrap_succ i (by omega), hg, hg2])) | (refine awp_cond _ rfl (fun hc => ?_) (fun hc => ?_) <;> (try (simp only [decide_eq_true_eq, decide_eq_false_iff_not, Decidable.not_not] at hc)) <;> (try (exfalso; omega))) | (refine awp_skip ?_; (try simp only [sq, bk])) | (refine awp_ret ?_; (try simp only [sq, bk])) | (refine PureAt.use (hpi _) ?_ <;> (try simp only [go_sem])) | (refine orAt_r 8 ?_; (try simp only [go_sem, Nat.reduceLT, Nat.reduceEqDiff, Nat.reduceAdd, ↓reduceIte])) | (refine orAt_r 9 ?_; (try simp only [go_sem, Nat.reduceLT, Nat.reduceAdd, ↓reduceIte])) | (refine orAt_l ?_) | (with_reducible apply And.intro) | (refine hK _ ?_; clear hK; (try clear K)))); (all_goals (try ((omega)))))
      · have e : cmpN c xs.length ys.length = c i := by
          unfold cmpN
          rw [firstE_hit (i := i) (by omega) (by assumption) h0, if_neg (by assumption)]
        ((all_goals (try refine fin_pure (by (try simp only [forall_eq, resOk, List.mem_cons, List.not_mem_nil, or_false])) ?_ (by ((try dsimp only); repeat' ((with_reducible exact .refl _)))))); (all_goals (try simp only [go_sem, ↓reduceIte, e])))
      · refine ⟨i + 1, by omega, ⟨by omega, by omega, fun j hj => ?_⟩, ?_⟩
        · rcases Nat.lt_succ_iff_lt_or_eq.1 hj with h | rfl
          · exact h0 j h
          · assumption
        · (refine st_le rfl ?_ (by ((try dsimp only); repeat' ((with_reducible exact .refl _)))); (try simp only [go_sem, Nat.reduceEqDiff, ↓reduceIte, reduceCtorEq]))
    · obtain rfl : i = ys.length := by omega
      obtain ⟨a1, a2, a3, a4, a5, hg⟩ := hx _ hlt
      have e : cmpN c xs.length ys.length = 1 := by
        unfold cmpN
        rw [firstE_miss fun j hj => h0 j (by omega), if_pos rfl, cmpI, if_neg (by omega), if_pos (by omega)]
      ((repeat' (first | (refine awp_seq_k (fun K hK => ?_)) | (refine awp_block ?_) | (refine awp_reg _ rfl ?_; (try simp only [go_sem, Nat.reduceLT, Nat.reduceEqDiff, Nat.reduceLeDiff, Nat.reduceAdd, ↓reduceIte, reduceCtorEq, hg])) | (refine awp_cond _ rfl (fun hc => ?_) (fun hc => ?_) <;> (try (simp only [decide_eq_true_eq, decide_eq_false_iff_not] at hc)) <;> (try (exfalso; omega))) | (refine awp_skip ?_; (try simp only [sq])) | (refine awp_ret ?_; (try simp only [sq, bk])) | (refine orAt_r 8 ?_; (try simp only [go_sem, Nat.reduceLT, Nat.reduceEqDiff, Nat.reduceAdd, ↓reduceIte])) | (with_reducible apply And.intro) | (refine hK _ ?_; clear hK; (try clear K)))); (all_goals (try ((omega)))))
      ((all_goals (try refine fin_pure (by (try simp only [forall_eq, resOk, List.mem_cons, List.not_mem_nil, or_false])) ?_ (by ((try dsimp only); repeat' ((with_reducible exact .refl _)))))); (all_goals (try simp only [go_sem, ↓reduceIte, e])))
  · obtain rfl : i = xs.length := by omega
    have e : cmpN c xs.length ys.length = cmpI xs.length ys.length := by
      unfold cmpN
      rw [firstE_miss fun j hj => h0 j (by omega), if_pos rfl]
    ((repeat' (first | (refine awp_seq_k (fun K hK => ?_)) | (refine awp_reg _ rfl ?_; (try simp only [go_sem, Nat.reduceLT, Nat.reduceEqDiff, ↓reduceIte, reduceCtorEq])) | (refine awp_cond _ rfl (fun hc => ?_) (fun hc => ?_) <;> (try (simp only [decide_eq_true_eq, decide_eq_false_iff_not] at hc)) <;> (try (exfalso; omega))) | (refine awp_skip ?_; (try simp only [sq])) | (refine awp_exit ?_; (try simp only [sq, bk, ↓reduceIte])) | (refine awp_ret ?_; (try simp only [sq])) | (refine hK _ ?_; clear hK; (try clear K)) | (refine kk (by assumption) ?_))))
    all_goals ((all_goals (try refine fin_pure (by (try simp only [forall_eq, resOk, List.mem_cons, List.not_mem_nil, or_false])) ?_ (by ((try dsimp only); repeat' ((with_reducible exact .refl _)))))); (all_goals (try simp only [go_sem, ↓reduceIte, e, cmpI])); (all_goals (try (((simp [*]; done))))))
def ordI (n : Int) : Int := if n < 0 then IntKind.i64.wrap (-1 - Go.bits .and .i64 n 9223372036854775807) else n
theorem c_order (n : Int) (H : Hp) : PureAt Tryz.prog 240 [.con (.int .i64 n)] H (.con (.int .i64 (ordI n))) := by
  refine acalls_of (by kernel_rfl) Tryz.func240 rfl 9 Tryz.ntmps240 (by simp) [.tmp 2] rfl ?_
  ((repeat' (first | (refine awp_seq_k (fun K hK => ?_)) | (refine awp_reg _ rfl ?_; (try simp only [go_sem, Nat.reduceLT, Nat.reduceAdd, ↓reduceIte, reduceCtorEq])) | (refine awp_cond _ rfl (fun hc => ?_) (fun hc => ?_) <;> (try (simp only [decide_eq_true_eq, decide_eq_false_iff_not] at hc))) | (refine awp_skip ?_; (try simp only [sq])) | (refine awp_ret ?_; (try simp only [sq])) | (refine hK _ ?_; clear hK; (try clear K)))))
  ((all_goals (try refine fin_pure (by (try simp only [forall_eq, resOk, List.mem_cons, List.not_mem_nil, or_false])) ?_ (by ((try dsimp only); repeat' ((with_reducible exact .refl _)))))); (all_goals (try simp only [go_sem, ↓reduceIte, ordI])); (all_goals (try (((simp [*]; done))))))
mutual
/-- What Cmp gives. -/
def cmpV : Val → Val → Int
  | .mk k n s fs, .mk k' n' s' fs' =>
    if firstL (fun x => x) [cmpI k k', cmpI (if k = 3 then ordI n else n) (if k = 3 then ordI n' else n'), cmpS s s'] = 0 then cmpFs fs fs'
    else firstL (fun x => x) [cmpI k k', cmpI (if k = 3 then ordI n else n) (if k = 3 then ordI n' else n'), cmpS s s']
def cmpFs : List Fld → List Fld → Int
  | [], [] => 0
  | [], _ :: _ => -1
  | _ :: _, [] => 1
  | f :: r, g :: r' => if cmpF f g = 0 then cmpFs r r' else cmpF f g
def cmpF : Fld → Fld → Int
  | .mk nm v, .mk nm' v' => firstL (fun x => x) [cmpS nm nm', cmpV v v']
end
def cmpAt (fs gs : List Fld) (i : Nat) : Int := match fs[i]?, gs[i]? with | some f, some g => cmpF f g | _, _ => 0
theorem firstE_shift (g : Nat → Int) : ∀ n, firstE g (n + 1) = if g 0 = 0 then firstE (fun i => g (i + 1)) n else g 0
  | 0 => by simp [firstE]
  | n + 1 => by
    rw [firstE, firstE_shift g n]
    by_cases h : g 0 = 0
    · simp only [if_pos h]; rfl
    · simp only [if_neg h]
theorem cmpFs_eq : ∀ fs gs : List Fld, cmpFs fs gs = cmpN (cmpAt fs gs) fs.length gs.length
  | [], [] => by simp [cmpFs, cmpN, firstE, cmpI]
  | [], g :: r => by simp [cmpFs, cmpN, firstE, cmpI]; try omega
  | f :: r, [] => by simp [cmpFs, cmpN, firstE, cmpI]; try omega
  | f :: r, g :: r' => by
    rw [cmpFs, cmpFs_eq r r']
    unfold cmpN
    rw [List.length_cons, List.length_cons, Nat.succ_min_succ, firstE_shift]
    have h0 : cmpAt (f :: r) (g :: r') 0 = cmpF f g := rfl
    have h1 : (fun i => cmpAt (f :: r) (g :: r') (i + 1)) = cmpAt r r' := by funext i; simp [cmpAt]
    rw [h0, h1]
    by_cases h : cmpF f g = 0
    · simp only [if_pos h]
      have : cmpI (r.length + 1 : Nat) (r'.length + 1 : Nat) = cmpI r.length r'.length := by unfold cmpI; simp
      rw [this]
    · simp only [if_neg h]
theorem c_Cmp_aux : ∀ (m : Nat) (k n : Int) (s : ByteArray) (fs : List Fld) (k' n' : Int) (s' : ByteArray) (gs : List Fld) (H : Hp), sizeV (.mk k n s fs) ≤ m → m ≤ 4611686018427387904 → sizeV (.mk k' n' s' gs) ≤ 4611686018427387904 →
    PureAt Tryz.prog 154 [.agg [.con (.int .i64 k), .con (.int .i64 n), .con (.string s), .list (encFs fs) none], .agg [.con (.int .i64 k'), .con (.int .i64 n'), .con (.string s'), .list (encFs gs) none]] H
      (.con (.int .i64 (cmpV (.mk k n s fs) (.mk k' n' s' gs)))) := by
  intro m
  induction m with
  | zero => intro k n s fs k' n' s' gs H h; have := sizeV_pos (.mk k n s fs); omega
  | succ m ih =>
  intro k n s fs k' n' s' gs H hm hb hl'
  rw [sizeV] at hm
  have hlen := len_sizeFs fs
  rw [sizeV] at hl'
  have hlen' := len_sizeFs gs
  rw [cmpV]
  have cf : ∀ H, PureAt Tryz.prog 242 [.list (encFs fs) none, .list (encFs gs) none, .fn 243 []] H (.con (.int .i64 (cmpFs fs gs))) := by
    intro H
    have := c_CompareField (encFs fs) (encFs gs) 243 (cmpAt fs gs) H (fun i hi => by
      obtain ⟨_, _, _, _, _, hg⟩ := encFs_get_at (by rw [encFs_length] at hi; exact hi); exact ⟨_, _, _, _, _, hg⟩) (fun i hi => by
      obtain ⟨_, _, _, _, _, hg⟩ := encFs_get_at (by rw [encFs_length] at hi; exact hi); exact ⟨_, _, _, _, _, hg⟩) (by rw [encFs_length]; omega) (by rw [encFs_length]; omega) (fun i h1 h2 H => by
      obtain ⟨k1, n1, s1, f1, e1, hg1⟩ := encFs_get_at (by rw [encFs_length] at h1; exact h1)
      obtain ⟨k2, n2, s2, f2, e2, hg2⟩ := encFs_get_at (by rw [encFs_length] at h2; exact h2)
      rw [hg1, hg2]
      have hz := (sizeFs_at e1).2
      rw [sizeF] at hz
      have hz' := (sizeFs_at e2).2
      rw [sizeF] at hz'
      have e3 : cmpAt fs gs i = firstL (fun x => x) [cmpS (nmAt fs i) (nmAt gs i), cmpV (.mk k1 n1 s1 f1) (.mk k2 n2 s2 f2)] := by unfold cmpAt; rw [e1, e2]; simp only [cmpF]
      rw [e3]
      refine acalls_of (by kernel_rfl) Tryz.func243 rfl 17 Tryz.ntmps243 (by simp) [.tmp 4] rfl ?_
      have e4 : ∀ x y : Int, [AV.con (.int .i64 x), .con (.int .i64 y)] = [x, y].map fun n => .con (.int .i64 n) := fun _ _ => rfl
      ((repeat' (first | (refine awp_seq_k (fun K hK => ?_)) | (refine awp_reg _ rfl ?_; (try simp only [go_sem, Nat.reduceLT, Nat.reduceEqDiff, Nat.reduceAdd, ↓reduceIte, reduceCtorEq])) | (refine awp_drawn (by kernel_rfl) (by kernel_rfl) ?_; (try simp only [go_sem, Nat.reduceLT, Nat.reduceEqDiff, Nat.reduceLeDiff, Nat.reduceAdd, Nat.reduceMul, ↓reduceIte, reduceCtorEq])) | (refine awp_ret ?_) | (refine ⟨_, c_strCompare _ _ _, ?_⟩ <;> (try simp only [go_sem, Nat.reduceAdd])) | (refine ⟨_, ih k1 n1 s1 f1 k2 n2 s2 f2 _ (by omega) (by omega) (by omega), ?_⟩ <;> (try simp only [go_sem, Nat.reduceAdd])) | (refine ⟨_, c_cmpOr [_, _] _ (by simp), ?_⟩ <;> (try simp only [go_sem])) | (refine orAt_r 2 ?_) | (refine orAt_r 3 ?_) | (with_reducible apply And.intro) | (refine hK _ ?_; clear hK; (try clear K)))); (all_goals (try ((decide)))))
      ((all_goals (try refine fin_pure (by (try simp only [forall_eq, resOk, List.mem_cons, List.not_mem_nil, or_false])) ?_ (by ((try dsimp only); repeat' ((with_reducible exact .refl _)))))); (all_goals (try simp only [go_sem, ↓reduceIte]))))
    rwa [encFs_length, encFs_length, ← cmpFs_eq] at this
  refine acalls_of (by kernel_rfl) Tryz.func154 rfl 42 Tryz.ntmps154 (by simp) [.tmp 4] rfl ?_
  ((repeat' (first | (refine awp_seq_k (fun K hK => ?_)) | (refine awp_reg _ rfl ?_; (try simp only [go_sem, Nat.reduceLT, Nat.reduceEqDiff, Nat.reduceLeDiff, Nat.reduceAdd, ↓reduceIte, reduceCtorEq])) | (refine awp_drawn (by kernel_rfl) (by kernel_rfl) ?_; (try simp only [go_sem, Nat.reduceLT, Nat.reduceEqDiff, Nat.reduceLeDiff, Nat.reduceAdd, Nat.reduceMul, ↓reduceIte, reduceCtorEq])) | (refine awp_cond _ rfl (fun hc => ?_) (fun hc => ?_) <;> (try (simp only [decide_eq_true_eq, decide_eq_false_iff_not, Decidable.not_not] at hc))) | (refine awp_skip ?_; (try simp only [sq])) | (refine awp_ret ?_; (try simp only [sq])) | (refine PureAt.use (c_order _ _) ?_ <;> (try simp only [go_sem])) | (refine PureAt.use (cf _) ?_ <;> (try simp only [go_sem])) | (refine ⟨_, c_cmpCompare _ _ _, ?_⟩ <;> (try simp only [go_sem, Nat.reduceAdd])) | (refine ⟨_, c_strCompare _ _ _, ?_⟩ <;> (try simp only [go_sem, Nat.reduceAdd])) | (refine ⟨_, c_cmpOr [_, _, _] _ (by simp), ?_⟩ <;> (try simp only [go_sem])) | (refine orAt_r 2 ?_) | (refine orAt_r 3 ?_) | (refine orAt_l ?_) | (with_reducible apply And.intro) | (refine hK _ ?_; clear hK; (try clear K)))); (all_goals (try ((decide)))))
  all_goals ((all_goals (try refine fin_pure (by (try simp only [forall_eq, resOk, List.mem_cons, List.not_mem_nil, or_false])) ?_ (by ((try dsimp only); repeat' ((with_reducible exact .refl _)))))); (all_goals (try simp only [go_sem, ↓reduceIte])); (all_goals (try (first | (simp [*]; done) | (simp_all; done)))))
theorem c_Cmp (v u : Val) (H : Hp) (h : sizeV v ≤ 4611686018427387904) (h' : sizeV u ≤ 4611686018427387904) : PureAt Tryz.prog 154 [encV v, encV u] H (.con (.int .i64 (cmpV v u))) := by
  obtain ⟨k, n, s, fs⟩ := v
  obtain ⟨k', n', s', gs⟩ := u
  rw [encV_mk, encV_mk]
  exact c_Cmp_aux _ k n s fs k' n' s' gs H (Nat.le_refl _) h h'
end Go.Proofs.YtababmnmkmgbbaaGreat
/-
  A part of the proof: its theorems say what each gives.
-/
set_option maxRecDepth 100000
set_option linter.unusedSimpArgs false
set_option linter.unusedVariables false
namespace Go.Proofs.YtababmnmkmgbbaaGreat
open Go Fw
/-! Values that compare alike are alike. -/
def okI (n : Int) : Prop := -9223372036854775808 ≤ n ∧ n ≤ 9223372036854775807
theorem firstL_zero {α : Type} {g : α → Int} {l : List α} : firstL g l = 0 ↔ ∀ a ∈ l, g a = 0 := by
  induction l with
  | nil => simp [firstL]
  | cons a l ih =>
    simp only [firstL, List.mem_cons, forall_eq_or_imp]
    split
    · rename_i h; rw [ih]; simp [h]
    · rename_i h; simp [h]
theorem cmpI_self (a : Int) : cmpI a a = 0 := by simp [cmpI]
theorem cmpB_self : ∀ l : List UInt8, Lib.compareBytes l l = 0 := by
  intro l
  induction l with
  | nil => simp [Lib.compareBytes]
  | cons a l ih => simp [Lib.compareBytes, ih]
theorem cmpS_self (a : ByteArray) : cmpS a a = 0 := cmpB_self _
mutual
theorem cmpV_self : ∀ v : Val, cmpV v v = 0
  | .mk k n s fs => by
    rw [cmpV, cmpI_self, cmpI_self, cmpS_self, cmpFs_self fs]; simp [firstL]
theorem cmpFs_self : ∀ fs : List Fld, cmpFs fs fs = 0
  | [] => by rw [cmpFs]
  | f :: r => by rw [cmpFs, cmpF_self f, cmpFs_self r]; simp
theorem cmpF_self : ∀ f : Fld, cmpF f f = 0
  | .mk nm v => by rw [cmpF, cmpS_self, cmpV_self v]; simp [firstL]
end
theorem ordI_neg {n : Int} (h : okI n) (h0 : n < 0) : ordI n = -9223372036854775809 - n := by
  obtain ⟨m, hm⟩ : ∃ m : Nat, n = (m : Int) - 9223372036854775808 := ⟨(n + 9223372036854775808).toNat, by unfold okI at h; omega⟩
  have hm2 : m < 9223372036854775808 := by omega
  have e1 : Go.bits .and .i64 n 9223372036854775807 = (m : Int) := by
    subst hm
    have h1 : (BitVec.ofInt 64 ((m : Int) - 9223372036854775808)).toNat = m + 9223372036854775808 := by
      rw [BitVec.toNat_ofInt]; omega
    have h2 : (BitVec.ofInt 64 9223372036854775807).toNat = 2 ^ 63 - 1 := by decide
    have h3 : (m + 9223372036854775808) &&& (2 ^ 63 - 1) = m := by
      rw [Nat.and_two_pow_sub_one_eq_mod]; omega
    show IntKind.i64.wrap ((BitVec.ofInt 64 ((m : Int) - 9223372036854775808) &&& BitVec.ofInt 64 9223372036854775807).toNat : Int) = _
    rw [BitVec.toNat_and, h1, h2, h3]
    exact wrap_id (by omega) (by omega)
  unfold ordI
  rw [if_pos h0, e1, wrap_id (by omega) (by omega)]
  omega
theorem ordI_inj {a b : Int} (ha : okI a) (hb : okI b) (h : ordI a = ordI b) : a = b := by
  by_cases h1 : a < 0 <;> by_cases h2 : b < 0
  · rw [ordI_neg ha h1, ordI_neg hb h2] at h; omega
  · rw [ordI_neg ha h1] at h; unfold ordI at h; rw [if_neg h2] at h; unfold okI at ha hb; omega
  · rw [ordI_neg hb h2] at h; unfold ordI at h; rw [if_neg h1] at h; unfold okI at ha hb; omega
  · unfold ordI at h; rw [if_neg h1, if_neg h2] at h; exact h
theorem cmpI_eq {a b : Int} (h : cmpI a b = 0) : a = b := by unfold cmpI at h; split at h <;> (try split at h) <;> omega
theorem cmpB_eq : ∀ {a b : List UInt8}, Lib.compareBytes a b = 0 → a = b
  | [], [], _ => rfl
  | [], _ :: _, h => by simp [Lib.compareBytes] at h
  | _ :: _, [], h => by simp [Lib.compareBytes] at h
  | a :: l, b :: m, h => by
    unfold Lib.compareBytes at h
    split at h
    · cases h
    · split at h
      · cases h
      · rename_i h1 h2
        have : a = b := by
          rw [UInt8.lt_iff_toNat_lt] at h1 h2
          exact UInt8.toNat_inj.1 (by omega)
        rw [this, cmpB_eq h]
theorem cmpS_eq {a b : ByteArray} (h : cmpS a b = 0) : a = b := by
  have := cmpB_eq h
  cases a; cases b
  simp at this
  rw [this]
mutual
/-- Whole numbers in their bounds, at all levels. -/
def numV : Val → Prop
  | .mk _ n _ fs => okI n ∧ numFs fs
def numFs : List Fld → Prop
  | [] => True
  | f :: r => numF f ∧ numFs r
def numF : Fld → Prop
  | .mk _ v => numV v
end
mutual
theorem cmpV_zero : ∀ {v w : Val}, numV v → numV w → cmpV v w = 0 → v = w
  | .mk k n s fs, .mk k' n' s' fs', hv, hw, h => by
    rw [numV] at hv hw
    rw [cmpV] at h
    by_cases h0 : firstL (fun x => x) [cmpI k k', cmpI (if k = 3 then ordI n else n) (if k = 3 then ordI n' else n'), cmpS s s'] = 0
    · rw [if_pos h0] at h
      have hz := firstL_zero.1 h0
      have e1 := cmpI_eq (hz _ (by simp) : cmpI k k' = 0)
      have e2 := cmpI_eq (hz _ (by simp) : cmpI (if k = 3 then ordI n else n) (if k = 3 then ordI n' else n') = 0)
      have e3 := cmpS_eq (hz _ (by simp) : cmpS s s' = 0)
      have e4 := cmpFs_zero hv.2 hw.2 h
      have e5 : n = n' := by
        split at e2
        · exact ordI_inj hv.1 hw.1 e2
        · exact e2
      rw [e1, e5, e3, e4]
    · rw [if_neg h0] at h; exact absurd h h0
theorem cmpFs_zero : ∀ {a b : List Fld}, numFs a → numFs b → cmpFs a b = 0 → a = b
  | [], [], _, _, _ => rfl
  | [], _ :: _, _, _, h => by rw [cmpFs] at h; cases h
  | _ :: _, [], _, _, h => by rw [cmpFs] at h; cases h
  | f :: r, g :: q, ha, hb, h => by
    rw [numFs] at ha hb
    rw [cmpFs] at h
    by_cases h0 : cmpF f g = 0
    · rw [if_pos h0] at h
      rw [cmpF_zero ha.1 hb.1 h0, cmpFs_zero ha.2 hb.2 h]
    · rw [if_neg h0] at h; exact absurd h h0
theorem cmpF_zero : ∀ {a b : Fld}, numF a → numF b → cmpF a b = 0 → a = b
  | .mk nm v, .mk nm' v', ha, hb, h => by
    rw [numF] at ha hb
    rw [cmpF] at h
    have hz := firstL_zero.1 h
    have e1 := cmpS_eq (hz _ (by simp) : cmpS nm nm' = 0)
    have e2 := cmpV_zero ha hb (hz _ (by simp))
    rw [e1, e2]
end
end Go.Proofs.YtababmnmkmgbbaaGreat
