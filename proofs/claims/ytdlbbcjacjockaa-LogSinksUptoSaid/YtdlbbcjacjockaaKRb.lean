/-
  A part of the proof: its theorems say what each gives.
-/
import Derived.Test.YtdlbbcjacjockaaKRa
import Derived.Lib.AppendZerosOnto
import Derived.Lib.Walk
import Derived.Lib.SliceRun
import Derived.WalkKit
set_option maxRecDepth 100000
set_option maxHeartbeats 8000000
set_option linter.unusedSimpArgs false
set_option linter.unusedVariables false
namespace Go.Proofs.Ytdlbbcjacjockaa
open Go Fw
/-! slices.Grow of nil, slices.Concat. -/
open Go.RowKit in
theorem walk_growB (n : Nat) (w : World) (h0 : 0 < n) (hn : n ≤ 1000000000) :
    Calls Try.prog 44 #[.slice none 0 0, .int .i64 n] w fun e w' => e = .returned (.slice (some ⟨w.heap.size, 0, none⟩) 0 (grownCap w n 0 5)) ∧
      w' = w.drew.alloc (.cells (Builtin.zeroCells (Value.int .u8 0).cells n ++ Builtin.zeroCells (Value.int .u8 0).cells (grownCap w n 0 5 - n)) 5) := by
  obtain ⟨i0, hi0⟩ : ∃ i0, Try.prog.info? 5 = some i0 := Option.isSome_iff_exists.1 (by kernel_rfl)
  have hz0 : i0.zero = some (.int .u8 0) := by have := ty_bz5; rw [hi0] at this; exact this
  have hs0 : i0.size = 1 := by have := ty_sz5; unfold tsz at this; rw [hi0] at this; simpa using this
  have hb0 : i0.bytes = 1 := by
    have := ty_elem23
    unfold telem at this
    rw [Try.underlying23] at this
    simp only [hi0, Option.map_some, Option.some.injEq, Prod.mk.injEq] at this
    exact this.2.2
  have h1 : ¬ ((n : Int) < 0) := by omega
  have h3 : wrap64 ((n : Int) - 0) = (n : Int) := by unfold wrap64; omega
  have h4 : (n : Int) > 0 := by omega
  have hrz : ∀ ty, (Builtin.append_ #[23, 3] ty #[.slice none 0 0, .int .i64 (n : Int)]).run Try.prog w = _ := fun ty =>
    Lib.run_append_nil_zeros w 23 3 ty 5 i0 _ .i64 .i64 Try.underlying23 Try.underlying3 hi0 hz0 n h0 (by omega) (by omega) (by rw [hb0]; omega)
  go_enter Try.func44, Try.ntmps44
  go_wp2_with (at_builtin; refine Lib.wpList_append_run _ rfl _ _ _ _ rfl _ _ rfl rfl _ _ (hrz _) ?_)
  all_goals (go_ret; exact ⟨rfl, rfl⟩)
theorem walk_grow0 (w : World) : Calls Try.prog 44 #[.slice none 0 0, .int .i64 0] w fun e w' => e = .returned (.slice none 0 0) ∧ w' = w := by
  go_enter Try.func44, Try.ntmps44
  go_wp2
  all_goals (go_ret; exact ⟨rfl, rfl⟩)
theorem vs_two {σ : G} {w : World} {x y : Value} {vs : Array Value} (hv : VRs σ w [.con x, .con y] vs) : vs = #[x, y] := by
  have h1 := hv.2 0 (by simp)
  have h2 := hv.2 1 (by simp)
  simp only [List.getD_cons_zero, List.getD_cons_succ] at h1 h2
  have hsz := hv.1
  simp only [List.length_cons, List.length_nil] at hsz
  apply Array.ext
  · simp [hsz]
  · intro i hi hi'
    rcases (show i = 0 ∨ i = 1 by omega) with rfl | rfl
    · generalize hu : vs.getD 0 undef = u at h1
      cases h1
      simpa [Array.getD_eq_getD_getElem?, hi] using hu
    · generalize hu : vs.getD 1 undef = u at h2
      cases h2
      simpa [Array.getD_eq_getD_getElem?, hi] using hu
theorem c_GrowB (n : Nat) (H : Hp) (hn : n ≤ 1000000000) : ACalls Try.prog 44 [.con (.slice none 0 0), .con (.int .i64 (n : Int))] H
    fun r H' => ∃ t, fresh H t ∧ r = .list (encB []) (some t) ∧ H' = ⟨H.bx, (t, 0, 5, 1) :: H.tk⟩ := by
  rcases Nat.eq_zero_or_pos n with rfl | h0
  · refine acalls_niltok 5 1 (R := fun r H' => r = .con (.slice none 0 0) ∧ H' = H) ?_ (fun r H' ⟨h1, h2⟩ => .inr ⟨h1, fun t ht => ⟨t, by rw [← h2]; exact ht, rfl, by rw [h2]⟩⟩)
    refine ⟨by kernel_rfl, fun σ w vs hs hv => ?_⟩
    have e := vs_two hv
    subst e
    refine (walk_grow0 w).mono fun x w' ⟨h1, h2⟩ => ?_
    subst h1 h2
    exact ⟨.con (.slice none 0 0), H, σ, _, rfl, ⟨rfl, rfl⟩, .refl _ _, hs, .con _⟩
  · refine ⟨by kernel_rfl, fun σ w vs hs hv => ?_⟩
    have e := vs_two hv
    subst e
    refine (walk_growB n w h0 hn).mono fun x w' ⟨h1, h2⟩ => ?_
    have hE := ext_drew hs
    have hS := sim_drew hs
    have hge := grownCap_ge w n 0 5
    have hmx := grownCap_le_maxLen w n 0 5 (by unfold maxLen; omega)
    have hzc : ∀ k, (Builtin.zeroCells (Value.int .u8 0).cells k).size = k := fun k => by simp [Builtin.zeroCells, Value.cells]
    obtain ⟨σ', t, f1, f2, f3, f4, f5⟩ := alloc_tok (e := 5) (k := 1) (cur := Builtin.zeroCells (Value.int .u8 0).cells n ++ Builtin.zeroCells (Value.int .u8 0).cells (grownCap w n 0 5 - n)) hS (Nat.zero_le (grownCap w n 0 5)) hmx (by rw [Array.size_append, hzc, hzc]; omega) [] rfl (fun x hx => by cases hx) (fun i j hi => absurd hi (Nat.not_lt_zero _))
    subst h1 h2
    exact ⟨.list [] (some t), _, σ', _, rfl, ⟨t, ⟨f2, f1⟩, rfl, rfl⟩, hE.trans f3, f4, f5⟩
/-! Concat -/
def encBs (l : List Byt) : List AV := l.map fun b => .list (encB b) none
@[go_sem] theorem encBs_length (l : List Byt) : (encBs l).length = l.length := by simp [encBs]
theorem encBs_get {l : List Byt} {i : Nat} (h : i < l.length) : (encBs l).getD i .any = .list (encB l[i]) none := getD_map h
theorem flat_take_le (l : List Byt) (i : Nat) : (l.take i).flatten.length ≤ l.flatten.length := by
  conv => rhs; rw [← List.take_append_drop i l, List.flatten_append, List.length_append]
  omega
theorem flat_snoc {l : List Byt} {i : Nat} (h : i < l.length) : (l.take (i + 1)).flatten = (l.take i).flatten ++ l[i] := by
  rw [List.take_succ_eq_append_getElem h, List.flatten_append]; simp
theorem c_ConcatB (l : List Byt) (H : Hp) (hl : l.length ≤ 1000000) (hf : l.flatten.length ≤ 900000000) : ACalls Try.prog 15 [.list (encBs l) none] H
    fun r H' => ∃ t, fresh H t ∧ r = .list (encB l.flatten) (some t) ∧ H' = ⟨H.bx, (t, l.flatten.length, 5, 1) :: H.tk⟩ := by
  refine acalls_of (by kernel_rfl) Try.func15 rfl 36 Try.ntmps15 (by simp) [.tmp 2] rfl ?_
  ((repeat' (first | (refine awp_seq_k (fun K hK => ?_)) | (refine awp_block ?_) | (refine awp_reg _ rfl ?_; (try simp only [go_sem, Nat.reduceLT, Nat.reduceEqDiff, Nat.reduceLeDiff, Nat.reduceAdd, Nat.reduceMul, Int.reduceToNat, Nat.reducePow, ↓reduceIte, reduceCtorEq])) | (refine hK _ ?_; clear hK; (try clear K)))))
  refine awp_loop (ι := Nat) (fun i => ⟨36, [(0, .list (encBs l) none), (3, .con (.int .i64 ((l.take i).flatten.length : Nat))), (9, .list (encBs l) none), (10, .con (.int .i64 l.length)), (11, .con (.int .i64 (i : Int)))], H⟩) (fun i => i ≤ l.length) (fun i => l.length - i) 0 (by omega) ?_ ?_
  · (refine st_le rfl ?_ (by ((try dsimp only); repeat' ((with_reducible exact .refl _)))); (try simp only [go_sem, Nat.reduceLT, Nat.reduceEqDiff, Nat.reduceLeDiff, Nat.reduceAdd, Nat.reduceMul, Int.reduceToNat, Nat.reducePow, ↓reduceIte, reduceCtorEq, List.take_zero, List.flatten_nil]))
  intro i hi
  rcases Nat.lt_or_ge i l.length with hlt | hge
  · have hg := encBs_get hlt
    have h1 := flat_take_le l (i + 1)
    have hsn := flat_snoc hlt
    have hsl : (l.take (i + 1)).flatten.length = (l.take i).flatten.length + (l[i]).length := by rw [hsn, List.length_append]
    generalize l[i] = b at *
    have hw : IntKind.i64.wrap (((l.take i).flatten.length : Nat) + (b.length : Nat) : Int) = (((l.take (i + 1)).flatten.length : Nat) : Int) := by rw [wrap_id (by omega) (by omega), hsl]; omega
    ((repeat' (first | (refine awp_seq_k (fun K hK => ?_)) | (refine awp_block ?_) | (refine awp_reg _ rfl ?_; (try simp only [go_sem, Nat.reduceLT, Nat.reduceEqDiff, Nat.reduceLeDiff, Nat.reduceAdd, Nat.reduceMul, Int.reduceToNat, Nat.reducePow, ↓reduceIte, reduceCtorEq, hg, hw, wrap_succ i (by omega)])) | (refine awp_cond _ rfl (fun hc => ?_) (fun hc => ?_) <;> (try (simp only [decide_eq_true_eq, decide_eq_false_iff_not, Bool.or_eq_true, Bool.and_eq_true, Bool.not_eq_true', Bool.not_eq_false', Bool.or_eq_false_iff, Bool.and_eq_false_imp, Bool.not_eq_false, Bool.not_eq_true, Bool.not_true, Bool.not_false, Bool.true_eq_false, Bool.false_eq_true, not_true_eq_false, Decidable.not_not, ite_or, ite_and] at hc)) <;> (try (exfalso; omega))) | (refine awp_skip ?_; (try simp only [sq, bk, ↓reduceIte, Nat.reduceEqDiff, reduceCtorEq])) | (with_reducible apply And.intro) | (refine hK _ ?_; clear hK; (try clear K)))); (all_goals (try ((omega)))))
    refine ⟨i + 1, by omega, by omega, ?_⟩
    (refine st_le rfl ?_ (by ((try dsimp only); repeat' ((with_reducible exact .refl _)))); (try simp only [go_sem, Nat.reduceLT, Nat.reduceEqDiff, Nat.reduceLeDiff, Nat.reduceAdd, Nat.reduceMul, Int.reduceToNat, Nat.reducePow, ↓reduceIte, reduceCtorEq]))
  · obtain rfl : i = l.length := by omega
    ((repeat' (first | (refine awp_seq_k (fun K hK => ?_)) | (refine awp_block ?_) | (refine awp_reg _ rfl ?_; (try simp only [go_sem, Nat.reduceLT, Nat.reduceEqDiff, Nat.reduceLeDiff, Nat.reduceAdd, Nat.reduceMul, Int.reduceToNat, Nat.reducePow, ↓reduceIte, reduceCtorEq, List.take_length])) | (refine awp_condF rfl (by (first | rfl | (simp only [decide_eq_true_eq, decide_eq_false_iff_not, Bool.or_eq_true, Bool.and_eq_true, Bool.not_eq_true', Bool.not_eq_false', Bool.or_eq_false_iff, Bool.and_eq_false_imp, Bool.not_true, Bool.not_false, Bool.true_eq_false, Bool.false_eq_true, not_true_eq_false, Decidable.not_not, ite_or, ite_and, List.take_length]; omega))) ?_) | (refine awp_exit ?_; (try simp only [sq, bk, ↓reduceIte, Nat.reduceEqDiff, reduceCtorEq])) | (refine ACalls.ex (c_GrowB _ _ (by omega)) (fun id fr => ?_) <;> ((try simp only [go_sem, Nat.reduceLT, Nat.reduceEqDiff, Nat.reduceLeDiff, Nat.reduceAdd, Nat.reduceMul, Int.reduceToNat, Nat.reducePow, ↓reduceIte, reduceCtorEq, List.take_length]))) | (refine hK _ ?_; clear hK; (try clear K)) | (refine kk (by assumption) ?_))))
    refine awp_loop (ι := Nat) (fun i => ⟨36, [(6, .list (encB (l.take i).flatten) (some id)), (25, .list (encBs l) none), (26, .con (.int .i64 l.length)), (27, .con (.int .i64 (i : Int)))], ⟨H.bx, (id, (l.take i).flatten.length, 5, 1) :: H.tk⟩⟩) (fun i => i ≤ l.length) (fun i => l.length - i) 0 (by omega) ?_ ?_
    · (refine st_le rfl ?_ (by ((try dsimp only); (try simp only [List.take_zero, List.flatten_nil,  List.length_append, List.length_cons, List.length_nil, Nat.zero_add]); repeat' (((refine weak_tokeq (by (rfl))))))); (try simp only [go_sem, Nat.reduceLT, Nat.reduceEqDiff, Nat.reduceLeDiff, Nat.reduceAdd, Nat.reduceMul, Int.reduceToNat, Nat.reducePow, ↓reduceIte, reduceCtorEq, List.take_zero, List.flatten_nil]))
    intro i hi
    rcases Nat.lt_or_ge i l.length with hlt | hge
    · have hg := encBs_get hlt
      have h1 := flat_take_le l i
      have h2 := flat_take_le l (i + 1)
      have hsn := flat_snoc hlt
      rw [hsn, List.length_append] at h2
      generalize l[i] = b at *
      ((repeat' (first | (refine awp_seq_k (fun K hK => ?_)) | (refine awp_block ?_) | (refine awp_reg _ rfl ?_; (try simp only [go_sem, Nat.reduceLT, Nat.reduceEqDiff, Nat.reduceLeDiff, Nat.reduceAdd, Nat.reduceMul, Int.reduceToNat, Nat.reducePow, ↓reduceIte, reduceCtorEq, hg, wrap_succ i (by omega)])) | (refine awp_cond _ rfl (fun hc => ?_) (fun hc => ?_) <;> (try (simp only [decide_eq_true_eq, decide_eq_false_iff_not, Bool.or_eq_true, Bool.and_eq_true, Bool.not_eq_true', Bool.not_eq_false', Bool.or_eq_false_iff, Bool.and_eq_false_imp, Bool.not_eq_false, Bool.not_eq_true, Bool.not_true, Bool.not_false, Bool.true_eq_false, Bool.false_eq_true, not_true_eq_false, Decidable.not_not, ite_or, ite_and] at hc)) <;> (try (exfalso; omega))) | (refine awp_skip ?_; (try simp only [sq, bk, ↓reduceIte, Nat.reduceEqDiff, reduceCtorEq])) | (with_reducible apply And.intro) | (refine hK _ ?_; clear hK; (try clear K)))); (all_goals (try ((omega)))))
      refine ⟨i + 1, by omega, by omega, ?_⟩
      rw [hsn]
      (refine st_le rfl ?_ (by ((try dsimp only); (try simp only [encB_append,  List.length_append, List.length_cons, List.length_nil, Nat.zero_add]); repeat' (((refine weak_tokeq (by (rfl))))))); (try simp only [go_sem, Nat.reduceLT, Nat.reduceEqDiff, Nat.reduceLeDiff, Nat.reduceAdd, Nat.reduceMul, Int.reduceToNat, Nat.reducePow, ↓reduceIte, reduceCtorEq, encB_append]))
    · obtain rfl : i = l.length := by omega
      ((repeat' (first | (refine awp_seq_k (fun K hK => ?_)) | (refine awp_reg _ rfl ?_; (try simp only [go_sem, Nat.reduceLT, Nat.reduceEqDiff, Nat.reduceLeDiff, Nat.reduceAdd, Nat.reduceMul, Int.reduceToNat, Nat.reducePow, ↓reduceIte, reduceCtorEq, List.take_length])) | (refine awp_cond _ rfl (fun hc => ?_) (fun hc => ?_) <;> (try (simp only [decide_eq_true_eq, decide_eq_false_iff_not, Bool.or_eq_true, Bool.and_eq_true, Bool.not_eq_true', Bool.not_eq_false', Bool.or_eq_false_iff, Bool.and_eq_false_imp, Bool.not_eq_false, Bool.not_eq_true, Bool.not_true, Bool.not_false, Bool.true_eq_false, Bool.false_eq_true, not_true_eq_false, Decidable.not_not, ite_or, ite_and] at hc)) <;> (try (exfalso; omega))) | (refine awp_exit ?_; (try simp only [sq, bk, ↓reduceIte, Nat.reduceEqDiff, reduceCtorEq])) | (refine awp_ret ?_) | (refine hK _ ?_; clear hK; (try clear K)) | (refine kk (by assumption) ?_))))
      exact fin_le (.list (encB l.flatten) (some id)) _ (by (try simp only [List.mem_singleton, forall_eq, List.mem_cons, List.not_mem_nil, or_false, forall_eq_or_imp, and_self, resOk])) (by simp only [go_sem, Nat.reduceLT, Nat.reduceEqDiff, Nat.reduceLeDiff, Nat.reduceAdd, Nat.reduceMul, Int.reduceToNat, Nat.reducePow, ↓reduceIte, reduceCtorEq]) (.refl _) ⟨id, fr, rfl, rfl⟩
end Go.Proofs.Ytdlbbcjacjockaa
