/-
  A part of the proof: its theorems say what each gives.
-/
import Derived.Test.YtababmnmkmgbbaaGreatKM5
import Derived.Test.YtababmnmkmgbbaaGreatKTy
import Derived.Test.YtababmnmkmgbbaaGreatKFw1
import Derived.Test.YtababmnmkmgbbaaGreatKFw2
import Derived.Test.YtababmnmkmgbbaaGreatKFw3
import Derived.Test.YtababmnmkmgbbaaGreatKDl
import Derived.Laws.StructEq
-- hook hookCol
set_option maxRecDepth 100000
set_option maxHeartbeats 4000000
set_option linter.unusedSimpArgs false
set_option linter.unusedVariables false
namespace Go.Proofs.YtababmnmkmgbbaaGreat
open Go Fw
/-! Columns that are equal. -/
theorem beq_bytes (a b : ByteArray) : (a == b) = decide (a = b) := by
  obtain ⟨x⟩ := a
  obtain ⟨y⟩ := b
  show (x == y) = _
  by_cases h : x = y
  · subst h; simp
  · rw [decide_eq_false (fun e => h (by injection e with e))]
    simpa using h
theorem eq_Col (a b : ByteArray) (m n : Int) (w : World) : (Op.equalIn 10000 106 (.agg #[.string a, .int .i64 m]) (.agg #[.string b, .int .i64 n])).run Tryz.prog w = .ok (decide (a = b) && decide (m = n)) w := by
  have hS : Tryz.prog.underlying 106 = some (.struct (Tryz.prog.fieldsOf 106)) := by kernel_rfl
  have hp : Tryz.prog.stoodInHeld 106 = false := by kernel_rfl
  have hs : Tryz.prog.underlying 9 = some .string := by kernel_rfl
  have hi : Tryz.prog.underlying 3 = some (.int .i64) := by kernel_rfl
  rw [show (10000 : Nat) = 9999 + 1 from rfl, run_equalIn_agg w 9999 106 _ _ hS hp]
  have hf : (Tryz.prog.fieldsOf 106).toList.map (fun f => (f.name == "_", f.type, f.offset)) = [(false, 9, 0), (false, 3, 1)] := by kernel_rfl
  generalize (Tryz.prog.fieldsOf 106).toList = fs at hf
  obtain ⟨f1, f2, rfl⟩ : ∃ f1 f2, fs = [f1, f2] := by
    match fs, hf with
    | [], h => cases h
    | [_], h => simp at h
    | [f1, f2], _ => exact ⟨f1, f2, rfl⟩
    | _ :: _ :: _ :: _, h => simp at h
  simp only [List.map_cons, List.map_nil, List.cons.injEq, Prod.mk.injEq, and_true] at hf
  obtain ⟨⟨n1, t1, o1⟩, n2, t2, o2⟩ := hf
  have m1 : f1.name ≠ "_" := by simpa using n1
  have m2 : f2.name ≠ "_" := by simpa using n2
  have e1 : ∀ w, (Op.equalIn 9999 9 (.string a) (.string b)).run Tryz.prog w = .ok (decide (a = b)) w := fun w => by
    have h := run_equalIn_string w 9998 9 a b hs
    rw [h, ← beq_toListBytes]
    congr 1
    exact beq_bytes a b
  have e2 : ∀ w, (Op.equalIn 9999 3 (.int .i64 m) (.int .i64 n)).run Tryz.prog w = .ok (decide (m = n)) w := fun w => by
    have h := run_equalIn_int w 9998 3 .i64 .i64 m n hi
    rw [h]
    congr 1
  have p1 : ∀ (x y : Value) w, (part 9 #[x, y] 0).run Tryz.prog w = .ok x w := fun x y w => by
    simp [part, Sem.run_bind, run_isAgg ty_agg9]
  have p2 : ∀ (x y : Value) w, (part 3 #[x, y] 1).run Tryz.prog w = .ok y w := fun x y w => by
    simp [part, Sem.run_bind, run_isAgg ty_agg3]
  simp only [Op.eqFields, if_pos m1, if_pos m2, t1, t2, o1, o2, Sem.run_bind, p1, p2, e1, e2, Result.andThen_ok, Sem.run_ite, Sem.run_pure]
  by_cases h1 : a = b <;> by_cases h2 : m = n <;> simp [h1, h2]
/-- A rule of one operation more: two columns, whether they differ. -/
theorem vop_neqCol {H : Hp} {o : Oper} {ρ : Operand → AV} {t2 : TypeId} {x y : Operand} (ho : o.op = .binOp .neq 106 x y t2) (hx : okv (ρ x)) (hy : okv (ρ y)) {a b : ByteArray} {m n : Int}
    (h1 : un (ρ x) = .agg [.con (.string a), .con (.int .i64 m)]) (h2 : un (ρ y) = .agg [.con (.string b), .con (.int .i64 n)]) : VOp Tryz.prog H o ρ (.con (.bool (!(decide (a = b) && decide (m = n))))) := by
  refine vop_same fun σ w ev hs hv => ?_
  have g1 := (hv x (by simp [ho, Op.operands])).un hx
  have g2 := (hv y (by simp [ho, Op.operands])).un hy
  rw [h1] at g1
  rw [h2] at g2
  have two : ∀ {u v : Value} {w1 : Value}, VR σ w (.agg [.con u, .con v]) w1 → w1 = .agg #[u, v] := fun {u v w1} h => by
    cases h with
    | agg _ vs hsz hv =>
      have q0 := vr_con (hv 0 (by simp))
      have q1 := vr_con (hv 1 (by simp))
      congr 1
      refine Array.ext (by simpa using hsz) fun i i1 i2 => ?_
      have : i = 0 ∨ i = 1 := by simp at i2; omega
      rcases this with rfl | rfl
      · simpa [Array.getD_eq_getD_getElem?, i1] using q0
      · simpa [Array.getD_eq_getD_getElem?, i1] using q1
  have k1 := two g1
  have k2 := two g2
  refine ⟨.bool (!(decide (a = b) && decide (m = n))), ?_, .con _⟩
  have hg : Tryz.prog.eqGuardType Tryz.prog.depth 106 = false := by kernel_rfl
  simp only [execOp, ho, k1, k2]
  simp only [Sem.run_bind, run_eqGuard_agg w .neq 106 _ _ _ _ hg, Result.andThen_ok, run_neq_struct, eq_Col, Sem.run_pure]
def hookCol (H : Hp) (ρ : Operand → AV) (op : Op) : Option (Prop × AV) :=
  match op with
  | .binOp .neq t x y _ => if t = 106 then (match un (ρ x), un (ρ y) with
    | .agg [.con (.string a), .con (.int .i64 m)], .agg [.con (.string b), .con (.int .i64 n)] => some (okv (ρ x) ∧ okv (ρ y), .con (.bool (!(decide (a = b) && decide (m = n)))))
    | _, _ => none) else none
  | _ => none
theorem hookCol_sound (H : Hp) (ρ : Operand → AV) (o : Oper) (p : Prop × AV) (h : hookCol H ρ o.op = some p) (hp : p.1) : VOp Tryz.prog H o ρ p.2 := by
  unfold hookCol at h
  split at h
  · rename_i t x y t2 ho
    split at h
    · rename_i ht
      subst ht
      split at h
      · rename_i a m b n e1 e2
        injection h with h
        subst h
        exact vop_neqCol ho hp.1 hp.2 e1 e2
      · cases h
    · cases h
  · cases h
def sameCol (x y : Col) : Bool := decide (x.nm = y.nm) && decide (x.kd = y.kd)
theorem c_EqualCol (l m : List Col) (H : Hp) (hl : l.length ≤ 2000000) (hm : m.length ≤ 2000000) : PureAt Tryz.prog 58 [.list (encCols l) none, .list (encCols m) none] H (.con (.bool (eqL sameCol l m))) := by
  generalize hv : eqL sameCol l m = v
  by_cases hln : l.length = m.length
  rotate_left
  · rw [eqL_ne hln] at hv
    subst hv
    have c1 : ((l.length : Int) = (m.length : Int)) = False := eq_false (by omega)
    refine acalls_of (by kernel_rfl) Tryz.func58 rfl 26 Tryz.ntmps58 (by simp) [.tmp 4] rfl ?_
    ((repeat' (first | (refine awp_seq_k (fun K hK => ?_)) | (refine awp_reg _ rfl ?_; (try simp only [go_sem, Nat.reduceLT, Nat.reduceEqDiff, Nat.reduceLeDiff, Nat.reduceAdd, Nat.reduceMul, Int.reduceToNat, Nat.reducePow, ↓reduceIte, reduceCtorEq, c1, ↓pkv, decide_true, decide_false, bls, if_true, if_false])) | (refine awp_condT rfl (by ((rfl))) ?_) | (refine awp_ret ?_; (try simp only [sq, bk, ↓reduceIte, Nat.reduceEqDiff, reduceCtorEq])) | (refine hK _ ?_; clear hK; (try clear K)))))
    ((all_goals (try refine fin_pure (by (try simp only [forall_eq, resOk, List.mem_cons, List.not_mem_nil, or_false])) ?_ (by ((try dsimp only); repeat' ((with_reducible exact .refl _)))))); (all_goals (try simp only [go_sem, ↓reduceIte])))
  have c1 : ((l.length : Int) = (m.length : Int)) = True := eq_true (by omega)
  refine acalls_of (by kernel_rfl) Tryz.func58 rfl 26 Tryz.ntmps58 (by simp) [.tmp 4] rfl ?_
  ((repeat' (first | (refine awp_seq_k (fun K hK => ?_)) | (refine awp_block ?_) | (refine awp_reg _ rfl ?_; (try simp only [go_sem, Nat.reduceLT, Nat.reduceEqDiff, Nat.reduceLeDiff, Nat.reduceAdd, Nat.reduceMul, Int.reduceToNat, Nat.reducePow, ↓reduceIte, reduceCtorEq, c1, ↓pkv, decide_true, decide_false, bls, if_true, if_false])) | (refine awp_condF rfl (by ((rfl))) ?_) | (refine awp_skip ?_; (try simp only [sq, bk, ↓reduceIte, Nat.reduceEqDiff, reduceCtorEq])) | (refine hK _ ?_; clear hK; (try clear K)))))
  refine awp_loopKH (ι := Nat) [0, 1, 12] (fun i => [(13, .con (.int .i64 (i : Int)))]) (fun i => i ≤ l.length ∧ eqL sameCol (l.drop i) (m.drop i) = v) (fun i => l.length - i) 0 (by intro; simp only [keepT_cons, keepT_nil, List.cons_append, List.nil_append, lk, Nat.reduceEqDiff, ↓reduceIte, reduceCtorEq, Nat.reduceAdd]; rfl) ⟨by omega, by simpa using hv⟩ (by ((simp only [go_sem, Nat.reduceLT, Nat.reduceEqDiff, Nat.reduceLeDiff, Nat.reduceAdd, Nat.reduceMul, Int.reduceToNat, Nat.reducePow, ↓reduceIte, reduceCtorEq]; done))) ?_
  intro i ⟨hi, h0⟩
  rcases Nat.lt_or_ge i l.length with hlt | hge
  · obtain ⟨x, hx, hmx⟩ := at_lt hlt
    obtain ⟨y, hy, hmy⟩ := at_lt (show i < m.length by omega)
    have hg := encCols_get hx
    have hg2 := encCols_get hy
    have c2 : ((i : Int) < (l.length : Int)) = True := eq_true (by omega)
    have c3 : ((i : Int) < (m.length : Int)) = True := eq_true (by omega)
    cases hr : sameCol x y
    · have hr2 : (x.nm = y.nm ∧ x.kd = y.kd) = False := eq_false (fun e => by unfold sameCol at hr; simp [e.1, e.2] at hr)
      have hr3 : (!(decide (x.nm = y.nm) && decide (x.kd = y.kd))) = true := by unfold sameCol at hr; rw [hr]; rfl
      rw [eqL_miss h0 hx hy hr]
      ((repeat' (first | (refine awp_seq_k (fun K hK => ?_)) | (refine awp_block ?_) | (refine awp_reg _ rfl ?_; (try simp only [go_sem, Nat.reduceLT, Nat.reduceEqDiff, Nat.reduceLeDiff, Nat.reduceAdd, Nat.reduceMul, Int.reduceToNat, Nat.reducePow, ↓reduceIte, reduceCtorEq, hg, hg2, c2, c3, hr3, wrap_succ i (by omega), ↓pkv, decide_true, decide_false, bls, if_true, if_false])) | (refine awp_drawnX hookCol_sound (by kernel_rfl) (by kernel_rfl) ?_; (try simp only [go_sem, Nat.reduceLT, Nat.reduceEqDiff, Nat.reduceLeDiff, Nat.reduceAdd, Nat.reduceMul, Int.reduceToNat, Nat.reducePow, ↓reduceIte, reduceCtorEq, hg, hg2, c2, c3, hr3, wrap_succ i (by omega), ↓pkv, decide_true, decide_false, bls, if_true, if_false, hookCol])) | (refine awp_condT rfl (by ((rfl))) ?_) | (refine awp_skip ?_; (try simp only [sq, bk, ↓reduceIte, Nat.reduceEqDiff, reduceCtorEq])) | (refine awp_ret ?_; (try simp only [sq, bk, ↓reduceIte, Nat.reduceEqDiff, reduceCtorEq])) | (with_reducible apply And.intro) | (refine hK _ ?_; clear hK; (try clear K)))); (all_goals (try ((omega)))))
      ((all_goals (try refine fin_pure (by (try simp only [forall_eq, resOk, List.mem_cons, List.not_mem_nil, or_false])) ?_ (by ((try dsimp only); repeat' ((with_reducible exact .refl _)))))); (all_goals (try simp only [go_sem, ↓reduceIte])))
    · have hr3 : (!(decide (x.nm = y.nm) && decide (x.kd = y.kd))) = false := by unfold sameCol at hr; rw [hr]; rfl
      have h1 := eqL_step h0 hx hy hr
      ((repeat' (first | (refine awp_seq_k (fun K hK => ?_)) | (refine awp_block ?_) | (refine awp_reg _ rfl ?_; (try simp only [go_sem, Nat.reduceLT, Nat.reduceEqDiff, Nat.reduceLeDiff, Nat.reduceAdd, Nat.reduceMul, Int.reduceToNat, Nat.reducePow, ↓reduceIte, reduceCtorEq, hg, hg2, c2, c3, hr3, wrap_succ i (by omega), ↓pkv, decide_true, decide_false, bls, if_true, if_false])) | (refine awp_drawnX hookCol_sound (by kernel_rfl) (by kernel_rfl) ?_; (try simp only [go_sem, Nat.reduceLT, Nat.reduceEqDiff, Nat.reduceLeDiff, Nat.reduceAdd, Nat.reduceMul, Int.reduceToNat, Nat.reducePow, ↓reduceIte, reduceCtorEq, hg, hg2, c2, c3, hr3, wrap_succ i (by omega), ↓pkv, decide_true, decide_false, bls, if_true, if_false, hookCol])) | (refine awp_condT rfl (by ((rfl))) ?_) | (refine awp_condF rfl (by ((rfl))) ?_) | (refine awp_skip ?_; (try simp only [sq, bk, ↓reduceIte, Nat.reduceEqDiff, reduceCtorEq])) | (with_reducible apply And.intro) | (refine hK _ ?_; clear hK; (try clear K)))); (all_goals (try ((omega)))))
      refine ⟨i + 1, by omega, ⟨by omega, h1⟩, ?_⟩
      (refine st_le rfl ?_ (by ((try dsimp only); repeat' ((with_reducible exact .refl _)))); (try simp only [go_sem, Nat.reduceEqDiff, ↓reduceIte, reduceCtorEq]))
  · obtain rfl : i = l.length := by omega
    have c2 : ((l.length : Int) < (l.length : Int)) = False := eq_false (by omega)
    ((repeat' (first | (refine awp_seq_k (fun K hK => ?_)) | (refine awp_reg _ rfl ?_; (try simp only [go_sem, Nat.reduceLT, Nat.reduceEqDiff, Nat.reduceLeDiff, Nat.reduceAdd, Nat.reduceMul, Int.reduceToNat, Nat.reducePow, ↓reduceIte, reduceCtorEq, c2, ↓pkv, decide_true, decide_false, bls, if_true, if_false])) | (refine awp_condF rfl (by ((rfl))) ?_) | (refine awp_exit ?_; (try simp only [sq, bk, ↓reduceIte, Nat.reduceEqDiff, reduceCtorEq])) | (refine awp_ret ?_) | (refine hK _ ?_; clear hK; (try clear K)) | (refine kk (by assumption) ?_))))
    rw [eqL_end h0 hln]
    ((all_goals (try refine fin_pure (by (try simp only [forall_eq, resOk, List.mem_cons, List.not_mem_nil, or_false])) ?_ (by ((try dsimp only); repeat' ((with_reducible exact .refl _)))))); (all_goals (try simp only [go_sem, ↓reduceIte])))
end Go.Proofs.YtababmnmkmgbbaaGreat
