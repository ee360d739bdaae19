/-
  A part of the proof: its theorems say what each gives.
-/
import Derived.Test.YtdlbbcjacjockaaKRg
set_option maxRecDepth 100000
set_option linter.unusedSimpArgs false
set_option linter.unusedVariables false
namespace Go.Proofs.Ytdlbbcjacjockaa
open Go Fw
/-! Values that compare alike are alike. -/
theorem ordI_neg {n : Int} (h : okI n) (h0 : n < 0) : ordI n = -9223372036854775809 - n := by
  obtain ⟨m, hm⟩ : ∃ m : Nat, n = (m : Int) - 9223372036854775808 := ⟨(n + 9223372036854775808).toNat, by unfold okI at h; omega⟩
  have hm2 : m < 9223372036854775808 := by omega
  have e1 : Go.bits .and .i64 n 9223372036854775807 = (m : Int) := by
    subst hm
    have h1 : (BitVec.ofInt 64 ((m : Int) - 9223372036854775808)).toNat = m + 9223372036854775808 := by
      rw [BitVec.toNat_ofInt]; omega
    have h2 : (BitVec.ofInt 64 9223372036854775807).toNat = 2 ^ 63 - 1 := by decide
    have h3 : (m + 9223372036854775808) &&& (2 ^ 63 - 1) = m := by
      rw [Nat.and_two_pow_sub_one_eq_mod]; omega
    show IntKind.i64.wrap ((BitVec.ofInt 64 ((m : Int) - 9223372036854775808) &&& BitVec.ofInt 64 9223372036854775807).toNat : Int) = _
    rw [BitVec.toNat_and, h1, h2, h3]
    exact wrap_id (by omega) (by omega)
  unfold ordI
  rw [if_pos h0, e1, wrap_id (by omega) (by omega)]
  omega
theorem ordI_inj {a b : Int} (ha : okI a) (hb : okI b) (h : ordI a = ordI b) : a = b := by
  by_cases h1 : a < 0 <;> by_cases h2 : b < 0
  · rw [ordI_neg ha h1, ordI_neg hb h2] at h; omega
  · rw [ordI_neg ha h1] at h; unfold ordI at h; rw [if_neg h2] at h; unfold okI at ha hb; omega
  · rw [ordI_neg hb h2] at h; unfold ordI at h; rw [if_neg h1] at h; unfold okI at ha hb; omega
  · unfold ordI at h; rw [if_neg h1, if_neg h2] at h; exact h
theorem cmpI_eq {a b : Int} (h : cmpI a b = 0) : a = b := by unfold cmpI at h; split at h <;> (try split at h) <;> omega
theorem cmpB_eq : ∀ {a b : List UInt8}, Lib.compareBytes a b = 0 → a = b
  | [], [], _ => rfl
  | [], _ :: _, h => by simp [Lib.compareBytes] at h
  | _ :: _, [], h => by simp [Lib.compareBytes] at h
  | a :: l, b :: m, h => by
    unfold Lib.compareBytes at h
    split at h
    · cases h
    · split at h
      · cases h
      · rename_i h1 h2
        have : a = b := by
          rw [UInt8.lt_iff_toNat_lt] at h1 h2
          exact UInt8.toNat_inj.1 (by omega)
        rw [this, cmpB_eq h]
theorem cmpS_eq {a b : ByteArray} (h : cmpS a b = 0) : a = b := by
  have := cmpB_eq h
  cases a; cases b
  simp at this
  rw [this]
mutual
/-- Whole numbers in their bounds, at all levels. -/
def numV : Val → Prop
  | .mk _ n _ fs => okI n ∧ numFs fs
def numFs : List Fld → Prop
  | [] => True
  | f :: r => numF f ∧ numFs r
def numF : Fld → Prop
  | .mk _ v => numV v
end
mutual
theorem cmpV_zero : ∀ {v w : Val}, numV v → numV w → cmpV v w = 0 → v = w
  | .mk k n s fs, .mk k' n' s' fs', hv, hw, h => by
    rw [numV] at hv hw
    rw [cmpV] at h
    by_cases h0 : firstL (fun x => x) [cmpI k k', cmpI (if k = 3 then ordI n else n) (if k = 3 then ordI n' else n'), cmpS s s'] = 0
    · rw [if_pos h0] at h
      have hz := firstL_zero.1 h0
      have e1 := cmpI_eq (hz _ (by simp) : cmpI k k' = 0)
      have e2 := cmpI_eq (hz _ (by simp) : cmpI (if k = 3 then ordI n else n) (if k = 3 then ordI n' else n') = 0)
      have e3 := cmpS_eq (hz _ (by simp) : cmpS s s' = 0)
      have e4 := cmpFs_zero hv.2 hw.2 h
      have e5 : n = n' := by
        split at e2
        · exact ordI_inj hv.1 hw.1 e2
        · exact e2
      rw [e1, e5, e3, e4]
    · rw [if_neg h0] at h; exact absurd h h0
theorem cmpFs_zero : ∀ {a b : List Fld}, numFs a → numFs b → cmpFs a b = 0 → a = b
  | [], [], _, _, _ => rfl
  | [], _ :: _, _, _, h => by rw [cmpFs] at h; cases h
  | _ :: _, [], _, _, h => by rw [cmpFs] at h; cases h
  | f :: r, g :: q, ha, hb, h => by
    rw [numFs] at ha hb
    rw [cmpFs] at h
    by_cases h0 : cmpF f g = 0
    · rw [if_pos h0] at h
      rw [cmpF_zero ha.1 hb.1 h0, cmpFs_zero ha.2 hb.2 h]
    · rw [if_neg h0] at h; exact absurd h h0
theorem cmpF_zero : ∀ {a b : Fld}, numF a → numF b → cmpF a b = 0 → a = b
  | .mk nm v, .mk nm' v', ha, hb, h => by
    rw [numF] at ha hb
    rw [cmpF] at h
    have hz := firstL_zero.1 h
    have e1 := cmpS_eq (hz _ (by simp) : cmpS nm nm' = 0)
    have e2 := cmpV_zero ha hb (hz _ (by simp))
    rw [e1, e2]
end
theorem firstE_zero {g : Nat → Int} : ∀ {n : Nat}, firstE g n = 0 → ∀ j, j < n → g j = 0
  | 0, _, j, hj => by omega
  | n + 1, h, j, hj => by
    rw [firstE] at h
    split at h
    · rename_i h0
      rcases Nat.lt_or_ge j n with hlt | hge
      · exact firstE_zero h0 j hlt
      · obtain rfl : j = n := by omega
        exact h
    · rename_i h0; exact absurd h h0
theorem rowC_eq {a b : List Val} (ha : ∀ v ∈ a, numV v) (hb : ∀ v ∈ b, numV v) (h : rowC a b = 0) : a = b := by
  unfold rowC cmpN at h
  split at h
  · rename_i h0
    have hl := cmpI_eq h
    have hl' : a.length = b.length := by omega
    refine List.ext_getElem hl' fun i h1 h2 => ?_
    have := firstE_zero h0 i (by omega)
    simp only [List.getD_eq_getElem?_getD, List.getElem?_eq_getElem h1, List.getElem?_eq_getElem h2, Option.getD_some] at this
    exact cmpV_zero (ha _ (List.getElem_mem h1)) (hb _ (List.getElem_mem h2)) this
  · rename_i h0; exact absurd h h0
theorem eqN_all {p : Nat → Bool} {n m : Nat} (h : eqN p n m = true) : n = m ∧ ∀ i, i < n → p i = true := by
  unfold eqN at h
  simp only [Bool.and_eq_true, decide_eq_true_eq, List.all_eq_true, List.mem_range] at h
  exact h
theorem sameC_eq {c d : Chg} (hc : ∀ v ∈ c.row, numV v) (hd : ∀ v ∈ d.row, numV v) (h : sameC c d = true) : c = d := by
  unfold sameC at h
  simp only [Bool.and_eq_true, decide_eq_true_eq, beq_iff_eq] at h
  obtain ⟨⟨h1, h2⟩, h3⟩ := h
  have := rowC_eq hc hd h3
  cases c; cases d; simp only at h1 h2 this; rw [h1, h2, this]
theorem sameE_eq {x y : Ent} (hx : ∀ c ∈ x.ch, ∀ v ∈ c.row, numV v) (hy : ∀ c ∈ y.ch, ∀ v ∈ c.row, numV v) (h : sameE x y = true) : x = y := by
  unfold sameE at h
  simp only [Bool.and_eq_true, decide_eq_true_eq] at h
  obtain ⟨h1, h2⟩ := h
  obtain ⟨hl, hp⟩ := eqN_all h2
  have : x.ch = y.ch := by
    refine List.ext_getElem hl fun i h1 h2 => ?_
    have := hp i h1
    simp only [List.getD_eq_getElem?_getD, List.getElem?_eq_getElem h1, List.getElem?_eq_getElem h2, Option.getD_some] at this
    exact sameC_eq (hx _ (List.getElem_mem h1)) (hy _ (List.getElem_mem h2)) this
  cases x; cases y; simp only at h1 this; rw [h1, this]
theorem plain_num {x : Ent} (h : PlainE x) : ∀ c ∈ x.ch, ∀ v ∈ c.row, numV v := by
  intro c hc v hv
  have := (h.ch c hc).row v hv
  obtain ⟨k, n, s, fs⟩ := v
  rw [numV]
  refine ⟨this.n0, ?_⟩
  have h1 : fs = [] := this.fs
  rw [h1, numFs]; trivial
/-- Right entries are the same just if their bodies are. -/
theorem same_body {x y : Ent} (hx : entE x = 0) (hy : entE y = 0) (wx : WfE x) (wy : WfE y) (lx : (bodyB x).length < 18446744073709551616) (ly : (bodyB y).length < 18446744073709551616) : sameE x y = decide (bodyB y = bodyB x) := by
  by_cases h : bodyB y = bodyB x
  · have h1 : entM (bodyB y) = some y := (entM_iff ly).2 ⟨hy, wy, rfl⟩
    have h2 : entM (bodyB x) = some x := (entM_iff lx).2 ⟨hx, wx, rfl⟩
    rw [h, h2] at h1
    injection h1 with h1
    rw [h1, sameE_self]; simp
  · simp only [h, decide_false]
    cases hs : sameE x y with
    | false => rfl
    | true => exact absurd (by rw [sameE_eq (plain_num (entE_plain hx wx)) (plain_num (entE_plain hy wy)) hs]) h
end Go.Proofs.Ytdlbbcjacjockaa
