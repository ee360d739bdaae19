/-
  A part of the proof: its theorems say what each gives.
-/
import Derived.Test.YtababmnmkmgbbaaGreatKVg
import Derived.Test.YtababmnmkmgbbaaGreatKM4
set_option maxRecDepth 100000
set_option linter.unusedSimpArgs false
set_option linter.unusedVariables false
namespace Go.Proofs.YtababmnmkmgbbaaGreat
open Go Fw
/-! Values that compare alike are alike. -/
def okI (n : Int) : Prop := -9223372036854775808 ≤ n ∧ n ≤ 9223372036854775807
theorem firstL_zero {α : Type} {g : α → Int} {l : List α} : firstL g l = 0 ↔ ∀ a ∈ l, g a = 0 := by
  induction l with
  | nil => simp [firstL]
  | cons a l ih =>
    simp only [firstL, List.mem_cons, forall_eq_or_imp]
    split
    · rename_i h; rw [ih]; simp [h]
    · rename_i h; simp [h]
theorem cmpI_self (a : Int) : cmpI a a = 0 := by simp [cmpI]
theorem cmpB_self : ∀ l : List UInt8, Lib.compareBytes l l = 0 := by
  intro l
  induction l with
  | nil => simp [Lib.compareBytes]
  | cons a l ih => simp [Lib.compareBytes, ih]
theorem cmpS_self (a : ByteArray) : cmpS a a = 0 := cmpB_self _
mutual
theorem cmpV_self : ∀ v : Val, cmpV v v = 0
  | .mk k n s fs => by
    rw [cmpV, cmpI_self, cmpI_self, cmpS_self, cmpFs_self fs]; simp [firstL]
theorem cmpFs_self : ∀ fs : List Fld, cmpFs fs fs = 0
  | [] => by rw [cmpFs]
  | f :: r => by rw [cmpFs, cmpF_self f, cmpFs_self r]; simp
theorem cmpF_self : ∀ f : Fld, cmpF f f = 0
  | .mk nm v => by rw [cmpF, cmpS_self, cmpV_self v]; simp [firstL]
end
theorem ordI_neg {n : Int} (h : okI n) (h0 : n < 0) : ordI n = -9223372036854775809 - n := by
  obtain ⟨m, hm⟩ : ∃ m : Nat, n = (m : Int) - 9223372036854775808 := ⟨(n + 9223372036854775808).toNat, by unfold okI at h; omega⟩
  have hm2 : m < 9223372036854775808 := by omega
  have e1 : Go.bits .and .i64 n 9223372036854775807 = (m : Int) := by
    subst hm
    have h1 : (BitVec.ofInt 64 ((m : Int) - 9223372036854775808)).toNat = m + 9223372036854775808 := by
      rw [BitVec.toNat_ofInt]; omega
    have h2 : (BitVec.ofInt 64 9223372036854775807).toNat = 2 ^ 63 - 1 := by decide
    have h3 : (m + 9223372036854775808) &&& (2 ^ 63 - 1) = m := by
      rw [Nat.and_two_pow_sub_one_eq_mod]; omega
    show IntKind.i64.wrap ((BitVec.ofInt 64 ((m : Int) - 9223372036854775808) &&& BitVec.ofInt 64 9223372036854775807).toNat : Int) = _
    rw [BitVec.toNat_and, h1, h2, h3]
    exact wrap_id (by omega) (by omega)
  unfold ordI
  rw [if_pos h0, e1, wrap_id (by omega) (by omega)]
  omega
theorem ordI_inj {a b : Int} (ha : okI a) (hb : okI b) (h : ordI a = ordI b) : a = b := by
  by_cases h1 : a < 0 <;> by_cases h2 : b < 0
  · rw [ordI_neg ha h1, ordI_neg hb h2] at h; omega
  · rw [ordI_neg ha h1] at h; unfold ordI at h; rw [if_neg h2] at h; unfold okI at ha hb; omega
  · rw [ordI_neg hb h2] at h; unfold ordI at h; rw [if_neg h1] at h; unfold okI at ha hb; omega
  · unfold ordI at h; rw [if_neg h1, if_neg h2] at h; exact h
theorem cmpI_eq {a b : Int} (h : cmpI a b = 0) : a = b := by unfold cmpI at h; split at h <;> (try split at h) <;> omega
theorem cmpB_eq : ∀ {a b : List UInt8}, Lib.compareBytes a b = 0 → a = b
  | [], [], _ => rfl
  | [], _ :: _, h => by simp [Lib.compareBytes] at h
  | _ :: _, [], h => by simp [Lib.compareBytes] at h
  | a :: l, b :: m, h => by
    unfold Lib.compareBytes at h
    split at h
    · cases h
    · split at h
      · cases h
      · rename_i h1 h2
        have : a = b := by
          rw [UInt8.lt_iff_toNat_lt] at h1 h2
          exact UInt8.toNat_inj.1 (by omega)
        rw [this, cmpB_eq h]
theorem cmpS_eq {a b : ByteArray} (h : cmpS a b = 0) : a = b := by
  have := cmpB_eq h
  cases a; cases b
  simp at this
  rw [this]
mutual
/-- Whole numbers in their bounds, at all levels. -/
def numV : Val → Prop
  | .mk _ n _ fs => okI n ∧ numFs fs
def numFs : List Fld → Prop
  | [] => True
  | f :: r => numF f ∧ numFs r
def numF : Fld → Prop
  | .mk _ v => numV v
end
mutual
theorem cmpV_zero : ∀ {v w : Val}, numV v → numV w → cmpV v w = 0 → v = w
  | .mk k n s fs, .mk k' n' s' fs', hv, hw, h => by
    rw [numV] at hv hw
    rw [cmpV] at h
    by_cases h0 : firstL (fun x => x) [cmpI k k', cmpI (if k = 3 then ordI n else n) (if k = 3 then ordI n' else n'), cmpS s s'] = 0
    · rw [if_pos h0] at h
      have hz := firstL_zero.1 h0
      have e1 := cmpI_eq (hz _ (by simp) : cmpI k k' = 0)
      have e2 := cmpI_eq (hz _ (by simp) : cmpI (if k = 3 then ordI n else n) (if k = 3 then ordI n' else n') = 0)
      have e3 := cmpS_eq (hz _ (by simp) : cmpS s s' = 0)
      have e4 := cmpFs_zero hv.2 hw.2 h
      have e5 : n = n' := by
        split at e2
        · exact ordI_inj hv.1 hw.1 e2
        · exact e2
      rw [e1, e5, e3, e4]
    · rw [if_neg h0] at h; exact absurd h h0
theorem cmpFs_zero : ∀ {a b : List Fld}, numFs a → numFs b → cmpFs a b = 0 → a = b
  | [], [], _, _, _ => rfl
  | [], _ :: _, _, _, h => by rw [cmpFs] at h; cases h
  | _ :: _, [], _, _, h => by rw [cmpFs] at h; cases h
  | f :: r, g :: q, ha, hb, h => by
    rw [numFs] at ha hb
    rw [cmpFs] at h
    by_cases h0 : cmpF f g = 0
    · rw [if_pos h0] at h
      rw [cmpF_zero ha.1 hb.1 h0, cmpFs_zero ha.2 hb.2 h]
    · rw [if_neg h0] at h; exact absurd h h0
theorem cmpF_zero : ∀ {a b : Fld}, numF a → numF b → cmpF a b = 0 → a = b
  | .mk nm v, .mk nm' v', ha, hb, h => by
    rw [numF] at ha hb
    rw [cmpF] at h
    have hz := firstL_zero.1 h
    have e1 := cmpS_eq (hz _ (by simp) : cmpS nm nm' = 0)
    have e2 := cmpV_zero ha hb (hz _ (by simp))
    rw [e1, e2]
end
end Go.Proofs.YtababmnmkmgbbaaGreat
