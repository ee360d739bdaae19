/-
  A part of the proof: its theorems say what each gives.
-/
import Derived.Test.YtdlbbcjacjockaaKRf
set_option maxRecDepth 100000
set_option maxHeartbeats 8000000
set_option linter.unusedSimpArgs false
set_option linter.unusedVariables false
namespace Go.Proofs.Ytdlbbcjacjockaa
open Go Fw
/-! An entry is the same as itself. -/
theorem cmpI_self (a : Int) : cmpI a a = 0 := by simp [cmpI]
theorem cmpB_self : ∀ l : List UInt8, Lib.compareBytes l l = 0 := by
  intro l
  induction l with
  | nil => simp [Lib.compareBytes]
  | cons a l ih => simp [Lib.compareBytes, ih]
theorem cmpS_self (a : ByteArray) : cmpS a a = 0 := cmpB_self _
mutual
theorem cmpV_self : ∀ v : Val, cmpV v v = 0
  | .mk k n s fs => by
    rw [cmpV, cmpI_self, cmpI_self, cmpS_self, cmpFs_self fs]; simp [firstL]
theorem cmpFs_self : ∀ fs : List Fld, cmpFs fs fs = 0
  | [] => by rw [cmpFs]
  | f :: r => by rw [cmpFs, cmpF_self f, cmpFs_self r]; simp
theorem cmpF_self : ∀ f : Fld, cmpF f f = 0
  | .mk nm v => by rw [cmpF, cmpS_self, cmpV_self v]; simp [firstL]
end
theorem rowC_self (a : List Val) : rowC a a = 0 := by
  unfold rowC cmpN
  rw [firstE_miss fun j hj => cmpV_self _, if_pos rfl, cmpI_self]
theorem sameC_self (c : Chg) : sameC c c = true := by simp [sameC, rowC_self]
theorem sameCs_self (l : List Chg) : sameCs l l = true := eqN_yes fun i _ => sameC_self _
theorem sameE_self (x : Ent) : sameE x x = true := by simp [sameE, sameCs_self]
theorem sameEs_self (l : List Ent) : sameEs l l = true := eqN_yes fun i _ => sameE_self _
end Go.Proofs.Ytdlbbcjacjockaa
