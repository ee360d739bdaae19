/-
  A part of the proof: its theorems say what each gives.
-/
import Derived.Test.YtababmnmkmgbbaaGreatKDa
set_option linter.unusedSimpArgs false
set_option linter.unusedVariables false
namespace Go.Proofs.YtababmnmkmgbbaaGreat
open Go Fw
/-! Logs: what the bytes of an entry are, in plain Lean. -/
abbrev Byt := List UInt8
def sb (s : ByteArray) : Byt := s.data.toList
def bs (l : Byt) : ByteArray := ⟨l.toArray⟩
@[simp] theorem sb_bs (l : Byt) : sb (bs l) = l := by simp [sb, bs]
@[simp] theorem bs_sb (s : ByteArray) : bs (sb s) = s := by cases s; simp [sb, bs]
structure Chg where
  rel : ByteArray
  del : Bool
  row : List Val
structure Ent where
  no : Int
  ch : List Chg
@[reducible] def Val.k : Val → Int | .mk k _ _ _ => k
@[reducible] def Val.n : Val → Int | .mk _ n _ _ => n
@[reducible] def Val.s : Val → ByteArray | .mk _ _ s _ => s
@[reducible] def Val.fs : Val → List Fld | .mk _ _ _ fs => fs
/-- a whole number as 64 bits -/
def u64 (n : Int) : Nat := (n % 18446744073709551616).toNat
/-! The reader of the program, as a function. -/
abbrev Rd := Byt × Bool
/-- A value that stands in a row of a right entry. -/
structure PlainV (v : Val) : Prop where
  k : v.k ≠ 5 → v.s = ⟨#[]⟩
  n : v.k = 5 → v.n = 0
  fs : v.fs = []
  k0 : 0 ≤ v.k ∧ v.k ≤ 12
  n0 : -9223372036854775808 ≤ v.n ∧ v.n ≤ 9223372036854775807
structure PlainC (c : Chg) : Prop where
  row : ∀ v ∈ c.row, PlainV v
structure PlainE (x : Ent) : Prop where
  no : 0 ≤ x.no ∧ x.no ≤ 9223372036854775807
  ch : ∀ c ∈ x.ch, PlainC c
end Go.Proofs.YtababmnmkmgbbaaGreat
