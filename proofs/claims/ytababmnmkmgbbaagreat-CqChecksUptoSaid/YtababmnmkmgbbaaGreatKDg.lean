/-
  A part of the proof: its theorems say what each gives.
-/
import Derived.Test.YtababmnmkmgbbaaGreatKDb
import Derived.Test.YtababmnmkmgbbaaGreatKDo
set_option linter.unusedSimpArgs false
set_option linter.unusedVariables false
namespace Go.Proofs.YtababmnmkmgbbaaGreat
open Go Fw
/-! Data of a size that is borne, whose whole numbers are in their bounds. -/
def gV (v : Val) : Prop := sizeV v ≤ 2000000 ∧ numV v
def gRow (x : List Val) : Prop := x.length ≤ 2000000 ∧ ∀ v ∈ x, gV v
def gRws (l : List (List Val)) : Prop := l.length ≤ 2000000 ∧ ∀ x ∈ l, gRow x
structure gRel (r : Rel) : Prop where
  cols : r.cols.length ≤ 2000000
  kd : ∀ c ∈ r.cols, okI c.kd
  key : r.key.length ≤ 2000000
  rows : gRws r.rows
def gBase (b : List Rel) : Prop := b.length ≤ 2000000 ∧ ∀ r ∈ b, gRel r
structure gTrm (t : Trm) : Prop where
  n : okI t.n
  v : gV t.v
def gTs (l : List Trm) : Prop := l.length ≤ 2000000 ∧ ∀ t ∈ l, gTrm t
def gAtm (a : Atm) : Prop := gTs a.args
def gAs (l : List Atm) : Prop := l.length ≤ 2000000 ∧ ∀ a ∈ l, gAtm a
structure gCQ (q : CQ) : Prop where
  head : gTs q.head
  body : gAs q.body
theorem gRow.at {x : List Val} (h : gRow x) {i : Nat} {v : Val} (e : x[i]? = some v) : gV v := h.2 v (List.mem_of_getElem? e)
theorem gRow.take {x : List Val} (h : gRow x) (i : Nat) : gRow (x.take i) := ⟨by rw [List.length_take]; have := h.1; omega, fun v hv => h.2 v (List.mem_of_mem_take hv)⟩
theorem gRws.take {x : List (List Val)} (h : gRws x) (i : Nat) : gRws (x.take i) := ⟨by rw [List.length_take]; have := h.1; omega, fun v hv => h.2 v (List.mem_of_mem_take hv)⟩
theorem gV.z {v : Val} (h : gV v) : sizeV v ≤ 4611686018427387904 := by have := h.1; omega
theorem gV.c {v : Val} (h : gV v) : sizeV v ≤ 100000000 := by have := h.1; omega
end Go.Proofs.YtababmnmkmgbbaaGreat
