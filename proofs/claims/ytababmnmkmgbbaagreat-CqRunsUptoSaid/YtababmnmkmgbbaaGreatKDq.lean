/-
  A part of the proof: its theorems say what each gives.
-/
import Derived.Test.YtababmnmkmgbbaaGreatKDr
set_option maxRecDepth 100000
set_option linter.unusedSimpArgs false
set_option linter.unusedVariables false
namespace Go.Proofs.YtababmnmkmgbbaaGreat
open Go Fw
/-! The checks of package cq, in plain Lean. -/
abbrev zV : Val := .mk 0 0 ⟨#[]⟩ []
def termE (t : Trm) : Int := if t.var = true then (if cmpV t.v zV = 0 then (if t.n < 0 ∨ 24 ≤ t.n then 11 else 0) else 3) else if t.n = 0 then (if t.v.k < 1 ∨ 5 < t.v.k then 8 else checkE t.v) else 3
def argsE : List Col → List Trm → List Int → Int × List Int
  | c :: m, t :: l, ks => if termE t = 0 then (if t.var = true then (if ks.getD t.n.toNat 0 = 0 then argsE m l (ks.set t.n.toNat c.kd) else if ks.getD t.n.toNat 0 = c.kd then argsE m l ks else (8, ks))
      else if t.v.k = c.kd then argsE m l ks else (8, ks)) else (termE t, ks)
  | _, _, ks => (0, ks)
def atomE (b : List Rel) (a : Atm) (ks : List Int) : Int × List Int :=
  match findR b a.rel with
  | none => (15, ks)
  | some r => if a.args.length = r.cols.length then argsE r.cols a.args ks else (3, ks)
def atomsE (b : List Rel) : List Atm → List Int → Int × List Int
  | [], ks => (0, ks)
  | a :: l, ks => if (atomE b a ks).1 = 0 then atomsE b l (atomE b a ks).2 else atomE b a ks
def kinds0 : List Int := List.replicate 24 0
def kindsE (b : List Rel) (l : List Atm) : Int := if baseE b = 0 then (if 12 < l.length then 2 else (atomsE b l kinds0).1) else baseE b
def kindsL (b : List Rel) (l : List Atm) : List Int := (atomsE b l kinds0).2
def headTE (ks : List Int) : List Trm → Int
  | [] => 0
  | t :: l => if termE t = 0 then (if t.var = true ∧ ks.getD t.n.toNat 0 = 0 then 4 else headTE ks l) else termE t
def cqE (b : List Rel) (q : CQ) : Int := if kindsE b q.body = 0 then (if 12 < q.head.length then 2 else headTE (kindsL b q.body) q.head) else kindsE b q.body
end Go.Proofs.YtababmnmkmgbbaaGreat
