/-
  A part of the proof: its theorems say what each gives.
-/
import Derived.Test.YtababmnmkmgbbaaGreatKM5
import Derived.Test.YtababmnmkmgbbaaGreatKVf
import Derived.Test.YtababmnmkmgbbaaGreatKVg
set_option maxRecDepth 100000
set_option linter.unusedSimpArgs false
set_option linter.unusedVariables false
namespace Go.Proofs.YtababmnmkmgbbaaGreat
open Go Fw
/-! Package rel, in plain Lean. -/
def cmpR : List Val → List Val → Int := cmpL cmpV
def colI (cols : List Col) (k : ByteArray) : Int := idxL (fun c : Col => decide (c.nm = k)) cols
def colsE : List Col → List Col → Int
  | _, [] => 0
  | pre, c :: l => if nameB c.nm = false then 15 else if pre.any (fun d => decide (d.nm = c.nm)) = true then 5 else if c.kd < 1 ∨ 5 < c.kd then 8 else colsE (pre ++ [c]) l
def keysE (cols : List Col) : List ByteArray → List ByteArray → Int
  | _, [] => 0
  | pre, k :: l => if colI cols k < 0 then 15 else if pre.any (fun d => decide (k = d)) = true then 5 else keysE cols (pre ++ [k]) l
def headE (r : Rel) : Int := if nameB r.nm = false then 15 else if r.cols.length = 0 then 3 else if 12 < r.cols.length then 2 else if colsE [] r.cols = 0 then keysE r.cols [] r.key else colsE [] r.cols
def valsE : List Col → List Val → Int
  | c :: m, v :: l => if checkE v = 0 then (if v.k ≠ c.kd ∧ v.k ≠ 11 then 8 else valsE m l) else checkE v
  | _, _ => 0
def rowE (cols : List Col) (l : List Val) : Int := if l.length = cols.length then valsE cols l else 3
def rowsE (cols : List Col) : List (List Val) → List (List Val) → Int
  | _, [] => 0
  | pre, l :: ls => if rowE cols l = 0 then (if pre.getLast?.any (fun q => decide (0 ≤ cmpR q l)) = true then 9 else rowsE cols (pre ++ [l]) ls) else rowE cols l
def keyAt (cols : List Col) (k : ByteArray) : Nat := (colI cols k).toNat
def agreeB (r : Rel) (a b : List Val) : Bool := !(r.key.any fun k => !decide (cmpV (a.getD (keyAt r.cols k) (.mk 0 0 ⟨#[]⟩ [])) (b.getD (keyAt r.cols k) (.mk 0 0 ⟨#[]⟩ [])) = 0))
def pairsE (r : Rel) : List (List Val) → List (List Val) → Int
  | _, [] => 0
  | pre, a :: ls => if pre.any (fun b => agreeB r a b) = true then 16 else pairsE r (pre ++ [a]) ls
def relE (r : Rel) : Int := if headE r = 0 then (if 300 < r.rows.length then 2 else if rowsE r.cols [] r.rows = 0 then (if r.key.length = 0 then 0 else pairsE r [] r.rows) else rowsE r.cols [] r.rows) else headE r
def relsE : List Rel → List Rel → Int
  | _, [] => 0
  | pre, r :: l => if relE r = 0 then (if pre.getLast?.any (fun q => decide (0 ≤ cmpS q.nm r.nm)) = true then 9 else relsE (pre ++ [r]) l) else relE r
def baseE (b : List Rel) : Int := if 12 < b.length then 2 else relsE [] b
def findR (b : List Rel) (nm : ByteArray) : Option Rel := b.find? fun r => decide (r.nm = nm)
end Go.Proofs.YtababmnmkmgbbaaGreat
