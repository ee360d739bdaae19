/-
  A part of the proof: its theorems say what each gives.
-/
import Derived.Test.YtababmnmkmgbbaaGreatKQga
set_option maxRecDepth 100000
set_option linter.unusedSimpArgs false
set_option linter.unusedVariables false
namespace Go.Proofs.YtababmnmkmgbbaaGreat
open Go Fw
/-! All bindings, stage by stage and deep first, in plain Lean. -/
def rowsOf (b : List Rel) (nm : ByteArray) : List (List Val) := ((findR b nm).getD zRel).rows
def addO (acc : List (List Val)) : Option (List Val) → List (List Val)
  | some y => acc ++ [y]
  | none => acc
def extRows (x : List Val) (a : Atm) : List (List Val) → List (List Val) → Option (List (List Val))
  | acc, [] => some acc
  | acc, row :: rs => if 20000 < (addO acc (bindR x a row)).length then none else extRows x a (addO acc (bindR x a row)) rs
def extXs (a : Atm) (rows : List (List Val)) : List (List Val) → List (List Val) → Option (List (List Val))
  | acc, [] => some acc
  | acc, x :: xs => match extRows x a acc rows with
    | none => none
    | some acc' => extXs a rows acc' xs
def extL (b : List Rel) : List Atm → List (List Val) → Option (List (List Val))
  | [], xs => some xs
  | a :: l, xs => match extXs a (rowsOf b a.rel) [] xs with
    | none => none
    | some ys => extL b l ys
def stepB (b : List Rel) (a : Atm) (x : List Val) : List (List Val) := (rowsOf b a.rel).filterMap (bindR x a)
theorem extRows_eq (x : List Val) (a : Atm) : ∀ (rows acc : List (List Val)), acc.length ≤ 20000 →
    extRows x a acc rows = if (acc ++ rows.filterMap (bindR x a)).length ≤ 20000 then some (acc ++ rows.filterMap (bindR x a)) else none
  | [], acc, h => by rw [extRows]; simp [h]
  | row :: rs, acc, h => by
    rw [extRows, List.filterMap_cons]
    cases hb : bindR x a row with
    | none =>
      rw [show addO acc none = acc from rfl]
      simp only
      rw [if_neg (show ¬ 20000 < acc.length by omega), extRows_eq x a rs acc h]
    | some y =>
      rw [show addO acc (some y) = acc ++ [y] from rfl]
      simp only
      by_cases h2 : 20000 < (acc ++ [y]).length
      · rw [if_pos h2, if_neg]
        simp only [List.length_append, List.length_cons, List.length_nil] at h2 ⊢
        omega
      · rw [if_neg h2, extRows_eq x a rs _ (by omega)]
        simp only [List.append_assoc, List.singleton_append]
theorem extXs_eq (b : List Rel) (a : Atm) : ∀ (xs acc : List (List Val)), acc.length ≤ 20000 →
    extXs a (rowsOf b a.rel) acc xs = if (acc ++ xs.flatMap (stepB b a)).length ≤ 20000 then some (acc ++ xs.flatMap (stepB b a)) else none
  | [], acc, h => by rw [extXs]; simp [h]
  | x :: xs, acc, h => by
    rw [extXs, extRows_eq x a _ acc h, List.flatMap_cons]
    change (match (if (acc ++ stepB b a x).length ≤ 20000 then some (acc ++ stepB b a x) else none) with | none => none | some acc' => extXs a (rowsOf b a.rel) acc' xs) = _
    by_cases h3 : (acc ++ stepB b a x).length ≤ 20000
    · rw [if_pos h3]
      simp only
      rw [extXs_eq b a xs _ h3, List.append_assoc]
    · rw [if_neg h3]
      simp only
      rw [if_neg]
      simp only [List.length_append] at h3 ⊢
      omega
end Go.Proofs.YtababmnmkmgbbaaGreat
