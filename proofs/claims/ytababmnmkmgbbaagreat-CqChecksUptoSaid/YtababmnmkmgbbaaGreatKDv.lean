/-
  A part of the proof: its theorems say what each gives.
-/
import Derived.Test.YtababmnmkmgbbaaGreatKPa
set_option maxRecDepth 100000
set_option linter.unusedSimpArgs false
set_option linter.unusedVariables false
namespace Go.Proofs.YtababmnmkmgbbaaGreat
open Go Fw
/-! Lists of values as the proof sees them. -/
theorem getD_map {α : Type} {f : α → AV} {l : List α} {i : Nat} (h : i < l.length) : (l.map f).getD i .any = f l[i] := by
  simp [List.getD_eq_getElem?_getD, h]
abbrev cV (v : Val) : AV := .agg [.con (.int .i64 v.k), .con (.int .i64 v.n), .con (.string v.s), .list (encFs v.fs) none]
theorem encV_eq (v : Val) : encV v = cV v := by cases v; rw [encV_mk]
def encVs (l : List Val) : List AV := l.map cV
@[go_sem] theorem encVs_length (l : List Val) : (encVs l).length = l.length := by simp [encVs]
theorem encVs_get {l : List Val} {i : Nat} (h : i < l.length) : (encVs l).getD i .any = .agg [.con (.int .i64 l[i].k), .con (.int .i64 l[i].n), .con (.string l[i].s), .list (encFs l[i].fs) none] := getD_map h
@[go_sem] theorem encVs_cells (l : List Val) : (∀ y, y ∈ encVs l → y.cells.length = 4) = True := eq_true fun y hy => by obtain ⟨v, _, rfl⟩ := List.mem_map.1 hy; rfl
end Go.Proofs.YtababmnmkmgbbaaGreat
