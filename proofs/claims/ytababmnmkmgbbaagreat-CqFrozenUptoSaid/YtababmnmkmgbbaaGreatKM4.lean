/-
  A part of the proof: its theorems say what each gives.
-/
import Derived.Test.YtababmnmkmgbbaaGreatKFw1
import Derived.Test.YtababmnmkmgbbaaGreatKFw2
import Derived.Test.YtababmnmkmgbbaaGreatKFw3
set_option linter.unusedVariables false
namespace Go.Proofs.YtababmnmkmgbbaaGreat
open Go Fw
/-! The data of package api. -/
mutual
inductive Val where
  | mk (kind n : Int) (s : ByteArray) (fs : List Fld)
inductive Fld where
  | mk (name : ByteArray) (v : Val)
end
abbrev cI (n : Int) : AV := .con (.int .i64 n)
abbrev cS (s : ByteArray) : AV := .con (.string s)
abbrev cB (b : Bool) : AV := .con (.bool b)
mutual
def encV : Val → AV
  | .mk k n s fs => .agg [.con (.int .i64 k), .con (.int .i64 n), .con (.string s), .list (encFs fs) none]
def encFs : List Fld → List AV
  | [] => []
  | f :: r => encF f :: encFs r
def encF : Fld → AV
  | .mk nm v => .agg (.con (.string nm) :: (encV v).cells)
end
theorem encV_mk (k n : Int) (s : ByteArray) (fs : List Fld) : encV (.mk k n s fs) = .agg [.con (.int .i64 k), .con (.int .i64 n), .con (.string s), .list (encFs fs) none] := by rw [encV]
theorem encF_mk (nm : ByteArray) (k n : Int) (s : ByteArray) (fs : List Fld) : encF (.mk nm (.mk k n s fs)) = .agg [.con (.string nm), .con (.int .i64 k), .con (.int .i64 n), .con (.string s), .list (encFs fs) none] := by rw [encF, encV_mk]; rfl
theorem encFs_map (fs : List Fld) : encFs fs = fs.map encF := by
  induction fs with
  | nil => rw [encFs]; rfl
  | cons f r ih => rw [encFs, ih]; rfl
@[go_sem] theorem encFs_length (fs : List Fld) : (encFs fs).length = fs.length := by rw [encFs_map, List.length_map]
theorem encFs_get {fs : List Fld} {i : Nat} {nm : ByteArray} {k n : Int} {s : ByteArray} {gs : List Fld} (h : fs[i]? = some (.mk nm (.mk k n s gs))) :
    (encFs fs).getD i .any = .agg [.con (.string nm), .con (.int .i64 k), .con (.int .i64 n), .con (.string s), .list (encFs gs) none] := by
  rw [encFs_map, List.getD_eq_getElem?_getD, List.getElem?_map, h, ← encF_mk]; rfl
theorem encF_cells (f : Fld) : (encF f).cells.length = 5 := by
  obtain ⟨nm, ⟨k, n, s, fs⟩⟩ := f
  rw [encF_mk]; rfl
theorem encFs_cells (fs : List Fld) : ∀ y ∈ encFs fs, y.cells.length = 5 := by
  intro y hy
  rw [encFs_map] at hy
  obtain ⟨f, _, rfl⟩ := List.mem_map.1 hy
  exact encF_cells f
@[go_sem] theorem encFs_cells' (fs : List Fld) : (∀ y, y ∈ encFs fs → y.cells.length = 5) = True := eq_true (encFs_cells fs)
theorem fld_at {fs : List Fld} {i : Nat} (h : i < fs.length) : ∃ nm k n s gs, fs[i]? = some (.mk nm (.mk k n s gs)) := by
  obtain ⟨f, hf⟩ : ∃ f, fs[i]? = some f := ⟨fs[i], by simp [h]⟩
  obtain ⟨nm, ⟨k, n, s, gs⟩⟩ := f
  exact ⟨nm, k, n, s, gs, hf⟩
def nmAt (fs : List Fld) (i : Nat) : ByteArray := match fs[i]? with | some (.mk nm _) => nm | none => ⟨#[]⟩
theorem nmAt_eq {fs : List Fld} {i : Nat} {nm : ByteArray} {v : Val} (h : fs[i]? = some (.mk nm v)) : nmAt fs i = nm := by unfold nmAt; rw [h]
theorem encFs_get_at {fs : List Fld} {i : Nat} (h : i < fs.length) : ∃ k n s gs, fs[i]? = some (.mk (nmAt fs i) (.mk k n s gs)) ∧ (encFs fs).getD i .any = .agg [.con (.string (nmAt fs i)), .con (.int .i64 k), .con (.int .i64 n), .con (.string s), .list (encFs gs) none] := by
  obtain ⟨nm, k, n, s, gs, hf⟩ := fld_at h
  have e := nmAt_eq hf
  exact ⟨k, n, s, gs, by rw [e]; exact hf, by rw [e]; exact encFs_get hf⟩
theorem encFs_take (fs : List Fld) (i : Nat) : (encFs fs).take i = encFs (fs.take i) := by rw [encFs_map, encFs_map, List.map_take]
theorem nmAt_take {fs : List Fld} {i j : Nat} (h : j < i) : nmAt (fs.take i) j = nmAt fs j := by unfold nmAt; rw [List.getElem?_take_of_lt h]
mutual
def sizeV : Val → Nat
  | .mk _ _ _ fs => 1 + sizeFs fs
def sizeFs : List Fld → Nat
  | [] => 0
  | f :: r => sizeF f + sizeFs r
def sizeF : Fld → Nat
  | .mk _ v => sizeV v
end
theorem sizeFs_append (a b : List Fld) : sizeFs (a ++ b) = sizeFs a + sizeFs b := by
  induction a with
  | nil => simp [sizeFs]
  | cons f r ih => simp [sizeFs, ih]; omega
theorem sizeFs_at {fs : List Fld} {i : Nat} {f : Fld} (h : fs[i]? = some f) : sizeFs (fs.take (i + 1)) = sizeFs (fs.take i) + sizeF f ∧ sizeFs (fs.take i) + sizeF f ≤ sizeFs fs := by
  have hlt : i < fs.length := by
    rcases Nat.lt_or_ge i fs.length with h' | h'
    · exact h'
    · rw [List.getElem?_eq_none h'] at h; cases h
  have e : fs[i] = f := by rw [List.getElem?_eq_getElem hlt] at h; injection h
  have h1 : sizeFs (fs.take (i + 1)) = sizeFs (fs.take i) + sizeF f := by
    rw [List.take_succ_eq_append_getElem hlt, sizeFs_append, e]
    simp [sizeFs]
  refine ⟨h1, ?_⟩
  have h2 := sizeFs_append (fs.take (i + 1)) (fs.drop (i + 1))
  rw [List.take_append_drop] at h2
  omega
theorem len_sizeFs (fs : List Fld) : fs.length ≤ sizeFs fs := by
  induction fs with
  | nil => simp [sizeFs]
  | cons f r ih =>
    obtain ⟨nm, ⟨k, n, s, gs⟩⟩ := f
    simp only [sizeFs, sizeF, sizeV, List.length_cons]; omega
theorem sizeV_pos (v : Val) : 1 ≤ sizeV v := by cases v; rw [sizeV]; omega
mutual
def deepV : Val → Nat
  | .mk _ _ _ fs => deepFs fs + 1
def deepFs : List Fld → Nat
  | [] => 0
  | f :: r => max (deepF f) (deepFs r)
def deepF : Fld → Nat
  | .mk _ v => deepV v
end
end Go.Proofs.YtababmnmkmgbbaaGreat
/-
  A part of the proof: its theorems say what each gives.
-/
set_option linter.unusedSimpArgs false
set_option linter.unusedVariables false
namespace Go.Proofs.YtababmnmkmgbbaaGreat
open Go Fw
/-! Logs: what the bytes of an entry are, in plain Lean. -/
abbrev Byt := List UInt8
def sb (s : ByteArray) : Byt := s.data.toList
def bs (l : Byt) : ByteArray := ⟨l.toArray⟩
@[simp] theorem sb_bs (l : Byt) : sb (bs l) = l := by simp [sb, bs]
@[simp] theorem bs_sb (s : ByteArray) : bs (sb s) = s := by cases s; simp [sb, bs]
structure Chg where
  rel : ByteArray
  del : Bool
  row : List Val
structure Ent where
  no : Int
  ch : List Chg
@[reducible] def Val.k : Val → Int | .mk k _ _ _ => k
@[reducible] def Val.n : Val → Int | .mk _ n _ _ => n
@[reducible] def Val.s : Val → ByteArray | .mk _ _ s _ => s
@[reducible] def Val.fs : Val → List Fld | .mk _ _ _ fs => fs
/-- a whole number as 64 bits -/
def u64 (n : Int) : Nat := (n % 18446744073709551616).toNat
/-! The reader of the program, as a function. -/
abbrev Rd := Byt × Bool
/-- A value that stands in a row of a right entry. -/
structure PlainV (v : Val) : Prop where
  k : v.k ≠ 5 → v.s = ⟨#[]⟩
  n : v.k = 5 → v.n = 0
  fs : v.fs = []
  k0 : 0 ≤ v.k ∧ v.k ≤ 12
  n0 : -9223372036854775808 ≤ v.n ∧ v.n ≤ 9223372036854775807
structure PlainC (c : Chg) : Prop where
  row : ∀ v ∈ c.row, PlainV v
structure PlainE (x : Ent) : Prop where
  no : 0 ≤ x.no ∧ x.no ≤ 9223372036854775807
  ch : ∀ c ∈ x.ch, PlainC c
end Go.Proofs.YtababmnmkmgbbaaGreat
/-
  A part of the proof: its theorems say what each gives.
-/
set_option maxRecDepth 100000
set_option linter.unusedSimpArgs false
set_option linter.unusedVariables false
namespace Go.Proofs.YtababmnmkmgbbaaGreat
open Go Fw
/-! Lists of values as the proof sees them. -/
theorem getD_map {α : Type} {f : α → AV} {l : List α} {i : Nat} (h : i < l.length) : (l.map f).getD i .any = f l[i] := by
  simp [List.getD_eq_getElem?_getD, h]
abbrev cV (v : Val) : AV := .agg [.con (.int .i64 v.k), .con (.int .i64 v.n), .con (.string v.s), .list (encFs v.fs) none]
theorem encV_eq (v : Val) : encV v = cV v := by cases v; rw [encV_mk]
def encVs (l : List Val) : List AV := l.map cV
@[go_sem] theorem encVs_length (l : List Val) : (encVs l).length = l.length := by simp [encVs]
theorem encVs_get {l : List Val} {i : Nat} (h : i < l.length) : (encVs l).getD i .any = .agg [.con (.int .i64 l[i].k), .con (.int .i64 l[i].n), .con (.string l[i].s), .list (encFs l[i].fs) none] := getD_map h
@[go_sem] theorem encVs_cells (l : List Val) : (∀ y, y ∈ encVs l → y.cells.length = 4) = True := eq_true fun y hy => by obtain ⟨v, _, rfl⟩ := List.mem_map.1 hy; rfl
end Go.Proofs.YtababmnmkmgbbaaGreat
