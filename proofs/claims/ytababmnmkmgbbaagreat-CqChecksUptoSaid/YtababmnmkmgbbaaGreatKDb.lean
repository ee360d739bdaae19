/-
  A part of the proof: its theorems say what each gives.
-/
import Derived.Test.YtababmnmkmgbbaaGreatKDs
set_option maxRecDepth 100000
set_option linter.unusedSimpArgs false
set_option linter.unusedVariables false
namespace Go.Proofs.YtababmnmkmgbbaaGreat
open Go Fw
/-! Data of relations and of conjunctive queries. -/
structure Col where
  nm : ByteArray
  kd : Int
structure Rel where
  nm : ByteArray
  cols : List Col
  key : List ByteArray
  rows : List (List Val)
structure Trm where
  var : Bool
  n : Int
  v : Val
structure Atm where
  rel : ByteArray
  args : List Trm
structure CQ where
  head : List Trm
  body : List Atm
abbrev cCol (x : Col) : AV := .agg [.con (.string x.nm), .con (.int .i64 x.kd)]
def encCols (l : List Col) : List AV := l.map cCol
@[go_sem] theorem encCols_length (l : List Col) : (encCols l).length = l.length := by simp [encCols]
theorem encCols_get {l : List Col} {i : Nat} {x : Col} (h : l[i]? = some x) : (encCols l).getD i .any = .agg [.con (.string x.nm), .con (.int .i64 x.kd)] := by simp [encCols, List.getD_eq_getElem?_getD, h]
@[go_sem] theorem encCols_cells (l : List Col) : (∀ y, y ∈ encCols l → y.cells.length = 2) = True := eq_true fun y hy => by obtain ⟨v, _, rfl⟩ := List.mem_map.1 hy; rfl
theorem encCols_take (l : List Col) (i : Nat) : (encCols l).take i = encCols (l.take i) := by simp [encCols, List.map_take]
abbrev cKey (x : ByteArray) : AV := .con (.string x)
def encKeys (l : List ByteArray) : List AV := l.map cKey
@[go_sem] theorem encKeys_length (l : List ByteArray) : (encKeys l).length = l.length := by simp [encKeys]
theorem encKeys_get {l : List ByteArray} {i : Nat} {x : ByteArray} (h : l[i]? = some x) : (encKeys l).getD i .any = .con (.string x) := by simp [encKeys, List.getD_eq_getElem?_getD, h]
@[go_sem] theorem encKeys_cells (l : List ByteArray) : (∀ y, y ∈ encKeys l → y.cells.length = 1) = True := eq_true fun y hy => by obtain ⟨v, _, rfl⟩ := List.mem_map.1 hy; rfl
theorem encKeys_take (l : List ByteArray) (i : Nat) : (encKeys l).take i = encKeys (l.take i) := by simp [encKeys, List.map_take]
abbrev cRw (x : List Val) : AV := .list (encVs x) none
def encRws (l : List (List Val)) : List AV := l.map cRw
@[go_sem] theorem encRws_length (l : List (List Val)) : (encRws l).length = l.length := by simp [encRws]
theorem encRws_get {l : List (List Val)} {i : Nat} {x : List Val} (h : l[i]? = some x) : (encRws l).getD i .any = .list (encVs x) none := by simp [encRws, List.getD_eq_getElem?_getD, h]
@[go_sem] theorem encRws_cells (l : List (List Val)) : (∀ y, y ∈ encRws l → y.cells.length = 1) = True := eq_true fun y hy => by obtain ⟨v, _, rfl⟩ := List.mem_map.1 hy; rfl
theorem encRws_append (a b : List (List Val)) : encRws (a ++ b) = encRws a ++ encRws b := by simp [encRws]
theorem encRws_take (l : List (List Val)) (i : Nat) : (encRws l).take i = encRws (l.take i) := by simp [encRws, List.map_take]
abbrev cRel (x : Rel) : AV := .agg [.con (.string x.nm), .list (encCols x.cols) none, .list (encKeys x.key) none, .list (encRws x.rows) none]
def encRels (l : List Rel) : List AV := l.map cRel
@[go_sem] theorem encRels_length (l : List Rel) : (encRels l).length = l.length := by simp [encRels]
theorem encRels_get {l : List Rel} {i : Nat} {x : Rel} (h : l[i]? = some x) : (encRels l).getD i .any = .agg [.con (.string x.nm), .list (encCols x.cols) none, .list (encKeys x.key) none, .list (encRws x.rows) none] := by simp [encRels, List.getD_eq_getElem?_getD, h]
@[go_sem] theorem encRels_cells (l : List Rel) : (∀ y, y ∈ encRels l → y.cells.length = 4) = True := eq_true fun y hy => by obtain ⟨v, _, rfl⟩ := List.mem_map.1 hy; rfl
abbrev cTrm (x : Trm) : AV := .agg [.con (.bool x.var), .con (.int .i64 x.n), .con (.int .i64 x.v.k), .con (.int .i64 x.v.n), .con (.string x.v.s), .list (encFs x.v.fs) none]
def encTs (l : List Trm) : List AV := l.map cTrm
@[go_sem] theorem encTs_length (l : List Trm) : (encTs l).length = l.length := by simp [encTs]
theorem encTs_get {l : List Trm} {i : Nat} {x : Trm} (h : l[i]? = some x) : (encTs l).getD i .any = .agg [.con (.bool x.var), .con (.int .i64 x.n), .con (.int .i64 x.v.k), .con (.int .i64 x.v.n), .con (.string x.v.s), .list (encFs x.v.fs) none] := by simp [encTs, List.getD_eq_getElem?_getD, h]
@[go_sem] theorem encTs_cells (l : List Trm) : (∀ y, y ∈ encTs l → y.cells.length = 6) = True := eq_true fun y hy => by obtain ⟨v, _, rfl⟩ := List.mem_map.1 hy; rfl
theorem encTs_append (a b : List Trm) : encTs (a ++ b) = encTs a ++ encTs b := by simp [encTs]
abbrev cAtm (x : Atm) : AV := .agg [.con (.string x.rel), .list (encTs x.args) none]
def encAs (l : List Atm) : List AV := l.map cAtm
@[go_sem] theorem encAs_length (l : List Atm) : (encAs l).length = l.length := by simp [encAs]
theorem encAs_get {l : List Atm} {i : Nat} {x : Atm} (h : l[i]? = some x) : (encAs l).getD i .any = .agg [.con (.string x.rel), .list (encTs x.args) none] := by simp [encAs, List.getD_eq_getElem?_getD, h]
@[go_sem] theorem encAs_cells (l : List Atm) : (∀ y, y ∈ encAs l → y.cells.length = 2) = True := eq_true fun y hy => by obtain ⟨v, _, rfl⟩ := List.mem_map.1 hy; rfl
theorem encAs_append (a b : List Atm) : encAs (a ++ b) = encAs a ++ encAs b := by simp [encAs]
abbrev cCQ (x : CQ) : AV := .agg [.list (encTs x.head) none, .list (encAs x.body) none]
end Go.Proofs.YtababmnmkmgbbaaGreat
