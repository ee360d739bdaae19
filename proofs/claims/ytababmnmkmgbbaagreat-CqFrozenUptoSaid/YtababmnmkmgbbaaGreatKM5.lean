/-
  A part of the proof: its theorems say what each gives.
-/
import Derived.Test.YtababmnmkmgbbaaGreatKM4
import Derived.Test.YtababmnmkmgbbaaGreatKTy
import Derived.Test.YtababmnmkmgbbaaGreatKFw1
import Derived.Test.YtababmnmkmgbbaaGreatKFw2
import Derived.Test.YtababmnmkmgbbaaGreatKFw3
set_option linter.unusedSimpArgs false
set_option linter.unusedVariables false
namespace Go.Proofs.YtababmnmkmgbbaaGreat
open Go Fw
/-! Plain laws of lists: the first that is such; alike place by place; the order. -/
theorem at_lt {α : Type} {l : List α} {i : Nat} (h : i < l.length) : ∃ x, l[i]? = some x ∧ x ∈ l := ⟨l[i], List.getElem?_eq_getElem h, List.getElem_mem h⟩
theorem take_at {α : Type} {l : List α} {i : Nat} {x : α} (h : l[i]? = some x) : l.take (i + 1) = l.take i ++ [x] := by
  obtain ⟨hl, rfl⟩ := List.getElem?_eq_some_iff.1 h
  exact List.take_succ_eq_append_getElem hl
/-- The place of the first element that is such; -1: there is none. -/
def idxL {α : Type} (p : α → Bool) (l : List α) : Int := match l.findIdx? p with | some i => i | none => -1
theorem take_step {α : Type} {p : α → Bool} {l : List α} {i : Nat} {x : α} (hx : l[i]? = some x) (hv : p x = false) (h0 : ∀ y ∈ l.take i, p y = false) : ∀ y ∈ l.take (i + 1), p y = false := by
  rw [take_at hx]
  intro y hy
  rcases List.mem_append.1 hy with hy | hy
  · exact h0 y hy
  · rw [List.mem_singleton.1 hy]; exact hv
theorem idxL_hit {α : Type} {p : α → Bool} {l : List α} {i : Nat} {x : α} (hx : l[i]? = some x) (hv : p x = true) (h0 : ∀ y ∈ l.take i, p y = false) : idxL p l = i := by
  obtain ⟨hl, rfl⟩ := List.getElem?_eq_some_iff.1 hx
  have : l.findIdx? p = some i := by
    rw [List.findIdx?_eq_some_iff_getElem]
    refine ⟨hl, hv, fun j hj => ?_⟩
    have := h0 l[j] (by rw [List.mem_take_iff_getElem]; exact ⟨j, by omega, rfl⟩)
    rw [this]; simp
  unfold idxL
  rw [this]
theorem idxL_miss {α : Type} {p : α → Bool} {l : List α} (h0 : ∀ y ∈ l, p y = false) : idxL p l = -1 := by
  have : l.findIdx? p = none := List.findIdx?_eq_none_iff.2 h0
  unfold idxL
  rw [this]
theorem idxL_any {α : Type} (p : α → Bool) (l : List α) : decide (0 ≤ idxL p l) = l.any p := by
  unfold idxL
  cases h : l.findIdx? p with
  | none =>
    have := List.findIdx?_eq_none_iff.1 h
    have e : l.any p = false := by rw [List.any_eq_false]; intro y hy; rw [this y hy]; simp
    rw [e]; rfl
  | some i =>
    obtain ⟨hl, hv, _⟩ := List.findIdx?_eq_some_iff_getElem.1 h
    have e : l.any p = true := List.any_eq_true.2 ⟨_, List.getElem_mem hl, hv⟩
    rw [e]; simp
theorem idxL_get {α : Type} {p : α → Bool} {l : List α} (h : 0 ≤ idxL p l) : ∃ x, l[(idxL p l).toNat]? = some x ∧ l.find? p = some x := by
  unfold idxL at h ⊢
  cases e : l.findIdx? p with
  | none => rw [e] at h; simp at h
  | some i =>
    obtain ⟨hl, hv, h2⟩ := List.findIdx?_eq_some_iff_getElem.1 e
    refine ⟨l[i], by simp [hl], ?_⟩
    rw [List.find?_eq_some_iff_getElem]
    exact ⟨hv, i, hl, rfl, fun j hj => by simpa using h2 j hj⟩
/-- Two lists of one length whose elements are alike, place by place. -/
def eqL {α β : Type} (r : α → β → Bool) : List α → List β → Bool
  | [], [] => true
  | a :: l, b :: m => r a b && eqL r l m
  | _, _ => false
theorem eqL_len {α β : Type} {r : α → β → Bool} : ∀ {l : List α} {m : List β}, eqL r l m = true → l.length = m.length
  | [], [], _ => rfl
  | a :: l, b :: m, h => by
    rw [eqL, Bool.and_eq_true] at h
    rw [List.length_cons, List.length_cons, eqL_len h.2]
theorem eqL_ne {α β : Type} {r : α → β → Bool} {l : List α} {m : List β} (h : ¬ l.length = m.length) : eqL r l m = false := by
  cases e : eqL r l m with
  | false => rfl
  | true => exact absurd (eqL_len e) h
theorem drop_at {α : Type} {l : List α} {i : Nat} {x : α} (h : l[i]? = some x) : l.drop i = x :: l.drop (i + 1) := by
  obtain ⟨hl, rfl⟩ := List.getElem?_eq_some_iff.1 h
  exact List.drop_eq_getElem_cons hl
/-- The order of lists by that of their elements. -/
def cmpL {α β : Type} (c : α → β → Int) : List α → List β → Int
  | [], [] => 0
  | [], _ :: _ => -1
  | _ :: _, [] => 1
  | a :: l, b :: m => if c a b = 0 then cmpL c l m else c a b
theorem eqL_step {α β : Type} {r : α → β → Bool} {l : List α} {m : List β} {i : Nat} {a : α} {b : β} {v : Bool} (h : eqL r (l.drop i) (m.drop i) = v) (ha : l[i]? = some a) (hb : m[i]? = some b) (hr : r a b = true) : eqL r (l.drop (i + 1)) (m.drop (i + 1)) = v := by
  rw [drop_at ha, drop_at hb, eqL, hr, Bool.true_and] at h; exact h
theorem eqL_miss {α β : Type} {r : α → β → Bool} {l : List α} {m : List β} {i : Nat} {a : α} {b : β} {v : Bool} (h : eqL r (l.drop i) (m.drop i) = v) (ha : l[i]? = some a) (hb : m[i]? = some b) (hr : r a b = false) : v = false := by
  rw [drop_at ha, drop_at hb, eqL, hr, Bool.false_and] at h; exact h.symm
theorem eqL_end {α β : Type} {r : α → β → Bool} {l : List α} {m : List β} {v : Bool} (h : eqL r (l.drop l.length) (m.drop l.length) = v) (hl : l.length = m.length) : v = true := by
  rw [List.drop_length, hl, List.drop_length, eqL] at h; exact h.symm
theorem cmpL_step {α β : Type} {c : α → β → Int} {l : List α} {m : List β} {i : Nat} {a : α} {b : β} {v : Int} (h : cmpL c (l.drop i) (m.drop i) = v) (ha : l[i]? = some a) (hb : m[i]? = some b) (hr : c a b = 0) : cmpL c (l.drop (i + 1)) (m.drop (i + 1)) = v := by
  rw [drop_at ha, drop_at hb, cmpL, if_pos hr] at h; exact h
theorem cmpL_hit {α β : Type} {c : α → β → Int} {l : List α} {m : List β} {i : Nat} {a : α} {b : β} {v : Int} (h : cmpL c (l.drop i) (m.drop i) = v) (ha : l[i]? = some a) (hb : m[i]? = some b) (hr : ¬ c a b = 0) : v = c a b := by
  rw [drop_at ha, drop_at hb, cmpL, if_neg hr] at h; exact h.symm
theorem cmpL_end {α β : Type} {c : α → β → Int} {l : List α} {m : List β} {i : Nat} {v : Int} (h : cmpL c (l.drop i) (m.drop i) = v) (hi : i ≤ l.length) (hj : i ≤ m.length) (he : i = l.length ∨ i = m.length) :
    v = if l.length < m.length then -1 else if l.length = m.length then 0 else 1 := by
  rcases he with rfl | rfl
  · rw [List.drop_length] at h
    cases e : m.drop l.length with
    | nil => rw [e, cmpL] at h; have := List.drop_eq_nil_iff.1 e; rw [if_neg (by omega), if_pos (by omega)]; exact h.symm
    | cons b r =>
      rw [e, cmpL] at h
      have h2 : (m.drop l.length).length = r.length + 1 := by rw [e]; rfl
      rw [List.length_drop] at h2
      rw [if_pos (by omega)]; exact h.symm
  · rw [List.drop_length] at h
    cases e : l.drop m.length with
    | nil => rw [e, cmpL] at h; have := List.drop_eq_nil_iff.1 e; rw [if_neg (by omega), if_pos (by omega)]; exact h.symm
    | cons b r =>
      rw [e, cmpL] at h
      have h2 : (l.drop m.length).length = r.length + 1 := by rw [e]; rfl
      rw [List.length_drop] at h2
      rw [if_neg (by omega), if_neg (by omega)]; exact h.symm
theorem eqL_self {α : Type} {r : α → α → Bool} : ∀ {l : List α}, (∀ x ∈ l, r x x = true) → eqL r l l = true
  | [], _ => rfl
  | a :: l, h => by rw [eqL, h a (by simp), Bool.true_and]; exact eqL_self fun x hx => h x (by simp [hx])
end Go.Proofs.YtababmnmkmgbbaaGreat
/-
  A part of the proof: its theorems say what each gives.
-/
set_option maxRecDepth 100000
set_option linter.unusedSimpArgs false
set_option linter.unusedVariables false
namespace Go.Proofs.YtababmnmkmgbbaaGreat
open Go Fw
/-! Data of relations and of conjunctive queries. -/
structure Col where
  nm : ByteArray
  kd : Int
structure Rel where
  nm : ByteArray
  cols : List Col
  key : List ByteArray
  rows : List (List Val)
structure Trm where
  var : Bool
  n : Int
  v : Val
structure Atm where
  rel : ByteArray
  args : List Trm
structure CQ where
  head : List Trm
  body : List Atm
abbrev cCol (x : Col) : AV := .agg [.con (.string x.nm), .con (.int .i64 x.kd)]
def encCols (l : List Col) : List AV := l.map cCol
@[go_sem] theorem encCols_length (l : List Col) : (encCols l).length = l.length := by simp [encCols]
theorem encCols_get {l : List Col} {i : Nat} {x : Col} (h : l[i]? = some x) : (encCols l).getD i .any = .agg [.con (.string x.nm), .con (.int .i64 x.kd)] := by simp [encCols, List.getD_eq_getElem?_getD, h]
@[go_sem] theorem encCols_cells (l : List Col) : (∀ y, y ∈ encCols l → y.cells.length = 2) = True := eq_true fun y hy => by obtain ⟨v, _, rfl⟩ := List.mem_map.1 hy; rfl
theorem encCols_take (l : List Col) (i : Nat) : (encCols l).take i = encCols (l.take i) := by simp [encCols, List.map_take]
abbrev cKey (x : ByteArray) : AV := .con (.string x)
def encKeys (l : List ByteArray) : List AV := l.map cKey
@[go_sem] theorem encKeys_length (l : List ByteArray) : (encKeys l).length = l.length := by simp [encKeys]
theorem encKeys_get {l : List ByteArray} {i : Nat} {x : ByteArray} (h : l[i]? = some x) : (encKeys l).getD i .any = .con (.string x) := by simp [encKeys, List.getD_eq_getElem?_getD, h]
@[go_sem] theorem encKeys_cells (l : List ByteArray) : (∀ y, y ∈ encKeys l → y.cells.length = 1) = True := eq_true fun y hy => by obtain ⟨v, _, rfl⟩ := List.mem_map.1 hy; rfl
theorem encKeys_take (l : List ByteArray) (i : Nat) : (encKeys l).take i = encKeys (l.take i) := by simp [encKeys, List.map_take]
abbrev cRw (x : List Val) : AV := .list (encVs x) none
def encRws (l : List (List Val)) : List AV := l.map cRw
@[go_sem] theorem encRws_length (l : List (List Val)) : (encRws l).length = l.length := by simp [encRws]
theorem encRws_get {l : List (List Val)} {i : Nat} {x : List Val} (h : l[i]? = some x) : (encRws l).getD i .any = .list (encVs x) none := by simp [encRws, List.getD_eq_getElem?_getD, h]
@[go_sem] theorem encRws_cells (l : List (List Val)) : (∀ y, y ∈ encRws l → y.cells.length = 1) = True := eq_true fun y hy => by obtain ⟨v, _, rfl⟩ := List.mem_map.1 hy; rfl
theorem encRws_append (a b : List (List Val)) : encRws (a ++ b) = encRws a ++ encRws b := by simp [encRws]
theorem encRws_one (x : List Val) : encRws [x] = [cRw x] := rfl
theorem encRws_take (l : List (List Val)) (i : Nat) : (encRws l).take i = encRws (l.take i) := by simp [encRws, List.map_take]
theorem encRws_drop (l : List (List Val)) (i : Nat) : (encRws l).drop i = encRws (l.drop i) := by simp [encRws, List.map_drop]
abbrev cRel (x : Rel) : AV := .agg [.con (.string x.nm), .list (encCols x.cols) none, .list (encKeys x.key) none, .list (encRws x.rows) none]
def encRels (l : List Rel) : List AV := l.map cRel
@[go_sem] theorem encRels_length (l : List Rel) : (encRels l).length = l.length := by simp [encRels]
theorem encRels_get {l : List Rel} {i : Nat} {x : Rel} (h : l[i]? = some x) : (encRels l).getD i .any = .agg [.con (.string x.nm), .list (encCols x.cols) none, .list (encKeys x.key) none, .list (encRws x.rows) none] := by simp [encRels, List.getD_eq_getElem?_getD, h]
theorem encRels_append (a b : List Rel) : encRels (a ++ b) = encRels a ++ encRels b := by simp [encRels]
abbrev cTrm (x : Trm) : AV := .agg [.con (.bool x.var), .con (.int .i64 x.n), .con (.int .i64 x.v.k), .con (.int .i64 x.v.n), .con (.string x.v.s), .list (encFs x.v.fs) none]
def encTs (l : List Trm) : List AV := l.map cTrm
@[go_sem] theorem encTs_length (l : List Trm) : (encTs l).length = l.length := by simp [encTs]
theorem encTs_get {l : List Trm} {i : Nat} {x : Trm} (h : l[i]? = some x) : (encTs l).getD i .any = .agg [.con (.bool x.var), .con (.int .i64 x.n), .con (.int .i64 x.v.k), .con (.int .i64 x.v.n), .con (.string x.v.s), .list (encFs x.v.fs) none] := by simp [encTs, List.getD_eq_getElem?_getD, h]
abbrev cAtm (x : Atm) : AV := .agg [.con (.string x.rel), .list (encTs x.args) none]
def encAs (l : List Atm) : List AV := l.map cAtm
@[go_sem] theorem encAs_length (l : List Atm) : (encAs l).length = l.length := by simp [encAs]
theorem encAs_get {l : List Atm} {i : Nat} {x : Atm} (h : l[i]? = some x) : (encAs l).getD i .any = .agg [.con (.string x.rel), .list (encTs x.args) none] := by simp [encAs, List.getD_eq_getElem?_getD, h]
@[go_sem] theorem encAs_cells (l : List Atm) : (∀ y, y ∈ encAs l → y.cells.length = 2) = True := eq_true fun y hy => by obtain ⟨v, _, rfl⟩ := List.mem_map.1 hy; rfl
theorem encAs_take (l : List Atm) (i : Nat) : (encAs l).take i = encAs (l.take i) := by simp [encAs, List.map_take]
theorem encAs_drop (l : List Atm) (i : Nat) : (encAs l).drop i = encAs (l.drop i) := by simp [encAs, List.map_drop]
abbrev cCQ (x : CQ) : AV := .agg [.list (encTs x.head) none, .list (encAs x.body) none]
end Go.Proofs.YtababmnmkmgbbaaGreat
/-
  A part of the proof: its theorems say what each gives.
-/
set_option maxRecDepth 100000
set_option maxHeartbeats 4000000
set_option linter.unusedSimpArgs false
set_option linter.unusedVariables false
namespace Go.Proofs.YtababmnmkmgbbaaGreat
open Go Fw
/-- The first place below n where p holds, or -1. -/
def idxF (p : Nat → Bool) (n : Nat) : Int := match (List.range n).find? p with | some i => (i : Int) | none => -1
theorem idxF_hit {p : Nat → Bool} {n i : Nat} (h : i < n) (hp : p i = true) (h0 : ∀ j, j < i → p j = false) : idxF p n = i := by
  unfold idxF
  have : (List.range n).find? p = some i := by
    rw [List.find?_range_eq_some]
    exact ⟨hp, List.mem_range.2 h, fun j hj => by simp [h0 j hj]⟩
  rw [this]
theorem idxF_miss {p : Nat → Bool} {n : Nat} (h0 : ∀ j, j < n → p j = false) : idxF p n = -1 := by
  unfold idxF
  have : (List.range n).find? p = none := by
    rw [List.find?_range_eq_none]
    exact fun j hj => by simp [h0 j hj]
  rw [this]
/-- The first number that is not 0. -/
def firstE (g : Nat → Int) : Nat → Int
  | 0 => 0
  | n + 1 => if firstE g n = 0 then g n else firstE g n
theorem firstE_miss {g : Nat → Int} : ∀ {n : Nat}, (∀ j, j < n → g j = 0) → firstE g n = 0
  | 0, _ => rfl
  | n + 1, h => by rw [firstE, firstE_miss fun j hj => h j (by omega), if_pos rfl]; exact h n (by omega)
theorem firstE_hit {g : Nat → Int} {i : Nat} : ∀ {n : Nat}, i < n → g i ≠ 0 → (∀ j, j < i → g j = 0) → firstE g n = g i
  | 0, h, _, _ => by omega
  | n + 1, h, h1, h0 => by
    rw [firstE]
    rcases Nat.lt_or_ge i n with hlt | hge
    · rw [firstE_hit hlt h1 h0, if_neg h1]
    · obtain rfl : i = n := by omega
      rw [firstE_miss h0, if_pos rfl]
/-- The first number of a list that is not 0. -/
def firstL {α : Type} (g : α → Int) : List α → Int
  | [] => 0
  | a :: l => if g a = 0 then firstL g l else g a
theorem firstL_append {α : Type} {g : α → Int} (a b : List α) : firstL g (a ++ b) = if firstL g a = 0 then firstL g b else firstL g a := by
  induction a with
  | nil => simp [firstL]
  | cons x l ih =>
    simp only [List.cons_append, firstL, ih]
    split
    · rfl
    · rfl
theorem firstL_step {α : Type} {g : α → Int} {l : List α} {i : Nat} {a : α} (h : firstL g (l.take i) = 0) (ha : l[i]? = some a) (h0 : g a = 0) : firstL g (l.take (i + 1)) = 0 := by
  rw [List.take_add_one, ha, firstL_append, h, if_pos rfl]
  simp [firstL, h0]
theorem firstL_hit {α : Type} {g : α → Int} {l : List α} {i : Nat} {a : α} (h : firstL g (l.take i) = 0) (ha : l[i]? = some a) (h0 : g a ≠ 0) : firstL g l = g a := by
  have : firstL g (l.take (i + 1)) = g a := by
    rw [List.take_add_one, ha, firstL_append, h, if_pos rfl]
    simp [firstL, h0]
  rw [← List.take_append_drop (i + 1) l, firstL_append, this, if_neg h0]
theorem cast_max (a b : Nat) : ((max a b : Nat) : Int) = max (a : Int) (b : Int) := by omega
theorem c_IndexField (xs : List AV) (q : Nat) (cap : List AV) (p : Nat → Bool) (H : Hp) (hx : ∀ i, i < xs.length → ∃ a b c d e, xs.getD i .any = .agg [a, b, c, d, e]) (hn : xs.length ≤ 4611686018427387904)
    (hp : ∀ i, i < xs.length → PureAt Tryz.prog q ((xs.getD i .any) :: cap) H (.con (.bool (p i)))) :
    PureAt Tryz.prog 369 [.list xs none, .fn q cap] H (.con (.int .i64 (idxF p xs.length))) := by
  refine acalls_of (by kernel_rfl) Tryz.func369 rfl 19 Tryz.ntmps369 (by simp) [.tmp 4] rfl ?_
  ((repeat' (first | (refine awp_seq_k (fun K hK => ?_)) | (refine awp_block ?_) | (refine awp_reg _ rfl ?_; (try simp only [go_sem, Nat.reduceLT, Nat.reduceAdd, ↓reduceIte, reduceCtorEq])) | (refine hK _ ?_; clear hK; (try clear K)))))
  refine awp_loop (ι := Nat) (fun i => ⟨19, [(0, .list xs none), (1, .fn q cap), (7, .con (.int .i64 xs.length)), (8, .con (.int .i64 (i : Int)))], H⟩) (fun i => i ≤ xs.length ∧ ∀ j, j < i → p j = false) (fun i => xs.length - i) 0 ⟨by omega, fun j hj => by omega⟩ ?_ ?_
  · (refine st_le rfl ?_ (by ((try dsimp only); repeat' ((with_reducible exact .refl _)))); (try simp only [go_sem, Nat.reduceEqDiff, ↓reduceIte, reduceCtorEq]))
  intro i ⟨hi, h0⟩
  rcases Nat.lt_or_ge i xs.length with hlt | hge
  · obtain ⟨a, b, c, d, e, hg⟩ := hx i hlt
    have hpi := hp i hlt
    rw [hg] at hpi
    cases hv : p i
    all_goals
      rw [hv] at hpi
      ((repeat' (first | (refine awp_seq_k (fun K hK => ?_)) | (refine awp_block ?_) | (refine awp_reg _ rfl ?_; (try simp only [go_sem, Nat.reduceLT, Nat.reduceEqDiff, Nat.reduceLeDiff, Nat.reduceAdd, ↓reduceIte, reduceCtorEq, wrap_succ i (by omega), hg])) | (refine awp_cond _ rfl (fun hc => ?_) (fun hc => ?_) <;> (try (simp only [decide_eq_true_eq, decide_eq_false_iff_not, cds] at hc)) <;> (try (exfalso; omega))) | (refine awp_skip ?_; (try simp only [sq, bk])) | (refine awp_ret ?_; (try simp only [sq, bk])) | (refine PureAt.use (hpi) ?_) | (refine orAt_l ?_) | (with_reducible apply And.intro) | (refine hK _ ?_; clear hK; (try clear K)))); (all_goals (try ((omega)))))
    · refine ⟨i + 1, by omega, ⟨by omega, fun j hj => ?_⟩, ?_⟩
      · rcases Nat.lt_succ_iff_lt_or_eq.1 hj with h | rfl
        · exact h0 j h
        · exact hv
      · (refine st_le rfl ?_ (by ((try dsimp only); repeat' ((with_reducible exact .refl _)))); (try simp only [go_sem, Nat.reduceEqDiff, ↓reduceIte, reduceCtorEq]))
    · rw [idxF_hit hlt hv h0]
      ((all_goals (try refine fin_pure (by (try simp only [forall_eq, resOk, List.mem_cons, List.not_mem_nil, or_false])) ?_ (by ((try dsimp only); repeat' ((with_reducible exact .refl _)))))); (all_goals (try simp only [go_sem, ↓reduceIte])))
  · obtain rfl : i = xs.length := by omega
    ((repeat' (first | (refine awp_seq_k (fun K hK => ?_)) | (refine awp_reg _ rfl ?_; (try simp only [go_sem, Nat.reduceLT, Nat.reduceEqDiff, Nat.reduceLeDiff, Nat.reduceAdd, ↓reduceIte, reduceCtorEq])) | (refine awp_cond _ rfl (fun hc => ?_) (fun hc => ?_) <;> (try (simp only [decide_eq_true_eq, decide_eq_false_iff_not] at hc)) <;> (try (exfalso; omega))) | (refine awp_exit ?_; (try simp only [sq, bk, ↓reduceIte])) | (refine awp_ret ?_) | (refine hK _ ?_; clear hK; (try clear K)) | (refine kk (by assumption) ?_))))
    ((all_goals (try refine fin_pure (by (try simp only [forall_eq, resOk, List.mem_cons, List.not_mem_nil, or_false])) ?_ (by ((try dsimp only); repeat' ((with_reducible exact .refl _)))))); (all_goals (try simp only [go_sem, ↓reduceIte, idxF_miss h0])))
theorem c_ContainsField (xs : List AV) (q : Nat) (cap : List AV) (p : Nat → Bool) (H : Hp) (hx : ∀ i, i < xs.length → ∃ a b c d e, xs.getD i .any = .agg [a, b, c, d, e]) (hn : xs.length ≤ 4611686018427387904)
    (hp : ∀ i, i < xs.length → PureAt Tryz.prog q ((xs.getD i .any) :: cap) H (.con (.bool (p i)))) :
    PureAt Tryz.prog 367 [.list xs none, .fn q cap] H (.con (.bool (decide (0 ≤ idxF p xs.length)))) := by
  refine acalls_of (by kernel_rfl) Tryz.func367 rfl 9 Tryz.ntmps367 (by simp) [.tmp 4] rfl ?_
  ((repeat' (first | (refine awp_seq_k (fun K hK => ?_)) | (refine awp_reg _ rfl ?_; (try simp only [go_sem, Nat.reduceLT, Nat.reduceEqDiff, Nat.reduceAdd, ↓reduceIte, reduceCtorEq])) | (refine awp_ret ?_) | (refine PureAt.use (c_IndexField xs q cap p _ hx hn hp) ?_ <;> (try simp only [go_sem, Nat.reduceLT, ↓reduceIte])) | (refine orAt_l ?_) | (refine hK _ ?_; clear hK; (try clear K)))))
  ((all_goals (try refine fin_pure (by (try simp only [forall_eq, resOk, List.mem_cons, List.not_mem_nil, or_false])) ?_ (by ((try dsimp only); repeat' ((with_reducible exact .refl _)))))); (all_goals (try simp only [go_sem, ↓reduceIte])))
end Go.Proofs.YtababmnmkmgbbaaGreat
