/-
  A part of the proof: its theorems say what each gives.
-/
import Derived.Test.YtababmnmkmgbbaaGreatKDv
set_option linter.unusedSimpArgs false
set_option linter.unusedVariables false
namespace Go.Proofs.YtababmnmkmgbbaaGreat
open Go Fw
/-! Plain laws of lists: the first that is such; alike place by place; the order. -/
theorem at_lt {α : Type} {l : List α} {i : Nat} (h : i < l.length) : ∃ x, l[i]? = some x ∧ x ∈ l := ⟨l[i], List.getElem?_eq_getElem h, List.getElem_mem h⟩
theorem take_at {α : Type} {l : List α} {i : Nat} {x : α} (h : l[i]? = some x) : l.take (i + 1) = l.take i ++ [x] := by
  obtain ⟨hl, rfl⟩ := List.getElem?_eq_some_iff.1 h
  exact List.take_succ_eq_append_getElem hl
/-- The place of the first element that is such; -1: there is none. -/
def idxL {α : Type} (p : α → Bool) (l : List α) : Int := match l.findIdx? p with | some i => i | none => -1
theorem take_step {α : Type} {p : α → Bool} {l : List α} {i : Nat} {x : α} (hx : l[i]? = some x) (hv : p x = false) (h0 : ∀ y ∈ l.take i, p y = false) : ∀ y ∈ l.take (i + 1), p y = false := by
  rw [take_at hx]
  intro y hy
  rcases List.mem_append.1 hy with hy | hy
  · exact h0 y hy
  · rw [List.mem_singleton.1 hy]; exact hv
theorem idxL_hit {α : Type} {p : α → Bool} {l : List α} {i : Nat} {x : α} (hx : l[i]? = some x) (hv : p x = true) (h0 : ∀ y ∈ l.take i, p y = false) : idxL p l = i := by
  obtain ⟨hl, rfl⟩ := List.getElem?_eq_some_iff.1 hx
  have : l.findIdx? p = some i := by
    rw [List.findIdx?_eq_some_iff_getElem]
    refine ⟨hl, hv, fun j hj => ?_⟩
    have := h0 l[j] (by rw [List.mem_take_iff_getElem]; exact ⟨j, by omega, rfl⟩)
    rw [this]; simp
  unfold idxL
  rw [this]
theorem idxL_miss {α : Type} {p : α → Bool} {l : List α} (h0 : ∀ y ∈ l, p y = false) : idxL p l = -1 := by
  have : l.findIdx? p = none := List.findIdx?_eq_none_iff.2 h0
  unfold idxL
  rw [this]
theorem idxL_any {α : Type} (p : α → Bool) (l : List α) : decide (0 ≤ idxL p l) = l.any p := by
  unfold idxL
  cases h : l.findIdx? p with
  | none =>
    have := List.findIdx?_eq_none_iff.1 h
    have e : l.any p = false := by rw [List.any_eq_false]; intro y hy; rw [this y hy]; simp
    rw [e]; rfl
  | some i =>
    obtain ⟨hl, hv, _⟩ := List.findIdx?_eq_some_iff_getElem.1 h
    have e : l.any p = true := List.any_eq_true.2 ⟨_, List.getElem_mem hl, hv⟩
    rw [e]; simp
theorem idxL_get {α : Type} {p : α → Bool} {l : List α} (h : 0 ≤ idxL p l) : ∃ x, l[(idxL p l).toNat]? = some x ∧ l.find? p = some x := by
  unfold idxL at h ⊢
  cases e : l.findIdx? p with
  | none => rw [e] at h; simp at h
  | some i =>
    obtain ⟨hl, hv, h2⟩ := List.findIdx?_eq_some_iff_getElem.1 e
    refine ⟨l[i], by simp [hl], ?_⟩
    rw [List.find?_eq_some_iff_getElem]
    exact ⟨hv, i, hl, rfl, fun j hj => by simpa using h2 j hj⟩
/-- Two lists of one length whose elements are alike, place by place. -/
def eqL {α β : Type} (r : α → β → Bool) : List α → List β → Bool
  | [], [] => true
  | a :: l, b :: m => r a b && eqL r l m
  | _, _ => false
theorem eqL_len {α β : Type} {r : α → β → Bool} : ∀ {l : List α} {m : List β}, eqL r l m = true → l.length = m.length
  | [], [], _ => rfl
  | a :: l, b :: m, h => by
    rw [eqL, Bool.and_eq_true] at h
    rw [List.length_cons, List.length_cons, eqL_len h.2]
theorem eqL_ne {α β : Type} {r : α → β → Bool} {l : List α} {m : List β} (h : ¬ l.length = m.length) : eqL r l m = false := by
  cases e : eqL r l m with
  | false => rfl
  | true => exact absurd (eqL_len e) h
theorem drop_at {α : Type} {l : List α} {i : Nat} {x : α} (h : l[i]? = some x) : l.drop i = x :: l.drop (i + 1) := by
  obtain ⟨hl, rfl⟩ := List.getElem?_eq_some_iff.1 h
  exact List.drop_eq_getElem_cons hl
/-- The order of lists by that of their elements. -/
def cmpL {α β : Type} (c : α → β → Int) : List α → List β → Int
  | [], [] => 0
  | [], _ :: _ => -1
  | _ :: _, [] => 1
  | a :: l, b :: m => if c a b = 0 then cmpL c l m else c a b
theorem eqL_step {α β : Type} {r : α → β → Bool} {l : List α} {m : List β} {i : Nat} {a : α} {b : β} {v : Bool} (h : eqL r (l.drop i) (m.drop i) = v) (ha : l[i]? = some a) (hb : m[i]? = some b) (hr : r a b = true) : eqL r (l.drop (i + 1)) (m.drop (i + 1)) = v := by
  rw [drop_at ha, drop_at hb, eqL, hr, Bool.true_and] at h; exact h
theorem eqL_miss {α β : Type} {r : α → β → Bool} {l : List α} {m : List β} {i : Nat} {a : α} {b : β} {v : Bool} (h : eqL r (l.drop i) (m.drop i) = v) (ha : l[i]? = some a) (hb : m[i]? = some b) (hr : r a b = false) : v = false := by
  rw [drop_at ha, drop_at hb, eqL, hr, Bool.false_and] at h; exact h.symm
theorem eqL_end {α β : Type} {r : α → β → Bool} {l : List α} {m : List β} {v : Bool} (h : eqL r (l.drop l.length) (m.drop l.length) = v) (hl : l.length = m.length) : v = true := by
  rw [List.drop_length, hl, List.drop_length, eqL] at h; exact h.symm
theorem cmpL_step {α β : Type} {c : α → β → Int} {l : List α} {m : List β} {i : Nat} {a : α} {b : β} {v : Int} (h : cmpL c (l.drop i) (m.drop i) = v) (ha : l[i]? = some a) (hb : m[i]? = some b) (hr : c a b = 0) : cmpL c (l.drop (i + 1)) (m.drop (i + 1)) = v := by
  rw [drop_at ha, drop_at hb, cmpL, if_pos hr] at h; exact h
theorem cmpL_hit {α β : Type} {c : α → β → Int} {l : List α} {m : List β} {i : Nat} {a : α} {b : β} {v : Int} (h : cmpL c (l.drop i) (m.drop i) = v) (ha : l[i]? = some a) (hb : m[i]? = some b) (hr : ¬ c a b = 0) : v = c a b := by
  rw [drop_at ha, drop_at hb, cmpL, if_neg hr] at h; exact h.symm
theorem cmpL_end {α β : Type} {c : α → β → Int} {l : List α} {m : List β} {i : Nat} {v : Int} (h : cmpL c (l.drop i) (m.drop i) = v) (hi : i ≤ l.length) (hj : i ≤ m.length) (he : i = l.length ∨ i = m.length) :
    v = if l.length < m.length then -1 else if l.length = m.length then 0 else 1 := by
  rcases he with rfl | rfl
  · rw [List.drop_length] at h
    cases e : m.drop l.length with
    | nil => rw [e, cmpL] at h; have := List.drop_eq_nil_iff.1 e; rw [if_neg (by omega), if_pos (by omega)]; exact h.symm
    | cons b r =>
      rw [e, cmpL] at h
      have h2 : (m.drop l.length).length = r.length + 1 := by rw [e]; rfl
      rw [List.length_drop] at h2
      rw [if_pos (by omega)]; exact h.symm
  · rw [List.drop_length] at h
    cases e : l.drop m.length with
    | nil => rw [e, cmpL] at h; have := List.drop_eq_nil_iff.1 e; rw [if_neg (by omega), if_pos (by omega)]; exact h.symm
    | cons b r =>
      rw [e, cmpL] at h
      have h2 : (l.drop m.length).length = r.length + 1 := by rw [e]; rfl
      rw [List.length_drop] at h2
      rw [if_neg (by omega), if_neg (by omega)]; exact h.symm
theorem eqL_self {α : Type} {r : α → α → Bool} : ∀ {l : List α}, (∀ x ∈ l, r x x = true) → eqL r l l = true
  | [], _ => rfl
  | a :: l, h => by rw [eqL, h a (by simp), Bool.true_and]; exact eqL_self fun x hx => h x (by simp [hx])
end Go.Proofs.YtababmnmkmgbbaaGreat
