/-
  A part of the proof: its theorems say what each gives.
-/
import Derived.Test.YtdlbbcjacjockaaKPd
set_option linter.unusedSimpArgs false
set_option linter.unusedVariables false
namespace Go.Proofs.Ytdlbbcjacjockaa
open Go Fw
/-! Logs: the entries of a list that are right, when they are numbered from one on. -/
def gat (k : Nat) : List Ent → List Ent
  | [] => []
  | x :: l => if entE ⟨(k + 1 : Nat), x.ch⟩ = 0 then ⟨(k + 1 : Nat), x.ch⟩ :: gat (k + 1) l else gat k l
theorem gat_snoc (x : Ent) : ∀ (l : List Ent) (k : Nat), gat k (l ++ [x]) = if entE ⟨(k + (gat k l).length + 1 : Nat), x.ch⟩ = 0 then gat k l ++ [⟨(k + (gat k l).length + 1 : Nat), x.ch⟩] else gat k l
  | [], k => by simp only [List.nil_append, gat, List.length_nil, Nat.add_zero]; rfl
  | y :: l, k => by
    rw [List.cons_append, gat, gat]
    split
    · rw [gat_snoc x l (k + 1), List.length_cons, show k + 1 + (gat (k + 1) l).length + 1 = k + ((gat (k + 1) l).length + 1) + 1 by omega]
      split <;> rfl
    · rw [gat_snoc x l k]
theorem gat_append (b : List Ent) : ∀ (a : List Ent) (k : Nat), gat k (a ++ b) = gat k a ++ gat (k + (gat k a).length) b
  | [], k => by simp [gat]
  | y :: a, k => by
    rw [List.cons_append, gat, gat]
    split
    · rw [gat_append b a (k + 1), List.cons_append, List.length_cons, show k + 1 + (gat (k + 1) a).length = k + ((gat (k + 1) a).length + 1) by omega]
    · rw [gat_append b a k]
theorem gat_len : ∀ (l : List Ent) (k : Nat), (gat k l).length ≤ l.length
  | [], k => by simp [gat]
  | y :: l, k => by
    rw [gat]
    split
    · have := gat_len l (k + 1); simp; omega
    · have := gat_len l k; simp; omega
theorem gat_good : ∀ (l : List Ent) (k : Nat), k + l.length ≤ 9007199254740992 → (∀ x ∈ l, WfE x) → good k (gat k l)
  | [], k, _, _ => trivial
  | y :: l, k, hk, hw => by
    simp only [List.length_cons] at hk
    rw [gat]
    split
    · rename_i h
      refine ⟨h, ⟨by simp only [okI]; omega, (hw y (by simp)).ch⟩, by simp, gat_good l (k + 1) (by omega) fun x hx => hw x (by simp [hx])⟩
    · exact gat_good l k (by omega) fun x hx => hw x (by simp [hx])
theorem gat_mem : ∀ (l : List Ent) (k : Nat), ∀ y ∈ gat k l, entE y = 0 ∧ ∃ x ∈ l, y.ch = x.ch ∧ ∃ n : Nat, y.no = n ∧ n ≤ k + l.length
  | [], k, y, h => by simp [gat] at h
  | x :: l, k, y, h => by
    rw [gat] at h
    split at h
    · rename_i h0
      rcases List.mem_cons.1 h with rfl | h
      · exact ⟨h0, x, by simp, rfl, k + 1, rfl, by simp⟩
      · obtain ⟨h1, z, h2, h3, n, h4, h5⟩ := gat_mem l (k + 1) y h
        exact ⟨h1, z, by simp [h2], h3, n, h4, by simp; omega⟩
    · obtain ⟨h1, z, h2, h3, n, h4, h5⟩ := gat_mem l k y h
      exact ⟨h1, z, by simp [h2], h3, n, h4, by simp; omega⟩
theorem logB_append (a b : List Ent) : logB (a ++ b) = logB a ++ logB b := by simp [logB]
theorem logB_one (x : Ent) : logB [x] = frmB (bodyB x) := by simp [logB]
/-- where the entries end -/
def ends (l : List Ent) : List Nat := (List.range l.length).map fun i => (logB (l.take (i + 1))).length
theorem ends_len (l : List Ent) : (ends l).length = l.length := by simp [ends]
theorem ends_get {l : List Ent} {i : Nat} (h : i < l.length) : (ends l)[i]'(by rw [ends_len]; exact h) = (logB (l.take (i + 1))).length := by simp [ends]
theorem ends_snoc (l : List Ent) (x : Ent) : ends (l ++ [x]) = ends l ++ [(logB (l ++ [x])).length] := by
  unfold ends
  rw [List.length_append, List.length_singleton, List.range_succ, List.map_append]
  congr 1
  · refine List.map_congr_left fun i hi => ?_
    rw [List.take_append_of_le_length (by have := List.mem_range.1 hi; omega)]
  · simp only [List.map_cons, List.map_nil]
    rw [List.take_of_length_le (by simp)]
theorem cutK_le : ∀ (l : List Ent) (c : Nat), cutK l c ≤ l.length
  | [], c => by simp [cutK]
  | x :: l, c => by rw [cutK]; split
                    · have := cutK_le l (c - frl x); simp; omega
                    · simp
theorem frl_pos (x : Ent) : 6 ≤ frl x := by unfold frl; omega
/-- The loop over the ends: as long as an end is at the place or before it. -/
theorem cutK_iff : ∀ (l : List Ent) (c i : Nat), i < l.length → ((logB (l.take (i + 1))).length ≤ c ↔ i < cutK l c)
  | [], c, i, h => by simp at h
  | x :: l, c, i, h => by
    rw [List.take_succ_cons, logB_cons, List.length_append, frmB_length, cutK]
    change frl x + _ ≤ c ↔ _
    split
    · cases i with
      | zero => simp [logB]; omega
      | succ i =>
        have := cutK_iff l (c - frl x) i (by simpa using h)
        omega
    · omega
theorem logB_take_mono (l : List Ent) {i j : Nat} (h : i ≤ j) : (logB (l.take i)).length ≤ (logB (l.take j)).length := by
  have : l.take j = l.take i ++ (l.take j).drop i := by
    conv => lhs; rw [← List.take_append_drop i (l.take j)]
    rw [List.take_take, Nat.min_eq_left h]
  rw [this, logB_append, List.length_append]; omega
theorem logB_take_le (l : List Ent) (i : Nat) : (logB (l.take i)).length ≤ (logB l).length := by
  conv => rhs; rw [← List.take_append_drop i l, logB_append, List.length_append]
  omega
theorem logB_len (l : List Ent) : 6 * l.length ≤ (logB l).length := by
  induction l with
  | nil => simp [logB]
  | cons x l ih => rw [logB_cons, List.length_append, frmB_length]; simp; omega
theorem gat_take_len (l : List Ent) (i k : Nat) : (logB (gat k (l.take i))).length ≤ (logB (gat k l)).length := by
  conv => rhs; rw [← List.take_append_drop i l, gat_append, logB_append, List.length_append]
  omega
theorem wrap_mod (c : Int) (n : Nat) (h0 : 0 < n) (hn : n ≤ 4611686018427387904) (h1 : -9223372036854775808 ≤ c) (h2 : c ≤ 9223372036854775807) :
    ∃ m : Nat, m < n ∧ (IntKind.i64.wrap (Int.tmod c n + n)).tmod n = (m : Int) := by
  have h3 := Int.emod_nonneg c (show (n : Int) ≠ 0 by omega)
  have h4 := Int.emod_lt_of_pos c (show (0 : Int) < n by omega)
  have h5 : c.tmod n = c % n ∨ c.tmod n = c % n - n := by
    rw [Int.tmod_eq_emod]
    split
    · left; omega
    · right; simp only [Int.natAbs_natCast]
  have h6 : 0 ≤ c.tmod n + n ∧ c.tmod n + n < 2 * n := by omega
  rw [wrap_id (by omega) (by omega), Int.tmod_eq_emod_of_nonneg h6.1]
  exact ⟨((c.tmod n + n) % n).toNat, by have := Int.emod_lt_of_pos (c.tmod n + n) (show (0 : Int) < n by omega); have := Int.emod_nonneg (c.tmod n + n) (show (n : Int) ≠ 0 by omega); omega, by have := Int.emod_nonneg (c.tmod n + n) (show (n : Int) ≠ 0 by omega); omega⟩
end Go.Proofs.Ytdlbbcjacjockaa
