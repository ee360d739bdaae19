/-
  A part of the proof: its theorems say what each gives.
-/
import Derived.Test.YtababmnmkmgbbaaGreatKM23
set_option maxRecDepth 100000
set_option linter.unusedSimpArgs false
set_option linter.unusedVariables false
namespace Go.Proofs.YtababmnmkmgbbaaGreat
open Go Fw
/-! All bindings deep first, with counters that wrap as the program's do: so the walk needs no bound. -/
theorem w64 {n : Int} (h0 : 0 ≤ n) (h : n + 1 ≤ 4611686018427387904) : IntKind.i64.wrap (n + 1) = n + 1 := by
  simp [IntKind.wrap, IntKind.signed, IntKind.bits]; omega
def incZ : List Int → List Int
  | n :: l => IntKind.i64.wrap (n + 1) :: l
  | [] => []
def envsZ (b : List Rel) : List Atm → List Val → List Int → List (List Val) × List Int
  | [], x, lv => ([x], incZ lv)
  | a :: l, x, lv => if 20000 < (incZ lv).headD 0 then ([x], incZ lv) else
    (((rowsOf b a.rel).foldl (fun (s : List (List Val) × List Int) row => match bindR x a row with | some y => (s.1 ++ (envsZ b l y s.2).1, (envsZ b l y s.2).2) | none => s) ([], lv.tail)).1,
     (incZ lv).headD 0 :: ((rowsOf b a.rel).foldl (fun (s : List (List Val) × List Int) row => match bindR x a row with | some y => (s.1 ++ (envsZ b l y s.2).1, (envsZ b l y s.2).2) | none => s) ([], lv.tail)).2)
theorem incZ_len (lv : List Int) : (incZ lv).length = lv.length := by cases lv <;> rfl
theorem envsZ_len (b : List Rel) : ∀ (l : List Atm) (x : List Val) (lv : List Int), lv.length = l.length + 1 → (envsZ b l x lv).2.length = lv.length
  | [], x, lv, h => by rw [envsZ]; exact incZ_len lv
  | a :: l, x, lv, h => by
    rw [envsZ]
    split
    · exact incZ_len lv
    · have key : ∀ (rs : List (List Val)) (s : List (List Val) × List Int), s.2.length = l.length + 1 →
          (rs.foldl (fun (s : List (List Val) × List Int) row => match bindR x a row with | some y => (s.1 ++ (envsZ b l y s.2).1, (envsZ b l y s.2).2) | none => s) s).2.length = l.length + 1 := by
        intro rs
        induction rs with
        | nil => intro s hs; exact hs
        | cons row rs ih =>
          intro s hs
          rw [List.foldl_cons]
          cases hb : bindR x a row with
          | none => exact ih s hs
          | some y => exact ih _ (by simp only; rw [envsZ_len b l y s.2 hs, hs])
      have ht : lv.tail.length = l.length + 1 := by rw [List.length_tail, h]; rfl
      simp only [List.length_cons]
      rw [key _ _ ht, h]; rfl
theorem envsZ_spec (b : List Rel) : ∀ (l : List Atm) (x : List Val) (lv : List Int) (k : Nat), lv.length = l.length + 1 → k ≤ l.length → (∀ j, j ≤ k → 0 ≤ lv.getD j 0) →
    (∀ j, j < k → lv.getD j 0 + sz b l [x] j ≤ 20000) → lv.getD k 0 + sz b l [x] k ≤ 4611686018427387904 →
    (∀ j, j ≤ k → (envsZ b l x lv).2.getD j 0 = lv.getD j 0 + sz b l [x] j) ∧ (k = l.length → (envsZ b l x lv).1 = bfOut b l [x])
  | [], x, [n], k, _, hk, h0, _, hm => by
    obtain rfl : k = 0 := by simpa using hk
    refine ⟨fun j hj => ?_, fun _ => rfl⟩
    obtain rfl : j = 0 := by omega
    have h00 := h0 0 (Nat.le_refl _)
    rw [sz_zero] at hm ⊢
    simp only [List.getD_cons_zero, List.length_singleton] at hm h00 ⊢
    rw [envsZ, incZ]
    simp only [List.getD_cons_zero]
    rw [w64 h00 (by simpa using hm)]; rfl
  | [], x, [], k, h, _, _, _, _ => by simp at h
  | [], x, _ :: _ :: _, k, h, _, _, _, _ => by simp at h
  | a :: l, x, [], k, h, _, _, _, _ => by simp at h
  | a :: l, x, n :: lv, k, hl, hk, h0, h, hm => by
    have hl2 : lv.length = l.length + 1 := by simpa using hl
    have key : ∀ (k' : Nat), k' ≤ l.length → ∀ (rs : List (List Val)) (s : List (List Val) × List Int), s.2.length = l.length + 1 → (∀ j, j ≤ k' → 0 ≤ s.2.getD j 0) → (∀ j, j < k' → s.2.getD j 0 + sz b l (rs.filterMap (bindR x a)) j ≤ 20000) → s.2.getD k' 0 + sz b l (rs.filterMap (bindR x a)) k' ≤ 4611686018427387904 →
        (∀ j, j ≤ k' → (rs.foldl (fun (s : List (List Val) × List Int) row => match bindR x a row with | some y => (s.1 ++ (envsZ b l y s.2).1, (envsZ b l y s.2).2) | none => s) s).2.getD j 0 = s.2.getD j 0 + sz b l (rs.filterMap (bindR x a)) j) ∧
        (k' = l.length → (rs.foldl (fun (s : List (List Val) × List Int) row => match bindR x a row with | some y => (s.1 ++ (envsZ b l y s.2).1, (envsZ b l y s.2).2) | none => s) s).1 = s.1 ++ bfOut b l (rs.filterMap (bindR x a))) := by
      intro k' hk' rs
      induction rs with
      | nil => intro s hs _ _ _; exact ⟨fun j hj => by simp [sz_nil], fun _ => by simp [bfOut_nil]⟩
      | cons row rs ih =>
        intro s hs hz hj hmm
        rw [List.foldl_cons, List.filterMap_cons] at *
        cases hb : bindR x a row with
        | none => rw [hb] at hj hmm; exact ih s hs hz hj hmm
        | some y =>
          rw [hb] at hj hmm
          simp only at hj hmm ⊢
          have hcat : ∀ j, sz b l (y :: rs.filterMap (bindR x a)) j = sz b l [y] j + sz b l (rs.filterMap (bindR x a)) j := fun j => sz_app b l [y] _ j
          rw [hcat] at hmm
          obtain ⟨i2, i3⟩ := envsZ_spec b l y s.2 k' (by rw [hs]) hk' hz (fun j hj2 => by have := hj j hj2; rw [hcat] at this; omega) (by omega)
          obtain ⟨g2, g3⟩ := ih (s.1 ++ (envsZ b l y s.2).1, (envsZ b l y s.2).2) (by simp only; rw [envsZ_len b l y s.2 hs, hs]) (fun j hj2 => by
            have := hz j hj2; simp only; rw [i2 j hj2]; omega) (fun j hj2 => by
            have := hj j hj2; rw [hcat] at this; simp only; rw [i2 j (by omega)]; omega) (by simp only; rw [i2 k' (Nat.le_refl _)]; omega)
          refine ⟨fun j hj2 => ?_, fun hk2 => ?_⟩
          · rw [g2 j hj2, hcat]; simp only; rw [i2 j hj2]; omega
          · rw [g3 hk2]
            simp only
            rw [i3 hk2, List.append_assoc, ← bfOut_app]; rfl
    have hs1 : sz b (a :: l) [x] 0 = 1 := by rw [sz_zero]; rfl
    have hs2 : ∀ j, sz b (a :: l) [x] (j + 1) = sz b l ((rowsOf b a.rel).filterMap (bindR x a)) j := fun j => by rw [sz]; simp [stepB]
    have hn0 := h0 0 (Nat.zero_le _)
    simp only [List.getD_cons_zero] at hn0
    rw [envsZ]
    cases k with
    | zero =>
      rw [hs1] at hm
      simp only [List.getD_cons_zero] at hm
      have hw : (incZ (n :: lv)) = (n + 1) :: lv := by rw [incZ, w64 hn0 (by omega)]
      rw [hw]
      by_cases hn : 20000 < ((n + 1) :: lv).headD 0
      · rw [if_pos hn]
        refine ⟨fun j hj => ?_, fun e => by simp at e⟩
        obtain rfl : j = 0 := by omega
        rw [hs1]; rfl
      · rw [if_neg hn]
        refine ⟨fun j hj => ?_, fun e => by simp at e⟩
        obtain rfl : j = 0 := by omega
        rw [hs1]; rfl
    | succ k =>
      have h1 := h 0 (by omega)
      rw [hs1] at h1
      simp only [List.getD_cons_zero] at h1
      have hw : (incZ (n :: lv)) = (n + 1) :: lv := by rw [incZ, w64 hn0 (by omega)]
      rw [hw]
      rw [if_neg (show ¬ 20000 < ((n + 1) :: lv).headD 0 from (show ¬ 20000 < n + 1 by omega))]
      obtain ⟨g2, g3⟩ := key k (by simpa using hk) (rowsOf b a.rel) ([], lv) hl2 (fun j hj => by
        have := h0 (j + 1) (by omega); simpa using this) (fun j hj => by
        have := h (j + 1) (by omega); rw [hs2] at this; simpa using this) (by rw [hs2] at hm; simpa using hm)
      simp only [List.tail_cons]
      refine ⟨fun j hj => ?_, fun e => ?_⟩
      · cases j with
        | zero => rw [hs1]; rfl
        | succ j => rw [hs2]; simpa using g2 j (by omega)
      · simp only [List.length_cons, Nat.add_right_cancel_iff] at e
        rw [g3 e, bfOut]
        simp [stepB]
/-- A stage has at most two million times as many as the one before. -/
theorem flatMap_len {α β : Type _} (f : α → List β) (m : Nat) : ∀ (l : List α), (∀ a, (f a).length ≤ m) → (l.flatMap f).length ≤ l.length * m
  | [], _ => by simp
  | a :: l, h => by
    have := flatMap_len f m l h
    have := h a
    rw [List.flatMap_cons, List.length_append, List.length_cons, Nat.succ_mul]; omega
def rowsLe (b : List Rel) : Prop := ∀ nm, (rowsOf b nm).length ≤ 2000000
theorem stepB_len {b : List Rel} (h : rowsLe b) (a : Atm) (x : List Val) : (stepB b a x).length ≤ 2000000 := Nat.le_trans (List.length_filterMap_le _ _) (h a.rel)
theorem sz_step {b : List Rel} (h : rowsLe b) : ∀ (l : List Atm) (xs : List (List Val)) (k : Nat), sz b l xs (k + 1) ≤ sz b l xs k * 2000000
  | [], xs, k => by rw [sz]; exact Nat.zero_le _
  | a :: l, xs, 0 => by
    change sz b l (xs.flatMap (stepB b a)) 0 ≤ sz b (a :: l) xs 0 * 2000000
    rw [sz_zero, sz_zero]
    exact flatMap_len _ _ xs (stepB_len h a)
  | a :: l, xs, k + 1 => by rw [sz]; conv => rhs; rw [sz]
                            exact sz_step h l _ k
/-- All bindings, deep first, if no stage has too many. -/
def allZ (b : List Rel) (l : List Atm) (x : List Val) : Option (List (List Val)) :=
  if (envsZ b l x (List.replicate (l.length + 1) 0)).2.tail.any (fun n => decide (20000 < n)) = true then none else some (envsZ b l x (List.replicate (l.length + 1) 0)).1
theorem repZ_getD (n j : Nat) : (List.replicate n (0 : Int)).getD j 0 = 0 := by
  rw [List.getD_eq_getElem?_getD, List.getElem?_replicate]; split <;> rfl
theorem allZ_eq {b : List Rel} (hb : rowsLe b) (l : List Atm) (x : List Val) : allZ b l x = extL b l [x] := by
  rw [extL_eq]
  unfold allZ
  have hlen := envsZ_len b l x (List.replicate (l.length + 1) 0) (by simp)
  rw [List.length_replicate] at hlen
  by_cases h : ∀ j, j < l.length → sz b l [x] (j + 1) ≤ 20000
  · rw [if_pos h]
    have hall : ∀ j, j ≤ l.length → sz b l [x] j ≤ 20000 := fun j hj => by
      cases j with
      | zero => rw [sz_zero]; simp
      | succ j => exact h j (by omega)
    obtain ⟨g2, g3⟩ := envsZ_spec b l x (List.replicate (l.length + 1) 0) l.length (by simp) (Nat.le_refl _) (fun j _ => by rw [repZ_getD]; omega) (fun j hj => by
      rw [repZ_getD]; have := hall j (by omega); omega) (by rw [repZ_getD]; have := hall l.length (Nat.le_refl _); omega)
    rw [if_neg, g3 rfl]
    rw [Bool.not_eq_true, List.any_eq_false]
    intro n hn
    obtain ⟨j, hj, rfl⟩ := List.getElem_of_mem hn
    rw [List.length_tail, hlen] at hj
    have := g2 (j + 1) (by omega)
    rw [repZ_getD, List.getD_eq_getElem?_getD, List.getElem?_eq_getElem (by rw [hlen]; omega), Option.getD_some] at this
    simp only [List.getElem_tail, this, decide_eq_true_eq]
    have := h j (by omega)
    omega
  · rw [if_neg h]
    have hex : ∃ k, k < l.length ∧ 20000 < sz b l [x] (k + 1) := by
      refine Classical.byContradiction fun hn => h fun j hj => ?_
      rcases Nat.lt_or_ge 20000 (sz b l [x] (j + 1)) with h2 | h2
      · exact absurd ⟨j, hj, h2⟩ hn
      · exact h2
    have hmin : ∃ k, (k < l.length ∧ 20000 < sz b l [x] (k + 1)) ∧ ∀ j, j < k → ¬ (j < l.length ∧ 20000 < sz b l [x] (j + 1)) := by
      obtain ⟨k, hk⟩ := hex
      induction k using Nat.strongRecOn with
      | ind k ih =>
        by_cases hj : ∃ j, j < k ∧ (j < l.length ∧ 20000 < sz b l [x] (j + 1))
        · obtain ⟨j, hj1, hj2⟩ := hj
          exact ih j hj1 hj2
        · exact ⟨k, hk, fun j hj1 hj2 => hj ⟨j, hj1, hj2⟩⟩
    obtain ⟨k, ⟨hk1, hk2⟩, hk3⟩ := hmin
    have hsm : ∀ j, j < k + 1 → sz b l [x] j ≤ 20000 := fun j hj => by
      cases j with
      | zero => rw [sz_zero]; simp
      | succ j =>
        have := hk3 j (by omega)
        rcases Nat.lt_or_ge 20000 (sz b l [x] (j + 1)) with h2 | h2
        · exact absurd ⟨by omega, h2⟩ this
        · exact h2
    obtain ⟨g2, _⟩ := envsZ_spec b l x (List.replicate (l.length + 1) 0) (k + 1) (by simp) (by omega) (fun j _ => by rw [repZ_getD]; omega) (fun j hj => by
      rw [repZ_getD]; have := hsm j hj; omega) (by
      rw [repZ_getD]
      have h1 := sz_step hb l [x] k
      have h2 := hsm k (by omega)
      omega)
    rw [if_pos]
    have := g2 (k + 1) (Nat.le_refl _)
    rw [repZ_getD, List.getD_eq_getElem?_getD, List.getElem?_eq_getElem (by rw [hlen]; omega), Option.getD_some] at this
    refine List.any_eq_true.2 ⟨(envsZ b l x (List.replicate (l.length + 1) 0)).2[k + 1]'(by rw [hlen]; omega), ?_, by rw [this]; simp only [decide_eq_true_eq]; omega⟩
    rw [← List.getElem_tail (i := k) (by rw [List.length_tail, hlen]; omega)]
    exact List.getElem_mem _
theorem rowsLe_of {b : List Rel} (h : gBase b) : rowsLe b := fun nm => by
  unfold rowsOf
  cases hf : findR b nm with
  | none => exact Nat.zero_le _
  | some r => exact (h.2 r (List.mem_of_find?_eq_some hf)).rows.1
end Go.Proofs.YtababmnmkmgbbaaGreat
