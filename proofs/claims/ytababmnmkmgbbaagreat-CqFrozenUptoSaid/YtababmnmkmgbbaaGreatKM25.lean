/-
  A part of the proof: its theorems say what each gives.
-/
import Derived.Test.YtababmnmkmgbbaaGreatKQt
set_option maxRecDepth 100000
set_option linter.unusedSimpArgs false
set_option linter.unusedVariables false
namespace Go.Proofs.YtababmnmkmgbbaaGreat
open Go Fw
/-! A binding that was found binds all variables; the answers row by row, in plain Lean. -/
theorem getD_set {α : Type _} (l : List α) (i n : Nat) (v z : α) : (l.set i v).getD n z = if i = n ∧ i < l.length then v else l.getD n z := by
  simp only [List.getD_eq_getElem?_getD, List.getElem?_set]
  by_cases e : i = n
  · subst e
    by_cases h : i < l.length
    · simp [h]
    · simp [h]
  · simp [e]
theorem fitsR_len : ∀ (l : List Trm) (r out : List Val) {y : List Val}, fitsR out l r = some y → y.length = out.length
  | [], r, out, y, h => by
    rw [fitsR] at h
    · cases h; rfl
    all_goals (intros; simp_all)
  | t :: l, [], out, y, h => by
    rw [fitsR] at h
    · cases h; rfl
    all_goals (intros; simp_all)
  | t :: l, v :: r, out, y, h => by
    rw [fitsR] at h
    split at h
    · split at h
      · rw [fitsR_len l r _ h, List.length_set]
      · split at h
        · exact fitsR_len l r out h
        · cases h
    · split at h
      · exact fitsR_len l r out h
      · cases h
theorem fitsR_mono : ∀ (l : List Trm) (r out : List Val) {y : List Val}, fitsR out l r = some y → (∀ v ∈ r, v.k ≠ 0) → ∀ n : Nat, (out.getD n zV).k ≠ 0 → (y.getD n zV).k ≠ 0
  | [], r, out, y, h, hk, n, hn => by
    rw [fitsR] at h
    · cases h; exact hn
    all_goals (intros; simp_all)
  | t :: l, [], out, y, h, hk, n, hn => by
    rw [fitsR] at h
    · cases h; exact hn
    all_goals (intros; simp_all)
  | t :: l, v :: r, out, y, h, hk, n, hn => by
    have hk2 : ∀ u ∈ r, u.k ≠ 0 := fun u hu => hk u (List.mem_cons_of_mem _ hu)
    rw [fitsR] at h
    split at h
    · split at h
      · refine fitsR_mono l r _ h hk2 n ?_
        rw [getD_set]
        split
        · exact hk v (List.mem_cons_self ..)
        · exact hn
      · split at h
        · exact fitsR_mono l r out h hk2 n hn
        · cases h
    · split at h
      · exact fitsR_mono l r out h hk2 n hn
      · cases h
theorem fitsR_bound : ∀ (l : List Trm) (r out : List Val) {y : List Val}, fitsR out l r = some y → l.length = r.length → (∀ v ∈ r, v.k ≠ 0) → (∀ t ∈ l, t.var = true → 0 ≤ t.n ∧ t.n < out.length) → ∀ t ∈ l, t.var = true → (atV y t).k ≠ 0
  | [], r, out, y, h, hl, hk, hv, t, ht, hb => by simp at ht
  | t :: l, [], out, y, h, hl, hk, hv, u, hu, hb => by simp at hl
  | t :: l, v :: r, out, y, h, hl, hk, hv, u, hu, hb => by
    have hk2 : ∀ u ∈ r, u.k ≠ 0 := fun u hu => hk u (List.mem_cons_of_mem _ hu)
    have hl2 : l.length = r.length := by simpa using hl
    have hv2 : ∀ t ∈ l, t.var = true → 0 ≤ t.n ∧ t.n < out.length := fun u hu => hv u (List.mem_cons_of_mem _ hu)
    rw [fitsR] at h
    by_cases ht : t.var = true
    · have hr := hv t (List.mem_cons_self ..) ht
      rw [if_pos ht] at h
      by_cases h0 : (atV out t).k = 0
      · rw [if_pos h0] at h
        rcases List.mem_cons.1 hu with e | hu2
        · subst e
          refine fitsR_mono l r _ h hk2 u.n.toNat ?_
          rw [getD_set, if_pos ⟨rfl, by omega⟩]
          exact hk v (List.mem_cons_self ..)
        · exact fitsR_bound l r _ h hl2 hk2 (fun w hw hw2 => by rw [List.length_set]; exact hv2 w hw hw2) u hu2 hb
      · rw [if_neg h0] at h
        split at h
        · rcases List.mem_cons.1 hu with e | hu2
          · subst e
            exact fitsR_mono l r out h hk2 u.n.toNat h0
          · exact fitsR_bound l r out h hl2 hk2 hv2 u hu2 hb
        · cases h
    · rw [if_neg ht] at h
      split at h
      · rcases List.mem_cons.1 hu with e | hu2
        · subst e; exact absurd hb ht
        · exact fitsR_bound l r out h hl2 hk2 hv2 u hu2 hb
      · cases h
/-- Atoms that are right for a base. -/
def okAtoms (b : List Rel) (m : Nat) (l : List Atm) : Prop := ∀ a ∈ l, (∀ row ∈ rowsOf b a.rel, a.args.length = row.length ∧ ∀ v ∈ row, v.k ≠ 0) ∧ ∀ t ∈ a.args, t.var = true → 0 ≤ t.n ∧ t.n < m
theorem okAtoms_tail {b : List Rel} {m : Nat} {a : Atm} {l : List Atm} (h : okAtoms b m (a :: l)) : okAtoms b m l := fun c hc => h c (List.mem_cons_of_mem _ hc)
theorem stepB_bound {b : List Rel} {m : Nat} {a : Atm} {l : List Atm} (h : okAtoms b m (a :: l)) {x y : List Val} (hx : x.length = m) (hy : y ∈ stepB b a x) :
    y.length = m ∧ (∀ n : Nat, (x.getD n zV).k ≠ 0 → (y.getD n zV).k ≠ 0) ∧ ∀ t ∈ a.args, t.var = true → (atV y t).k ≠ 0 := by
  obtain ⟨row, hr, h2⟩ := List.mem_filterMap.1 hy
  obtain ⟨h3, h4⟩ := h a (List.mem_cons_self ..)
  obtain ⟨h5, h6⟩ := h3 row hr
  rw [bindR_fits h5 (fun t ht hv => by rw [hx]; exact h4 t ht hv)] at h2
  exact ⟨(fitsR_len _ _ _ h2).trans hx, fitsR_mono _ _ _ h2 h6, fitsR_bound _ _ _ h2 h5 h6 (fun t ht hv => by rw [hx]; exact h4 t ht hv)⟩
theorem bfOut_bound {b : List Rel} {m : Nat} : ∀ (l : List Atm) (xs : List (List Val)), okAtoms b m l → (∀ x ∈ xs, x.length = m) → ∀ y ∈ bfOut b l xs,
    y.length = m ∧ (∀ n : Nat, (∀ x ∈ xs, (x.getD n zV).k ≠ 0) → (y.getD n zV).k ≠ 0) ∧ ∀ a ∈ l, ∀ t ∈ a.args, t.var = true → (atV y t).k ≠ 0
  | [], xs, _, hx, y, hy => ⟨hx y hy, fun n h => h y hy, by simp⟩
  | a :: l, xs, ho, hx, y, hy => by
    rw [bfOut] at hy
    have hst : ∀ z ∈ xs.flatMap (stepB b a), z.length = m ∧ (∀ n : Nat, (∀ x ∈ xs, (x.getD n zV).k ≠ 0) → (z.getD n zV).k ≠ 0) ∧ ∀ t ∈ a.args, t.var = true → (atV z t).k ≠ 0 := fun z hz => by
      obtain ⟨x, hx1, hx2⟩ := List.mem_flatMap.1 hz
      obtain ⟨g1, g2, g3⟩ := stepB_bound ho (hx x hx1) hx2
      exact ⟨g1, fun n hn => g2 n (hn x hx1), g3⟩
    obtain ⟨g1, g2, g3⟩ := bfOut_bound l _ (okAtoms_tail ho) (fun z hz => (hst z hz).1) y hy
    refine ⟨g1, fun n hn => g2 n fun z hz => (hst z hz).2.1 n hn, fun c hc t ht hv => ?_⟩
    rcases List.mem_cons.1 hc with e | hc
    · subst e
      exact g2 t.n.toNat fun z hz => (hst z hz).2.2 t ht hv
    · exact g3 c hc t ht hv
end Go.Proofs.YtababmnmkmgbbaaGreat
/-
  A part of the proof: its theorems say what each gives.
-/
set_option maxRecDepth 100000
set_option linter.unusedSimpArgs false
set_option linter.unusedVariables false
namespace Go.Proofs.YtababmnmkmgbbaaGreat
open Go Fw
/-! What a right query knows of its base: rows of the right length without empty values, variables in range, a head that is bound. -/
theorem relsE_mem : ∀ (l pre : List Rel), relsE pre l = 0 → ∀ r ∈ l, relE r = 0
  | [], _, _, r, hr => by simp at hr
  | q :: l, pre, h, r, hr => by
    rw [relsE] at h
    split at h
    · rename_i h1
      split at h
      · simp at h
      · rcases List.mem_cons.1 hr with e | hr
        · subst e; exact h1
        · exact relsE_mem l _ h r hr
    · rename_i h1; exact absurd h h1
theorem relE_parts {r : Rel} (h : relE r = 0) : headE r = 0 ∧ rowsE r.cols [] r.rows = 0 := by
  unfold relE at h
  split at h
  · rename_i h1
    refine ⟨h1, ?_⟩
    split at h
    · simp at h
    · split at h
      · assumption
      · exact h
  · rename_i h1; exact absurd h h1
theorem rowsE_mem (cols : List Col) : ∀ (l pre : List (List Val)), rowsE cols pre l = 0 → ∀ x ∈ l, rowE cols x = 0
  | [], _, _, r, hr => by simp at hr
  | q :: l, pre, h, r, hr => by
    rw [rowsE] at h
    split at h
    · rename_i h1
      split at h
      · simp at h
      · rcases List.mem_cons.1 hr with e | hr
        · subst e; exact h1
        · exact rowsE_mem cols l _ h r hr
    · rename_i h1; exact absurd h h1
theorem colsE_kd : ∀ (l pre : List Col), colsE pre l = 0 → ∀ c ∈ l, 1 ≤ c.kd
  | [], _, _, r, hr => by simp at hr
  | q :: l, pre, h, r, hr => by
    rw [colsE] at h
    split at h
    · simp at h
    · split at h
      · simp at h
      · split at h
        · simp at h
        · rename_i h1
          rcases List.mem_cons.1 hr with e | hr
          · subst e; omega
          · exact colsE_kd l _ h r hr
theorem headE_cols {r : Rel} (h : headE r = 0) : colsE [] r.cols = 0 := by
  unfold headE at h
  split at h
  · simp at h
  · split at h
    · simp at h
    · split at h
      · simp at h
      · split at h
        · assumption
        · exact h
theorem valsE_k : ∀ (cols : List Col) (l : List Val), valsE cols l = 0 → l.length = cols.length → (∀ c ∈ cols, 1 ≤ c.kd) → ∀ v ∈ l, v.k ≠ 0
  | _, [], _, _, _, v, hv => by simp at hv
  | [], v :: l, _, hl, _, _, _ => by simp at hl
  | c :: m, w :: l, h, hl, hc, v, hv => by
    rw [valsE] at h
    split at h
    · split at h
      · simp at h
      · rename_i h1
        rcases List.mem_cons.1 hv with e | hv
        · subst e
          have := hc c (List.mem_cons_self ..)
          omega
        · exact valsE_k m l h (by simpa using hl) (fun d hd => hc d (List.mem_cons_of_mem _ hd)) v hv
    · rename_i h1; exact absurd h h1
theorem rowE_k {cols : List Col} {x : List Val} (h : rowE cols x = 0) (hc : ∀ c ∈ cols, 1 ≤ c.kd) : x.length = cols.length ∧ ∀ v ∈ x, v.k ≠ 0 := by
  unfold rowE at h
  split at h
  · rename_i h1; exact ⟨h1, valsE_k cols x h h1 hc⟩
  · simp at h
theorem base_rel {b : List Rel} (h : baseE b = 0) {r : Rel} (hr : r ∈ b) : ∀ x ∈ r.rows, x.length = r.cols.length ∧ ∀ v ∈ x, v.k ≠ 0 := fun x hx => by
  unfold baseE at h
  split at h
  · simp at h
  · obtain ⟨h1, h2⟩ := relE_parts (relsE_mem b [] h r hr)
    exact rowE_k (rowsE_mem r.cols r.rows [] h2 x hx) (colsE_kd r.cols [] (headE_cols h1))
theorem termE_rng {t : Trm} (h : termE t = 0) (hv : t.var = true) : 0 ≤ t.n ∧ t.n < 24 := by
  unfold termE at h
  rw [if_pos hv] at h
  split at h
  · split at h
    · simp at h
    · omega
  · simp at h
theorem argsE_var : ∀ (m : List Col) (l : List Trm) (ks : List Int), (argsE m l ks).1 = 0 → l.length = m.length → ∀ t ∈ l, t.var = true → 0 ≤ t.n ∧ t.n < 24
  | _, [], _, _, _, t, ht, _ => by simp at ht
  | [], _ :: _, _, _, hl, _, _, _ => by simp at hl
  | c :: m, u :: l, ks, h, hl, t, ht, hv => by
    have hl2 : l.length = m.length := by simpa using hl
    rw [argsE] at h
    split at h
    · rename_i h1
      rcases List.mem_cons.1 ht with e | ht
      · subst e; exact termE_rng h1 hv
      · split at h
        · split at h
          · exact argsE_var m l _ h hl2 t ht hv
          · split at h
            · exact argsE_var m l _ h hl2 t ht hv
            · simp at h
        · split at h
          · exact argsE_var m l _ h hl2 t ht hv
          · simp at h
    · rename_i h1; exact absurd h h1
theorem argsE_ks : ∀ (m : List Col) (l : List Trm) (ks : List Int) (n : Nat), (argsE m l ks).2.getD n 0 ≠ 0 → ks.getD n 0 ≠ 0 ∨ ∃ t ∈ l, t.var = true ∧ t.n.toNat = n
  | m, [], ks, n, h => by
    rw [argsE] at h
    · exact .inl h
    all_goals (intros; simp_all)
  | [], _ :: _, ks, n, h => by
    rw [argsE] at h
    · exact .inl h
    all_goals (intros; simp_all)
  | c :: m, u :: l, ks, n, h => by
    have up : (ks.getD n 0 ≠ 0 ∨ ∃ t ∈ l, t.var = true ∧ t.n.toNat = n) → ks.getD n 0 ≠ 0 ∨ ∃ t ∈ u :: l, t.var = true ∧ t.n.toNat = n := fun h => by
      rcases h with h | ⟨t, h1, h2⟩
      · exact .inl h
      · exact .inr ⟨t, List.mem_cons_of_mem _ h1, h2⟩
    rw [argsE] at h
    split at h
    · split at h
      · rename_i hv
        split at h
        · rcases argsE_ks m l _ n h with h2 | ⟨t, h1, h2⟩
          · rw [getD_set] at h2
            split at h2
            · rename_i e; exact .inr ⟨u, List.mem_cons_self .., hv, e.1⟩
            · exact .inl h2
          · exact .inr ⟨t, List.mem_cons_of_mem _ h1, h2⟩
        · split at h
          · exact up (argsE_ks m l _ n h)
          · exact .inl h
      · split at h
        · exact up (argsE_ks m l _ n h)
        · exact .inl h
    · exact .inl h
theorem atomE_ok {b : List Rel} {a : Atm} {ks : List Int} (hb : baseE b = 0) (h : (atomE b a ks).1 = 0) :
    (∀ row ∈ rowsOf b a.rel, a.args.length = row.length ∧ ∀ v ∈ row, v.k ≠ 0) ∧ ∀ t ∈ a.args, t.var = true → 0 ≤ t.n ∧ t.n < 24 := by
  unfold atomE at h
  unfold rowsOf
  cases hf : findR b a.rel with
  | none => rw [hf] at h; simp at h
  | some r =>
    rw [hf] at h
    simp only at h
    split at h
    · rename_i h1
      refine ⟨fun row hr => ?_, fun t ht hv => argsE_var _ _ _ h h1 t ht hv⟩
      obtain ⟨g1, g2⟩ := base_rel hb (List.mem_of_find?_eq_some hf) row hr
      exact ⟨by rw [h1, g1], g2⟩
    · simp at h
theorem atomE_ks {b : List Rel} {a : Atm} {ks : List Int} {n : Nat} (h : (atomE b a ks).2.getD n 0 ≠ 0) : ks.getD n 0 ≠ 0 ∨ ∃ t ∈ a.args, t.var = true ∧ t.n.toNat = n := by
  unfold atomE at h
  split at h
  · exact .inl h
  · split at h
    · exact argsE_ks _ _ _ n h
    · exact .inl h
theorem atomsE_ok {b : List Rel} (hb : baseE b = 0) : ∀ (l : List Atm) (ks : List Int), (atomsE b l ks).1 = 0 → okAtoms b 24 l
  | [], _, _, a, ha => by simp at ha
  | c :: l, ks, h, a, ha => by
    rw [atomsE] at h
    split at h
    · rename_i h1
      rcases List.mem_cons.1 ha with e | ha
      · subst e; exact atomE_ok hb h1
      · exact atomsE_ok hb l _ h a ha
    · rename_i h1; exact absurd h h1
theorem atomsE_ks {b : List Rel} : ∀ (l : List Atm) (ks : List Int) (n : Nat), (atomsE b l ks).2.getD n 0 ≠ 0 → ks.getD n 0 ≠ 0 ∨ ∃ a ∈ l, ∃ t ∈ a.args, t.var = true ∧ t.n.toNat = n
  | [], ks, n, h => by rw [atomsE] at h; exact .inl h
  | c :: l, ks, n, h => by
    have one : ∀ {ks : List Int}, (ks.getD n 0 ≠ 0 ∨ ∃ t ∈ c.args, t.var = true ∧ t.n.toNat = n) → ks.getD n 0 ≠ 0 ∨ ∃ a ∈ c :: l, ∃ t ∈ a.args, t.var = true ∧ t.n.toNat = n := fun h => by
      rcases h with h | ⟨t, h1, h2⟩
      · exact .inl h
      · exact .inr ⟨c, List.mem_cons_self .., t, h1, h2⟩
    rw [atomsE] at h
    split at h
    · rcases atomsE_ks l _ n h with h2 | ⟨a, h1, h2⟩
      · exact one (atomE_ks h2)
      · exact .inr ⟨a, List.mem_cons_of_mem _ h1, h2⟩
    · exact one (atomE_ks h)
theorem kindsE_ok {b : List Rel} {l : List Atm} (h : kindsE b l = 0) : okAtoms b 24 l := by
  unfold kindsE at h
  split at h
  · rename_i h1
    split at h
    · simp at h
    · exact atomsE_ok h1 l _ h
  · rename_i h1; exact absurd h h1
theorem headTE_ok (ks : List Int) : ∀ (l : List Trm), headTE ks l = 0 → ∀ t ∈ l, t.var = true → (0 ≤ t.n ∧ t.n < 24) ∧ ks.getD t.n.toNat 0 ≠ 0
  | [], _, t, ht, _ => by simp at ht
  | u :: l, h, t, ht, hv => by
    rw [headTE] at h
    split at h
    · rename_i h1
      split at h
      · simp at h
      · rename_i h2
        rcases List.mem_cons.1 ht with e | ht
        · subst e; exact ⟨termE_rng h1 hv, fun e => h2 ⟨hv, e⟩⟩
        · exact headTE_ok ks l h t ht hv
    · rename_i h1; exact absurd h h1
/-- In all that a right query finds its head is bound. -/
theorem head_bound {b : List Rel} {q : CQ} (h : cqE b q = 0) : ∀ y ∈ bfOut b q.body [none24], ∀ t ∈ q.head, t.var = true → (0 ≤ t.n ∧ t.n < y.length) ∧ (atV y t).k ≠ 0 := fun y hy t ht hv => by
  unfold cqE at h
  split at h
  · rename_i h1
    split at h
    · simp at h
    · obtain ⟨g1, g2⟩ := headTE_ok _ _ h t ht hv
      obtain ⟨e1, _, e3⟩ := bfOut_bound (m := 24) q.body [none24] (kindsE_ok h1) (by simp [none24]) y hy
      refine ⟨by rw [e1]; exact g1, ?_⟩
      rcases atomsE_ks q.body kinds0 t.n.toNat g2 with h3 | ⟨a, ha, u, hu, hu2, hu3⟩
      · refine absurd ?_ h3
        unfold kinds0
        rw [List.getD_eq_getElem?_getD, List.getElem?_replicate]; split <;> rfl
      · have := e3 a ha u hu hu2
        unfold atV at this ⊢
        rw [← hu3]; exact this
  · rename_i h1; exact absurd h h1
end Go.Proofs.YtababmnmkmgbbaaGreat
