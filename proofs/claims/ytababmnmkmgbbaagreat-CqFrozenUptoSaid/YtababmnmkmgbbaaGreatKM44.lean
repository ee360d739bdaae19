/-
  A part of the proof: its theorems say what each gives.
-/
import Derived.Test.YtababmnmkmgbbaaGreatKM25
set_option maxRecDepth 100000
set_option linter.unusedSimpArgs false
set_option linter.unusedVariables false
namespace Go.Proofs.YtababmnmkmgbbaaGreat
open Go Fw
/-! What the walk of Envs needs: the row's step, and the box of the counters seen from the next one. -/
def stepZ (b : List Rel) (l : List Atm) (a : Atm) (x : List Val) (s : List (List Val) × List Int) (row : List Val) : List (List Val) × List Int :=
  match bindR x a row with | some y => (s.1 ++ (envsZ b l y s.2).1, (envsZ b l y s.2).2) | none => s
theorem envsZ_cons (b : List Rel) (a : Atm) (l : List Atm) (x : List Val) (lv : List Int) : envsZ b (a :: l) x lv = if 20000 < (incZ lv).headD 0 then ([x], incZ lv) else
    (((rowsOf b a.rel).foldl (stepZ b l a x) ([], lv.tail)).1, (incZ lv).headD 0 :: ((rowsOf b a.rel).foldl (stepZ b l a x) ([], lv.tail)).2) := rfl
theorem stepZ_some {b : List Rel} {l : List Atm} {a : Atm} {x y : List Val} {row : List Val} (s : List (List Val) × List Int) (h : bindR x a row = some y) :
    stepZ b l a x s row = (s.1 ++ (envsZ b l y s.2).1, (envsZ b l y s.2).2) := by unfold stepZ; rw [h]
theorem stepZ_none {b : List Rel} {l : List Atm} {a : Atm} {x : List Val} {row : List Val} (s : List (List Val) × List Int) (h : bindR x a row = none) : stepZ b l a x s row = s := by unfold stepZ; rw [h]
theorem lv_cons {lv : List Int} {n : Nat} (h : lv.length = n + 1) : ∃ k m, lv = k :: m ∧ m.length = n := by
  cases lv with
  | nil => simp at h
  | cons k m => exact ⟨k, m, rfl, by simpa using h⟩
theorem box_next (pre post : List AV) (k : Int) (m : List Int) : pre ++ encIs (k :: m) ++ post = (pre ++ [.con (.int .i64 k)]) ++ encIs m ++ post := by simp [encIs]
theorem box_len (pre : List AV) (k : Int) : (pre ++ [AV.con (.int .i64 k)]).length = pre.length + 1 := by simp
theorem box_get (pre post : List AV) (k : Int) (m : List Int) : ((pre ++ encIs (k :: m) ++ post).drop pre.length).getD 0 .any = .con (.int .i64 k) := by simp [encIs]
theorem box_set (pre post : List AV) (k j : Int) (m : List Int) : List.take pre.length (pre ++ encIs (k :: m) ++ post) ++ [AV.con (.int .i64 j)] ++ List.drop (pre.length + 1) (pre ++ encIs (k :: m) ++ post) = pre ++ encIs (j :: m) ++ post := by
  rw [List.append_assoc pre, List.take_left', List.drop_append]
  · simp [encIs]
  · rfl
/-- Maps that stand for bindings. -/
inductive Reps (R : List Val → MEs → Prop) : List (MEs × Nat) → List (List Val) → Prop
  | nil : Reps R [] []
  | cons {p ps y ys} : R y p.1 → Reps R ps ys → Reps R (p :: ps) (y :: ys)
theorem Reps.app {R : List Val → MEs → Prop} {ps qs : List (MEs × Nat)} {ys zs : List (List Val)} (h : Reps R ps ys) (k : Reps R qs zs) : Reps R (ps ++ qs) (ys ++ zs) := by
  induction h with
  | nil => exact k
  | cons h1 _ ih => exact .cons h1 ih
theorem Reps.len {R : List Val → MEs → Prop} {ps : List (MEs × Nat)} {ys : List (List Val)} (h : Reps R ps ys) : ps.length = ys.length := by
  induction h with
  | nil => rfl
  | cons _ _ ih => rw [List.length_cons, List.length_cons, ih]
theorem Reps.at {R : List Val → MEs → Prop} {ps : List (MEs × Nat)} {ys : List (List Val)} (h : Reps R ps ys) : ∀ {i : Nat} {y : List Val}, ys[i]? = some y → ∃ p, ps[i]? = some p ∧ R y p.1 := by
  induction h with
  | nil => intro i y hy; simp at hy
  | @cons p ps y ys h1 _ ih =>
    intro i z hz
    cases i with
    | zero => simp at hz; subst hz; exact ⟨p, rfl, h1⟩
    | succ i => simpa using ih (by simpa using hz)
end Go.Proofs.YtababmnmkmgbbaaGreat
/-
  A part of the proof: its theorems say what each gives.
-/
set_option maxRecDepth 100000
set_option linter.unusedSimpArgs false
set_option linter.unusedVariables false
namespace Go.Proofs.YtababmnmkmgbbaaGreat
open Go Fw
/-! How many environments there are at most: each call counts, and beyond 20000 calls of a level none goes deeper. -/
def okLv : List Int → Prop
  | n :: m :: l => 0 ≤ m ∧ m ≤ 2000000 * n ∧ m ≤ 40000000000 ∧ okLv (m :: l)
  | _ => True
theorem okLv_cons {n m : Int} {l : List Int} : okLv (n :: m :: l) ↔ 0 ≤ m ∧ m ≤ 2000000 * n ∧ m ≤ 40000000000 ∧ okLv (m :: l) := Iff.rfl
theorem okLv_sum : ∀ {m : List Int} {n : Int}, okLv (n :: m) → 0 ≤ m.sum ∧ m.sum ≤ m.length * 40000000000
  | [], n, _ => by simp
  | a :: m, n, h => by
    rw [okLv_cons] at h
    have := okLv_sum h.2.2.2
    rw [List.sum_cons, List.length_cons]
    omega
theorem envsZ_ok {b : List Rel} (hb : rowsLe b) : ∀ (l : List Atm) (x : List Val) (n : Int) (m : List Int), m.length = l.length → 0 ≤ n → n ≤ 4000000000000000000 → okLv (n :: m) →
    ∃ m', (envsZ b l x (n :: m)).2 = (n + 1) :: m' ∧ m'.length = m.length ∧ okLv ((n + 1) :: m') ∧ ((envsZ b l x (n :: m)).1.length : Int) + m.sum ≤ m'.sum + 1
  | [], x, n, m, hm, h0, h1, hk => by
    obtain rfl := List.eq_nil_of_length_eq_zero hm
    refine ⟨[], ?_, rfl, trivial, ?_⟩
    · rw [envsZ, incZ, w64 h0 (by omega)]
    · rw [envsZ]; simp
  | a :: l, x, n, [], hm, h0, h1, hk => by simp at hm
  | a :: l, x, n, n1 :: m, hm, h0, h1, hk => by
    have hm2 : m.length = l.length := by simpa using hm
    rw [okLv_cons] at hk
    obtain ⟨k1, k2, k3, k4⟩ := hk
    have hi : incZ (n :: n1 :: m) = (n + 1) :: n1 :: m := by rw [incZ, w64 h0 (by omega)]
    rw [envsZ_cons, hi]
    by_cases hf : 20000 < ((n + 1) :: n1 :: m).headD 0
    · have hf2 : 20000 < n + 1 := hf
      rw [if_pos hf]
      refine ⟨n1 :: m, rfl, rfl, ?_, by simp; omega⟩
      rw [okLv_cons]
      exact ⟨k1, by omega, k3, k4⟩
    · have hf2 : ¬ 20000 < n + 1 := hf
      rw [if_neg hf]
      simp only [List.headD_cons, List.tail_cons]
      have key : ∀ (rs : List (List Val)) (acc : List (List Val)) (c : Int) (t : List Int), t.length = l.length → 0 ≤ c → c + rs.length ≤ 4000000000000000000 → okLv (c :: t) →
          ∃ c' t', (rs.foldl (stepZ b l a x) (acc, c :: t)).2 = c' :: t' ∧ t'.length = t.length ∧ c ≤ c' ∧ c' ≤ c + rs.length ∧ okLv (c' :: t') ∧ ((rs.foldl (stepZ b l a x) (acc, c :: t)).1.length : Int) + (c + t.sum) ≤ acc.length + (c' + t'.sum) := by
        intro rs
        induction rs with
        | nil => intro acc c t ht g0 g1 g2; exact ⟨c, t, rfl, rfl, by omega, by simp, g2, by simp⟩
        | cons row rs ih =>
          intro acc c t ht g0 g1 g2
          rw [List.length_cons] at g1
          rw [List.foldl_cons]
          cases hbr : bindR x a row with
          | none =>
            rw [stepZ_none _ hbr]
            obtain ⟨c', t', e1, e2, e3, e4, e5, e6⟩ := ih acc c t ht g0 (by omega) g2
            exact ⟨c', t', e1, e2, e3, by rw [List.length_cons]; omega, e5, e6⟩
          | some y =>
            rw [stepZ_some _ hbr]
            simp only
            obtain ⟨m', f1, f2, f3, f4⟩ := envsZ_ok hb l y c t ht g0 (by omega) g2
            rw [f1]
            obtain ⟨c', t', e1, e2, e3, e4, e5, e6⟩ := ih (acc ++ (envsZ b l y (c :: t)).1) (c + 1) m' (f2.trans ht) (by omega) (by omega) f3
            refine ⟨c', t', e1, e2.trans f2, by omega, by rw [List.length_cons]; omega, e5, ?_⟩
            rw [List.length_append] at e6
            omega
      have hr := hb a.rel
      obtain ⟨c', t', e1, e2, e3, e4, e5, e6⟩ := key (rowsOf b a.rel) [] n1 m hm2 k1 (by omega) k4
      rw [e1]
      refine ⟨c' :: t', rfl, by simp [e2], ?_, ?_⟩
      · rw [okLv_cons]
        exact ⟨by omega, by omega, by omega, e5⟩
      · simp only [List.length_nil, List.sum_cons] at e6 ⊢
        omega
/-- The same for some of the rows. -/
theorem foldZ_ok {b : List Rel} (hb : rowsLe b) (l : List Atm) (a : Atm) (x : List Val) : ∀ (rs : List (List Val)) (acc : List (List Val)) (c : Int) (t : List Int), t.length = l.length → 0 ≤ c → c + rs.length ≤ 4000000000000000000 → okLv (c :: t) →
    ∃ c' t', (rs.foldl (stepZ b l a x) (acc, c :: t)).2 = c' :: t' ∧ t'.length = t.length ∧ c ≤ c' ∧ c' ≤ c + rs.length ∧ okLv (c' :: t') ∧ ((rs.foldl (stepZ b l a x) (acc, c :: t)).1.length : Int) + (c + t.sum) ≤ acc.length + (c' + t'.sum)
  | [], acc, c, t, ht, g0, g1, g2 => ⟨c, t, rfl, rfl, by omega, by simp, g2, by simp⟩
  | row :: rs, acc, c, t, ht, g0, g1, g2 => by
    rw [List.length_cons] at g1
    rw [List.foldl_cons]
    cases hbr : bindR x a row with
    | none =>
      rw [stepZ_none _ hbr]
      obtain ⟨c', t', e1, e2, e3, e4, e5, e6⟩ := foldZ_ok hb l a x rs acc c t ht g0 (by omega) g2
      exact ⟨c', t', e1, e2, e3, by rw [List.length_cons]; omega, e5, e6⟩
    | some y =>
      rw [stepZ_some _ hbr]
      simp only
      obtain ⟨m', f1, f2, f3, f4⟩ := envsZ_ok hb l y c t ht g0 (by omega) g2
      rw [f1]
      obtain ⟨c', t', e1, e2, e3, e4, e5, e6⟩ := foldZ_ok hb l a x rs (acc ++ (envsZ b l y (c :: t)).1) (c + 1) m' (f2.trans ht) (by omega) (by omega) f3
      refine ⟨c', t', e1, e2.trans f2, by omega, by rw [List.length_cons]; omega, e5, ?_⟩
      rw [List.length_append] at e6
      omega
theorem okLv_zero : ∀ n : Nat, okLv (List.replicate n 0)
  | 0 => trivial
  | 1 => trivial
  | n + 2 => by
    rw [List.replicate_succ, List.replicate_succ, okLv_cons]
    exact ⟨by omega, by omega, by omega, okLv_zero (n + 1)⟩
def foldS (b : List Rel) (l : List Atm) (a : Atm) (x : List Val) (rows : List (List Val)) (m : List Int) (i : Nat) : List (List Val) × List Int := (rows.take i).foldl (stepZ b l a x) ([], m)
theorem foldS_all (b : List Rel) (l : List Atm) (a : Atm) (x : List Val) (rows : List (List Val)) (m : List Int) : foldS b l a x rows m rows.length = rows.foldl (stepZ b l a x) ([], m) := by unfold foldS; rw [List.take_length]
theorem foldS_none {b : List Rel} {l : List Atm} {a : Atm} {x : List Val} {rows : List (List Val)} (m : List Int) {i : Nat} {row : List Val} (h : rows[i]? = some row) (hb : bindR x a row = none) : foldS b l a x rows m (i + 1) = foldS b l a x rows m i := by
  unfold foldS; rw [take_at h, List.foldl_append, List.foldl_cons, List.foldl_nil, stepZ_none _ hb]
theorem foldS_some {b : List Rel} {l : List Atm} {a : Atm} {x y : List Val} {rows : List (List Val)} (m : List Int) {i : Nat} {row : List Val} (h : rows[i]? = some row) (hb : bindR x a row = some y) :
    foldS b l a x rows m (i + 1) = ((foldS b l a x rows m i).1 ++ (envsZ b l y (foldS b l a x rows m i).2).1, (envsZ b l y (foldS b l a x rows m i).2).2) := by
  unfold foldS; rw [take_at h, List.foldl_append, List.foldl_cons, List.foldl_nil, stepZ_some _ hb]
theorem foldS_ok {b : List Rel} (hb : rowsLe b) (l : List Atm) (a : Atm) (x : List Val) {rows : List (List Val)} {n : Int} {m : List Int} (hr : rows.length ≤ 2000000) (hl : l.length ≤ 12) (hm : m.length = l.length + 1) (hk : okLv (n :: m)) (i : Nat) :
    (foldS b l a x rows m i).2.length = l.length + 1 ∧ okLv (foldS b l a x rows m i).2 ∧ 0 ≤ (foldS b l a x rows m i).2.headD 0 ∧ (foldS b l a x rows m i).2.headD 0 ≤ 100000000000 ∧ (foldS b l a x rows m i).1.length ≤ 1000000000000 := by
  obtain ⟨n1, m1, rfl, hm1⟩ := lv_cons hm
  rw [okLv_cons] at hk
  obtain ⟨k1, k2, k3, k4⟩ := hk
  have ht : (rows.take i).length ≤ 2000000 := by rw [List.length_take]; omega
  obtain ⟨c', t', z1, z2, z3, z4, z5, z6⟩ := foldZ_ok hb l a x (rows.take i) [] n1 m1 hm1 k1 (by omega) k4
  have g1 := okLv_sum z5
  have g2 := okLv_sum k4
  unfold foldS
  rw [z1]
  simp only [List.length_cons, List.headD_cons, List.length_nil] at z6 ⊢
  refine ⟨by omega, z5, by omega, by omega, ?_⟩
  rw [z2, hm1] at g1
  omega
end Go.Proofs.YtababmnmkmgbbaaGreat
