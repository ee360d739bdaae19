/-
  A part of the proof: its theorems say what each gives.
-/
import Derived.Test.YtababmnmkmgbbaaGreatKM28
import Derived.Test.YtababmnmkmgbbaaGreatKQk
set_option maxRecDepth 100000
set_option linter.unusedSimpArgs false
set_option linter.unusedVariables false
namespace Go.Proofs.YtababmnmkmgbbaaGreat
open Go Fw
/-! A frozen query, in plain Lean: the base of its atoms is right, and the same queries are right for it. -/
def markV (n : Int) : Val := .mk 11 n ⟨#[]⟩ []
def marks24 : List Val := (List.range 24).map fun (i : Nat) => markV (i : Int)
def fzRows (q : CQ) (nm : ByteArray) : List (List Val) := (q.body.filter fun a => decide (a.rel = nm)).map fun a => a.args.map (valT marks24)
def fzRel (q : CQ) (r : Rel) : Rel := ⟨r.nm, r.cols, [], setU cmpR (fzRows q r.nm)⟩
def fzB (b : List Rel) (q : CQ) : List Rel := b.map (fzRel q)
def fzH (q : CQ) : List Val := q.head.map (valT marks24)
theorem valT_const {x : List Val} {t : Trm} (h : ¬ t.var = true) : valT x t = t.v := by unfold valT; rw [if_neg h]
theorem valT_mark {t : Trm} (hv : t.var = true) (h : 0 ≤ t.n ∧ t.n < 24) : valT marks24 t = markV t.n := by
  unfold valT
  have hl : marks24.length = 24 := by decide
  rw [if_pos hv, if_pos (by rw [hl]; exact h)]
  unfold marks24
  rw [List.getD_eq_getElem?_getD, List.getElem?_map, List.getElem?_range (by omega)]
  simp only [Option.map_some, Option.getD_some]
  rw [Int.toNat_of_nonneg h.1]
theorem markV_check {n : Int} (h0 : 0 ≤ n) (h1 : n < 24) : checkE (markV n) = 0 := by
  obtain ⟨m, rfl⟩ : ∃ m : Nat, n = m := ⟨n.toNat, by omega⟩
  have : m < 24 := by omega
  have : m = 0 ∨ m = 1 ∨ m = 2 ∨ m = 3 ∨ m = 4 ∨ m = 5 ∨ m = 6 ∨ m = 7 ∨ m = 8 ∨ m = 9 ∨ m = 10 ∨ m = 11 ∨ m = 12 ∨ m = 13 ∨ m = 14 ∨ m = 15 ∨ m = 16 ∨ m = 17 ∨ m = 18 ∨ m = 19 ∨ m = 20 ∨ m = 21 ∨ m = 22 ∨ m = 23 := by omega
  rcases this with rfl | rfl | rfl | rfl | rfl | rfl | rfl | rfl | rfl | rfl | rfl | rfl | rfl | rfl | rfl | rfl | rfl | rfl | rfl | rfl | rfl | rfl | rfl | rfl <;> decide +kernel
theorem markV_k (n : Int) : (markV n).k = 11 := rfl
theorem args_vals : ∀ (m : List Col) (l : List Trm) (ks : List Int), (argsE m l ks).1 = 0 → l.length = m.length → valsE m (l.map (valT marks24)) = 0
  | [], [], _, _, _ => rfl
  | _ :: _, [], _, _, h => by simp at h
  | [], _ :: _, _, _, h => by simp at h
  | c :: m, t :: l, ks, h, hl => by
    have hl2 : l.length = m.length := by simpa using hl
    rw [argsE] at h
    rw [List.map_cons, valsE]
    split at h
    · rename_i h1
      by_cases hv : t.var = true
      · have hr := termE_rng h1 hv
        rw [valT_mark hv hr, if_pos (markV_check hr.1 hr.2), if_neg (by rw [markV_k]; omega)]
        rw [if_pos hv] at h
        split at h
        · exact args_vals m l _ h hl2
        · split at h
          · exact args_vals m l _ h hl2
          · simp at h
      · rw [if_neg hv] at h
        have h2 : checkE t.v = 0 := by
          unfold termE at h1
          rw [if_neg hv] at h1
          split at h1
          · split at h1
            · simp at h1
            · exact h1
          · simp at h1
        rw [valT_const hv, if_pos h2]
        split at h
        · rename_i hk
          rw [if_neg (by omega)]
          exact args_vals m l _ h hl2
        · simp at h
    · rename_i h1; exact absurd h h1
theorem relsE_up : ∀ (l pre : List Rel), relsE pre l = 0 → (l.Pairwise fun a b => cmpS a.nm b.nm < 0) ∧ ∀ q, pre.getLast? = some q → ∀ r ∈ l, cmpS q.nm r.nm < 0
  | [], pre, _ => ⟨.nil, by simp⟩
  | r :: l, pre, h => by
    rw [relsE] at h
    split at h
    · split at h
      · simp at h
      · rename_i h1
        obtain ⟨g1, g2⟩ := relsE_up l _ h
        have g3 := g2 r (by simp)
        refine ⟨List.pairwise_cons.2 ⟨g3, g1⟩, fun q hq r2 hr2 => ?_⟩
        have h4 : cmpS q.nm r.nm < 0 := by
          rw [hq] at h1
          simp only [Option.any_some, decide_eq_true_eq] at h1
          omega
        rcases List.mem_cons.1 hr2 with e | hr2
        · rw [e]; exact h4
        · exact cmpS_tr h4 (g3 r2 hr2)
    · rename_i h1; exact absurd h h1
theorem relsE_of : ∀ (l pre : List Rel), (∀ r ∈ l, relE r = 0) → (l.Pairwise fun a b => cmpS a.nm b.nm < 0) → (∀ q, pre.getLast? = some q → ∀ r ∈ l, cmpS q.nm r.nm < 0) → relsE pre l = 0
  | [], _, _, _, _ => rfl
  | r :: l, pre, h1, h2, h3 => by
    obtain ⟨g1, g2⟩ := List.pairwise_cons.1 h2
    rw [relsE, if_pos (h1 r (by simp)), if_neg]
    · exact relsE_of l _ (fun x hx => h1 x (by simp [hx])) g2 (fun q hq x hx => by
        simp at hq; subst hq; exact g1 x hx)
    · cases hl : pre.getLast? with
      | none => simp
      | some q =>
        have := h3 q hl r (by simp)
        simp only [Option.any_some, decide_eq_true_eq]
        omega
theorem rowsE_of (cols : List Col) : ∀ (l pre : List (List Val)), (∀ r ∈ l, rowE cols r = 0) → (l.Pairwise fun a b => cmpR a b < 0) → (∀ q, pre.getLast? = some q → ∀ r ∈ l, cmpR q r < 0) → rowsE cols pre l = 0
  | [], _, _, _, _ => rfl
  | r :: l, pre, h1, h2, h3 => by
    obtain ⟨g1, g2⟩ := List.pairwise_cons.1 h2
    rw [rowsE, if_pos (h1 r (by simp)), if_neg]
    · exact rowsE_of cols l _ (fun x hx => h1 x (by simp [hx])) g2 (fun q hq x hx => by
        simp at hq; subst hq; exact g1 x hx)
    · cases hl : pre.getLast? with
      | none => simp
      | some q =>
        have := h3 q hl r (by simp)
        simp only [Option.any_some, decide_eq_true_eq]
        omega
theorem base_names {b : List Rel} (h : baseE b = 0) : b.Pairwise fun a c => cmpS a.nm c.nm < 0 := by
  unfold baseE at h
  split at h
  · simp at h
  · exact (relsE_up b [] h).1
theorem findR_self : ∀ {b : List Rel}, (b.Pairwise fun a c => cmpS a.nm c.nm < 0) → ∀ r ∈ b, findR b r.nm = some r
  | [], _, r, hr => by simp at hr
  | x :: b, h, r, hr => by
    obtain ⟨g1, g2⟩ := List.pairwise_cons.1 h
    unfold findR
    rw [List.find?_cons]
    rcases List.mem_cons.1 hr with e | hr
    · subst e; simp
    · have h1 := g1 r hr
      have hne : ¬ x.nm = r.nm := fun e => by rw [e, cmpS_self] at h1; omega
      rw [decide_eq_false hne]
      exact findR_self g2 r hr
theorem findR_fz (b : List Rel) (q : CQ) (nm : ByteArray) : findR (fzB b q) nm = (findR b nm).map (fzRel q) := by
  unfold findR fzB
  rw [List.find?_map]; rfl
theorem atomE_fz (b : List Rel) (q : CQ) (a : Atm) (ks : List Int) : atomE (fzB b q) a ks = atomE b a ks := by
  unfold atomE
  rw [findR_fz]
  cases findR b a.rel with
  | none => rfl
  | some r => rfl
theorem atomsE_fz (b : List Rel) (q : CQ) : ∀ (l : List Atm) (ks : List Int), atomsE (fzB b q) l ks = atomsE b l ks
  | [], _ => rfl
  | a :: l, ks => by rw [atomsE, atomsE, atomE_fz, atomsE_fz b q l]
theorem atomsE_mem {b : List Rel} : ∀ (l : List Atm) (ks : List Int), (atomsE b l ks).1 = 0 → ∀ a ∈ l, ∃ ks', (atomE b a ks').1 = 0
  | [], _, _, a, ha => by simp at ha
  | c :: l, ks, h, a, ha => by
    rw [atomsE] at h
    split at h
    · rename_i h1
      rcases List.mem_cons.1 ha with e | ha
      · subst e; exact ⟨ks, h1⟩
      · exact atomsE_mem l _ h a ha
    · rename_i h1; exact absurd h h1
theorem kindsE_parts {b : List Rel} {l : List Atm} (h : kindsE b l = 0) : baseE b = 0 ∧ l.length ≤ 12 ∧ (atomsE b l kinds0).1 = 0 := by
  unfold kindsE at h
  split at h
  · rename_i h1
    split at h
    · simp at h
    · exact ⟨h1, by omega, h⟩
  · rename_i h1; exact absurd h h1
theorem cqE_kinds {b : List Rel} {q : CQ} (h : cqE b q = 0) : kindsE b q.body = 0 := by
  unfold cqE at h
  split at h
  · assumption
  · rename_i h1; exact absurd h h1
theorem insU_leS {α : Type} (c : α → α → Int) (x : α) : ∀ l : List α, (insU c x l).length ≤ l.length + 1
  | [] => Nat.le_refl _
  | y :: l => by
    have := insU_leS c x l
    unfold insU
    split
    · simp only [List.length_cons]; omega
    · split <;> simp
theorem foldU_leS {α : Type} (c : α → α → Int) : ∀ (l out : List α), (l.foldl (fun s x => insU c x s) out).length ≤ out.length + l.length
  | [], out => Nat.le_refl _
  | x :: l, out => by
    have := foldU_leS c l (insU c x out)
    have := insU_leS c x out
    rw [List.foldl_cons, List.length_cons]; omega
theorem setU_len {α : Type} (c : α → α → Int) (l : List α) : (setU c l).length ≤ l.length := by
  have := foldU_leS c l []
  simpa [setU] using this
theorem gV_mark {n : Int} (h : okI n) : gV (markV n) := ⟨by unfold markV; rw [sizeV, sizeFs]; omega, by unfold markV; rw [numV]; exact ⟨h, trivial⟩⟩
theorem gRow_marks : gRow marks24 := ⟨by decide, fun v hv => by
  unfold marks24 at hv
  obtain ⟨i, hi, rfl⟩ := List.mem_map.1 hv
  have := List.mem_range.1 hi
  exact gV_mark (by unfold okI; omega)⟩
theorem marks_len : marks24.length = 24 := by decide
theorem fzRows_good {q : CQ} (hq : gCQ q) (nm : ByteArray) : ∀ x ∈ fzRows q nm, gRow x := fun x hx => by
  unfold fzRows at hx
  obtain ⟨a, ha, rfl⟩ := List.mem_map.1 hx
  exact rowT_good gRow_marks (hq.body.2 a (List.mem_filter.1 ha).1)
theorem fzRows_len (q : CQ) (nm : ByteArray) : (fzRows q nm).length ≤ q.body.length := by
  unfold fzRows
  rw [List.length_map]
  exact List.length_filter_le _ _
theorem numR_of {x : List Val} (h : gRow x) : numR x := fun v hv => (h.2 v hv).2
theorem fzRows_num {q : CQ} (hq : gCQ q) (nm : ByteArray) : ∀ x ∈ fzRows q nm, numR x := fun x hx => numR_of (fzRows_good hq nm x hx)
theorem gRel_fz {q : CQ} (hq : gCQ q) {r : Rel} (hr : gRel r) : gRel (fzRel q r) where
  cols := hr.cols
  kd := hr.kd
  key := by show (0 : Nat) ≤ _; omega
  rows := ⟨by
    have h1 := setU_len cmpR (fzRows q r.nm)
    have h2 := fzRows_len q r.nm
    have h3 := hq.body.1
    show (setU cmpR (fzRows q r.nm)).length ≤ _
    omega, fun x hx => fzRows_good hq r.nm x ((setU_mem to_cmpR (fzRows_num hq r.nm) x).1 hx)⟩
theorem gBase_fz {b : List Rel} {q : CQ} (hb : gBase b) (hq : gCQ q) : gBase (fzB b q) := ⟨by unfold fzB; rw [List.length_map]; exact hb.1, fun r hr => by
  unfold fzB at hr
  obtain ⟨s, hs, rfl⟩ := List.mem_map.1 hr
  exact gRel_fz hq (hb.2 s hs)⟩
theorem relE_fz {b : List Rel} {q : CQ} (h : cqE b q = 0) (hq : gCQ q) {r : Rel} (hr : r ∈ b) : relE (fzRel q r) = 0 := by
  obtain ⟨h1, h2, h3⟩ := kindsE_parts (cqE_kinds h)
  have hnm := base_names h1
  have hre : relE r = 0 := by
    unfold baseE at h1
    split at h1
    · simp at h1
    · exact relsE_mem b [] h1 r hr
  have hhe := (relE_parts hre).1
  have hhf : headE (fzRel q r) = 0 := by
    unfold headE at hhe ⊢
    show (if nameB r.nm = false then (15 : Int) else if r.cols.length = 0 then 3 else if 12 < r.cols.length then 2 else if colsE [] r.cols = 0 then keysE r.cols [] [] else colsE [] r.cols) = 0
    split at hhe
    · simp at hhe
    · rename_i g1
      rw [if_neg g1]
      split at hhe
      · simp at hhe
      · rename_i g2
        rw [if_neg g2]
        split at hhe
        · simp at hhe
        · rename_i g3
          rw [if_neg g3]
          split at hhe
          · rename_i g4; rw [if_pos g4]; rfl
          · rename_i g4; exact absurd hhe g4
  have hB : ¬ 300 < (fzRel q r).rows.length := by
    have g1 := setU_len cmpR (fzRows q r.nm)
    have g2 := fzRows_len q r.nm
    show ¬ 300 < (setU cmpR (fzRows q r.nm)).length
    omega
  have hA : rowsE (fzRel q r).cols [] (fzRel q r).rows = 0 := by
    refine rowsE_of _ _ [] (fun x hx => ?_) (setU_up to_cmpR (fzRows_num hq r.nm)) (by simp)
    have hx2 := (setU_mem to_cmpR (fzRows_num hq r.nm) x).1 hx
    unfold fzRows at hx2
    obtain ⟨a, ha, rfl⟩ := List.mem_map.1 hx2
    obtain ⟨ha1, ha2⟩ := List.mem_filter.1 ha
    obtain ⟨ks, hk⟩ := atomsE_mem q.body kinds0 h3 a ha1
    have hf := findR_self hnm r hr
    unfold atomE at hk
    rw [of_decide_eq_true ha2, hf] at hk
    simp only at hk
    split at hk
    · rename_i hl
      unfold rowE
      rw [if_pos (by rw [List.length_map]; exact hl)]
      exact args_vals r.cols a.args ks hk hl
    · simp at hk
  unfold relE
  rw [if_pos hhf, if_neg hB, if_pos hA]
  exact if_pos rfl
theorem baseE_fz {b : List Rel} {q : CQ} (h : cqE b q = 0) (hq : gCQ q) : baseE (fzB b q) = 0 := by
  obtain ⟨h1, h2, h3⟩ := kindsE_parts (cqE_kinds h)
  have hnm := base_names h1
  unfold baseE at h1 ⊢
  split at h1
  · simp at h1
  · rename_i h4
    rw [if_neg (by unfold fzB; rw [List.length_map]; exact h4)]
    refine relsE_of _ [] (fun r hr => ?_) ?_ (by simp)
    · unfold fzB at hr
      obtain ⟨s, hs, rfl⟩ := List.mem_map.1 hr
      exact relE_fz h hq hs
    · unfold fzB
      rw [List.pairwise_map]
      exact hnm
theorem kindsE_fz {b : List Rel} {p : CQ} (h : cqE b p = 0) (hp : gCQ p) (l : List Atm) : kindsE (fzB b p) l = kindsE b l := by
  obtain ⟨h1, h2, h3⟩ := kindsE_parts (cqE_kinds h)
  unfold kindsE
  rw [if_pos (baseE_fz h hp), if_pos h1, atomsE_fz]
theorem cqE_fz {b : List Rel} {p : CQ} (h : cqE b p = 0) (hp : gCQ p) (q : CQ) : cqE (fzB b p) q = cqE b q := by
  unfold cqE kindsL
  rw [kindsE_fz h hp, atomsE_fz]
end Go.Proofs.YtababmnmkmgbbaaGreat
