/-
  A part of the proof: its theorems say what each gives.
-/
import Derived.Test.YtababmnmkmgbbaaGreatKQf
set_option maxRecDepth 100000
set_option maxHeartbeats 4000000
set_option linter.unusedSimpArgs false
set_option linter.unusedVariables false
namespace Go.Proofs.YtababmnmkmgbbaaGreat
open Go Fw
/-! cq.bind. -/
def atV (x : List Val) (t : Trm) : Val := x.getD t.n.toNat zV
def bindOk (x : List Val) : List Trm → List Val → Bool
  | t :: l, v :: r => if t.var = true then (if 0 ≤ t.n ∧ t.n < x.length then (if (atV x t).k = 0 then bindOk x l r else if cmpV (atV x t) v = 0 then bindOk x l r else false) else false) else if cmpV t.v v = 0 then bindOk x l r else false
  | _, _ => true
def bindSet : List Val → List Trm → List Val → Option (List Val)
  | out, t :: l, v :: r => if t.var = true then (if (atV out t).k = 0 then bindSet (out.set t.n.toNat v) l r else if cmpV (atV out t) v = 0 then bindSet out l r else none) else bindSet out l r
  | out, _, _ => some out
def bindR (x : List Val) (a : Atm) (row : List Val) : Option (List Val) := if a.args.length = row.length then (if bindOk x a.args row = true then bindSet x a.args row else none) else none
theorem bindOk_rng {x : List Val} : ∀ {l : List Trm} {r : List Val}, bindOk x l r = true → l.length = r.length → ∀ y ∈ l, y.var = true → 0 ≤ y.n ∧ y.n < x.length
  | [], _, _, _, y, hy, _ => by cases hy
  | t :: l, [], _, hl, y, hy, _ => by simp at hl
  | t :: l, v :: r, h, hl, y, hy, hv => by
    rw [bindOk] at h
    have hl2 : l.length = r.length := by simpa using hl
    rcases List.mem_cons.1 hy with rfl | hy
    · rw [if_pos hv] at h
      split at h
      · assumption
      · cases h
    · refine bindOk_rng (r := r) ?_ hl2 y hy hv
      split at h
      · split at h
        · split at h
          · exact h
          · split at h
            · exact h
            · cases h
        · cases h
      · split at h
        · exact h
        · cases h
theorem flat_app (a b : List AV) : flat (a ++ b) = flat a ++ flat b := by unfold flat; simp
theorem encVs_cut (l : List Val) (n : Nat) : flat (encVs l) = flat (encVs (l.take n)) ++ flat (encVs (l.drop n)) := by
  rw [← flat_app, encVs, encVs, encVs, ← List.map_append, List.take_append_drop]
theorem gRow_set {x : List Val} {n : Nat} {v : Val} (h : gRow x) (hv : gV v) : gRow (x.set n v) := ⟨by simpa using h.1, fun z hz => by
  rcases List.mem_or_eq_of_mem_set hz with hz | rfl
  · exact h.2 z hz
  · exact hv⟩
theorem flatV_at {l : List Val} {n : Nat} {v : Val} (h : l[n]? = some v) : List.drop (n * 4) (flat (encVs l)) = (cV v).cells ++ flat (encVs (l.drop (n + 1))) := by
  have hn := (List.getElem?_eq_some_iff.1 h).1
  have e := encVs_cut l n
  rw [e, List.drop_append, List.drop_of_length_le (by rw [flat_vs, List.length_take]; omega), List.nil_append, flat_vs, List.length_take, Nat.min_eq_left (by omega), Nat.sub_self, List.drop_zero, drop_at h]
  rfl
theorem flatV_g1 {l : List Val} {n : Nat} {v : Val} (h : l[n]? = some v) : (List.drop (n * 4) (flat (encVs l))).getD 0 .any = .con (.int .i64 v.k) := by rw [flatV_at h]; rfl
theorem flatV_l1 {l : List Val} {n : Nat} {v : Val} (h : l[n]? = some v) : (1 ≤ (List.drop (n * 4) (flat (encVs l))).length) = True := eq_true (by rw [flatV_at h, List.length_append]; simp [AV.cells]; omega)
theorem flatV_g4 {l : List Val} {n : Nat} {v : Val} (h : l[n]? = some v) : List.take 4 (List.drop (n * 4) (flat (encVs l))) = [.con (.int .i64 v.k), .con (.int .i64 v.n), .con (.string v.s), .list (encFs v.fs) none] := by rw [flatV_at h]; rfl
theorem flatV_l4 {l : List Val} {n : Nat} {v : Val} (h : l[n]? = some v) : (4 ≤ (List.drop (n * 4) (flat (encVs l))).length) = True := eq_true (by rw [flatV_at h, List.length_append]; simp [AV.cells])
theorem flatV_set {l : List Val} {n : Nat} (h : n < l.length) (v : Val) : List.take (n * 4) (flat (encVs l)) ++ [.con (.int .i64 v.k), .con (.int .i64 v.n), .con (.string v.s), .list (encFs v.fs) none] ++ List.drop (n * 4 + 4) (flat (encVs l)) = flat (encVs (l.set n v)) := by
  have hl : (flat (encVs (l.take n))).length = n * 4 := by rw [flat_vs, List.length_take]; congr 1; omega
  have e := encVs_cut l n
  have e2 : List.drop (n * 4 + 4) (flat (encVs l)) = flat (encVs (l.drop (n + 1))) := by
    rw [← List.drop_drop, flatV_at (List.getElem?_eq_getElem h)]; rfl
  rw [e2, e, List.take_left' hl, List.set_eq_take_append_cons_drop, if_pos h]
  unfold flat encVs; simp [AV.cells]
theorem c_CloneBndX (x : List Val) (H : Hp) (hl : x.length ≤ 100000000) (h0 : 0 < x.length) : ACalls Tryz.prog 150 [.list (encVs x) none] H
    (fun r H' => ∃ t, fresh H t ∧ r = .sl t x.length 92 4 ∧ H' = ⟨(t, flat (encVs x)) :: H.bx, H.tk⟩) :=
  (c_CloneBnd x H hl).mono fun r H' ⟨ix, h1, h2, h3⟩ => by
    rcases h1 with rfl | h1
    · simp at h0
    · refine ⟨ix, h1, h2, ?_⟩
      rw [h3]
      obtain ⟨v, x, rfl⟩ := List.exists_cons_of_ne_nil (fun e : x = [] => by rw [e] at h0; simp at h0)
      rfl
theorem bindSet_good : ∀ {l : List Trm} {out r : List Val} {y : List Val}, bindSet out l r = some y → gRow out → gRow r → y.length = out.length ∧ gRow y
  | [], out, r, y, h, ho, _ => by
    rw [bindSet] at h
    · cases h; exact ⟨rfl, ho⟩
    · intro _ _ _ _ e; cases e
  | t :: l, out, [], y, h, ho, _ => by
    rw [bindSet] at h
    · cases h; exact ⟨rfl, ho⟩
    · intro _ _ _ _ _ e; cases e
  | t :: l, out, v :: r, y, h, ho, hr => by
    have hv := hr.2 v (by simp)
    have hr2 : gRow r := ⟨by have := hr.1; simp only [List.length_cons] at this; omega, fun w hw => hr.2 w (by simp [hw])⟩
    rw [bindSet] at h
    split at h
    · split at h
      · have ho2 : gRow (out.set t.n.toNat v) := ⟨by simpa using ho.1, fun z hz => by
          rcases List.mem_or_eq_of_mem_set hz with hz | rfl
          · exact ho.2 z hz
          · exact hv⟩
        obtain ⟨g1, g2⟩ := bindSet_good h ho2 hr2
        exact ⟨by simpa using g1, g2⟩
      · split at h
        · exact bindSet_good h ho hr2
        · cases h
    · exact bindSet_good h ho hr2
theorem bindR_good {x : List Val} {a : Atm} {row y : List Val} (h : bindR x a row = some y) (hx : gRow x) (hr : gRow row) : y.length = x.length ∧ gRow y := by
  unfold bindR at h
  split at h
  · split at h
    · exact bindSet_good h hx hr
    · cases h
  · cases h
end Go.Proofs.YtababmnmkmgbbaaGreat
