/-
  A part of the proof: its theorems say what each gives.
-/
import Derived.Test.YtababmnmkmgbbaaGreatKM22
set_option maxRecDepth 100000
set_option maxHeartbeats 4000000
set_option linter.unusedSimpArgs false
set_option linter.unusedVariables false
namespace Go.Proofs.YtababmnmkmgbbaaGreat
open Go Fw
/-! cq.bind. -/
def atV (x : List Val) (t : Trm) : Val := x.getD t.n.toNat zV
def bindOk (x : List Val) : List Trm → List Val → Bool
  | t :: l, v :: r => if t.var = true then (if 0 ≤ t.n ∧ t.n < x.length then (if (atV x t).k = 0 then bindOk x l r else if cmpV (atV x t) v = 0 then bindOk x l r else false) else false) else if cmpV t.v v = 0 then bindOk x l r else false
  | _, _ => true
def bindSet : List Val → List Trm → List Val → Option (List Val)
  | out, t :: l, v :: r => if t.var = true then (if (atV out t).k = 0 then bindSet (out.set t.n.toNat v) l r else if cmpV (atV out t) v = 0 then bindSet out l r else none) else bindSet out l r
  | out, _, _ => some out
def bindR (x : List Val) (a : Atm) (row : List Val) : Option (List Val) := if a.args.length = row.length then (if bindOk x a.args row = true then bindSet x a.args row else none) else none
theorem bindOk_rng {x : List Val} : ∀ {l : List Trm} {r : List Val}, bindOk x l r = true → l.length = r.length → ∀ y ∈ l, y.var = true → 0 ≤ y.n ∧ y.n < x.length
  | [], _, _, _, y, hy, _ => by cases hy
  | t :: l, [], _, hl, y, hy, _ => by simp at hl
  | t :: l, v :: r, h, hl, y, hy, hv => by
    rw [bindOk] at h
    have hl2 : l.length = r.length := by simpa using hl
    rcases List.mem_cons.1 hy with rfl | hy
    · rw [if_pos hv] at h
      split at h
      · assumption
      · cases h
    · refine bindOk_rng (r := r) ?_ hl2 y hy hv
      split at h
      · split at h
        · split at h
          · exact h
          · split at h
            · exact h
            · cases h
        · cases h
      · split at h
        · exact h
        · cases h
theorem flat_app (a b : List AV) : flat (a ++ b) = flat a ++ flat b := by unfold flat; simp
theorem encVs_cut (l : List Val) (n : Nat) : flat (encVs l) = flat (encVs (l.take n)) ++ flat (encVs (l.drop n)) := by
  rw [← flat_app, encVs, encVs, encVs, ← List.map_append, List.take_append_drop]
theorem gRow_set {x : List Val} {n : Nat} {v : Val} (h : gRow x) (hv : gV v) : gRow (x.set n v) := ⟨by simpa using h.1, fun z hz => by
  rcases List.mem_or_eq_of_mem_set hz with hz | rfl
  · exact h.2 z hz
  · exact hv⟩
theorem flatV_at {l : List Val} {n : Nat} {v : Val} (h : l[n]? = some v) : List.drop (n * 4) (flat (encVs l)) = (cV v).cells ++ flat (encVs (l.drop (n + 1))) := by
  have hn := (List.getElem?_eq_some_iff.1 h).1
  have e := encVs_cut l n
  rw [e, List.drop_append, List.drop_of_length_le (by rw [flat_vs, List.length_take]; omega), List.nil_append, flat_vs, List.length_take, Nat.min_eq_left (by omega), Nat.sub_self, List.drop_zero, drop_at h]
  rfl
theorem flatV_g1 {l : List Val} {n : Nat} {v : Val} (h : l[n]? = some v) : (List.drop (n * 4) (flat (encVs l))).getD 0 .any = .con (.int .i64 v.k) := by rw [flatV_at h]; rfl
theorem flatV_l1 {l : List Val} {n : Nat} {v : Val} (h : l[n]? = some v) : (1 ≤ (List.drop (n * 4) (flat (encVs l))).length) = True := eq_true (by rw [flatV_at h, List.length_append]; simp [AV.cells]; omega)
theorem flatV_g4 {l : List Val} {n : Nat} {v : Val} (h : l[n]? = some v) : List.take 4 (List.drop (n * 4) (flat (encVs l))) = [.con (.int .i64 v.k), .con (.int .i64 v.n), .con (.string v.s), .list (encFs v.fs) none] := by rw [flatV_at h]; rfl
theorem flatV_l4 {l : List Val} {n : Nat} {v : Val} (h : l[n]? = some v) : (4 ≤ (List.drop (n * 4) (flat (encVs l))).length) = True := eq_true (by rw [flatV_at h, List.length_append]; simp [AV.cells])
theorem flatV_set {l : List Val} {n : Nat} (h : n < l.length) (v : Val) : List.take (n * 4) (flat (encVs l)) ++ [.con (.int .i64 v.k), .con (.int .i64 v.n), .con (.string v.s), .list (encFs v.fs) none] ++ List.drop (n * 4 + 4) (flat (encVs l)) = flat (encVs (l.set n v)) := by
  have hl : (flat (encVs (l.take n))).length = n * 4 := by rw [flat_vs, List.length_take]; congr 1; omega
  have e := encVs_cut l n
  have e2 : List.drop (n * 4 + 4) (flat (encVs l)) = flat (encVs (l.drop (n + 1))) := by
    rw [← List.drop_drop, flatV_at (List.getElem?_eq_getElem h)]; rfl
  rw [e2, e, List.take_left' hl, List.set_eq_take_append_cons_drop, if_pos h]
  unfold flat encVs; simp [AV.cells]
theorem c_CloneBndX (x : List Val) (H : Hp) (hl : x.length ≤ 100000000) (h0 : 0 < x.length) : ACalls Tryz.prog 150 [.list (encVs x) none] H
    (fun r H' => ∃ t, fresh H t ∧ r = .sl t x.length 92 4 ∧ H' = ⟨(t, flat (encVs x)) :: H.bx, H.tk⟩) :=
  (c_CloneBnd x H hl).mono fun r H' ⟨ix, h1, h2, h3⟩ => by
    rcases h1 with rfl | h1
    · simp at h0
    · refine ⟨ix, h1, h2, ?_⟩
      rw [h3]
      obtain ⟨v, x, rfl⟩ := List.exists_cons_of_ne_nil (fun e : x = [] => by rw [e] at h0; simp at h0)
      rfl
theorem bindSet_good : ∀ {l : List Trm} {out r : List Val} {y : List Val}, bindSet out l r = some y → gRow out → gRow r → y.length = out.length ∧ gRow y
  | [], out, r, y, h, ho, _ => by
    rw [bindSet] at h
    · cases h; exact ⟨rfl, ho⟩
    · intro _ _ _ _ e; cases e
  | t :: l, out, [], y, h, ho, _ => by
    rw [bindSet] at h
    · cases h; exact ⟨rfl, ho⟩
    · intro _ _ _ _ _ e; cases e
  | t :: l, out, v :: r, y, h, ho, hr => by
    have hv := hr.2 v (by simp)
    have hr2 : gRow r := ⟨by have := hr.1; simp only [List.length_cons] at this; omega, fun w hw => hr.2 w (by simp [hw])⟩
    rw [bindSet] at h
    split at h
    · split at h
      · have ho2 : gRow (out.set t.n.toNat v) := ⟨by simpa using ho.1, fun z hz => by
          rcases List.mem_or_eq_of_mem_set hz with hz | rfl
          · exact ho.2 z hz
          · exact hv⟩
        obtain ⟨g1, g2⟩ := bindSet_good h ho2 hr2
        exact ⟨by simpa using g1, g2⟩
      · split at h
        · exact bindSet_good h ho hr2
        · cases h
    · exact bindSet_good h ho hr2
theorem bindR_good {x : List Val} {a : Atm} {row y : List Val} (h : bindR x a row = some y) (hx : gRow x) (hr : gRow row) : y.length = x.length ∧ gRow y := by
  unfold bindR at h
  split at h
  · split at h
    · exact bindSet_good h hx hr
    · cases h
  · cases h
end Go.Proofs.YtababmnmkmgbbaaGreat
/-
  A part of the proof: its theorems say what each gives.
-/
set_option maxRecDepth 100000
set_option linter.unusedSimpArgs false
set_option linter.unusedVariables false
namespace Go.Proofs.YtababmnmkmgbbaaGreat
open Go Fw
/-! All bindings, stage by stage and deep first, in plain Lean. -/
def rowsOf (b : List Rel) (nm : ByteArray) : List (List Val) := ((findR b nm).getD zRel).rows
def addO (acc : List (List Val)) : Option (List Val) → List (List Val)
  | some y => acc ++ [y]
  | none => acc
def extRows (x : List Val) (a : Atm) : List (List Val) → List (List Val) → Option (List (List Val))
  | acc, [] => some acc
  | acc, row :: rs => if 20000 < (addO acc (bindR x a row)).length then none else extRows x a (addO acc (bindR x a row)) rs
def extXs (a : Atm) (rows : List (List Val)) : List (List Val) → List (List Val) → Option (List (List Val))
  | acc, [] => some acc
  | acc, x :: xs => match extRows x a acc rows with
    | none => none
    | some acc' => extXs a rows acc' xs
def extL (b : List Rel) : List Atm → List (List Val) → Option (List (List Val))
  | [], xs => some xs
  | a :: l, xs => match extXs a (rowsOf b a.rel) [] xs with
    | none => none
    | some ys => extL b l ys
def stepB (b : List Rel) (a : Atm) (x : List Val) : List (List Val) := (rowsOf b a.rel).filterMap (bindR x a)
theorem extRows_eq (x : List Val) (a : Atm) : ∀ (rows acc : List (List Val)), acc.length ≤ 20000 →
    extRows x a acc rows = if (acc ++ rows.filterMap (bindR x a)).length ≤ 20000 then some (acc ++ rows.filterMap (bindR x a)) else none
  | [], acc, h => by rw [extRows]; simp [h]
  | row :: rs, acc, h => by
    rw [extRows, List.filterMap_cons]
    cases hb : bindR x a row with
    | none =>
      rw [show addO acc none = acc from rfl]
      simp only
      rw [if_neg (show ¬ 20000 < acc.length by omega), extRows_eq x a rs acc h]
    | some y =>
      rw [show addO acc (some y) = acc ++ [y] from rfl]
      simp only
      by_cases h2 : 20000 < (acc ++ [y]).length
      · rw [if_pos h2, if_neg]
        simp only [List.length_append, List.length_cons, List.length_nil] at h2 ⊢
        omega
      · rw [if_neg h2, extRows_eq x a rs _ (by omega)]
        simp only [List.append_assoc, List.singleton_append]
theorem extXs_eq (b : List Rel) (a : Atm) : ∀ (xs acc : List (List Val)), acc.length ≤ 20000 →
    extXs a (rowsOf b a.rel) acc xs = if (acc ++ xs.flatMap (stepB b a)).length ≤ 20000 then some (acc ++ xs.flatMap (stepB b a)) else none
  | [], acc, h => by rw [extXs]; simp [h]
  | x :: xs, acc, h => by
    rw [extXs, extRows_eq x a _ acc h, List.flatMap_cons]
    change (match (if (acc ++ stepB b a x).length ≤ 20000 then some (acc ++ stepB b a x) else none) with | none => none | some acc' => extXs a (rowsOf b a.rel) acc' xs) = _
    by_cases h3 : (acc ++ stepB b a x).length ≤ 20000
    · rw [if_pos h3]
      simp only
      rw [extXs_eq b a xs _ h3, List.append_assoc]
    · rw [if_neg h3]
      simp only
      rw [if_neg]
      simp only [List.length_append] at h3 ⊢
      omega
def bfOut (b : List Rel) : List Atm → List (List Val) → List (List Val)
  | [], xs => xs
  | a :: l, xs => bfOut b l (xs.flatMap (stepB b a))
def sz (b : List Rel) : List Atm → List (List Val) → Nat → Nat
  | _, xs, 0 => xs.length
  | [], _, _ + 1 => 0
  | a :: l, xs, k + 1 => sz b l (xs.flatMap (stepB b a)) k
theorem sz_zero (b : List Rel) (l : List Atm) (xs : List (List Val)) : sz b l xs 0 = xs.length := by cases l <;> rfl
theorem sz_app (b : List Rel) : ∀ (l : List Atm) (xs ys : List (List Val)) (k : Nat), sz b l (xs ++ ys) k = sz b l xs k + sz b l ys k
  | l, xs, ys, 0 => by simp [sz_zero]
  | [], xs, ys, k + 1 => rfl
  | a :: l, xs, ys, k + 1 => by rw [sz, sz, sz, List.flatMap_append, sz_app b l]
theorem sz_nil (b : List Rel) : ∀ (l : List Atm) (k : Nat), sz b l [] k = 0
  | l, 0 => by rw [sz_zero]; rfl
  | [], k + 1 => rfl
  | a :: l, k + 1 => by rw [sz, List.flatMap_nil, sz_nil b l]
theorem bfOut_app (b : List Rel) : ∀ (l : List Atm) (xs ys : List (List Val)), bfOut b l (xs ++ ys) = bfOut b l xs ++ bfOut b l ys
  | [], xs, ys => rfl
  | a :: l, xs, ys => by rw [bfOut, bfOut, bfOut, List.flatMap_append, bfOut_app b l]
theorem bfOut_nil (b : List Rel) : ∀ (l : List Atm), bfOut b l [] = []
  | [] => rfl
  | a :: l => by rw [bfOut, List.flatMap_nil, bfOut_nil b l]
theorem extL_eq (b : List Rel) : ∀ (l : List Atm) (xs : List (List Val)), extL b l xs = if ∀ j, j < l.length → sz b l xs (j + 1) ≤ 20000 then some (bfOut b l xs) else none
  | [], xs => by simp [extL, bfOut]
  | a :: l, xs => by
    rw [extL, extXs_eq b a xs [] (by simp), List.nil_append]
    by_cases h : (xs.flatMap (stepB b a)).length ≤ 20000
    · rw [if_pos h]
      simp only
      rw [extL_eq b l, bfOut]
      congr 1
      refine propext ⟨fun k j hj => ?_, fun k j hj => ?_⟩
      · cases j with
        | zero => rw [sz, sz_zero]; exact h
        | succ j => rw [sz]; exact k j (by simpa using hj)
      · have := k (j + 1) (by simpa using hj); rwa [sz] at this
    · rw [if_neg h]
      simp only
      rw [if_neg]
      intro k
      have := k 0 (by simp)
      rw [sz, sz_zero] at this
      exact h this
/-- One row after the other: an atom's terms in order. -/
def fitsR : List Val → List Trm → List Val → Option (List Val)
  | out, t :: l, v :: r => if t.var = true then (if (atV out t).k = 0 then fitsR (out.set t.n.toNat v) l r else if cmpV (atV out t) v = 0 then fitsR out l r else none) else if cmpV t.v v = 0 then fitsR out l r else none
  | out, _, _ => some out
theorem fits_bind (x : List Val) : ∀ (l : List Trm) (r : List Val) (out : List Val), out.length = x.length → (∀ n : Nat, (x.getD n zV).k ≠ 0 → out.getD n zV = x.getD n zV) → (∀ t ∈ l, t.var = true → 0 ≤ t.n ∧ t.n < x.length) →
    fitsR out l r = if bindOk x l r = true then bindSet out l r else none
  | [], r, out, _, _, _ => by
    rw [fitsR, bindOk, bindSet]
    · rfl
    all_goals (intros; simp_all)
  | t :: l, [], out, _, _, _ => by
    rw [fitsR, bindOk, bindSet]
    · rfl
    all_goals (intros; simp_all)
  | t :: l, v :: r, out, hl, he, hv => by
    have hv2 : ∀ t ∈ l, t.var = true → 0 ≤ t.n ∧ t.n < x.length := fun u hu => hv u (List.mem_cons_of_mem _ hu)
    rw [fitsR, bindOk, bindSet]
    by_cases ht : t.var = true
    · rw [if_pos ht, if_pos ht, if_pos ht, if_pos (hv t (List.mem_cons_self ..) ht)]
      have hr := hv t (List.mem_cons_self ..) ht
      by_cases h0 : (atV out t).k = 0
      · have h1 : (atV x t).k = 0 := by
          refine Classical.byContradiction fun h1 => ?_
          have := he t.n.toNat h1
          exact h1 (by unfold atV at h0 ⊢; rw [← this]; exact h0)
        rw [if_pos h0, if_pos h0, if_pos h1]
        refine fits_bind x l r _ (by simpa using hl) (fun n hn => ?_) hv2
        simp only [List.getD_eq_getElem?_getD, List.getElem?_set] at hn ⊢
        split
        · rename_i e
          rw [← e] at hn
          exact absurd h1 (by unfold atV; simpa [List.getD_eq_getElem?_getD] using hn)
        · have := he n (by simpa [List.getD_eq_getElem?_getD] using hn)
          simpa [List.getD_eq_getElem?_getD] using this
      · rw [if_neg h0, if_neg h0]
        by_cases h1 : (atV x t).k = 0
        · rw [if_pos h1]
          by_cases hc : cmpV (atV out t) v = 0
          · rw [if_pos hc, if_pos hc]; exact fits_bind x l r out hl he hv2
          · rw [if_neg hc, if_neg hc]; simp
        · have h2 : atV out t = atV x t := he t.n.toNat h1
          rw [if_neg h1, h2]
          by_cases hc : cmpV (atV x t) v = 0
          · rw [if_pos hc, if_pos hc, if_pos hc]; exact fits_bind x l r out hl he hv2
          · rw [if_neg hc, if_neg hc]; simp
    · rw [if_neg ht, if_neg ht, if_neg ht]
      by_cases hc : cmpV t.v v = 0
      · rw [if_pos hc, if_pos hc]; exact fits_bind x l r out hl he hv2
      · rw [if_neg hc, if_neg hc]; simp
theorem bindR_fits {x : List Val} {a : Atm} {row : List Val} (hl : a.args.length = row.length) (hv : ∀ t ∈ a.args, t.var = true → 0 ≤ t.n ∧ t.n < x.length) : bindR x a row = fitsR x a.args row := by
  unfold bindR
  rw [if_pos hl, fits_bind x a.args row x rfl (fun _ _ => rfl) hv]
end Go.Proofs.YtababmnmkmgbbaaGreat
