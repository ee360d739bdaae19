/-
  A part of the proof: its theorems say what each gives.
-/
import Derived.Test.YtababmnmkmgbbaaGreatKQd
import Derived.Test.YtababmnmkmgbbaaGreatKM27
set_option maxRecDepth 100000
set_option maxHeartbeats 4000000
set_option linter.unusedSimpArgs false
set_option linter.unusedVariables false
namespace Go.Proofs.YtababmnmkmgbbaaGreat
open Go Fw
/-! The reference: kinds of variables. -/
/-- A map that was written stays as it is from now on. -/
theorem awp_freezeMp {P : Program} {Q : Exit → St → Prop} {s : St} {c : Code} (d id : Nat) {es : MEs} {ck : Nat} (ks : List Nat) {T : List (Nat × AV)} (hT : keepT ks s.t = T) (hd : lk s.t d = .mp id) {bx : List (Nat × List AV)} {tk : List (Nat × Nat × Nat × Nat)} (hh : s.h = ⟨(id, [.mc es ck]) :: bx, tk⟩) (hfr : Hp.box ⟨bx, tk⟩ id = none)
    (step : awp P c Q ⟨s.n, (d, .mv es ck) :: T, ⟨bx, tk⟩⟩) : awp P c Q s := by
  refine awp_freezeX id (cs := [.mc es ck]) (by rw [hh]; simp [Hp.box]) ⟨s.n, (d, .mv es ck) :: T, ⟨bx, tk⟩⟩ rfl ⟨?_, ?_⟩ (by rw [hh]) (by rw [hh]; exact fleX_skip (fleX_refl hfr)) step
  · rw [hd]; exact AV.fle_mp
  · subst hT
    generalize hks : ks = q
    clear hks
    induction q with
    | nil => trivial
    | cons a q ih => exact ⟨AV.fle.refl _, ih⟩
/-- A map has the kinds of the variables. -/
def repK (es : MEs) (ks : List Int) : Prop := allI es ∧ (∀ n : Nat, n < 24 → lookV (.i n) es (.con (.int .i64 0)) false = .con (.int .i64 (ks.getD n 0)))
theorem repK_nil : repK [] kinds0 := ⟨allI_nil, fun n hn => by
  have : kinds0.getD n 0 = 0 := by unfold kinds0; rw [List.getD_eq_getElem?_getD, List.getElem?_replicate]; split <;> rfl
  rw [this]; rfl⟩
theorem repK_set {es : MEs} {ks : List Int} {c : Nat} (h : repK es ks) {n : Nat} (hn : n < ks.length) (v : Int) : repK (mset (.i n) (.con (.int .i64 v)) c es) (ks.set n v) := by
  refine ⟨allI_set h.1 _ _ _, fun m hm => ?_⟩
  have h2 := h.2 m hm
  unfold lookV at h2 ⊢
  rw [mget_set]
  by_cases e : m = n
  · subst e
    simp [List.getD_eq_getElem?_getD, hn]
  · have e2 : ¬ (MK.i (m : Int) = .i (n : Int)) := fun h => e (by injection h with h; omega)
    rw [if_neg e2]
    rw [show (ks.set n v).getD m 0 = ks.getD m 0 by simp [List.getD_eq_getElem?_getD, List.getElem?_set, Ne.symm e]]
    exact h2
end Go.Proofs.YtababmnmkmgbbaaGreat
/-
  A part of the proof: its theorems say what each gives.
-/
set_option maxRecDepth 100000
set_option maxHeartbeats 4000000
set_option linter.unusedSimpArgs false
set_option linter.unusedVariables false
namespace Go.Proofs.YtababmnmkmgbbaaGreat
open Go Fw
/-! The reference: environments, in plain Lean and as maps. -/
abbrev Env := Int → Option Val
def updE (E : Env) (n : Int) (v : Val) : Env := fun m => if m = n then some v else E m
def fitsE : Env → List Trm → List Val → Option Env
  | E, t :: l, v :: r => if t.var = true then (match E t.n with
      | none => fitsE (updE E t.n v) l r
      | some w => if cmpV w v = 0 then fitsE E l r else none) else if cmpV t.v v = 0 then fitsE E l r else none
  | E, _, _ => some E
def repM (es : MEs) (E : Env) : Prop := allI es ∧ ∀ n : Int, mget (.i n) es = (E n).map cV
def gEnv (E : Env) : Prop := ∀ n v, E n = some v → gV v
theorem repM_nil : repM [] (fun _ => none) := ⟨allI_nil, fun n => rfl⟩
theorem repM_set {es : MEs} {E : Env} {c : Nat} (h : repM es E) (n : Int) (v : Val) : repM (mset (.i n) (cV v) c es) (updE E n v) := by
  refine ⟨allI_set h.1 _ _ _, fun m => ?_⟩
  rw [mget_set, h.2 m]
  unfold updE
  by_cases e : m = n
  · subst e; simp
  · rw [if_neg (by intro h; injection h with h; exact e h), if_neg e]
theorem gEnv_upd {E : Env} (h : gEnv E) {n : Int} {v : Val} (hv : gV v) : gEnv (updE E n v) := fun m w hw => by
  unfold updE at hw
  split at hw
  · cases hw; exact hv
  · exact h m w hw
theorem pw_inj {α β : Type} {f : α → β} : ∀ {l : List α}, (l.map f).Nodup → ∀ a ∈ l, ∀ b ∈ l, f a = f b → a = b
  | [], _, a, ha, _, _, _ => by cases ha
  | x :: l, h, a, ha, b, hb, e => by
    rw [List.map_cons, List.nodup_cons] at h
    rcases List.mem_cons.1 ha with ha2 | ha2 <;> rcases List.mem_cons.1 hb with hb2 | hb2
    · rw [ha2, hb2]
    · exact absurd (by rw [← ha2, e]; exact List.mem_map_of_mem hb2) h.1
    · exact absurd (by rw [← hb2, ← e]; exact List.mem_map_of_mem ha2) h.1
    · exact pw_inj h.2 a ha2 b hb2 e
theorem key_inj {es : MEs} (h : es.Pairwise fun a b => a.1 ≠ b.1) : ∀ a ∈ es, ∀ b ∈ es, a.1 = b.1 → a = b := by
  refine pw_inj (f := fun e : MK × AV × Nat => e.1) ?_
  rw [List.Nodup, List.pairwise_map]
  exact h
theorem mget_mem {es : MEs} (h : es.Pairwise fun a b => a.1 ≠ b.1) {e : MK × AV × Nat} (he : e ∈ es) : mget e.1 es = some e.2.1 := by
  unfold mget
  cases hf : es.find? fun q => decide (q.1 = e.1) with
  | none =>
    rw [List.find?_eq_none] at hf
    exact absurd (by simp) (hf e he)
  | some q =>
    have h1 := List.mem_of_find?_eq_some hf
    have h2 := List.find?_some hf
    rw [key_inj h q h1 e he (by simpa using h2)]; rfl
theorem mget_some {es : MEs} {k : MK} {v : AV} (h : mget k es = some v) : ∃ e ∈ es, e.1 = k ∧ e.2.1 = v := by
  unfold mget at h
  cases hf : es.find? fun q => decide (q.1 = k) with
  | none => rw [hf] at h; cases h
  | some q =>
    rw [hf] at h
    exact ⟨q, List.mem_of_find?_eq_some hf, by have := List.find?_some hf; simpa using this, by simpa using h⟩
/-- A copy of what a walk has met. -/
structure Cpd (es l es1 : MEs) : Prop where
  sub : ∀ e ∈ l, e ∈ es
  nd : (l.map (·.2.2)).Nodup
  al : allI es1
  a : ∀ e ∈ l, mget e.1 es1 = some e.2.1
  b : ∀ k v, mget k es1 = some v → ∃ e ∈ l, e.1 = k
theorem Cpd.nil (es : MEs) : Cpd es [] [] := ⟨by simp, by simp, allI_nil, by simp, fun k v h => by cases h⟩
theorem Cpd.step {es l es1 : MEs} {c c1 : Nat} (h : Cpd es l es1) (hs : Stm es c) (hi : allI es) {e : MK × AV × Nat} (he : e ∈ es) (hn : e.2.2 ∉ l.map (·.2.2)) : Cpd es (l ++ [e]) (mset e.1 e.2.1 c1 es1) where
  sub q hq := by
    rcases List.mem_append.1 hq with hq | hq
    · exact h.sub q hq
    · rw [List.mem_singleton.1 hq]; exact he
  nd := by
    rw [List.map_append, List.nodup_append]
    refine ⟨h.nd, by simp, fun a ha b hb => ?_⟩
    simp only [List.map_cons, List.map_nil, List.mem_singleton] at hb
    rw [hb]; exact fun e => hn (by rw [← e]; exact ha)
  al := by
    obtain ⟨n, hk⟩ := hi e he
    rw [hk]
    exact allI_set h.al _ _ _
  a q hq := by
    rw [mget_set]
    rcases List.mem_append.1 hq with hq2 | hq2
    · rw [if_neg, h.a q hq2]
      intro e1
      have := key_inj hs.1 q (h.sub q hq2) e he e1
      exact hn (by rw [← this]; exact List.mem_map_of_mem hq2)
    · rw [List.mem_singleton.1 hq2, if_pos rfl]
  b k v hk := by
    rw [mget_set] at hk
    split at hk
    · rename_i e1; exact ⟨e, by simp, e1.symm⟩
    · obtain ⟨q, hq, e1⟩ := h.b k v hk
      exact ⟨q, by simp [hq], e1⟩
theorem Cpd.done {es l es1 : MEs} {c : Nat} (h : Cpd es l es1) (hs : Stm es c) (hall : ∀ e ∈ es, e.2.2 ∈ l.map (·.2.2)) (k : MK) : mget k es1 = mget k es := by
  cases hk : mget k es with
  | some v =>
    obtain ⟨e, he, rfl, rfl⟩ := mget_some hk
    obtain ⟨q, hq, e1⟩ := List.mem_map.1 (hall e he)
    have := pw_inj hs.2.1 q (h.sub q hq) e he e1
    subst this
    exact h.a q hq
  | none =>
    cases hk1 : mget k es1 with
    | none => rfl
    | some v =>
      obtain ⟨e, he, rfl⟩ := h.b k v hk1
      rw [mget_mem hs.1 (h.sub e he)] at hk
      cases hk
theorem Cpd.rep {es l es1 : MEs} {c : Nat} {E : Env} (h : Cpd es l es1) (hs : Stm es c) (hall : ∀ e ∈ es, e.2.2 ∈ l.map (·.2.2)) (hr : repM es E) : repM es1 E :=
  ⟨h.al, fun n => by rw [h.done hs hall]; exact hr.2 n⟩
theorem Cpd.len {es l es1 : MEs} (h : Cpd es l es1) : l.length ≤ es.length := by
  have key : ∀ {l m : List Nat}, l.Nodup → (∀ x ∈ l, x ∈ m) → l.length ≤ m.length := by
    intro l
    induction l with
    | nil => intro m _ _; exact Nat.zero_le _
    | cons a l ih =>
      intro m hn hs
      obtain ⟨h1, h2⟩ := List.nodup_cons.1 hn
      have hm := hs a (by simp)
      have h3 := ih (m := m.erase a) h2 fun x hx => (List.mem_erase_of_ne (fun e => h1 (by rw [← e]; exact hx))).2 (hs x (by simp [hx]))
      rw [List.length_erase_of_mem hm] at h3
      have := List.length_pos_of_mem hm
      simp; omega
  have := key (l := l.map (·.2.2)) (m := es.map (·.2.2)) h.nd (fun x hx => by
    obtain ⟨q, hq, rfl⟩ := List.mem_map.1 hx
    exact List.mem_map_of_mem (h.sub q hq))
  simpa using this
end Go.Proofs.YtababmnmkmgbbaaGreat
