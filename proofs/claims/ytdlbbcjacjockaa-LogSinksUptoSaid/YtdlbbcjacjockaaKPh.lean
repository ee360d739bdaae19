/-
  A part of the proof: its theorems say what each gives.
-/
import Derived.Test.YtdlbbcjacjockaaKPb
set_option linter.unusedSimpArgs false
set_option linter.unusedVariables false
namespace Go.Proofs.Ytdlbbcjacjockaa
open Go Fw
/-! Logs: what has been read well are the bytes again. -/
theorem rdN_sound : ∀ (f i : Nat) (b : Byt) (p : Nat × Byt × Bool), rdN f i b = some p → (p.2.2 = false → b = sev p.1 ++ p.2.1) ∧ (p.1 = 0 → 0 < i → p.2.2 = true) := by
  intro f
  induction f with
  | zero => intro i b p h; simp [rdN] at h
  | succ f ih =>
    intro i b p h
    cases b with
    | nil => simp [rdN] at h
    | cons c r =>
      rw [rdN] at h
      split at h
      · cases h
      · split at h
        · rename_i hc
          injection h with h; subst h
          refine ⟨fun _ => ?_, fun h0 hi => ?_⟩
          · simp only
            rw [sev_small hc, UInt8.ofNat_toNat]; rfl
          · simp only at h0 ⊢; simp [h0, hi]
        · rename_i hc
          cases hr : rdN f (i + 1) r with
          | none => rw [hr] at h; cases h
          | some q =>
            rw [hr] at h
            simp only [Option.map_some, Option.some.injEq] at h
            subst h
            obtain ⟨h1, h2⟩ := ih (i + 1) r q hr
            have hcl := c.toNat_lt
            refine ⟨fun hz => ?_, fun h0 hi => ?_⟩
            · simp only at hz ⊢
              have hq : q.1 ≠ 0 := fun e => by rw [h2 e (by omega)] at hz; cases hz
              rw [sev_big (by omega), show (c.toNat % 128 + 128 * q.1) / 128 = q.1 by omega, show (c.toNat % 128 + 128 * q.1) % 128 + 128 = c.toNat by omega, UInt8.ofNat_toNat, List.cons_append, ← h1 hz]
            · simp only at h0 ⊢
              exact h2 (by omega) (by omega)
theorem rNum_sound (s : Rd) (h : (rNum s).2.2 = false) : s.1 = sev (rNum s).1 ++ (rNum s).2.1 ∧ s.2 = false := by
  unfold rNum at h ⊢
  cases hr : rdN 10 0 s.1 with
  | none => rw [hr] at h; cases h
  | some p =>
    rw [hr] at h
    simp only at h ⊢
    rw [Bool.or_eq_false_iff] at h
    exact ⟨(rdN_sound _ _ _ _ hr).1 h.2, h.1⟩
theorem rMany_sound (s : Rd) (h : (rMany s).2.2 = false) : s.1 = sev (rMany s).1 ++ (rMany s).2.1 ∧ s.2 = false := by
  unfold rMany at h ⊢
  simp only at h ⊢
  split at h
  · cases h
  · rename_i hh
    rw [if_neg hh]
    exact rNum_sound s h
theorem rText_sound (s : Rd) (h : (rText s).2.2 = false) : s.1 = txtB (bs (rText s).1) ++ (rText s).2.1 ∧ s.2 = false := by
  have hle : (rMany s).1 ≤ (rMany s).2.1.length ∨ (rMany s).2.2 = true := by
    unfold rMany
    simp only
    split
    · exact .inr rfl
    · exact .inl (by omega)
  unfold rText at h ⊢
  simp only at h ⊢
  obtain ⟨h1, h2⟩ := rMany_sound s h
  refine ⟨?_, h2⟩
  have hl := hle.resolve_right (by rw [h]; simp)
  unfold txtB
  rw [sb_bs, List.append_assoc, List.take_append_drop, ← sb_length, sb_bs, List.length_take, Nat.min_eq_left hl]
  exact h1
theorem rNum_lt' (s : Rd) (h : (rNum s).2.2 = false) : (rNum s).1 < 18446744073709551616 := by
  have hN : ∀ f i b p, rdN f i b = some p → i + f = 10 → p.1 < 2 ^ (64 - 7 * i) := by
    intro f
    induction f with
    | zero => intro i b p h; simp [rdN] at h
    | succ f ih =>
      intro i b p h hi
      cases b with
      | nil => simp [rdN] at h
      | cons c r =>
        rw [rdN] at h
        split at h
        · cases h
        · rename_i h9
          split at h
          · rename_i hc
            injection h with h; subst h
            simp only
            by_cases e : i = 9
            · subst e
              have : c.toNat ≤ 1 := by omega
              simp; omega
            · have : 2 ^ 7 ≤ 2 ^ (64 - 7 * i) := Nat.pow_le_pow_right (by omega) (by omega)
              omega
          · rename_i hc
            have e : i ≠ 9 := fun e => h9 ⟨e, by omega⟩
            cases hr : rdN f (i + 1) r with
            | none => rw [hr] at h; cases h
            | some q =>
              rw [hr] at h
              simp only [Option.map_some, Option.some.injEq] at h
              subst h
              have := ih (i + 1) r q hr (by omega)
              simp only
              have e2 : 2 ^ (64 - 7 * i) = 128 * 2 ^ (64 - 7 * (i + 1)) := by
                rw [show 64 - 7 * i = 7 + (64 - 7 * (i + 1)) by omega, Nat.pow_add]
              omega
  unfold rNum
  cases h : rdN 10 0 s.1 with
  | none => simp
  | some p => exact hN 10 0 s.1 p h rfl
theorem zig_unzig (n : Nat) (h : n < 18446744073709551616) : u64 (zig (unzig n)) = n := by
  unfold unzig zig u64
  split <;> split <;> omega
theorem u64_nat' {n : Nat} (h : n < 18446744073709551616) : u64 (n : Int) = n := by unfold u64; omega
def VP (v : Val) : Prop := v.fs = [] ∧ (v.k ≠ 5 → v.s.size = 0)
theorem rVal_sound (s : Rd) (h : (rVal s).2.2 = false) : s.1 = valB (rVal s).1 ++ (rVal s).2.1 ∧ s.2 = false ∧ VP (rVal s).1 := by
  unfold rVal at h ⊢
  simp only at h ⊢
  split at h
  · cases h
  · rename_i h12
    rw [if_neg h12]
    split at h
    · rename_i h5
      rw [if_pos h5]
      obtain ⟨a1, a2⟩ := rText_sound _ h
      obtain ⟨b1, b2⟩ := rNum_sound s a2
      refine ⟨?_, b2, rfl, fun h => absurd rfl h⟩
      have : valB (.mk 5 0 (bs (rText (rNum s).2).1) []) = sev (u64 5) ++ txtB (bs (rText (rNum s).2).1) := rfl
      rw [this, List.append_assoc, ← a1, show u64 5 = (rNum s).1 by rw [h5]; rfl]
      exact b1
    · rename_i h5
      rw [if_neg h5]
      obtain ⟨a1, a2⟩ := rNum_sound _ h
      obtain ⟨b1, b2⟩ := rNum_sound s a2
      have h2 := rNum_lt' _ h
      refine ⟨?_, b2, rfl, fun _ => rfl⟩
      have : valB (.mk (rNum s).1 (unzig (rNum (rNum s).2).1) ⟨#[]⟩ []) = sev (u64 ((rNum s).1 : Nat)) ++ sev (u64 (zig (unzig (rNum (rNum s).2).1))) := by
        show sev (u64 ((rNum s).1 : Nat)) ++ (if (((rNum s).1 : Nat) : Int) = 5 then _ else _) = _
        rw [if_neg (by omega)]
      rw [this, List.append_assoc, zig_unzig _ h2, ← a1, u64_nat' (by omega)]
      exact b1
theorem rRow_sound : ∀ (n : Nat) (s : Rd), (rRow n s).2.2 = false → s.1 = rowB (rRow n s).1 ++ (rRow n s).2.1 ∧ s.2 = false ∧ (∀ v ∈ (rRow n s).1, VP v) ∧ (rRow n s).1.length = n
  | 0, s, h => ⟨rfl, h, fun v hv => by simp [rRow] at hv, rfl⟩
  | n + 1, s, h => by
    rw [rRow] at h ⊢
    simp only at h ⊢
    obtain ⟨a1, a2, a3, a4⟩ := rRow_sound n _ h
    obtain ⟨b1, b2, b3⟩ := rVal_sound s a2
    refine ⟨?_, b2, fun v hv => ?_, by simp [a4]⟩
    · have : ∀ (v : Val) (l : List Val), rowB (v :: l) = valB v ++ rowB l := fun _ _ => rfl
      rw [this, List.append_assoc, ← a1]; exact b1
    · rcases List.mem_cons.1 hv with rfl | hv
      · exact b3
      · exact a3 v hv
theorem rChg_sound (s : Rd) (h : (rChg s).2.2 = false) : s.1 = chgB (rChg s).1 ++ (rChg s).2.1 ∧ s.2 = false ∧ ∀ v ∈ (rChg s).1.row, VP v := by
  unfold rChg at h ⊢
  simp only [Bool.or_eq_false_iff, decide_eq_false_iff_not] at h ⊢
  obtain ⟨h1, h2⟩ := h
  obtain ⟨a1, a2, a3, a4⟩ := rRow_sound _ _ h1
  obtain ⟨b1, b2⟩ := rMany_sound _ a2
  obtain ⟨c1, c2⟩ := rText_sound _ b2
  obtain ⟨d1, d2⟩ := rNum_sound s c2
  refine ⟨?_, d2, a3⟩
  have hd : (if decide ((rNum s).1 = 1) = true then 1 else 0) = (rNum s).1 := by
    by_cases e : (rNum s).1 = 1
    · simp [e]
    · simp [e]; omega
  unfold chgB
  simp only
  rw [hd, a4]
  simp only [List.append_assoc]
  rw [← a1, ← b1, ← c1]
  exact d1
theorem rChs_sound : ∀ (n : Nat) (s : Rd) (q : List Chg × Rd), rChs n s = some q → q.2.2 = false → s.1 = chsB q.1 ++ q.2.1 ∧ s.2 = false ∧ (∀ c ∈ q.1, ∀ v ∈ c.row, VP v) ∧ q.1.length = n
  | 0, s, q, h, hz => by simp only [rChs, Option.some.injEq] at h; subst h; exact ⟨rfl, hz, fun c hc => by simp at hc, rfl⟩
  | n + 1, s, q, h, hz => by
    rw [rChs] at h
    split at h
    · cases h
    · rename_i hb
      cases hr : rChs n (rChg s).2 with
      | none => rw [hr] at h; cases h
      | some p =>
        rw [hr] at h
        simp only [Option.map_some, Option.some.injEq] at h
        subst h
        obtain ⟨a1, a2, a3, a4⟩ := rChs_sound n _ p hr hz
        obtain ⟨b1, b2, b3⟩ := rChg_sound s a2
        refine ⟨?_, b2, fun c hc => ?_, by simp [a4]⟩
        · have : ∀ (v : Chg) (l : List Chg), chsB (v :: l) = chgB v ++ chsB l := fun _ _ => rfl
          rw [this, List.append_assoc, ← a1]; exact b1
        · rcases List.mem_cons.1 hc with rfl | hc
          · exact b3
          · exact a3 c hc
theorem rEnt_sound {b : Byt} {x : Ent} {r : Byt} (h : rEnt b = some (x, (r, false))) : bodyB x ++ r = b ∧ ∀ c ∈ x.ch, ∀ v ∈ c.row, VP v := by
  unfold rEnt at h
  simp only at h
  cases hr : rChs (rMany (rNum (b, false)).2).1 (rMany (rNum (b, false)).2).2 with
  | none => rw [hr] at h; cases h
  | some q =>
    rw [hr] at h
    simp only [Option.map_some, Option.some.injEq, Prod.mk.injEq] at h
    obtain ⟨rfl, h2⟩ := h
    obtain ⟨a1, a2, a3, a4⟩ := rChs_sound _ _ _ hr (by rw [h2])
    obtain ⟨b1, b2⟩ := rMany_sound _ a2
    obtain ⟨c1, c2⟩ := rNum_sound _ b2
    have hlt := rNum_lt' _ b2
    refine ⟨?_, a3⟩
    unfold bodyB
    simp only
    have hu : u64 (IntKind.i64.wrap ((rNum (b, false)).1 : Int)) = (rNum (b, false)).1 := by
      rw [IntWalk.i64_left]; unfold RowKit.wrap64 u64; omega
    rw [hu, a4, List.append_assoc, List.append_assoc, show r = q.2.1 by rw [h2], ← a1, ← b1]
    exact c1.symm
end Go.Proofs.Ytdlbbcjacjockaa
