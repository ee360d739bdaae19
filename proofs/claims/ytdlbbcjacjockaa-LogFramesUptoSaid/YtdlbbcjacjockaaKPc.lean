/-
  A part of the proof: its theorems say what each gives.
-/
import Derived.Test.YtdlbbcjacjockaaKPb
set_option linter.unusedSimpArgs false
set_option linter.unusedVariables false
namespace Go.Proofs.Ytdlbbcjacjockaa
open Go Fw
/-! Logs: the reader of the reference, as a function. -/
def tSome (n : Nat) (s : Rd) : Byt × Rd := if s.1.length < n then ([], ([], true)) else (s.1.take n, (s.1.drop n, s.2))
def tN : Nat → Nat → Nat → Rd → Nat × Rd
  | 0, _, _, s => (0, (s.1, true))
  | f + 1, i, acc, s =>
    if (tSome 1 s).2.2 = true then (0, (tSome 1 s).2) else
    if bAt (tSome 1 s).1 0 < 128 then ((acc + bAt (tSome 1 s).1 0 % 128 * 128 ^ i) % 18446744073709551616, (tSome 1 s).2)
    else tN f (i + 1) ((acc + bAt (tSome 1 s).1 0 % 128 * 128 ^ i) % 18446744073709551616) (tSome 1 s).2
def tNum (s : Rd) : Nat × Rd := tN 10 0 0 s
def tVal (s : Rd) : Val × Rd :=
  let p := tNum s
  if p.1 % 1000 = 5 then let q := tNum p.2; let r := tSome q.1 q.2; (.mk 5 0 (bs r.1) [], r.2) else
  let q := tNum p.2; (.mk (p.1 % 1000 : Nat) (if q.1 % 2 = 0 then ((q.1 / 2 : Nat) : Int) else -((q.1 / 2 : Nat) : Int) - 1) ⟨#[]⟩ [], q.2)
def tRow : Nat → Nat → Rd → List Val × Rd
  | 0, _, s => ([], s)
  | _ + 1, 0, s => ([], s)
  | m + 1, n + 1, s => if s.2 = true then ([], s) else let p := tVal s; let q := tRow m n p.2; (p.1 :: q.1, q.2)
def tChg (s : Rd) : Chg × Rd :=
  let o := tNum s; let l := tNum o.2; let t := tSome l.1 l.2; let m := tNum t.2; let w := tRow 13 m.1 m.2
  (⟨bs t.1, decide (o.1 = 1), w.1⟩, w.2)
def tChs : Nat → Nat → Rd → List Chg × Rd
  | 0, _, s => ([], s)
  | _ + 1, 0, s => ([], s)
  | m + 1, n + 1, s => if s.2 = true then ([], s) else let p := tChg s; let q := tChs m n p.2; (p.1 :: q.1, q.2)
def tEnt (b : Byt) : Ent × Rd := let n := tNum (b, false); let m := tNum n.2; let q := tChs 51 m.1 m.2; (⟨IntKind.i64.wrap n.1, q.1⟩, q.2)
def eofM (b : Byt) : Option Ent := if (tEnt b).2.2 = false ∧ entE (tEnt b).1 = 0 ∧ bodyB (tEnt b).1 = b then some (tEnt b).1 else none
theorem tSome_one (c : UInt8) (r : Byt) (z : Bool) : tSome 1 (c :: r, z) = ([c], (r, z)) := by simp [tSome]
theorem tSome_app (a r : Byt) : tSome a.length (a ++ r, false) = (a, (r, false)) := by simp [tSome]
theorem tN_sev : ∀ (f i n acc : Nat) (r : Byt), i + f = 10 → 0 < f → n < 128 ^ f → acc + n * 128 ^ i < 18446744073709551616 → tN f i acc (sev n ++ r, false) = (acc + n * 128 ^ i, (r, false)) := by
  intro f
  induction f with
  | zero => intro i n acc r _ h; omega
  | succ f ih =>
    intro i n acc r hf _ hn hb
    by_cases hs : n < 128
    · rw [sev_small hs, List.singleton_append, tN, tSome_one]
      simp only [Bool.false_eq_true, if_false, bAt, List.getD_cons_zero, ofNat_toNat (show n < 256 by omega)]
      rw [if_pos hs, Nat.mod_eq_of_lt hs, Nat.mod_eq_of_lt hb]
    · have hf0 : 0 < f := by
        rcases Nat.eq_zero_or_pos f with rfl | h
        · simp at hn; omega
        · exact h
      have e : acc + n % 128 * 128 ^ i + n / 128 * 128 ^ (i + 1) = acc + n * 128 ^ i := by
        rw [Nat.pow_succ, ← Nat.mul_assoc, Nat.mul_right_comm, Nat.add_assoc, ← Nat.add_mul]
        congr 2; omega
      rw [sev_big hs, List.cons_append, tN, tSome_one]
      simp only [Bool.false_eq_true, if_false, bAt, List.getD_cons_zero, ofNat_toNat (show n % 128 + 128 < 256 by omega)]
      rw [if_neg (by omega), show (n % 128 + 128) % 128 = n % 128 by omega, Nat.mod_eq_of_lt (Nat.lt_of_le_of_lt (by rw [← e]; omega) hb)]
      rw [ih (i + 1) (n / 128) _ r (by omega) hf0 (by rw [Nat.pow_succ] at hn; rw [Nat.div_lt_iff_lt_mul (by omega)]; exact hn) (by rw [e]; exact hb), e]
theorem tNum_sev {n : Nat} (h : n < 18446744073709551616) (r : Byt) : tNum (sev n ++ r, false) = (n, (r, false)) := by
  unfold tNum
  rw [tN_sev 10 0 n 0 r rfl (by omega) (Nat.lt_of_lt_of_le h (by decide)) (by simpa using h)]
  simp
theorem tVal_val {v : Val} (h : PlainV v) (r : Byt) (h2 : v.s.size < 18446744073709551616) : tVal (valB v ++ r, false) = (v, (r, false)) := by
  obtain ⟨h3, h4, h5, h6, h7⟩ := h
  obtain ⟨k, n, s, fs⟩ := v
  simp only [Val.k, Val.n, Val.s, Val.fs] at *
  subst h5
  have hk : ((u64 k : Nat) : Int) = k := u64_id h6.1 (by omega)
  have ev : valB (.mk k n s []) = sev (u64 k) ++ (if k = 5 then txtB s else sev (u64 (zig n))) := rfl
  rw [ev, List.append_assoc]
  unfold tVal
  simp only [tNum_sev (u64_lt k)]
  rw [show u64 k % 1000 = u64 k by omega]
  by_cases h : k = 5
  · rw [if_pos h, if_pos (by omega), txtB, List.append_assoc, tNum_sev h2]
    simp only
    rw [← sb_length, tSome_app]
    simp only [bs_sb]
    rw [h, h4 h]
  · obtain ⟨e1, e2⟩ := unzig_zig h7.1 h7.2
    rw [if_neg h, if_neg (by omega), tNum_sev (u64_lt _)]
    simp only
    rw [e1, hk, h3 h]
    have : (if zig n % 2 = 0 then ((zig n / 2 : Nat) : Int) else -((zig n / 2 : Nat) : Int) - 1) = n := by
      unfold unzig at e2
      by_cases hz : zig n % 2 = 0
      · rw [if_pos hz]; rw [if_neg (by omega)] at e2; exact e2
      · rw [if_neg hz]; rw [if_pos (by omega)] at e2; exact e2
    rw [this]
theorem tRow_row : ∀ (l : List Val) (m : Nat) (r : Byt), l.length < m → (∀ v ∈ l, PlainV v) → (rowB l).length < 18446744073709551616 → tRow m l.length (rowB l ++ r, false) = (l, (r, false))
  | [], 0, r, h, _, _ => by simp at h
  | [], m + 1, r, _, _, _ => rfl
  | v :: l, 0, r, h, _, _ => by simp at h
  | v :: l, m + 1, r, hm, h, h2 => by
    have hv : v.s.size ≤ (valB v).length ∨ v.s.size = 0 := by
      by_cases e : v.k = 5
      · left; simp [valB, e, txtB, sb_length]; omega
      · right; rw [(h v (by simp)).k e]; rfl
    have e : rowB (v :: l) = valB v ++ rowB l := rfl
    rw [e] at h2 ⊢
    simp only [List.length_append] at h2
    rw [List.length_cons, tRow, List.append_assoc, if_neg (by simp), tVal_val (h v (by simp)) _ (by omega)]
    simp only
    rw [tRow_row l m r (by simp at hm; omega) (fun v hv => h v (by simp [hv])) (by omega)]
theorem tChg_chg {c : Chg} (h : PlainC c) (hl : c.row.length ≤ 12) (r : Byt) (h2 : (chgB c).length < 18446744073709551616) : tChg (chgB c ++ r, false) = (c, (r, false)) := by
  obtain ⟨rel, del, row⟩ := c
  have h := h.row
  have hr := rowB_len (l := row)
  unfold tChg chgB at *
  simp only [List.length_append, txtB, sb_length] at h2 h hr hl
  simp only [List.append_assoc, txtB]
  rw [tNum_sev (by split <;> omega)]
  simp only
  rw [tNum_sev (by omega)]
  simp only
  rw [← sb_length, tSome_app]
  simp only
  rw [tNum_sev (by omega)]
  simp only
  rw [tRow_row row 13 r (by omega) h (by omega)]
  simp only [bs_sb]
  cases del <;> simp
theorem tChs_chs : ∀ (l : List Chg) (m : Nat) (r : Byt), l.length < m → (∀ c ∈ l, PlainC c ∧ c.row.length ≤ 12) → (chsB l).length < 18446744073709551616 → tChs m l.length (chsB l ++ r, false) = (l, (r, false))
  | [], 0, r, h, _, _ => by simp at h
  | [], m + 1, r, _, _, _ => rfl
  | v :: l, 0, r, h, _, _ => by simp at h
  | c :: l, m + 1, r, hm, h, h2 => by
    have e : chsB (c :: l) = chgB c ++ chsB l := rfl
    rw [e] at h2 ⊢
    simp only [List.length_append] at h2
    rw [List.length_cons, tChs, List.append_assoc, if_neg (by simp), tChg_chg (h c (by simp)).1 (h c (by simp)).2 _ (by omega)]
    simp only
    rw [tChs_chs l m r (by simp at hm; omega) (fun v hv => h v (by simp [hv])) (by omega)]
theorem entE_parts {x : Ent} (h : entE x = 0) : x.ch.length ≤ 50 ∧ ∀ c ∈ x.ch, nameB c.rel = true ∧ 1 ≤ c.row.length ∧ c.row.length ≤ 12 ∧ ∀ v ∈ c.row, scalB v = true := by
  unfold entE at h
  split at h
  · omega
  split at h
  · omega
  split at h
  · omega
  rename_i h1 h2 h3
  have h4 := firstL_zero.1 (Decidable.not_not.1 h3)
  refine ⟨by omega, fun c hc => ?_⟩
  have h5 := h4 c hc
  unfold chE at h5
  split at h5
  · omega
  split at h5
  · omega
  split at h5
  · omega
  rename_i h7 h8 h6
  rw [Bool.not_eq_false, List.all_eq_true] at h6
  refine ⟨by simpa using h7, by omega, by omega, h6⟩
theorem tEnt_body {x : Ent} (h0 : entE x = 0) (hw : WfE x) : tEnt (bodyB x) = (x, ([], false)) := by
  have h := entE_plain h0 hw
  have hp := entE_parts h0
  have hl := entE_len h0
  obtain ⟨no, ch⟩ := x
  have hc := chsB_len (l := ch)
  have h1 := h.no
  have h3 := h.ch
  simp only at h1 h3 hp
  unfold tEnt bodyB at *
  simp only [List.length_append] at hl
  simp only [List.append_assoc]
  rw [tNum_sev (u64_lt _)]
  simp only
  rw [tNum_sev (by omega)]
  simp only
  have := tChs_chs ch 51 [] (by omega) (fun c hc => ⟨h3 c hc, (hp.2 c hc).2.2.1⟩) (by omega)
  rw [List.append_nil] at this
  rw [this]
  simp only [u64_id h1.1 (show no < 18446744073709551616 by omega), i64_id (show -9223372036854775808 ≤ no by omega) h1.2]
theorem tVal_wf (s : Rd) : okI (tVal s).1.k ∧ okI (tVal s).1.n := by
  have hM : ∀ (f i acc : Nat) (t : Rd), (tN f i acc t).1 < 18446744073709551616 := by
    intro f
    induction f with
    | zero => intro i acc t; simp [tN]
    | succ f ih =>
      intro i acc t
      rw [tN]
      split
      · simp
      · split
        · exact Nat.mod_lt _ (by omega)
        · exact ih _ _ _
  unfold tVal okI
  simp only
  split
  · exact ⟨by simp [Val.k], by simp [Val.n]⟩
  · have := hM 10 0 0 (tNum s).2
    change (tNum (tNum s).2).1 < _ at this
    simp only [Val.k, Val.n]
    refine ⟨by omega, ?_⟩
    split <;> omega
theorem tRow_wf : ∀ m n s, ∀ v ∈ (tRow m n s).1, okI v.k ∧ okI v.n
  | 0, n, s, v, h => by simp [tRow] at h
  | m + 1, 0, s, v, h => by simp [tRow] at h
  | m + 1, n + 1, s, v, h => by
    rw [tRow] at h
    split at h
    · simp at h
    · simp only [List.mem_cons] at h
      rcases h with rfl | h
      · exact tVal_wf s
      · exact tRow_wf m n _ v h
theorem tChs_wf : ∀ m n s, ∀ c ∈ (tChs m n s).1, ∀ v ∈ c.row, okI v.k ∧ okI v.n
  | 0, n, s, c, h => by simp [tChs] at h
  | m + 1, 0, s, c, h => by simp [tChs] at h
  | m + 1, n + 1, s, c, h => by
    rw [tChs] at h
    split at h
    · simp at h
    · simp only [List.mem_cons] at h
      rcases h with rfl | h
      · exact tRow_wf _ _ _
      · exact tChs_wf m n _ c h
theorem eofM_iff {b : Byt} {x : Ent} : eofM b = some x ↔ entE x = 0 ∧ WfE x ∧ bodyB x = b := by
  unfold eofM
  constructor
  · intro h
    split at h
    · rename_i hh
      injection h with h
      subst h
      exact ⟨hh.2.1, ⟨wrap_okI _, tChs_wf _ _ _⟩, hh.2.2⟩
    · cases h
  · rintro ⟨h1, h2, rfl⟩
    rw [tEnt_body h1 h2]
    simp [h1]
theorem eofM_entM {b : Byt} (hb : b.length < 18446744073709551616) : eofM b = entM b := by
  cases h : eofM b with
  | some x => exact ((entM_iff hb).2 (eofM_iff.1 h)).symm
  | none =>
    cases h2 : entM b with
    | none => rfl
    | some x => rw [eofM_iff.2 ((entM_iff hb).1 h2)] at h; cases h
end Go.Proofs.Ytdlbbcjacjockaa
