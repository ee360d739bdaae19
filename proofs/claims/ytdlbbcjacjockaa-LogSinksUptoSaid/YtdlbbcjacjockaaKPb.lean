/-
  A part of the proof: its theorems say what each gives.
-/
import Derived.Test.YtdlbbcjacjockaaKPa
import Derived.Test.YtdlbbcjacjockaaKVf
set_option linter.unusedSimpArgs false
set_option linter.unusedVariables false
namespace Go.Proofs.Ytdlbbcjacjockaa
open Go Fw
/-! Logs: sums, frames, and what reading gives. -/
def scalB (v : Val) : Bool := (decide (1 ≤ v.k) && decide (v.k ≤ 5) || decide (v.k = 11)) && decide (checkE v = 0)
def chE (c : Chg) : Int := if nameB c.rel = false then 15 else if c.row.length = 0 ∨ 12 < c.row.length then 3 else if c.row.all scalB = false then 8 else 0
def entE (x : Ent) : Int := if x.no < 1 ∨ 9007199254740992 < x.no then 11 else if 50 < x.ch.length then 2 else if firstL chE x.ch ≠ 0 then firstL chE x.ch else if 20000 < (bodyB x).length then 2 else 0
def okI (n : Int) : Prop := -9223372036854775808 ≤ n ∧ n ≤ 9223372036854775807
structure WfE (x : Ent) : Prop where
  no : okI x.no
  ch : ∀ c ∈ x.ch, ∀ v ∈ c.row, okI v.k ∧ okI v.n
theorem firstL_zero {α : Type} {g : α → Int} {l : List α} : firstL g l = 0 ↔ ∀ a ∈ l, g a = 0 := by
  induction l with
  | nil => simp [firstL]
  | cons a l ih =>
    simp only [firstL, List.mem_cons, forall_eq_or_imp]
    split
    · rename_i h; rw [ih]; simp [h]
    · rename_i h; simp [h]
theorem scalB_plain {v : Val} (h : scalB v = true) (hw : okI v.n) : PlainV v := by
  obtain ⟨k, n, s, fs⟩ := v
  simp only [scalB, Val.k, Bool.and_eq_true, Bool.or_eq_true, decide_eq_true_eq] at h
  obtain ⟨hk, hc⟩ := h
  unfold checkE at hc
  split at hc
  · omega
  rw [nodeE] at hc
  split at hc
  · omega
  rename_i hn
  have hu : unusedB k n s fs.length = false := by
    cases e : unusedB k n s fs.length with
    | false => rfl
    | true => exact absurd (.inr (.inr (.inr (.inr e)))) hn
  unfold unusedB scalarB at hu
  simp only [Bool.or_eq_false_iff, Bool.and_eq_false_iff, Bool.not_eq_false', Bool.or_eq_true, Bool.and_eq_true, decide_eq_true_eq, decide_eq_false_iff_not, ne_eq, Decidable.not_not, Nat.not_lt] at hu
  obtain ⟨⟨h1, h2⟩, h3⟩ := hu
  have hf : fs = [] := by
    cases fs with
    | nil => rfl
    | cons f r => simp only [List.length_cons] at h3; omega
  refine ⟨fun h5 => ?_, fun h5 => ?_, hf, by simp only [Val.k]; omega, hw⟩
  · simp only [Val.s, Val.k] at h5 ⊢
    have : s.size = 0 := by omega
    cases s with | mk d => congr 1; exact Array.eq_empty_of_size_eq_zero this
  · simp only [Val.k, Val.n] at h5 ⊢
    omega
theorem entE_plain {x : Ent} (h : entE x = 0) (hw : WfE x) : PlainE x := by
  unfold entE at h
  split at h
  · omega
  split at h
  · omega
  split at h
  · omega
  rename_i h1 h2 h3
  have h4 := firstL_zero.1 (Decidable.not_not.1 h3)
  refine ⟨by omega, fun c hc => ⟨fun v hv => ?_⟩⟩
  have h5 := h4 c hc
  unfold chE at h5
  split at h5
  · omega
  split at h5
  · omega
  split at h5
  · omega
  rename_i h6
  rw [Bool.not_eq_false, List.all_eq_true] at h6
  exact scalB_plain (h6 v hv) (hw.ch c hc v hv).2
theorem entE_no {x : Ent} (h : entE x = 0) : 1 ≤ x.no ∧ x.no ≤ 9007199254740992 := by
  unfold entE at h
  split at h
  · omega
  omega
theorem entE_len {x : Ent} (h : entE x = 0) : (bodyB x).length ≤ 20000 := by
  unfold entE at h
  split at h
  · omega
  split at h
  · omega
  split at h
  · omega
  split at h
  · omega
  omega
/-- The entry of which bytes are the body. -/
def entM (b : Byt) : Option Ent := match rEnt b with
  | some (x, r, bad) => if bad = false ∧ r = [] ∧ entE x = 0 ∧ bodyB x = b then some x else none
  | none => none
theorem rVal_wf (s : Rd) : okI (rVal s).1.k ∧ okI (rVal s).1.n := by
  have hN : ∀ t : Rd, ∀ f i b p, rdN f i b = some p → i + f = 10 → p.1 < 2 ^ (64 - 7 * i) := by
    intro t f
    induction f with
    | zero => intro i b p h; simp [rdN] at h
    | succ f ih =>
      intro i b p h hi
      cases b with
      | nil => simp [rdN] at h
      | cons c r =>
        rw [rdN] at h
        split at h
        · cases h
        · rename_i h9
          split at h
          · rename_i hc
            injection h with h; subst h
            simp only
            by_cases e : i = 9
            · subst e
              have : c.toNat ≤ 1 := by omega
              simp; omega
            · have : 2 ^ 7 ≤ 2 ^ (64 - 7 * i) := Nat.pow_le_pow_right (by omega) (by omega)
              omega
          · rename_i hc
            have e : i ≠ 9 := fun e => h9 ⟨e, by omega⟩
            cases hr : rdN f (i + 1) r with
            | none => rw [hr] at h; cases h
            | some q =>
              rw [hr] at h
              simp only [Option.map_some, Option.some.injEq] at h
              subst h
              have := ih (i + 1) r q hr (by omega)
              simp only
              have e2 : 2 ^ (64 - 7 * i) = 128 * 2 ^ (64 - 7 * (i + 1)) := by
                rw [show 64 - 7 * i = 7 + (64 - 7 * (i + 1)) by omega, Nat.pow_add]
              omega
  have hM : ∀ t : Rd, (rNum t).1 < 18446744073709551616 := by
    intro t
    unfold rNum
    cases h : rdN 10 0 t.1 with
    | none => simp
    | some p => exact hN t 10 0 t.1 p h rfl
  unfold rVal okI
  simp only
  split
  · exact ⟨by simp [Val.k], by simp [Val.n]⟩
  · split
    · exact ⟨by simp [Val.k], by simp [Val.n]⟩
    · have := hM (rNum s).2
      simp only [Val.k, Val.n]
      unfold unzig
      refine ⟨by omega, ?_⟩
      split <;> omega
theorem rRow_wf : ∀ n s, ∀ v ∈ (rRow n s).1, okI v.k ∧ okI v.n
  | 0, s, v, h => by simp [rRow] at h
  | n + 1, s, v, h => by
    simp only [rRow, List.mem_cons] at h
    rcases h with rfl | h
    · exact rVal_wf s
    · exact rRow_wf n _ v h
theorem rChs_wf : ∀ n s q, rChs n s = some q → ∀ c ∈ q.1, ∀ v ∈ c.row, okI v.k ∧ okI v.n
  | 0, s, q, h, c, hc => by simp [rChs] at h; subst h; simp at hc
  | n + 1, s, q, h, c, hc => by
    rw [rChs] at h
    split at h
    · cases h
    · cases hr : rChs n (rChg s).2 with
      | none => rw [hr] at h; cases h
      | some p =>
        rw [hr] at h
        simp only [Option.map_some, Option.some.injEq] at h
        subst h
        simp only [List.mem_cons] at hc
        rcases hc with rfl | hc
        · exact rRow_wf _ _
        · exact rChs_wf n _ p hr c hc
theorem wrap_okI (n : Int) : okI (IntKind.i64.wrap n) := by
  rw [IntWalk.i64_left]
  unfold okI RowKit.wrap64
  omega
theorem rEnt_wf {b : Byt} {x : Ent} {s : Rd} (h : rEnt b = some (x, s)) : WfE x := by
  unfold rEnt at h
  simp only at h
  cases hr : rChs (rMany (rNum (b, false)).2).1 (rMany (rNum (b, false)).2).2 with
  | none => rw [hr] at h; cases h
  | some q =>
    rw [hr] at h
    simp only [Option.map_some, Option.some.injEq, Prod.mk.injEq] at h
    obtain ⟨rfl, _⟩ := h
    exact ⟨wrap_okI _, rChs_wf _ _ _ hr⟩
theorem entM_iff {b : Byt} {x : Ent} (hb : b.length < 18446744073709551616) : entM b = some x ↔ entE x = 0 ∧ WfE x ∧ bodyB x = b := by
  constructor
  · intro h
    unfold entM at h
    split at h
    · rename_i y r bad hr
      split at h
      · rename_i hh
        injection h with h
        subst h
        exact ⟨hh.2.2.1, rEnt_wf hr, hh.2.2.2⟩
      · cases h
    · cases h
  · rintro ⟨h1, h2, h3⟩
    have := rEnt_body (entE_plain h1 h2) [] (by rw [h3]; simpa using hb)
    rw [List.append_nil, h3] at this
    unfold entM
    rw [this]
    simp [h1, h3]
/-! sums -/
def sumG (h : Nat) : Byt → Nat
  | [] => h
  | c :: r => sumG ((h ^^^ c.toNat) * 16777619 % 4294967296) r
def sumB (b : Byt) : Nat := sumG 2166136261 b
theorem sumG_append (h : Nat) (a b : Byt) : sumG h (a ++ b) = sumG (sumG h a) b := by
  induction a generalizing h with
  | nil => rfl
  | cons c r ih => simp only [List.cons_append, sumG, ih]
theorem sumG_lt {h : Nat} (hh : h < 4294967296) : ∀ b, sumG h b < 4294967296
  | [] => hh
  | c :: r => sumG_lt (Nat.mod_lt _ (by omega)) r
theorem sumB_lt (b : Byt) : sumB b < 4294967296 := sumG_lt (by omega) b
theorem mul_inj {a b : Nat} (ha : a < 4294967296) (hb : b < 4294967296) (h : a * 16777619 % 4294967296 = b * 16777619 % 4294967296) : a = b := by
  have e : ∀ x, x < 4294967296 → (x * 16777619 % 4294967296) * 899433627 % 4294967296 = x := by
    intro x hx
    rw [Nat.mul_mod, Nat.mod_mod, ← Nat.mul_mod, Nat.mul_assoc, show 16777619 * 899433627 = 3513497 * 4294967296 + 1 from rfl, Nat.mul_add, ← Nat.mul_assoc, Nat.mul_one, Nat.mul_comm _ 4294967296, Nat.mul_add_mod, Nat.mod_eq_of_lt hx]
  rw [← e a ha, h, e b hb]
theorem xor_lt {a b : Nat} (ha : a < 4294967296) (hb : b < 256) : a ^^^ b < 4294967296 := Nat.xor_lt_two_pow (n := 32) ha (by omega)
theorem sumG_inj {a b : Nat} (ha : a < 4294967296) (hb : b < 4294967296) (hne : a ≠ b) : ∀ l, sumG a l ≠ sumG b l
  | [] => hne
  | c :: r => by
    have hc : c.toNat < 256 := c.toNat_lt
    refine sumG_inj (Nat.mod_lt _ (by omega)) (Nat.mod_lt _ (by omega)) (fun h => hne ?_) r
    have := mul_inj (xor_lt ha hc) (xor_lt hb hc) h
    rw [← Nat.xor_zero a, ← Nat.xor_self c.toNat, ← Nat.xor_assoc, this, Nat.xor_assoc, Nat.xor_self, Nat.xor_zero]
/-- One byte more or less changes the sum. -/
theorem sumB_change (a b : Byt) (c d : UInt8) (h : c ≠ d) : sumB (a ++ c :: b) ≠ sumB (a ++ d :: b) := by
  unfold sumB
  rw [sumG_append, sumG_append]
  have hs := sumG_lt (h := 2166136261) (by omega) a
  have hc : c.toNat < 256 := c.toNat_lt
  have hd : d.toNat < 256 := d.toNat_lt
  refine sumG_inj (Nat.mod_lt _ (by omega)) (Nat.mod_lt _ (by omega)) (fun e => h ?_) b
  have := mul_inj (xor_lt hs hc) (xor_lt hs hd) e
  have e2 : c.toNat = d.toNat := by
    rw [← Nat.zero_xor c.toNat, ← Nat.xor_self (sumG 2166136261 a), Nat.xor_assoc, this, ← Nat.xor_assoc, Nat.xor_self, Nat.zero_xor]
  exact UInt8.toNat_inj.1 e2
/-! frames -/
def b8 (n : Nat) : UInt8 := UInt8.ofNat n
def bAt (b : Byt) (i : Nat) : Nat := (b.getD i 0).toNat
theorem bAt_lt (b : Byt) (i : Nat) : bAt b i < 256 := (b.getD i 0).toNat_lt
def len2 (b : Byt) : Byt := [b8 (b.length / 256), b8 b.length]
def sum4 (h : Nat) : Byt := [b8 (h / 16777216), b8 (h / 65536), b8 (h / 256), b8 h]
def frmB (b : Byt) : Byt := len2 b ++ sum4 (sumB (len2 b ++ b)) ++ b
theorem frmB_length (b : Byt) : (frmB b).length = 6 + b.length := by simp [frmB, len2, sum4]; omega
def frN (b : Byt) : Nat := bAt b 0 * 256 + bAt b 1
def frS (b : Byt) : Nat := bAt b 2 * 16777216 + bAt b 3 * 65536 + bAt b 4 * 256 + bAt b 5
/-- What reading bytes gives, when k entries have been read: entries, how far, why there. -/
def rdLog (b : Byt) (k : Nat) : List Ent × Nat × Int :=
  if b.length = 0 then ([], 0, 0) else
  if b.length < 6 then ([], 0, 13) else
  if b.length < 6 + frN b then ([], 0, 13) else
  if sumB (b.take 2 ++ (b.drop 6).take (frN b)) ≠ frS b then ([], 0, 12) else
  match entM ((b.drop 6).take (frN b)) with
  | none => ([], 0, 3)
  | some x => if x.no ≠ k + 1 then ([], 0, 9) else
    (x :: (rdLog (b.drop (6 + frN b)) (k + 1)).1, 6 + frN b + (rdLog (b.drop (6 + frN b)) (k + 1)).2.1, (rdLog (b.drop (6 + frN b)) (k + 1)).2.2)
termination_by b.length
decreasing_by all_goals simp [List.length_drop]; omega
theorem b8_toNat (n : Nat) : (b8 n).toNat = n % 256 := by simp [b8]
theorem frm_head (b t : Byt) (h : b.length < 65536) : frN (frmB b ++ t) = b.length ∧ frS (frmB b ++ t) = sumB (len2 b ++ b) ∧ (frmB b ++ t).take 2 = len2 b ∧ (frmB b ++ t).drop 6 = b ++ t := by
  have hs := sumB_lt (len2 b ++ b)
  refine ⟨?_, ?_, by simp [frmB, len2], by simp [frmB, len2, sum4]⟩
  · simp [frN, bAt, frmB, len2, b8_toNat]; omega
  · unfold frmB
    generalize sumB (len2 b ++ b) = s at *
    simp only [frS, bAt, frmB, len2, sum4, List.cons_append, List.nil_append, List.getD_cons_succ, List.getD_cons_zero, b8_toNat]
    omega
def good (k : Nat) : List Ent → Prop
  | [] => True
  | x :: l => entE x = 0 ∧ WfE x ∧ x.no = k + 1 ∧ good (k + 1) l
def logB (l : List Ent) : Byt := l.flatMap fun x => frmB (bodyB x)
theorem rdLog_frame {x : Ent} {k : Nat} (h : entE x = 0) (hw : WfE x) (hn : x.no = k + 1) (t : Byt) :
    rdLog (frmB (bodyB x) ++ t) k = (x :: (rdLog t (k + 1)).1, 6 + (bodyB x).length + (rdLog t (k + 1)).2.1, (rdLog t (k + 1)).2.2) := by
  have hl := entE_len h
  obtain ⟨e1, e2, e3, e4⟩ := frm_head (bodyB x) t (by omega)
  have hm : entM (bodyB x) = some x := (entM_iff (by omega)).2 ⟨h, hw, rfl⟩
  have hlen : (frmB (bodyB x) ++ t).length = 6 + (bodyB x).length + t.length := by rw [List.length_append, frmB_length]
  have hd : (frmB (bodyB x) ++ t).drop (6 + (bodyB x).length) = t := by rw [← List.drop_drop, e4, List.drop_left]
  conv => lhs; rw [rdLog]
  rw [e1, e2, e3, e4, List.take_left, hlen, hd, if_neg (by omega), if_neg (by omega), if_neg (by omega), if_neg (by simp)]
  simp only [hm]
  rw [if_neg (by simp [hn])]
theorem rdLog_logB : ∀ (l : List Ent) (k : Nat) (t : Byt), good k l → rdLog (logB l ++ t) k = (l ++ (rdLog t (k + l.length)).1, (logB l).length + (rdLog t (k + l.length)).2.1, (rdLog t (k + l.length)).2.2)
  | [], k, t, _ => by simp [logB]
  | x :: l, k, t, ⟨h1, h2, h3, h4⟩ => by
    have e : logB (x :: l) = frmB (bodyB x) ++ logB l := rfl
    rw [e, List.append_assoc, rdLog_frame h1 h2 h3, rdLog_logB l (k + 1) t h4]
    simp only [List.length_cons, List.length_append, frmB_length, List.cons_append, show k + 1 + l.length = k + (l.length + 1) by omega]
    simp only [Prod.mk.injEq, and_true, true_and]
    omega
theorem rdLog_nil (k : Nat) : rdLog [] k = ([], 0, 0) := by rw [rdLog]; simp
theorem rdLog_good {l : List Ent} (h : good 0 l) : rdLog (logB l) 0 = (l, (logB l).length, 0) := by
  have := rdLog_logB l 0 [] h
  rw [List.append_nil, rdLog_nil] at this
  simpa using this
end Go.Proofs.Ytdlbbcjacjockaa
