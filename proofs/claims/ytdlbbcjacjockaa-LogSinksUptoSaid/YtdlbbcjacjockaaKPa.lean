/-
  A part of the proof: its theorems say what each gives.
-/
import Derived.Test.YtdlbbcjacjockaaKDa
set_option linter.unusedSimpArgs false
set_option linter.unusedVariables false
namespace Go.Proofs.Ytdlbbcjacjockaa
open Go Fw
/-! Logs: what the bytes of an entry are, in plain Lean. -/
abbrev Byt := List UInt8
def sb (s : ByteArray) : Byt := s.data.toList
def bs (l : Byt) : ByteArray := ⟨l.toArray⟩
@[simp] theorem sb_bs (l : Byt) : sb (bs l) = l := by simp [sb, bs]
@[simp] theorem bs_sb (s : ByteArray) : bs (sb s) = s := by cases s; simp [sb, bs]
theorem sb_length (s : ByteArray) : (sb s).length = s.size := by simp [sb]
theorem sb_inj {a b : ByteArray} (h : sb a = sb b) : a = b := by rw [← bs_sb a, ← bs_sb b, h]
structure Chg where
  rel : ByteArray
  del : Bool
  row : List Val
structure Ent where
  no : Int
  ch : List Chg
@[reducible] def Val.k : Val → Int | .mk k _ _ _ => k
@[reducible] def Val.n : Val → Int | .mk _ n _ _ => n
@[reducible] def Val.s : Val → ByteArray | .mk _ _ s _ => s
@[reducible] def Val.fs : Val → List Fld | .mk _ _ _ fs => fs
/-- a whole number as 64 bits -/
def u64 (n : Int) : Nat := (n % 18446744073709551616).toNat
theorem u64_lt (n : Int) : u64 n < 18446744073709551616 := by unfold u64; omega
theorem u64_id {n : Int} (h : 0 ≤ n) (h' : n < 18446744073709551616) : (u64 n : Int) = n := by unfold u64; omega
/-- seven bits a byte -/
def sev (n : Nat) : Byt := if n < 128 then [UInt8.ofNat n] else UInt8.ofNat (n % 128 + 128) :: sev (n / 128)
termination_by n
decreasing_by omega
theorem sev_small {n : Nat} (h : n < 128) : sev n = [UInt8.ofNat n] := by rw [sev, if_pos h]
theorem sev_big {n : Nat} (h : ¬ n < 128) : sev n = UInt8.ofNat (n % 128 + 128) :: sev (n / 128) := by rw [sev, if_neg h]
theorem sev_ne (n : Nat) : sev n ≠ [] := by rw [sev]; split <;> simp
theorem sev_len {n : Nat} : ∀ k, n < 128 ^ (k + 1) → (sev n).length ≤ k + 1 := by
  intro k
  induction k generalizing n with
  | zero => intro h; rw [sev_small (by omega)]; simp
  | succ k ih =>
    intro h
    by_cases hn : n < 128
    · rw [sev_small hn]; simp
    · rw [sev_big hn]
      have := ih (n := n / 128) (by rw [Nat.div_lt_iff_lt_mul (by omega)]; rw [Nat.pow_succ] at h; omega)
      simp; omega
theorem sev_len10 (n : Int) : (sev (u64 n)).length ≤ 10 := sev_len 9 (Nat.lt_of_lt_of_le (u64_lt n) (by decide))
def zig (n : Int) : Nat := if n < 0 then 2 * (-(n + 1)).toNat + 1 else 2 * n.toNat
def txtB (s : ByteArray) : Byt := sev s.size ++ sb s
def valB (v : Val) : Byt := sev (u64 v.k) ++ if v.k = 5 then txtB v.s else sev (u64 (zig v.n))
def rowB (r : List Val) : Byt := r.flatMap valB
def chgB (c : Chg) : Byt := sev (if c.del then 1 else 0) ++ txtB c.rel ++ sev c.row.length ++ rowB c.row
def chsB (l : List Chg) : Byt := l.flatMap chgB
def bodyB (x : Ent) : Byt := sev (u64 x.no) ++ sev x.ch.length ++ chsB x.ch

/-! The reader of the program, as a function. -/
abbrev Rd := Byt × Bool
def rdN : Nat → Nat → Byt → Option (Nat × Byt × Bool)
  | 0, _, _ => none
  | _ + 1, _, [] => none
  | f + 1, i, c :: r =>
    if i = 9 ∧ 1 < c.toNat then none else
    if c.toNat < 128 then some (c.toNat, r, decide (c.toNat = 0) && decide (0 < i)) else
    (rdN f (i + 1) r).map fun p => (c.toNat % 128 + 128 * p.1, p.2.1, p.2.2)
def rNum (s : Rd) : Nat × Rd := match rdN 10 0 s.1 with
  | some (n, r, z) => (n, (r, s.2 || z))
  | none => (0, ([], true))
def rMany (s : Rd) : Nat × Rd := let p := rNum s; if p.2.1.length < p.1 then (0, (p.2.1, true)) else p
def rText (s : Rd) : Byt × Rd := let p := rMany s; (p.2.1.take p.1, (p.2.1.drop p.1, p.2.2))
def unzig (n : Nat) : Int := if n % 2 = 1 then -((n / 2 : Nat) : Int) - 1 else ((n / 2 : Nat) : Int)
def rVal (s : Rd) : Val × Rd :=
  let p := rNum s
  if 12 < p.1 then (.mk 0 0 ⟨#[]⟩ [], (p.2.1, true)) else
  if p.1 = 5 then let q := rText p.2; (.mk 5 0 (bs q.1) [], q.2) else
  let q := rNum p.2; (.mk p.1 (unzig q.1) ⟨#[]⟩ [], q.2)
def rRow : Nat → Rd → List Val × Rd
  | 0, s => ([], s)
  | n + 1, s => let p := rVal s; let q := rRow n p.2; (p.1 :: q.1, q.2)
def rChg (s : Rd) : Chg × Rd :=
  let o := rNum s; let t := rText o.2; let m := rMany t.2; let w := rRow m.1 m.2
  (⟨bs t.1, decide (o.1 = 1), w.1⟩, (w.2.1, w.2.2 || decide (1 < o.1)))
def rChs : Nat → Rd → Option (List Chg × Rd)
  | 0, s => some ([], s)
  | n + 1, s => let p := rChg s; if p.2.2 = true then none else (rChs n p.2).map fun q => (p.1 :: q.1, q.2)
def rEnt (b : Byt) : Option (Ent × Rd) := let n := rNum (b, false); let m := rMany n.2; (rChs m.1 m.2).map fun q => (⟨IntKind.i64.wrap n.1, q.1⟩, q.2)

theorem ofNat_toNat {n : Nat} (h : n < 256) : (UInt8.ofNat n).toNat = n := by simp; omega
theorem rdN_sev : ∀ (f i n : Nat) (r : Byt), i + f = 10 → 0 < f → n < 128 ^ f → (i = 0 ∨ 0 < n) → n * 128 ^ i < 18446744073709551616 → rdN f i (sev n ++ r) = some (n, r, false) := by
  intro f
  induction f with
  | zero => intro i n r _ h; omega
  | succ f ih =>
    intro i n r hf _ hn h0 hb
    have h9 : ¬ (i = 9 ∧ 1 < n) := by
      rintro ⟨rfl, h1⟩
      have : 2 * 128 ^ 9 ≤ n * 128 ^ 9 := Nat.mul_le_mul_right _ h1
      omega
    by_cases hs : n < 128
    · rw [sev_small hs, List.singleton_append, rdN, ofNat_toNat (by omega), if_neg h9, if_pos hs]
      have : (decide (n = 0) && decide (0 < i)) = false := by simp; omega
      rw [this]
    · have hi9 : i ≠ 9 := fun e => h9 ⟨e, by omega⟩
      rw [sev_big hs, List.cons_append, rdN, ofNat_toNat (by omega), if_neg (fun h => hi9 h.1), if_neg (by omega)]
      have hf0 : 0 < f := by omega
      rw [ih (i + 1) (n / 128) r (by omega) hf0 (by rw [Nat.pow_succ] at hn; rw [Nat.div_lt_iff_lt_mul (by omega)]; exact hn) (.inr (by omega)) (by
        refine Nat.lt_of_le_of_lt ?_ hb
        rw [Nat.pow_succ, ← Nat.mul_assoc, Nat.mul_right_comm]
        exact Nat.mul_le_mul_right _ (Nat.div_mul_le_self n 128))]
      simp only [Option.map_some, Option.some.injEq, Prod.mk.injEq, and_true]
      omega
theorem rNum_sev {n : Nat} (h : n < 18446744073709551616) (r : Byt) : rNum (sev n ++ r, false) = (n, (r, false)) := by
  unfold rNum
  rw [rdN_sev 10 0 n r rfl (by omega) (Nat.lt_of_lt_of_le h (by decide)) (.inl rfl) (by simpa using h)]
  rfl
theorem rMany_sev {n : Nat} {r : Byt} (h : n ≤ r.length) (h2 : r.length < 18446744073709551616) : rMany (sev n ++ r, false) = (n, (r, false)) := by
  unfold rMany
  rw [rNum_sev (by omega)]
  simp only
  rw [if_neg (by omega)]
theorem rText_txt (s : ByteArray) (r : Byt) (h2 : s.size + r.length < 18446744073709551616) : rText (txtB s ++ r, false) = (sb s, (r, false)) := by
  unfold rText txtB
  rw [List.append_assoc, rMany_sev (by simp [sb_length]) (by simpa [sb_length] using h2)]
  simp [← sb_length]
theorem unzig_zig {n : Int} (h : -9223372036854775808 ≤ n) (h' : n ≤ 9223372036854775807) : u64 (zig n) = zig n ∧ unzig (zig n) = n := by
  unfold zig unzig u64
  split <;> constructor <;> omega
/-- A value that stands in a row of a right entry. -/
structure PlainV (v : Val) : Prop where
  k : v.k ≠ 5 → v.s = ⟨#[]⟩
  n : v.k = 5 → v.n = 0
  fs : v.fs = []
  k0 : 0 ≤ v.k ∧ v.k ≤ 12
  n0 : -9223372036854775808 ≤ v.n ∧ v.n ≤ 9223372036854775807
theorem rVal_val {v : Val} (h : PlainV v) (r : Byt) (h2 : v.s.size + r.length < 18446744073709551616) : rVal (valB v ++ r, false) = (v, (r, false)) := by
  obtain ⟨h3, h4, h5, h6, h7⟩ := h
  obtain ⟨k, n, s, fs⟩ := v
  simp only [Val.k, Val.n, Val.s, Val.fs] at *
  subst h5
  have hk : ((u64 k : Nat) : Int) = k := u64_id h6.1 (by omega)
  have ev : valB (.mk k n s []) = sev (u64 k) ++ (if k = 5 then txtB s else sev (u64 (zig n))) := rfl
  rw [ev, List.append_assoc]
  unfold rVal
  simp only [rNum_sev (u64_lt k)]
  rw [if_neg (by omega)]
  by_cases h : k = 5
  · rw [if_pos h, if_pos (by omega), rText_txt s r h2]
    simp only [bs_sb]
    rw [h, h4 h]
  · obtain ⟨e1, e2⟩ := unzig_zig h7.1 h7.2
    rw [if_neg h, if_neg (by omega), rNum_sev (u64_lt _)]
    simp only
    rw [e1, e2, hk, h3 h]
theorem rRow_row : ∀ (l : List Val) (r : Byt), (∀ v ∈ l, PlainV v) → (rowB l).length + r.length < 18446744073709551616 → rRow l.length (rowB l ++ r, false) = (l, (r, false))
  | [], r, _, _ => rfl
  | v :: l, r, h, h2 => by
    have hv : v.s.size ≤ (valB v).length ∨ v.s.size = 0 := by
      by_cases e : v.k = 5
      · left; simp [valB, e, txtB, sb_length]; omega
      · right; rw [(h v (by simp)).k e]; rfl
    have e : rowB (v :: l) = valB v ++ rowB l := rfl
    rw [e] at h2 ⊢
    simp only [List.length_append] at h2
    rw [List.length_cons, rRow, List.append_assoc, rVal_val (h v (by simp)) _ (by simp; omega)]
    simp only
    rw [rRow_row l r (fun v hv => h v (by simp [hv])) (by omega)]
structure PlainC (c : Chg) : Prop where
  row : ∀ v ∈ c.row, PlainV v
theorem rowB_len {l : List Val} : l.length ≤ (rowB l).length := by
  induction l with
  | nil => simp
  | cons v l ih =>
    have e : rowB (v :: l) = valB v ++ rowB l := rfl
    rw [e]
    have := List.length_pos_iff.2 (sev_ne (u64 v.k))
    simp [valB]; omega
theorem rChg_chg {c : Chg} (h : PlainC c) (r : Byt) (h2 : (chgB c).length + r.length < 18446744073709551616) : rChg (chgB c ++ r, false) = (c, (r, false)) := by
  obtain ⟨rel, del, row⟩ := c
  have h := h.row
  have hr := rowB_len (l := row)
  unfold rChg chgB at *
  simp only [List.length_append, txtB, sb_length] at h2 h hr
  simp only [List.append_assoc]
  rw [rNum_sev (by split <;> omega)]
  simp only
  rw [rText_txt _ _ (by simp only [List.length_append]; omega)]
  simp only
  rw [rMany_sev (by simp only [List.length_append]; omega) (by simp only [List.length_append]; omega)]
  simp only
  rw [rRow_row row r h (by omega)]
  simp only [bs_sb, Bool.false_or]
  cases del <;> simp
theorem chgB_pos (c : Chg) : 1 ≤ (chgB c).length := by
  have := List.length_pos_iff.2 (sev_ne (if c.del then 1 else 0))
  simp only [chgB, List.length_append]; omega
theorem rChs_chs : ∀ (l : List Chg) (r : Byt), (∀ c ∈ l, PlainC c) → (chsB l).length + r.length < 18446744073709551616 → rChs l.length (chsB l ++ r, false) = some (l, (r, false))
  | [], r, _, _ => rfl
  | c :: l, r, h, h2 => by
    have e : chsB (c :: l) = chgB c ++ chsB l := rfl
    rw [e] at h2 ⊢
    simp only [List.length_append] at h2
    rw [List.length_cons, rChs, List.append_assoc, rChg_chg (h c (by simp)) _ (by simp; omega)]
    simp only [Bool.false_eq_true, if_false]
    rw [rChs_chs l r (fun v hv => h v (by simp [hv])) (by omega)]
    rfl
theorem chsB_len {l : List Chg} : l.length ≤ (chsB l).length := by
  induction l with
  | nil => simp
  | cons c l ih =>
    have e : chsB (c :: l) = chgB c ++ chsB l := rfl
    rw [e]
    have := chgB_pos c
    simp; omega
structure PlainE (x : Ent) : Prop where
  no : 0 ≤ x.no ∧ x.no ≤ 9223372036854775807
  ch : ∀ c ∈ x.ch, PlainC c
theorem i64_id {n : Int} (h1 : -9223372036854775808 ≤ n) (h2 : n ≤ 9223372036854775807) : IntKind.i64.wrap n = n := wrap_id h1 h2
/-- The bytes of an entry, read again. -/
theorem rEnt_body {x : Ent} (h : PlainE x) (r : Byt) (h2 : (bodyB x).length + r.length < 18446744073709551616) : rEnt (bodyB x ++ r) = some (x, (r, false)) := by
  obtain ⟨no, ch⟩ := x
  have hc := chsB_len (l := ch)
  have h1 := h.no
  have h3 := h.ch
  simp only at h1 h3
  unfold rEnt bodyB at *
  simp only [List.length_append] at h2
  simp only [List.append_assoc]
  rw [rNum_sev (u64_lt _)]
  simp only
  rw [rMany_sev (by simp only [List.length_append]; omega) (by simp only [List.length_append]; omega)]
  simp only
  rw [rChs_chs ch r h3 (by omega)]
  simp only [Option.map_some, u64_id h1.1 (show no < 18446744073709551616 by omega), i64_id (show -9223372036854775808 ≤ no by omega) h1.2]
/-- Bytes of right entries: none is the beginning of another one. -/
theorem bodyB_prefix {x y : Ent} (hx : PlainE x) (hy : PlainE y) {r : Byt} (h2 : (bodyB x).length + r.length < 18446744073709551616) (h : bodyB x ++ r = bodyB y) : x = y ∧ r = [] := by
  have h1 := rEnt_body hx r h2
  rw [h] at h1
  have h3 := rEnt_body hy [] (by rw [← h]; simpa using h2)
  rw [List.append_nil, h1] at h3
  injection h3 with h3
  injection h3 with h4 h5
  injection h5 with h5 _
  exact ⟨h4, h5⟩
end Go.Proofs.Ytdlbbcjacjockaa
