/-
  A part of the proof: its theorems say what each gives.
-/
import Derived.Test.YtdlbbcjacjockaaKPb
set_option linter.unusedSimpArgs false
set_option linter.unusedVariables false
namespace Go.Proofs.Ytdlbbcjacjockaa
open Go Fw
/-! Logs: a cut, and a changed byte. -/
def frl (x : Ent) : Nat := 6 + (bodyB x).length
/-- how many entries end at a place or before it -/
def cutK : List Ent → Nat → Nat
  | [], _ => 0
  | x :: l, c => if frl x ≤ c then 1 + cutK l (c - frl x) else 0
def cutE (l : List Ent) (c : Nat) : Nat := (logB (l.take (cutK l c))).length
theorem logB_cons (x : Ent) (l : List Ent) : logB (x :: l) = frmB (bodyB x) ++ logB l := rfl
theorem cutE_cons (x : Ent) (l : List Ent) (c : Nat) : cutE (x :: l) c = if frl x ≤ c then frl x + cutE l (c - frl x) else 0 := by
  unfold cutE
  rw [cutK]
  split
  · rw [Nat.add_comm 1, List.take_succ_cons, logB_cons, List.length_append, frmB_length]; rfl
  · simp [logB]
theorem cutE_le (l : List Ent) (c : Nat) : cutE l c ≤ c := by
  induction l generalizing c with
  | nil => simp [cutE, logB]
  | cons x l ih => rw [cutE_cons]; split
                   · have := ih (c - frl x); omega
                   · omega
theorem rdLog_take : ∀ (l : List Ent) (k c : Nat), good k l → c ≤ (logB l).length →
    rdLog ((logB l).take c) k = (l.take (cutK l c), cutE l c, if c = cutE l c then 0 else 13)
  | [], k, c, _, hc => by
    have : c = 0 := by simpa [logB] using hc
    subst this
    simp [logB, rdLog_nil, cutE, cutK]
  | x :: l, k, c, ⟨h1, h2, h3, h4⟩, hc => by
    have hl := entE_len h1
    rw [logB_cons, List.length_append, frmB_length] at hc
    rw [logB_cons, cutE_cons, cutK]
    by_cases h : frl x ≤ c
    · rw [if_pos h, if_pos h]
      have e : (frmB (bodyB x) ++ logB l).take c = frmB (bodyB x) ++ (logB l).take (c - frl x) := by
        rw [List.take_append, frmB_length, List.take_of_length_le (by rw [frmB_length]; exact h)]; rfl
      rw [e, rdLog_frame h1 h2 h3, rdLog_take l (k + 1) (c - frl x) h4 (by unfold frl; omega)]
      rw [Nat.add_comm 1, List.take_succ_cons]
      simp only [Prod.mk.injEq, true_and]
      refine ⟨rfl, ?_⟩
      by_cases hh : c - frl x = cutE l (c - frl x)
      · rw [if_pos hh, if_pos (by omega)]
      · rw [if_neg hh, if_neg (by omega)]
    · rw [if_neg h, if_neg h]
      have hlen : ((frmB (bodyB x) ++ logB l).take c).length = c := by rw [List.length_take, List.length_append, frmB_length]; omega
      rw [rdLog, hlen, List.take_zero]
      by_cases h0 : c = 0
      · rw [if_pos h0, if_pos h0]
      · rw [if_neg h0, if_neg h0]
        by_cases h6 : c < 6
        · rw [if_pos h6]
        · rw [if_neg h6]
          have e1 := (frm_head (bodyB x) (logB l) (by omega)).1
          have : frN ((frmB (bodyB x) ++ logB l).take c) = (bodyB x).length := by
            rw [← e1]
            unfold frN bAt
            rw [List.getD_eq_getElem?_getD, List.getD_eq_getElem?_getD, List.getD_eq_getElem?_getD, List.getD_eq_getElem?_getD, List.getElem?_take_of_lt (by omega), List.getElem?_take_of_lt (by omega)]
          rw [this, if_pos (by unfold frl at h; omega)]
theorem getD_set_ne {l : Byt} {i j : Nat} {v : UInt8} (h : i ≠ j) : (l.set i v).getD j 0 = l.getD j 0 := by
  rw [List.getD_eq_getElem?_getD, List.getD_eq_getElem?_getD, List.getElem?_set_ne h]
theorem getD_set_eq {l : Byt} {i : Nat} {v : UInt8} (h : i < l.length) : (l.set i v).getD i 0 = v := by
  rw [List.getD_eq_getElem?_getD, List.getElem?_set_self h]; rfl
/-- The first frame with one byte changed is none. -/
theorem rdLog_bad {x : Ent} {k i : Nat} {v : UInt8} (h : entE x = 0) (hw : WfE x) (t : Byt) (hi : i < frl x) (hv : v ≠ (frmB (bodyB x) ++ t).getD i 0) (ht : t.length < 9000000000000000000) :
    ∃ e, e ≠ 0 ∧ rdLog ((frmB (bodyB x) ++ t).set i v) k = ([], 0, e) := by
  have hl := entE_len h
  obtain ⟨e1, e2, e3, e4⟩ := frm_head (bodyB x) t (by omega)
  have hpx := entE_plain h hw
  have hlen : (frmB (bodyB x) ++ t).length = 6 + (bodyB x).length + t.length := by rw [List.length_append, frmB_length]
  generalize hB : frmB (bodyB x) ++ t = B at *
  have hi2 : i < B.length := by unfold frl at hi; omega
  rw [rdLog, List.length_set, hlen, if_neg (by omega), if_neg (by omega)]
  split
  · exact ⟨13, by omega, rfl⟩
  rename_i hN
  split
  · exact ⟨12, by omega, rfl⟩
  rename_i hS
  rw [Decidable.not_not] at hS
  cases hm : entM (((B.set i v).drop 6).take (frN (B.set i v))) with
  | none => exact ⟨3, by omega, rfl⟩
  | some y =>
    have hblen : (((B.set i v).drop 6).take (frN (B.set i v))).length = frN (B.set i v) := by simp [hlen]; omega
    have hfl : frN (B.set i v) < 65536 := by have := bAt_lt (B.set i v) 0; have := bAt_lt (B.set i v) 1; unfold frN; omega
    obtain ⟨y1, y2, y3⟩ := (entM_iff (by omega)).1 hm
    have hpy := entE_plain y1 y2
    exfalso
    by_cases c1 : i < 2
    · have hd : (B.set i v).drop 6 = bodyB x ++ t := by rw [List.drop_set_of_lt (by omega), e4]
      rw [hd] at y3
      have hne : frN (B.set i v) ≠ (bodyB x).length := by
        rw [← e1]
        have hvv : v.toNat ≠ bAt B i := fun e => hv (UInt8.toNat_inj.1 e)
        have := bAt_lt B 0; have := bAt_lt B 1; have := v.toNat_lt
        rcases (show i = 0 ∨ i = 1 by omega) with rfl | rfl
        · have q0 : bAt (B.set 0 v) 0 = v.toNat := by unfold bAt; rw [getD_set_eq hi2]
          have q1 : bAt (B.set 0 v) 1 = bAt B 1 := by unfold bAt; rw [getD_set_ne (by omega)]
          unfold frN; rw [q0, q1]; omega
        · have q0 : bAt (B.set 1 v) 1 = v.toNat := by unfold bAt; rw [getD_set_eq hi2]
          have q1 : bAt (B.set 1 v) 0 = bAt B 0 := by unfold bAt; rw [getD_set_ne (by omega)]
          unfold frN; rw [q0, q1]; omega
      rcases Nat.lt_or_ge (frN (B.set i v)) (bodyB x).length with hlt | hge
      · rw [List.take_append_of_le_length (by omega)] at y3
        have := bodyB_prefix hpy hpx (r := (bodyB x).drop (frN (B.set i v))) (by rw [y3]; simp; omega) (by rw [y3, List.take_append_drop])
        have h2 := this.2
        have : ((bodyB x).drop (frN (B.set i v))).length = 0 := by rw [h2]; rfl
        rw [List.length_drop] at this; omega
      · rw [List.take_append, List.take_of_length_le (by omega)] at y3
        have := bodyB_prefix hpx hpy (r := t.take (frN (B.set i v) - (bodyB x).length)) (by simp; omega) y3.symm
        have h2 := this.2
        have : (t.take (frN (B.set i v) - (bodyB x).length)).length = 0 := by rw [h2]; rfl
        rw [List.length_take] at this; omega
    · have hfn : frN (B.set i v) = (bodyB x).length := by
        rw [← e1]; unfold frN bAt; rw [getD_set_ne (by omega), getD_set_ne (by omega)]
      have ht2 : (B.set i v).take 2 = len2 (bodyB x) := by rw [List.take_set_of_le (by omega), e3]
      rw [hfn, ht2] at hS
      by_cases c2 : i < 6
      · rw [List.drop_set_of_lt (by omega), e4, List.take_left, ← e2] at hS
        have hvv : v.toNat ≠ bAt B i := fun e => hv (UInt8.toNat_inj.1 e)
        have := bAt_lt B 2; have := bAt_lt B 3; have := bAt_lt B 4; have := bAt_lt B 5; have := v.toNat_lt
        have q : bAt (B.set i v) i = v.toNat := by unfold bAt; rw [getD_set_eq hi2]
        have q' : ∀ j, i ≠ j → bAt (B.set i v) j = bAt B j := fun j hj => by unfold bAt; rw [getD_set_ne hj]
        unfold frS at hS
        rcases (show i = 2 ∨ i = 3 ∨ i = 4 ∨ i = 5 by omega) with rfl | rfl | rfl | rfl
        · rw [q, q' 3 (by omega), q' 4 (by omega), q' 5 (by omega)] at hS; omega
        · rw [q, q' 2 (by omega), q' 4 (by omega), q' 5 (by omega)] at hS; omega
        · rw [q, q' 3 (by omega), q' 2 (by omega), q' 5 (by omega)] at hS; omega
        · rw [q, q' 3 (by omega), q' 4 (by omega), q' 2 (by omega)] at hS; omega
      · have hs2 : frS (B.set i v) = sumB (len2 (bodyB x) ++ bodyB x) := by
          rw [← e2]; unfold frS bAt; rw [getD_set_ne (by omega), getD_set_ne (by omega), getD_set_ne (by omega), getD_set_ne (by omega)]
        have hj : i - 6 < (bodyB x).length := by unfold frl at hi; omega
        have hd : ((B.set i v).drop 6).take (bodyB x).length = (bodyB x).set (i - 6) v := by
          rw [List.drop_set, if_neg (by omega), e4, List.set_append_left _ _ hj, List.take_append_of_le_length (by simp), List.take_of_length_le (by simp)]
        rw [hd, hs2] at hS
        have e5 : bodyB x = (bodyB x).take (i - 6) ++ (bodyB x)[i - 6] :: (bodyB x).drop (i - 6 + 1) := by
          rw [List.getElem_cons_drop, List.take_append_drop]
        have e6 : (bodyB x).set (i - 6) v = (bodyB x).take (i - 6) ++ v :: (bodyB x).drop (i - 6 + 1) := by
          rw [List.set_eq_take_append_cons_drop, if_pos hj]
        rw [e6] at hS
        conv at hS => rhs; rw [e5]
        refine sumB_change (len2 (bodyB x) ++ (bodyB x).take (i - 6)) ((bodyB x).drop (i - 6 + 1)) v (bodyB x)[i - 6] ?_ ?_
        · intro e
          apply hv
          rw [e, ← hB]
          have : (frmB (bodyB x) ++ t).getD i 0 = ((frmB (bodyB x) ++ t).drop 6).getD (i - 6) 0 := by
            rw [List.getD_eq_getElem?_getD, List.getD_eq_getElem?_getD, List.getElem?_drop, show 6 + (i - 6) = i by omega]
          rw [this, hB, e4, List.getD_eq_getElem?_getD, List.getElem?_append_left hj]
          simp [hj]
        · rw [List.append_assoc, List.append_assoc]
          rw [hS]
          congr 2
          rw [← e5]
theorem rdLog_set : ∀ (l : List Ent) (k i : Nat) (v : UInt8), good k l → i < (logB l).length → v ≠ (logB l).getD i 0 → (logB l).length < 9000000000000000000 →
    ∃ e, e ≠ 0 ∧ rdLog ((logB l).set i v) k = (l.take (cutK l i), cutE l i, e)
  | [], k, i, v, _, hc, _, _ => by simp [logB] at hc
  | x :: l, k, i, v, ⟨h1, h2, h3, h4⟩, hc, hv, hb => by
    rw [logB_cons, List.length_append, frmB_length] at hc hb
    rw [logB_cons] at hv
    rw [logB_cons, cutE_cons, cutK]
    by_cases h : frl x ≤ i
    · rw [if_pos h, if_pos h, List.set_append_right _ _ (by rw [frmB_length]; exact h), rdLog_frame h1 h2 h3]
      obtain ⟨e, he, hr⟩ := rdLog_set l (k + 1) (i - frl x) v h4 (by unfold frl at *; omega) (by
        rw [List.getD_eq_getElem?_getD, List.getElem?_append_right (by rw [frmB_length]; exact h), frmB_length] at hv
        rw [List.getD_eq_getElem?_getD]; exact hv) (by omega)
      refine ⟨e, he, ?_⟩
      have e6 : i - (frmB (bodyB x)).length = i - frl x := by rw [frmB_length]; rfl
      rw [e6, hr, Nat.add_comm 1, List.take_succ_cons]
      rfl
    · rw [if_neg h, if_neg h]
      exact rdLog_bad h1 h2 (logB l) (by omega) hv (by omega)
end Go.Proofs.Ytdlbbcjacjockaa
