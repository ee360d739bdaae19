/-
  A part of the proof: its theorems say what each gives.
-/
import Derived.Test.YtdlbbcjacjockaaKRh
import Derived.Test.YtdlbbcjacjockaaKRe
import Derived.Test.YtdlbbcjacjockaaKPe
import Derived.Test.YtdlbbcjacjockaaKFw1
import Derived.Test.YtdlbbcjacjockaaKFw2
set_option maxRecDepth 100000
set_option maxHeartbeats 8000000
set_option linter.unusedSimpArgs false
set_option linter.unusedVariables false
namespace Go.Proofs.Ytdlbbcjacjockaa
open Go Fw
/-! The law LogReads, walked. -/
structure OkL (l : List Ent) : Prop where
  len : l.length ≤ 1048576
  wf : ∀ x ∈ l, WfE x
  small : ∀ x ∈ l, ∀ n : Nat, n ≤ 1048577 → SmallE ⟨n, x.ch⟩
  range : ∀ x ∈ l, RangeE x
  all : (logB (gat 0 l)).length ≤ 700000000
def encN (l : List Nat) : List AV := l.map fun (n : Nat) => AV.con (Value.int .i64 ((n : Nat) : Int))
@[go_sem] theorem encN_length (l : List Nat) : (encN l).length = l.length := by simp [encN]
theorem encN_one (n : Nat) : encN [n] = [.con (.int .i64 (n : Int))] := rfl
theorem encEs_take (l : List Ent) (n : Nat) : (encEs l).take n = encEs (l.take n) := by simp [encEs, List.map_take]
theorem xor_u8 (a b : UInt8) : Go.bits .xor .u8 (a.toNat : Int) (b.toNat : Int) = ((a ^^^ b).toNat : Int) := by
  have ha := a.toNat_lt
  have hb := b.toNat_lt
  have hx : a.toNat ^^^ b.toNat < 2 ^ 8 := Nat.xor_lt_two_pow ha hb
  have h1 : (BitVec.ofInt 8 (a.toNat : Int)).toNat = a.toNat := by
    rw [BitVec.ofInt_natCast, BitVec.toNat_ofNat]; exact Nat.mod_eq_of_lt ha
  have h2 : (BitVec.ofInt 8 (b.toNat : Int)).toNat = b.toNat := by
    rw [BitVec.ofInt_natCast, BitVec.toNat_ofNat]; exact Nat.mod_eq_of_lt hb
  show IntKind.u8.wrap ((BitVec.ofInt 8 (a.toNat : Int) ^^^ BitVec.ofInt 8 (b.toNat : Int)).toNat : Int) = _
  rw [BitVec.toNat_xor, h1, h2, UInt8.toNat_xor]
  simp [IntKind.wrap, IntKind.signed, IntKind.bits]; omega
theorem fle_slB {id n : Nat} {b : Byt} (h : n = b.length) : AV.fle id (encB b) (.sl id n) (.list (encB b) none) := by
  subst h
  have := AV.fle_sl (id := id) (k := 1) (cs := encB b) (xs := encB b) (fun x hx => by
    unfold encB at hx
    obtain ⟨c, _, rfl⟩ := List.mem_map.1 hx
    exact ⟨rfl, fun y hy => by rw [List.mem_singleton.1 hy]; rfl⟩) (by omega) (fun i j hi hj => by
    obtain rfl : j = 0 := by omega
    rw [encB_length] at hi
    rw [Nat.mul_one, Nat.add_zero, encB_get hi]; rfl)
  rwa [encB_length] at this
theorem encN_append (a b : List Nat) : encN (a ++ b) = encN a ++ encN b := by simp [encN]
@[go_sem] theorem encN_cells (l : List Nat) : (∀ y, y ∈ encN l → y.cells.length = 1) = True := eq_true fun y hy => by obtain ⟨v, _, rfl⟩ := List.mem_map.1 hy; rfl
theorem encN_get {l : List Nat} {i : Nat} (h : i < l.length) : (encN l).getD i .any = .con (.int .i64 (l[i] : Int)) := by
  unfold encN; rw [List.getD_eq_getElem?_getD, List.getElem?_map, List.getElem?_eq_getElem h]; rfl
theorem flat_encB (l : Byt) : flat (encB l) = encB l := by
  unfold flat encB
  rw [List.map_map]
  induction l with
  | nil => rfl
  | cons a l ih => simp only [List.map_cons, List.flatten_cons, ih]; rfl
theorem c_CloneBW (l : Byt) (hl : l.length ≤ 1000000000) (h0 : l ≠ []) (H : Hp) : ACalls Try.prog 14 [.list (encB l) none] H
    (fun r H' => ∃ id, fresh H id ∧ r = .sl id l.length ∧ H' = ⟨(id, encB l) :: H.bx, H.tk⟩) := by
  have hne0 : encB l ≠ [] := fun e => h0 (by have := congrArg List.length e; rw [encB_length] at this; exact List.eq_nil_of_length_eq_zero (by simpa using this))
  refine acalls_of (by kernel_rfl) Try.func14 rfl 8 Try.ntmps14 (by simp) [.tmp 2] rfl ?_
  ((repeat' (first | (refine awp_seq_k (fun K hK => ?_)) | (refine awp_reg _ rfl ?_; (try simp only [go_sem, Nat.reduceLT, Nat.reduceEqDiff, Nat.reduceLeDiff, Nat.reduceAdd, Nat.reduceMul, Int.reduceToNat, Nat.reducePow, ↓reduceIte, reduceCtorEq, flat_encB])) | (refine awp_cond _ rfl (fun hc => ?_) (fun hc => ?_)) | (refine awp_skip ?_; (try simp only [sq, bk, ↓reduceIte, Nat.reduceEqDiff, reduceCtorEq])) | (refine awp_ret ?_; (try simp only [sq, bk, ↓reduceIte, Nat.reduceEqDiff, reduceCtorEq])) | (refine orAt_l ?_) | (with_reducible apply And.intro) | (refine all_fresh fun id fr => ?_) | (refine all_nil fun b hb => ?_) | (refine all_e fun he => ?_) | (refine all_ne fun hne => ?_) | (refine hK _ ?_; clear hK; (try clear K)))); (all_goals (try ((omega)))))
  · exact absurd (hb hc) hne0
  · exact absurd he hne0
  · refine fin_any (x := .sl id l.length) (H := ⟨(id, encB l) :: H.bx, H.tk⟩) (by (try simp only [List.mem_singleton, forall_eq, resOk, List.mem_cons, List.not_mem_nil, or_false, forall_eq_or_imp, and_self])) (by (try simp only [go_sem, Nat.reduceLT, Nat.reduceEqDiff, Nat.reduceLeDiff, Nat.reduceAdd, Nat.reduceMul, Int.reduceToNat, Nat.reducePow, ↓reduceIte, reduceCtorEq])) (by ((try dsimp only); repeat' ((with_reducible exact .refl _)))) ?_
    exact ⟨id, fr, rfl, rfl⟩
end Go.Proofs.Ytdlbbcjacjockaa
