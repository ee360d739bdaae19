/-
  A part of the proof: its theorems say what each gives.
-/
import Derived.Test.YtdlbbcjacjockaaKFw1
import Derived.Test.YtdlbbcjacjockaaKFw2
import Derived.Test.YtdlbbcjacjockaaKFw3
import Derived.Test.YtdlbbcjacjockaaKTy
import Derived.Test.YtdlbbcjacjockaaKPb
set_option maxRecDepth 100000
set_option maxHeartbeats 4000000
set_option linter.unusedSimpArgs false
set_option linter.unusedVariables false
namespace Go.Proofs.Ytdlbbcjacjockaa
open Go Fw
/-! Bytes as the proof sees them. -/
def cU8 (b : UInt8) : AV := .con (.int .u8 (b.toNat : Int))
def encB (l : Byt) : List AV := l.map cU8
@[go_sem] theorem encB_length (l : Byt) : (encB l).length = l.length := by simp [encB]
theorem encB_append (a b : Byt) : encB (a ++ b) = encB a ++ encB b := by simp [encB]
theorem encB_get {l : Byt} {i : Nat} (h : i < l.length) : (encB l).getD i .any = .con (.int .u8 (bAt l i : Int)) := by
  simp [encB, bAt, List.getD_eq_getElem?_getD, h, cU8]
theorem encB_take (l : Byt) (n : Nat) : (encB l).take n = encB (l.take n) := by simp [encB, List.map_take]
theorem encB_drop (l : Byt) (n : Nat) : (encB l).drop n = encB (l.drop n) := by simp [encB, List.map_drop]
theorem bytesA_eq (s : ByteArray) : bytesA s = encB (sb s) := rfl
theorem encB_cells (l : Byt) : ∀ y ∈ encB l, y.cells.length = 1 := by
  intro y hy
  obtain ⟨b, _, rfl⟩ := List.mem_map.1 hy
  rfl
@[go_sem] theorem encB_cells' (l : Byt) : (∀ y, y ∈ encB l → y.cells.length = 1) = True := eq_true (encB_cells l)
@[go_sem] theorem bytesA_cells' (s : ByteArray) : (∀ y, y ∈ bytesA s → y.cells.length = 1) = True := eq_true (encB_cells (sb s))
theorem encB_inj {a b : Byt} (h : encB a = encB b) : a = b := by
  unfold encB at h
  refine (List.map_inj_right ?_).1 h
  intro x y hxy
  simp only [cU8, AV.con.injEq, Value.int.injEq, true_and] at hxy
  exact UInt8.toNat_inj.1 (by omega)
theorem encB_one (c : UInt8) : encB [c] = [.con (.int .u8 (c.toNat : Int))] := rfl
theorem encB_nil : encB [] = [] := rfl
abbrev u64A (n : Nat) : AV := .con (.int .u64 (n : Int))
theorem or128 (n : Nat) : Go.bits .or .u8 (IntKind.u8.wrap (n : Int)) 128 = ((b8 (n % 128 + 128)).toNat : Int) := by
  have key : ∀ x : Fin 256, Go.bits .or .u8 (x.val : Int) 128 = ((x.val % 128 + 128 : Nat) : Int) := by decide +kernel
  have e : IntKind.u8.wrap (n : Int) = ((n % 256 : Nat) : Int) := by
    simp [IntKind.wrap, IntKind.signed, IntKind.bits]
  rw [e, key ⟨n % 256, Nat.mod_lt _ (by omega)⟩, b8_toNat]
  simp only
  omega
theorem u8_wrap (n : Nat) : IntKind.u8.wrap (n : Int) = ((b8 n).toNat : Int) := by
  rw [b8_toNat]; simp [IntKind.wrap, IntKind.signed, IntKind.bits]
theorem u8_small {n : Nat} (h : n < 128) : IntKind.u8.wrap (n : Int) = ((UInt8.ofNat n).toNat : Int) := u8_wrap n
theorem c_lognumber (l : Byt) (t n : Nat) (H : Hp) (ht : H.tok t = some (l.length, 5, 1)) (hl : l.length ≤ 1000000000) (hn : n < 18446744073709551616) :
    ACalls Try.prog 76 [.list (encB l) (some t), .con (.int .u64 (n : Int))] H fun r H' => r = .list (encB (l ++ sev n)) (some t) ∧ H' = H.grow t (l ++ sev n).length := by
  refine acalls_of (by kernel_rfl) Try.func76 rfl 20 Try.ntmps76 (by simp) [.tmp 4] rfl ?_
  ((repeat' (first | (refine awp_seq_k (fun K hK => ?_)) | (refine awp_block ?_) | (refine awp_reg _ rfl ?_; (try simp only [go_sem, Nat.reduceLT, Nat.reduceEqDiff, Nat.reduceLeDiff, Nat.reduceAdd, Nat.reduceMul, Int.reduceToNat, Nat.reducePow, ↓reduceIte, reduceCtorEq])) | (refine hK _ ?_; clear hK; (try clear K)))))
  refine awp_loop (ι := Byt × Nat) (fun i => ⟨20, [(0, .list (encB i.1) (some t)), (1, .con (.int .u64 (i.2 : Int)))], H.grow t i.1.length⟩) (fun i => i.1 ++ sev i.2 = l ++ sev n ∧ i.2 < 18446744073709551616) (fun i => i.2) (l, n) ⟨rfl, hn⟩ ?_ ?_
  · exact st_le rfl (by simp only [go_sem, Nat.reduceLT, Nat.reduceEqDiff, Nat.reduceLeDiff, Nat.reduceAdd, Nat.reduceMul, Int.reduceToNat, Nat.reducePow, ↓reduceIte, reduceCtorEq]) (by rw [grow_self ht]; exact .refl _)
  intro ⟨l', n'⟩ ⟨hi, hn'⟩
  simp only at hi hn'
  have hll : l'.length ≤ l.length + 10 := by
    have h1 := congrArg List.length hi
    have h2 := sev_len (n := n) 9 (Nat.lt_of_lt_of_le hn (by decide))
    simp only [List.length_append] at h1
    omega
  by_cases hs : n' < 128
  · ((repeat' (first | (refine awp_seq_k (fun K hK => ?_)) | (refine awp_reg _ rfl ?_; (try simp only [go_sem, Nat.reduceLT, Nat.reduceEqDiff, Nat.reduceLeDiff, Nat.reduceAdd, Nat.reduceMul, Int.reduceToNat, Nat.reducePow, ↓reduceIte, reduceCtorEq, ht])) | (refine awp_cond _ rfl (fun hc => ?_) (fun hc => ?_) <;> (try (simp only [decide_eq_true_eq, decide_eq_false_iff_not, Bool.or_eq_true, Bool.and_eq_true, Bool.not_eq_true', Bool.not_eq_false', Bool.or_eq_false_iff, Bool.and_eq_false_imp, Bool.not_eq_false, Bool.not_eq_true, Bool.not_true, Bool.not_false, Bool.true_eq_false, Bool.false_eq_true, not_true_eq_false, Decidable.not_not, ite_or, ite_and] at hc)) <;> (try (exfalso; omega))) | (refine awp_exit ?_; (try simp only [sq, bk, ↓reduceIte, Nat.reduceEqDiff, reduceCtorEq])) | (refine awp_ret ?_) | (refine orAt_l ?_) | (with_reducible apply And.intro) | (refine hK _ ?_; clear hK; (try clear K)) | (refine kk (by assumption) ?_))); (all_goals (try (first | omega | decide | (simp only [List.mem_singleton, List.mem_cons, List.not_mem_nil, or_false, forall_eq_or_imp, forall_eq, AV.cells, List.length_cons, List.length_nil, and_self, Nat.reduceAdd]; done)))))
    rw [← hi, sev_small hs]
    ((all_goals (try refine fin_pure (by (try simp only [List.mem_singleton, forall_eq, resOk, List.mem_cons, List.not_mem_nil, or_false, forall_eq_or_imp, and_self])) ?_ (by ((try dsimp only); (try simp only [encB_append, encB_one, u8_small hs,  List.length_append, List.length_cons, List.length_nil, Nat.zero_add]); repeat' ((with_reducible exact .refl _)))))); (all_goals (try simp only [go_sem, Nat.reduceLT, Nat.reduceEqDiff, Nat.reduceLeDiff, Nat.reduceAdd, Nat.reduceMul, Int.reduceToNat, Nat.reducePow, ↓reduceIte, reduceCtorEq, encB_append, encB_one, u8_small hs])))
  · ((repeat' (first | (refine awp_seq_k (fun K hK => ?_)) | (refine awp_block ?_) | (refine awp_reg _ rfl ?_; (try simp only [go_sem, Nat.reduceLT, Nat.reduceEqDiff, Nat.reduceLeDiff, Nat.reduceAdd, Nat.reduceMul, Int.reduceToNat, Nat.reducePow, ↓reduceIte, reduceCtorEq, ht, or128])) | (refine awp_cond _ rfl (fun hc => ?_) (fun hc => ?_) <;> (try (simp only [decide_eq_true_eq, decide_eq_false_iff_not, Bool.or_eq_true, Bool.and_eq_true, Bool.not_eq_true', Bool.not_eq_false', Bool.or_eq_false_iff, Bool.and_eq_false_imp, Bool.not_eq_false, Bool.not_eq_true, Bool.not_true, Bool.not_false, Bool.true_eq_false, Bool.false_eq_true, not_true_eq_false, Decidable.not_not, ite_or, ite_and] at hc)) <;> (try (exfalso; omega))) | (refine awp_skip ?_; (try simp only [sq, bk, ↓reduceIte, Nat.reduceEqDiff, reduceCtorEq])) | (refine orAt_l ?_) | (with_reducible apply And.intro) | (refine hK _ ?_; clear hK; (try clear K)))); (all_goals (try (first | omega | decide | (simp only [List.mem_singleton, List.mem_cons, List.not_mem_nil, or_false, forall_eq_or_imp, forall_eq, AV.cells, List.length_cons, List.length_nil, and_self, Nat.reduceAdd]; done)))))
    refine ⟨(l' ++ [b8 (n' % 128 + 128)], n' / 128), ?_, ⟨?_, ?_⟩, ?_⟩
    · simp only; omega
    · rw [← hi, sev_big hs]; simp [b8]
    · simp only; omega
    (refine st_le rfl ?_ (by ((try dsimp only); (try simp only [encB_append, encB_one,  List.length_append, List.length_cons, List.length_nil, Nat.zero_add]); repeat' ((with_reducible exact .refl _)))); (try simp only [go_sem, Nat.reduceLT, Nat.reduceEqDiff, Nat.reduceLeDiff, Nat.reduceAdd, Nat.reduceMul, Int.reduceToNat, Nat.reducePow, ↓reduceIte, reduceCtorEq, encB_append, encB_one]))
end Go.Proofs.Ytdlbbcjacjockaa
