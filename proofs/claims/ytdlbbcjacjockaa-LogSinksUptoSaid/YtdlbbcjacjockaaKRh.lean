/-
  A part of the proof: its theorems say what each gives.
-/
import Derived.Test.YtdlbbcjacjockaaKFw1
import Derived.Test.YtdlbbcjacjockaaKFw2
import Derived.Test.YtdlbbcjacjockaaKFw3
import Derived.Test.YtdlbbcjacjockaaKRg
import Derived.Test.YtdlbbcjacjockaaKLj
set_option maxRecDepth 100000
set_option maxHeartbeats 8000000
set_option linter.unusedSimpArgs false
set_option linter.unusedVariables false
namespace Go.Proofs.Ytdlbbcjacjockaa
open Go Fw
/-! log.New; the fact about logs. -/
theorem PureAt.nil1 {P : Program} {f : Nat} {rest : List AV} {r : AV} {H : Hp} (h : PureAt P f (.list [] none :: rest) H r) : PureAt P f (.con (.slice none 0 0) :: rest) H r :=
  ACalls.args h rfl fun i hi => by
    cases i with
    | zero => exact AV.le_nil
    | succ i => exact .refl _
theorem PureAt.le2 {P : Program} {f : Nat} {x y y' : AV} {r : AV} {H : Hp} (h : PureAt P f [x, y] H r) (k : y'.le y) : PureAt P f [x, y'] H r :=
  ACalls.args h rfl fun i hi => by
    match i with
    | 0 => exact .refl _
    | 1 => exact k
    | i + 2 => simp at hi; omega
theorem PureAt.le1 {P : Program} {f : Nat} {x x' : AV} {rest : List AV} {r : AV} {H : Hp} (h : PureAt P f (x :: rest) H r) (k : x'.le x) : PureAt P f (x' :: rest) H r :=
  ACalls.args h rfl fun i hi => by
    match i with
    | 0 => exact k
    | i + 1 => exact .refl _
theorem le_nilE (n : Int) : (AV.agg [.con (.int .i64 n), .con (.slice none 0 0)]).le (cE ⟨n, []⟩) :=
  AV.le_aggc rfl (lec_cons (.refl _) (lec_cons AV.le_nil lec_nil))
theorem body_plain (n : Nat) (h : n < 9223372036854775808) : bodyB ⟨n, []⟩ = sev n ++ [0] := by
  have : u64 (n : Int) = n := by unfold u64; omega
  unfold bodyB
  simp only [this, List.length_nil, chsB, List.flatMap_nil, List.append_nil]
  rw [sev_small (n := 0) (by omega)]; rfl
theorem entE_plain0 (n : Nat) (h1 : 1 ≤ n) (h : n ≤ 9007199254740992) : entE ⟨n, []⟩ = 0 := by
  have hb : (bodyB ⟨n, []⟩).length ≤ 20000 := by
    rw [body_plain n (by omega)]
    have := sev_len (n := n) 9 (by omega)
    simp; omega
  unfold entE
  simp only
  rw [if_neg (by omega), if_neg (by simp), if_neg (by simp [firstL]), if_neg (by omega)]
theorem wfE_plain0 (n : Nat) (h : n ≤ 9007199254740992) : WfE ⟨n, []⟩ ∧ SmallE ⟨n, []⟩ ∧ RangeE ⟨n, []⟩ := by
  have hb : (bodyB ⟨n, []⟩).length ≤ 20000 := by
    rw [body_plain n (by omega)]
    have := sev_len (n := n) 9 (by omega)
    simp; omega
  exact ⟨⟨by simp only [okI]; omega, by simp⟩, ⟨by simp, by simp, by omega⟩, ⟨by simp, by simp⟩⟩
def newN (n : Int) : Int := IntKind.i64.wrap (max 0 (min n 9007199254740991) + 1)
theorem c_NewRo (n : Int) (H : Hp) : ACalls Try.prog 29 [.con (.int .i64 n)] H (fun r H' => ∃ m, fresh H m ∧ r = .ro [.con (.int .i64 (newN n)), .mp m] ∧ H' = ⟨(m, [.mc [] 0]) :: H.bx, H.tk⟩) := by
  refine acalls_of (by kernel_rfl) Try.func29 rfl 10 Try.ntmps29 (by simp) [.tmp 2] rfl ?_
  ((repeat' (first | (refine awp_seq_k (fun K hK => ?_)) | (refine awp_reg _ rfl ?_; (try simp only [go_sem, Nat.reduceLT, Nat.reduceEqDiff, Nat.reduceLeDiff, Nat.reduceAdd, Nat.reduceMul, Int.reduceToNat, Nat.reducePow, ↓reduceIte, reduceCtorEq])) | (refine awp_ret ?_) | (refine orAt_r 9 ?_) | (refine all_fresh fun id fr => ?_) | (refine hK _ ?_; clear hK; (try clear K)))))
  refine fin_any (x := .ro [.con (.int .i64 (newN n)), .mp id]) (H := ⟨(id, [.mc [] 0]) :: H.bx, H.tk⟩) (by (try simp only [List.mem_singleton, forall_eq, resOk, List.mem_cons, List.not_mem_nil, or_false, forall_eq_or_imp, and_self])) (by (try simp only [go_sem, Nat.reduceLT, Nat.reduceEqDiff, Nat.reduceLeDiff, Nat.reduceAdd, Nat.reduceMul, Int.reduceToNat, Nat.reducePow, ↓reduceIte, reduceCtorEq]); (try rfl)) (by ((try dsimp only); repeat' ((with_reducible exact .refl _)))) ?_
  exact ⟨id, fr, rfl, rfl⟩
theorem c_New (n : Int) (H : Hp) : PureAt Try.prog 29 [.con (.int .i64 n)] H (.ro [.con (.int .i64 (newN n)), .any]) :=
  acalls_weak (c_NewRo n H) fun r H' ⟨m, fr, h1, h2⟩ => ⟨.ro [.con (.int .i64 (newN n)), .any], H, by rw [h1]; exact AV.le_ro (lec_cons (.refl _) (lec_cons (AV.le_any _) lec_nil)), by rw [h2]; exact weak_box fr.1 (weak_eta H), rfl, rfl⟩
theorem c_logged (H : Hp) : PureAt Try.prog 11 [] H (.con (.bool true)) := by
  have e0 := entE_plain0 1 (by omega) (by omega)
  obtain ⟨w1, w2, w3⟩ := wfE_plain0 1 (by omega)
  have hg : good 0 [⟨(1 : Nat), []⟩] := ⟨e0, w1, rfl, trivial⟩
  have hrd := rdLog_good hg
  have hl1 : logB [⟨(1 : Nat), []⟩] = frmB (bodyB ⟨(1 : Nat), []⟩) := by simp [logB]
  have hlen : (frmB (bodyB ⟨(1 : Nat), []⟩)).length = 8 := by
    rw [frmB_length, body_plain 1 (by omega), sev_small (by omega)]; rfl
  rw [hl1] at hrd
  have hE : appE [] ⟨(1 : Nat), []⟩ = 0 := by unfold appE; rw [if_neg (by omega), rdLog_nil]; simp
  have hB : appB [] ⟨(1 : Nat), []⟩ = frmB (bodyB ⟨(1 : Nat), []⟩) := by unfold appB; rw [if_pos hE]; rfl
  have hA : ∀ H, PureAt Try.prog 13 [.con (.slice none 0 0), .agg [.con (.int .i64 1), .con (.slice none 0 0)]] H (.tup [.list (encB (frmB (bodyB ⟨(1 : Nat), []⟩))) none, .con (.int .i64 0)]) := fun H => by
    have := c_Append [] ⟨(1 : Nat), []⟩ H (by simp) w1 w2 w3
    rw [hE, hB] at this
    exact PureAt.nil1 (PureAt.le2 this (le_nilE 1))
  have hR : ∀ H, PureAt Try.prog 10 [.list (encB (frmB (bodyB ⟨(1 : Nat), []⟩))) none] H (.tup [.list [.agg [.con (.int .i64 1), .list [] none]] none, .con (.int .i64 8), .con (.int .i64 0)]) := fun H => by
    have := c_ReadP (frmB (bodyB ⟨(1 : Nat), []⟩)) H (by omega)
    rw [hrd, hlen] at this
    exact this
  have hS : ∀ H, PureAt Try.prog 19 [.con (.slice none 0 0)] H (.con (.int .i64 2166136261)) := fun H => PureAt.nil1 (c_Sum [] H (by simp))
  generalize frmB (bodyB ⟨(1 : Nat), []⟩) = fb at *
  refine acalls_of (by kernel_rfl) Try.func11 rfl 40 Try.ntmps11 (by simp) [.tmp 0] rfl ?_
  ((repeat' (first | (refine awp_seq_k (fun K hK => ?_)) | (refine awp_reg _ rfl ?_; (try simp only [go_sem, Nat.reduceLT, Nat.reduceEqDiff, Nat.reduceLeDiff, Nat.reduceAdd, Nat.reduceMul, Int.reduceToNat, Nat.reducePow, ↓reduceIte, reduceCtorEq])) | (refine awp_ret ?_) | (refine PureAt.use (hA _) ?_ <;> (try simp only [go_sem, Nat.reduceLT, Nat.reduceEqDiff, Nat.reduceLeDiff, Nat.reduceAdd, Nat.reduceMul, Int.reduceToNat, Nat.reducePow, ↓reduceIte, reduceCtorEq])) | (refine PureAt.use (hR _) ?_ <;> (try simp only [go_sem, Nat.reduceLT, Nat.reduceEqDiff, Nat.reduceLeDiff, Nat.reduceAdd, Nat.reduceMul, Int.reduceToNat, Nat.reducePow, ↓reduceIte, reduceCtorEq])) | (refine ⟨_, fun H => hS _, ?_⟩ <;> (try simp only [go_sem, Nat.reduceLT, Nat.reduceEqDiff, Nat.reduceLeDiff, Nat.reduceAdd, Nat.reduceMul, Int.reduceToNat, Nat.reducePow, ↓reduceIte, reduceCtorEq])) | (refine ⟨_, fun H => c_New 3 _, ?_⟩ <;> (try simp only [go_sem, Nat.reduceLT, Nat.reduceEqDiff, Nat.reduceLeDiff, Nat.reduceAdd, Nat.reduceMul, Int.reduceToNat, Nat.reducePow, ↓reduceIte, reduceCtorEq])) | (refine hK _ ?_; clear hK; (try clear K)))))
  ((all_goals (try refine fin_pure (by (try simp only [List.mem_singleton, forall_eq, resOk, List.mem_cons, List.not_mem_nil, or_false, forall_eq_or_imp, and_self])) ?_ (by ((try dsimp only); repeat' ((with_reducible exact .refl _)))))); (all_goals (try simp only [go_sem, Nat.reduceLT, Nat.reduceEqDiff, Nat.reduceLeDiff, Nat.reduceAdd, Nat.reduceMul, Int.reduceToNat, Nat.reducePow, ↓reduceIte, reduceCtorEq])); (all_goals (try (((simp [*]; done))))))
end Go.Proofs.Ytdlbbcjacjockaa
