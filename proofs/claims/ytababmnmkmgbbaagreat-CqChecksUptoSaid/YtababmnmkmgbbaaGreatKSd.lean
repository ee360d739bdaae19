/-
  A part of the proof: its theorems say what each gives.
-/
import Derived.Test.YtababmnmkmgbbaaGreatKSc
set_option maxRecDepth 100000
set_option maxHeartbeats 4000000
set_option linter.unusedSimpArgs false
set_option linter.unusedVariables false
namespace Go.Proofs.YtababmnmkmgbbaaGreat
open Go Fw
/-! Sorted rows, each once, in plain Lean. -/
def cpGo (p : List Val) : List (List Val) → List (List Val)
  | [] => []
  | y :: l => if cmpR y p = 0 then cpGo y l else y :: cpGo y l
def cpR : List (List Val) → List (List Val)
  | [] => []
  | x :: l => x :: cpGo x l
def numR (x : List Val) : Prop := ∀ v ∈ x, numV v
theorem cpGo_up : ∀ (l : List (List Val)) (x : List Val), (∀ y ∈ x :: l, numR y) → (x :: l).Pairwise (fun a b => ¬ cmpR b a < 0) →
    TO.up cmpR (x :: cpGo x l) ∧ ∀ z, z ∈ x :: cpGo x l ↔ z ∈ x :: l
  | [], x, _, _ => ⟨by simp [cpGo, TO.up], fun z => by simp [cpGo]⟩
  | y :: l, x, hd, hp => by
    have hp2 := (List.pairwise_cons.1 hp)
    have dx := hd x (by simp)
    have dy := hd y (by simp)
    obtain ⟨i1, i2⟩ := cpGo_up l y (fun z hz => hd z (by simp [List.mem_cons.1 hz])) hp2.2
    rw [cpGo]
    by_cases h0 : cmpR y x = 0
    · obtain rfl := to_cmpR.eq dy dx h0
      rw [if_pos h0]
      refine ⟨i1, fun z => ?_⟩
      rw [i2 z]; simp
    · rw [if_neg h0]
      have hxy : cmpR x y < 0 := by
        have h1 := hp2.1 y (by simp)
        rw [to_cmpR.neg y x]; omega
      refine ⟨List.pairwise_cons.2 ⟨fun z hz => ?_, i1⟩, fun z => ?_⟩
      · rcases List.mem_cons.1 hz with rfl | hz2
        · exact hxy
        · have hm := (i2 z).1 hz
          exact to_cmpR.tr dx dy (hd z (by simp [List.mem_cons.1 hm])) hxy ((List.pairwise_cons.1 i1).1 z hz2)
      · rw [List.mem_cons, i2 z, List.mem_cons (a := z) (b := x) (l := y :: l)]
theorem cpR_setU {l l' : List (List Val)} (hp : l'.Perm l) (hs : l'.Pairwise fun a b => ¬ cmpR b a < 0) (hd : ∀ x ∈ l, numR x) : cpR l' = setU cmpR l := by
  have hd' : ∀ x ∈ l', numR x := fun x hx => hd x (hp.mem_iff.1 hx)
  have h : TO.up cmpR (cpR l') ∧ ∀ z, z ∈ cpR l' ↔ z ∈ l' := by
    cases l' with
    | nil => exact ⟨by simp [cpR, TO.up], fun z => by simp [cpR]⟩
    | cons x l' => exact cpGo_up l' x hd' hs
  refine to_cmpR.up_uniq (fun x hx => hd' x ((h.2 x).1 hx)) (fun x hx => ?_) h.1 (setU_up to_cmpR hd) fun z => ?_
  · exact hd x ((setU_mem to_cmpR hd x).1 hx)
  · rw [h.2 z, setU_mem to_cmpR hd, hp.mem_iff]
end Go.Proofs.YtababmnmkmgbbaaGreat
