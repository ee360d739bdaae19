/-
  A part of the proof: its theorems say what each gives.
-/
import Derived.Test.YtababmnmkmgbbaaGreatKSa
import Derived.Test.YtababmnmkmgbbaaGreatKM22
import Derived.Test.YtababmnmkmgbbaaGreatProg
import Derived.Shelf.SlSortCmp.NoneTotal
set_option maxRecDepth 100000
set_option maxHeartbeats 4000000
set_option linter.unusedSimpArgs false
set_option linter.unusedVariables false
namespace Go.Proofs.YtababmnmkmgbbaaGreat
open Go Fw Go.RowKit Go.Lib Go.Sort
/-! slices.SortFunc at rows. -/
theorem upd_hold {id : Nat} {cs cs' : List AV} {bx : List (Nat × List AV)} {tk : List (Nat × Nat × Nat × Nat)} (h : cs ≠ []) (h' : cs' ≠ []) : (⟨hold id cs bx, tk⟩ : Hp).upd id (fun _ => cs') = ⟨hold id cs' bx, tk⟩ := by
  rw [hold_ne h, hold_ne h']
  simp [Hp.upd, updB]
/-- A sort at no element. -/
theorem acalls_sort0 {P : Program} {ρ : Go.Shelf.Ren} (L : Go.Proofs.SlLaysF0.n6 P ρ) (hcs : callB P (ρ.f 6) = true) (g : Nat) (cap : List AV) {id e k : Nat} {H : Hp} :
    ACalls P (ρ.f 6) [.sl id 0 e k, .fn g cap] H fun r H' => H' = H := by
  refine ⟨hcs, fun σ w vs hs hv => ?_⟩
  obtain ⟨hvs, hvv⟩ := hv
  have hv0 := hvv 0 (by simp)
  have hvs2 : vs = #[vs.getD 0 undef, vs.getD 1 undef] := by
    refine Array.ext (by simpa using hvs) fun i h1 h2 => ?_
    have : i = 0 ∨ i = 1 := by simp at h2; omega
    rcases this with rfl | rfl <;> simp [Array.getD_eq_getD_getElem?, h1]
  rw [hvs2]
  generalize vs.getD 0 undef = v0 at hv0
  generalize vs.getD 1 undef = v1
  replace hv0 : VR σ w (.sl id 0 e k) v0 := hv0
  have : ∃ p c, v0 = .slice p 0 c := by
    generalize hn : 0 = n at hv0
    cases hv0 with
    | sl => omega
    | sl0 => exact ⟨_, _, rfl⟩
    | sl1 => exact ⟨_, _, rfl⟩
  obtain ⟨p, c, rfl⟩ := this
  refine (AnyF.slices_SortFunc_none L p c v1 w).mono fun ee w2 ⟨e1, hw2⟩ => ?_
  subst e1 hw2
  exact ⟨.any, H, σ, .tuple #[], rfl, rfl, .refl _ _, hs, .any _⟩
def laySortRw_ren : Go.Shelf.Ren := ⟨fun | 6 => 141 | 15 => 210 | 14 => 236 | 28 => 279 | 29 => 280 | 20 => 301 | 21 => 302 | 22 => 303 | 23 => 304 | 24 => 305 | 25 => 306 | 26 => 307 | 27 => 308 | 46 => 346 | 47 => 333 | 48 => 334 | 49 => 347 | 50 => 348 | 57 => 363 | n => n, fun | 22 => 70 | 24 => 80 | 25 => 94 | 3 => 3 | 39 => 277 | 0 => 0 | 53 => 331 | 55 => 333 | 4 => 4 | 46 => 325 | 45 => 324 | 50 => 173 | 5 => 5 | 9 => 9 | 66 => 370 | 70 => 374 | 76 => 387 | 77 => 388 | n => n, fun | n => n⟩
theorem laySortRw : Go.Proofs.SlLaysF.n6 Tryz.prog laySortRw_ren := {
  mixed := by kernel_rfl,
  f6 := ⟨Tryz.f141.name, by decide, Tryz.func141.trans (congrArg some (by kernel_rfl))⟩,
  f14 := ⟨Tryz.f236.name, by decide, Tryz.func236.trans (congrArg some (by kernel_rfl))⟩,
  f15 := Tryz.func210.trans (congrArg some (by kernel_rfl)),
  f20 := ⟨Tryz.f301.name, by decide, Tryz.func301.trans (congrArg some (by kernel_rfl))⟩,
  f21 := ⟨Tryz.f302.name, by decide, Tryz.func302.trans (congrArg some (by kernel_rfl))⟩,
  f22 := ⟨Tryz.f303.name, by decide, Tryz.func303.trans (congrArg some (by kernel_rfl))⟩,
  f23 := ⟨Tryz.f304.name, by decide, Tryz.func304.trans (congrArg some (by kernel_rfl))⟩,
  f24 := ⟨Tryz.f305.name, by decide, Tryz.func305.trans (congrArg some (by kernel_rfl))⟩,
  f25 := ⟨Tryz.f306.name, by decide, Tryz.func306.trans (congrArg some (by kernel_rfl))⟩,
  f26 := ⟨Tryz.f307.name, by decide, Tryz.func307.trans (congrArg some (by kernel_rfl))⟩,
  f27 := ⟨Tryz.f308.name, by decide, Tryz.func308.trans (congrArg some (by kernel_rfl))⟩,
  f28 := Tryz.func279.trans (congrArg some (by kernel_rfl)),
  f29 := Tryz.func280.trans (congrArg some (by kernel_rfl)),
  f46 := ⟨Tryz.f346.name, by decide, Tryz.func346.trans (congrArg some (by kernel_rfl))⟩,
  f47 := Tryz.func333.trans (congrArg some (by kernel_rfl)),
  f48 := Tryz.func334.trans (congrArg some (by kernel_rfl)),
  f49 := ⟨Tryz.f347.name, by decide, Tryz.func347.trans (congrArg some (by kernel_rfl))⟩,
  f50 := ⟨Tryz.f348.name, by decide, Tryz.func348.trans (congrArg some (by kernel_rfl))⟩,
  f57 := ⟨Tryz.f363.name, by decide, Tryz.func363.trans (congrArg some (by kernel_rfl))⟩,
  t0 := Tryz.underlying0,
  a0 := Tryz.isAgg0,
  z0 := Tryz.sizeOf0,
  v0 := Tryz.zeroValue0,
  t3 := Tryz.underlying3,
  a3 := Tryz.isAgg3,
  z3 := Tryz.sizeOf3,
  v3 := Tryz.zeroValue3,
  t4 := Tryz.underlying4,
  a4 := Tryz.isAgg4,
  z4 := Tryz.sizeOf4,
  v4 := Tryz.zeroValue4,
  t5 := Tryz.underlying5,
  a5 := Tryz.isAgg5,
  z5 := Tryz.sizeOf5,
  v5 := Tryz.zeroValue5,
  t9 := Tryz.underlying9,
  a9 := Tryz.isAgg9,
  z9 := Tryz.sizeOf9,
  v9 := Tryz.zeroValue9,
  t22 := Tryz.underlying70,
  a22 := Tryz.isAgg70,
  z22 := Tryz.sizeOf70,
  v22 := Tryz.zeroValue70,
  a24 := Tryz.isAgg80,
  z24 := Tryz.sizeOf80,
  t25 := Tryz.underlying94,
  a25 := Tryz.isAgg94,
  z25 := Tryz.sizeOf94,
  v25 := Tryz.zeroValue94,
  t39 := Tryz.underlying277,
  a39 := Tryz.isAgg277,
  z39 := Tryz.sizeOf277,
  v39 := Tryz.zeroValue277,
  t45 := Tryz.underlying324,
  a45 := Tryz.isAgg324,
  z45 := Tryz.sizeOf324,
  v45 := Tryz.zeroValue324,
  t46 := Tryz.underlying325,
  a46 := Tryz.isAgg325,
  z46 := Tryz.sizeOf325,
  v46 := Tryz.zeroValue325,
  t50 := Tryz.underlying173,
  a50 := Tryz.isAgg173,
  z50 := Tryz.sizeOf173,
  v50 := Tryz.zeroValue173,
  t53 := Tryz.underlying331,
  a53 := Tryz.isAgg331,
  z53 := Tryz.sizeOf331,
  v53 := Tryz.zeroValue331,
  t55 := Tryz.underlying333,
  a55 := Tryz.isAgg333,
  z55 := Tryz.sizeOf333,
  v55 := Tryz.zeroValue333,
  t66 := Tryz.underlying370,
  a66 := Tryz.isAgg370,
  z66 := Tryz.sizeOf370,
  v66 := Tryz.zeroValue370,
  t70 := Tryz.underlying374,
  a70 := Tryz.isAgg374,
  z70 := Tryz.sizeOf374,
  v70 := Tryz.zeroValue374,
  t76 := Tryz.underlying387,
  a76 := Tryz.isAgg387,
  z76 := Tryz.sizeOf387,
  v76 := Tryz.zeroValue387,
  t77 := Tryz.underlying388,
  a77 := Tryz.isAgg388,
  z77 := Tryz.sizeOf388,
  v77 := Tryz.zeroValue388 }
theorem to_cmpR : TO cmpR (fun l => ∀ x ∈ l, numV x) := to_cmpV.list
/-- The rows of a list, sorted. -/
theorem c_SortRw (l : List (List Val)) (id e g : Nat) (cap : List AV) (bx : List (Nat × List AV)) (tk : List (Nat × Nat × Nat × Nat)) (hsz : l.length < 4611686018427387904) (hl : ∀ x ∈ l, gRow x)
    (hcmp : ∀ a ∈ l, ∀ b ∈ l, PureAt Tryz.prog g ([cRw a, cRw b] ++ cap) ⟨[], []⟩ (.con (.int .i64 (cmpR a b)))) :
    ACalls Tryz.prog 141 [.sl id l.length e 1, .fn g cap] ⟨hold id (encRws l) bx, tk⟩
      fun r H' => ∃ l' : List (List Val), l'.Perm l ∧ l'.Pairwise (fun a b => ¬ cmpR b a < 0) ∧ H' = ⟨hold id (encRws l') bx, tk⟩ := by
  have hD : ∀ x ∈ l, ∀ v ∈ x, numV v := fun x hx v hv => ((hl x hx).2 v hv).2
  rcases Nat.eq_zero_or_pos l.length with h0 | h0
  · obtain rfl := List.eq_nil_of_length_eq_zero h0
    exact (acalls_sort0 (P := Tryz.prog) { laySortRw with } (by kernel_rfl) g cap).mono fun r H' h => ⟨[], .refl _, .nil, h⟩
  · have hne : encRws l ≠ [] := fun e => by have := congrArg List.length e; simp [encRws] at this; simp [this] at h0
    refine (acalls_sort1 laySortRw (by kernel_rfl) l cRw (fun _ _ => rfl) cmpR (fun a ha => by rw [to_cmpR.self a]; decide)
      (fun a ha b hb c hc h1 h2 => to_cmpR.tr (hD a ha) (hD b hb) (hD c hc) h1 h2) (fun a ha b hb c hc h1 h2 => to_cmpR.nt (hD a ha) (hD b hb) (hD c hc) h1 h2) g cap hcmp
      (id := id) (e := e) (H := ⟨hold id (encRws l) bx, tk⟩) (lookup_hold hne) h0 hsz).mono fun r H' h => ?_
    obtain ⟨l', h1, h2, h3⟩ := h
    refine ⟨l', h1, h2, ?_⟩
    rw [h3]
    exact upd_hold hne (by intro e; have h5 := congrArg List.length e; have h4 := h1.length_eq; rw [List.length_map, List.length_nil] at h5; omega)
end Go.Proofs.YtababmnmkmgbbaaGreat
/-
  A part of the proof: its theorems say what each gives.
-/
set_option maxRecDepth 100000
set_option maxHeartbeats 4000000
set_option linter.unusedSimpArgs false
set_option linter.unusedVariables false
namespace Go.Proofs.YtababmnmkmgbbaaGreat
open Go Fw
/-! Sorted rows, each once, in plain Lean. -/
def cpGo (p : List Val) : List (List Val) → List (List Val)
  | [] => []
  | y :: l => if cmpR y p = 0 then cpGo y l else y :: cpGo y l
def cpR : List (List Val) → List (List Val)
  | [] => []
  | x :: l => x :: cpGo x l
def numR (x : List Val) : Prop := ∀ v ∈ x, numV v
theorem cpGo_up : ∀ (l : List (List Val)) (x : List Val), (∀ y ∈ x :: l, numR y) → (x :: l).Pairwise (fun a b => ¬ cmpR b a < 0) →
    TO.up cmpR (x :: cpGo x l) ∧ ∀ z, z ∈ x :: cpGo x l ↔ z ∈ x :: l
  | [], x, _, _ => ⟨by simp [cpGo, TO.up], fun z => by simp [cpGo]⟩
  | y :: l, x, hd, hp => by
    have hp2 := (List.pairwise_cons.1 hp)
    have dx := hd x (by simp)
    have dy := hd y (by simp)
    obtain ⟨i1, i2⟩ := cpGo_up l y (fun z hz => hd z (by simp [List.mem_cons.1 hz])) hp2.2
    rw [cpGo]
    by_cases h0 : cmpR y x = 0
    · obtain rfl := to_cmpR.eq dy dx h0
      rw [if_pos h0]
      refine ⟨i1, fun z => ?_⟩
      rw [i2 z]; simp
    · rw [if_neg h0]
      have hxy : cmpR x y < 0 := by
        have h1 := hp2.1 y (by simp)
        rw [to_cmpR.neg y x]; omega
      refine ⟨List.pairwise_cons.2 ⟨fun z hz => ?_, i1⟩, fun z => ?_⟩
      · rcases List.mem_cons.1 hz with rfl | hz2
        · exact hxy
        · have hm := (i2 z).1 hz
          exact to_cmpR.tr dx dy (hd z (by simp [List.mem_cons.1 hm])) hxy ((List.pairwise_cons.1 i1).1 z hz2)
      · rw [List.mem_cons, i2 z, List.mem_cons (a := z) (b := x) (l := y :: l)]
theorem cpR_setU {l l' : List (List Val)} (hp : l'.Perm l) (hs : l'.Pairwise fun a b => ¬ cmpR b a < 0) (hd : ∀ x ∈ l, numR x) : cpR l' = setU cmpR l := by
  have hd' : ∀ x ∈ l', numR x := fun x hx => hd x (hp.mem_iff.1 hx)
  have h : TO.up cmpR (cpR l') ∧ ∀ z, z ∈ cpR l' ↔ z ∈ l' := by
    cases l' with
    | nil => exact ⟨by simp [cpR, TO.up], fun z => by simp [cpR]⟩
    | cons x l' => exact cpGo_up l' x hd' hs
  refine to_cmpR.up_uniq (fun x hx => hd' x ((h.2 x).1 hx)) (fun x hx => ?_) h.1 (setU_up to_cmpR hd) fun z => ?_
  · exact hd x ((setU_mem to_cmpR hd x).1 hx)
  · rw [h.2 z, setU_mem to_cmpR hd, hp.mem_iff]
end Go.Proofs.YtababmnmkmgbbaaGreat
