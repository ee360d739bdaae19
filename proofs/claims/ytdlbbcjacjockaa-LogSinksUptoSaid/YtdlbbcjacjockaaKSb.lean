/-
  A part of the proof: its theorems say what each gives.
-/
import Derived.Test.YtdlbbcjacjockaaKSa
import Derived.Test.YtdlbbcjacjockaaKTy
import Derived.Test.YtdlbbcjacjockaaProg
import Derived.Shelf.SortM.Plain
import Derived.Shelf.SortM.SortNone
set_option maxRecDepth 100000
set_option linter.unusedSimpArgs false
set_option linter.unusedVariables false
namespace Go.Proofs.Ytdlbbcjacjockaa
open Go Fw Go.RowKit Go.Lib Go.Sort
/-! slices.Sort at whole numbers. -/
theorem upd_hold {id : Nat} {cs cs' : List AV} {bx : List (Nat × List AV)} {tk : List (Nat × Nat × Nat × Nat)} (h : cs ≠ []) (h' : cs' ≠ []) : (⟨hold id cs bx, tk⟩ : Hp).upd id (fun _ => cs') = ⟨hold id cs' bx, tk⟩ := by
  rw [hold_ne h, hold_ne h']
  simp [Hp.upd, updB]
theorem acalls_sortI1 {P : Program} {ρ : Go.Shelf.Ren} (L : Go.Proofs.SlLaysM.n5 P ρ) (hcs : callB P (ρ.f 5) = true) (zs : List Int)
    {id e : Nat} {H : Hp} (hb : H.box id = some (zs.map fun z => .con (.int .i64 z))) (h0 : 0 < zs.length) (hsz : zs.length < 4611686018427387904) :
    ACalls P (ρ.f 5) [.sl id zs.length e 1] H fun r H' => r = .any ∧ H' = H.upd id fun _ => (zs.mergeSort fun x y => decide (x ≤ y)).map fun z => .con (.int .i64 z) := by
  refine ⟨hcs, fun σ w vs hs hv => ?_⟩
  obtain ⟨hvs, hvv⟩ := hv
  have hv0 := hvv 0 (by simp)
  have hvs2 : vs = #[vs.getD 0 undef] := by
    refine Array.ext (by simpa using hvs) fun i h1 h2 => ?_
    obtain rfl : i = 0 := by simp at h2; omega
    simp [Array.getD_eq_getD_getElem?, h1]
  rw [hvs2]
  generalize vs.getD 0 undef = v0 at hv0
  replace hv0 : VR σ w (.sl id zs.length e 1) v0 := hv0
  generalize hn : zs.length = n at hv0
  cases hv0 with
  | sl0 => omega
  | sl _ _ _ _ c g1 g2 g3 g4 g5 =>
  obtain ⟨q1, q2, q3, cur, e2, q4, q5, q6⟩ := hs.bx id _ hb
  have hO := q4
  rw [g2] at q4
  obtain ⟨q4, rfl, q7⟩ := q4
  rw [List.length_map, hn] at q5 q6
  have hval : ∀ i (hi : i < n), cur.getD i undef = .int .i64 (zs[i]'(by omega)) := fun i hi => by
    have := q6 i hi
    rw [List.getD_eq_getElem?_getD, List.getElem?_map, List.getElem?_eq_getElem (by omega)] at this
    exact vr_con this
  have hH : Holds (Value.int .i64) w (σ.blk id) 0 zs.toArray := fun j hj => by
    have hj0 : j < n := by simpa [hn] using hj
    have hj' : j < cur.size := by omega
    refine ⟨?_, by simp [World.frozen?, q4]⟩
    have := hval j hj0
    rw [getElem!_pos zs.toArray j hj]
    simp only [Array.getD_eq_getD_getElem?, Array.getElem?_eq_getElem hj', Option.getD_some] at this
    simp [World.cell?, q4, hj', this]
  have hcon := AnyM.slices_Sort_int L (σ.blk id) 0 c zs w hH hO.lt hsz
  rw [hn] at hcon
  refine hcon.mono fun ee w2 ⟨e1, m, os, hw2⟩ => ?_
  subst e1
  have hlen : (zs.mergeSort fun x y => decide (x ≤ y)).length = n := by rw [List.length_mergeSort, hn]
  obtain ⟨a1, a2, a3⟩ := heap_sorted (m := m) (os := os) (Value.int .i64) (d := (zs.mergeSort fun x y => decide (x ≤ y)).toArray) q4 (by simp [hn]; omega)
  replace hw2 : w2 = sortWorld (Value.int .i64) w (σ.blk id) 0 m (zs.mergeSort fun x y => decide (x ≤ y)).toArray os := hw2
  rw [← hw2] at a1 a2 a3
  have hdr : w.drawn ≤ w2.drawn := by rw [hw2]; unfold sortWorld grow putRow mapBlock Sort.ahead; simp only; omega
  have hos : w2.os = w.os ∧ w2.tape = w.tape ∧ w2.output = w.output := by rw [hw2]; unfold sortWorld grow putRow mapBlock Sort.ahead; exact ⟨rfl, rfl, rfl⟩
  obtain ⟨hE, hS⟩ := sim_turn2 hs (w' := w2) (c' := (zs.mergeSort fun x y => decide (x ≤ y)).map fun z => .con (.int .i64 z)) (cur' := putCells (Value.int .i64) 0 (zs.mergeSort fun x y => decide (x ≤ y)).toArray cur) (e' := e2) hb
    ⟨⟨hos.1, hos.2.1, hos.2.2, a3, fun j hj => a2 j (by have := hs.base; omega) (by omega)⟩, hdr⟩ a2
    (hO.turn (by rw [g2]; trivial) a1 (putCells_size _ _ _)) ⟨by rw [List.length_map, hlen, putCells_size]; exact q5, fun i hi => by
      rw [List.length_map, hlen] at hi
      rw [putCells_get _ _ _ _ (by omega), if_pos (by simp [hn]; exact hi)]
      have hi2 : i < (zs.mergeSort fun x y => decide (x ≤ y)).length := by omega
      rw [List.getD_eq_getElem?_getD, List.getElem?_map, List.getElem?_eq_getElem hi2, getElem!_pos _ i (by simpa using hi2)]
      exact .con _⟩
  exact ⟨_, _, σ, .tuple #[], rfl, ⟨rfl, rfl⟩, hE, hS, .any _⟩
def laySortI_ren : Go.Shelf.Ren := ⟨fun | 5 => 32 | 8 => 63 | 7 => 62 | 19 => 98 | 20 => 99 | 10 => 89 | 11 => 90 | 12 => 91 | 13 => 92 | 14 => 93 | 15 => 94 | 16 => 95 | 17 => 96 | 18 => 97 | 30 => 120 | 31 => 121 | 32 => 122 | 33 => 123 | 34 => 124 | 35 => 125 | 40 => 139 | n => n, fun | 23 => 24 | 25 => 3 | 3 => 3 | 32 => 75 | 22 => 24 | 0 => 0 | 44 => 91 | 46 => 85 | 4 => 4 | 36 => 138 | 35 => 137 | 41 => 143 | 5 => 5 | 9 => 9 | 53 => 162 | 57 => 165 | 63 => 176 | 64 => 177 | n => n, fun | n => n⟩
theorem laySortI : Go.Proofs.SlLaysM.n5 Try.prog laySortI_ren := {
  mixed := by kernel_rfl,
  f5 := ⟨Try.f32.name, by decide, Try.func32.trans (congrArg some (by kernel_rfl))⟩,
  f7 := ⟨Try.f62.name, by decide, Try.func62.trans (congrArg some (by kernel_rfl))⟩,
  f8 := Try.func63.trans (congrArg some (by kernel_rfl)),
  f10 := ⟨Try.f89.name, by decide, Try.func89.trans (congrArg some (by kernel_rfl))⟩,
  f11 := ⟨Try.f90.name, by decide, Try.func90.trans (congrArg some (by kernel_rfl))⟩,
  f12 := ⟨Try.f91.name, by decide, Try.func91.trans (congrArg some (by kernel_rfl))⟩,
  f13 := ⟨Try.f92.name, by decide, Try.func92.trans (congrArg some (by kernel_rfl))⟩,
  f14 := ⟨Try.f93.name, by decide, Try.func93.trans (congrArg some (by kernel_rfl))⟩,
  f15 := ⟨Try.f94.name, by decide, Try.func94.trans (congrArg some (by kernel_rfl))⟩,
  f16 := ⟨Try.f95.name, by decide, Try.func95.trans (congrArg some (by kernel_rfl))⟩,
  f17 := ⟨Try.f96.name, by decide, Try.func96.trans (congrArg some (by kernel_rfl))⟩,
  f18 := ⟨Try.f97.name, by decide, Try.func97.trans (congrArg some (by kernel_rfl))⟩,
  f19 := Try.func98.trans (congrArg some (by kernel_rfl)),
  f20 := Try.func99.trans (congrArg some (by kernel_rfl)),
  f30 := ⟨Try.f120.name, by decide, Try.func120.trans (congrArg some (by kernel_rfl))⟩,
  f31 := Try.func121.trans (congrArg some (by kernel_rfl)),
  f32 := Try.func122.trans (congrArg some (by kernel_rfl)),
  f33 := ⟨Try.f123.name, by decide, Try.func123.trans (congrArg some (by kernel_rfl))⟩,
  f34 := ⟨Try.f124.name, by decide, Try.func124.trans (congrArg some (by kernel_rfl))⟩,
  f35 := ⟨Try.f125.name, by decide, Try.func125.trans (congrArg some (by kernel_rfl))⟩,
  f40 := ⟨Try.f139.name, by decide, Try.func139.trans (congrArg some (by kernel_rfl))⟩,
  t0 := Try.underlying0,
  a0 := Try.isAgg0,
  z0 := Try.sizeOf0,
  v0 := Try.zeroValue0,
  t3 := Try.underlying3,
  a3 := Try.isAgg3,
  z3 := Try.sizeOf3,
  v3 := Try.zeroValue3,
  t4 := Try.underlying4,
  a4 := Try.isAgg4,
  z4 := Try.sizeOf4,
  v4 := Try.zeroValue4,
  t5 := Try.underlying5,
  a5 := Try.isAgg5,
  z5 := Try.sizeOf5,
  v5 := Try.zeroValue5,
  t9 := Try.underlying9,
  a9 := Try.isAgg9,
  z9 := Try.sizeOf9,
  v9 := Try.zeroValue9,
  t22 := Try.underlying24,
  a22 := Try.isAgg24,
  z22 := Try.sizeOf24,
  v22 := Try.zeroValue24,
  t23 := Try.underlying24,
  a23 := Try.isAgg24,
  z23 := Try.sizeOf24,
  v23 := Try.zeroValue24,
  t25 := Try.underlying3,
  a25 := Try.isAgg3,
  z25 := Try.sizeOf3,
  v25 := Try.zeroValue3,
  t32 := Try.underlying75,
  a32 := Try.isAgg75,
  z32 := Try.sizeOf75,
  v32 := Try.zeroValue75,
  t35 := Try.underlying137,
  a35 := Try.isAgg137,
  z35 := Try.sizeOf137,
  v35 := Try.zeroValue137,
  t36 := Try.underlying138,
  a36 := Try.isAgg138,
  z36 := Try.sizeOf138,
  v36 := Try.zeroValue138,
  t41 := Try.underlying143,
  a41 := Try.isAgg143,
  z41 := Try.sizeOf143,
  v41 := Try.zeroValue143,
  t44 := Try.underlying91,
  a44 := Try.isAgg91,
  z44 := Try.sizeOf91,
  v44 := Try.zeroValue91,
  t46 := Try.underlying85,
  a46 := Try.isAgg85,
  z46 := Try.sizeOf85,
  v46 := Try.zeroValue85,
  t53 := Try.underlying162,
  a53 := Try.isAgg162,
  z53 := Try.sizeOf162,
  v53 := Try.zeroValue162,
  t57 := Try.underlying165,
  a57 := Try.isAgg165,
  z57 := Try.sizeOf165,
  v57 := Try.zeroValue165,
  t63 := Try.underlying176,
  a63 := Try.isAgg176,
  z63 := Try.sizeOf176,
  v63 := Try.zeroValue176,
  t64 := Try.underlying177,
  a64 := Try.isAgg177,
  z64 := Try.sizeOf177,
  v64 := Try.zeroValue177 }
theorem c_SortI (zs : List Int) (id e : Nat) (bx : List (Nat × List AV)) (tk : List (Nat × Nat × Nat × Nat)) (hsz : zs.length < 4611686018427387904) :
    ACalls Try.prog 32 [.sl id zs.length e 1] ⟨hold id (zs.map fun z => .con (.int .i64 z)) bx, tk⟩ fun r H' => r = .any ∧ H' = ⟨hold id ((zs.mergeSort fun x y => decide (x ≤ y)).map fun z => .con (.int .i64 z)) bx, tk⟩ := by
  rcases Nat.eq_zero_or_pos zs.length with h0 | h0
  · obtain rfl := List.eq_nil_of_length_eq_zero h0
    refine ⟨by kernel_rfl, fun σ w vs hs hv => ?_⟩
    obtain ⟨hvs, hvv⟩ := hv
    have hv0 := hvv 0 (by simp)
    have hvs2 : vs = #[vs.getD 0 undef] := by
      refine Array.ext (by simpa using hvs) fun i h1 h2 => ?_
      obtain rfl : i = 0 := by simp at h2; omega
      simp [Array.getD_eq_getD_getElem?, h1]
    rw [hvs2]
    generalize vs.getD 0 undef = v0 at hv0
    replace hv0 : VR σ w (.sl id 0 e 1) v0 := hv0
    cases hv0 with
    | sl => omega
    | sl0 =>
      have hcon := AnyM.slices_Sort_int_none laySortI none 0 w
      refine hcon.mono fun ee w2 ⟨e1, hw2⟩ => ?_
      subst e1 hw2
      exact ⟨.any, _, σ, .tuple #[], rfl, ⟨rfl, by simp⟩, .refl _ _, hs, .any _⟩
  · have hne : (zs.map fun z => AV.con (.int .i64 z)) ≠ [] := fun e => by have := congrArg List.length e; simp at this; simp [this] at h0
    have hne' : ((zs.mergeSort fun x y => decide (x ≤ y)).map fun z => AV.con (.int .i64 z)) ≠ [] := fun e => by have := congrArg List.length e; simp at this; simp [this] at h0
    have h := acalls_sortI1 laySortI (by kernel_rfl) zs (id := id) (e := e) (H := ⟨hold id (zs.map fun z => .con (.int .i64 z)) bx, tk⟩) (lookup_hold hne) h0 hsz
    rw [upd_hold hne hne'] at h
    exact h
end Go.Proofs.Ytdlbbcjacjockaa
