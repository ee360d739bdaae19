/-
  LogFrames returns true for every list of entries, every number, every entry and all bytes, and leaves them as they were, where what comes in is of bulk at most 1048576.
-/
import Derived.Test.YtdlbbcjacjockaaKJa
import Derived.Test.YtdlbbcjacjockaaKTd
set_option maxRecDepth 100000
set_option linter.unusedSimpArgs false
set_option linter.unusedVariables false
namespace Go.Proofs.Ytdlbbcjacjockaa
open Go Fw Go.RowKit Go.ChangeShapes
theorem okL_of {l : List Ent} (h : ∀ x ∈ l, goodE x) (hb : (l.map wtE).sum + 1 ≤ 1048576) : OkL l := by
  have hx : ∀ x ∈ l, wtE x ≤ 1048576 := fun x hx => by have := mem_sum wtE hx; omega
  have hl := len_sum wtE (fun x => by simp only [wtE]; omega) l
  have hg := gat_wt l 0 hx
  exact ⟨by omega, fun x hm => goodE_wf (h x hm), fun x hm n _ => (wtE_small n (hx x hm)).1, fun x hm => (wtE_small 0 (hx x hm)).2, by omega⟩
theorem own : ownKnob Try.prog.godebug = none := by kernel_rfl
theorem laidOut : laidOutB Try.prog = true := by kernel_rfl
theorem under_bool : Try.prog.underlying 4 = some .bool := by kernel_rfl
theorem u8_mm {n : Int} (h : IntKind.u8.min ≤ n ∧ n ≤ IntKind.u8.max) : ∃ c : UInt8, n = (c.toNat : Int) := by
  have h1 : IntKind.u8.min = 0 := by decide
  have h2 : IntKind.u8.max = 255 := by decide
  refine ⟨UInt8.ofNat n.toNat, ?_⟩
  rw [ofNat_toNat (by omega)]; omega
theorem sum_ones (l : List Int) : (l.map fun _ => 1).sum = l.length := by
  induction l with
  | nil => rfl
  | cons a l ih => simp only [List.map_cons, List.sum_cons, List.length_cons, ih]; omega
theorem opens_bytes {H : Type} {enc : TypeId × Value → H} {W : World} (n : Nat) : Opens enc Try.prog W Rows.uptoBulk 23 n (fun l => .list (encB l) none) (fun _ => True) (fun l : Byt => l.length + 1) := by
  have h0 := opens_slice (isBulk H) ty_elem23 (by omega) (fun _ => rfl) (fun m _ => opens_int (enc := enc) (P := Try.prog) (W := W) (n := m) (isBulk H) ty_int5) (n := n)
  intro cs x hx
  obtain ⟨l, h1, h2, h3⟩ := h0 cs x hx
  have : ∀ l : List Int, (∀ a ∈ l, IntKind.u8.min ≤ a ∧ a ≤ IntKind.u8.max) → ∃ m : Byt, encB m = (l.map fun n => AV.con (.int .u8 n)) ∧ m.length = l.length := by
    intro l
    induction l with
    | nil => exact fun _ => ⟨[], rfl, rfl⟩
    | cons a l ih =>
      intro h
      obtain ⟨m, e1, e2⟩ := ih fun b hb => h b (by simp [hb])
      obtain ⟨c, hc⟩ := u8_mm (h a (by simp))
      exact ⟨c :: m, by rw [hc]; simp only [List.map_cons, ← e1]; rfl, by simp [e2]⟩
  obtain ⟨m, e1, e2⟩ := this l h2
  have h4 : (l.map fun _ => 1).sum = l.length := sum_ones l
  have h3 : (l.map fun _ => 1).sum + 1 ≤ Rows.uptoBulk x.1 := h3
  rw [h4] at h3
  refine ⟨m, ?_, trivial, by simp only; omega⟩
  show Dec W (AV.list (encB m) none).cells cs
  rw [e1]; exact h1
theorem contract_LogFrames (H : Type) (enc : TypeId × Value → H) (W : World) (base : Nat) (args : Array Value) (ds gs : List (DataW H)) (before : List MemPlace)
    (hval : ∀ (j : Nat) t v, Try.f4.params[j]? = some t → args[j]? = some v → Value.okWide Try.prog W .any base t v)
    (hW : DataW.Whole enc Try.prog Try.f4.params.toList Rows.logFramesSpec.vars false W args.toList ds gs before) (hk : Rows.uptoSmall H (ds ++ gs) = true) :
    Calls Try.prog 4 args W fun e W' => ∃ v, e = .returned v ∧ Rows.logFramesSpec.post enc Try.prog Try.f4 false true false false W args v W' := by
  have hW' := hW
  obtain ⟨p, q, hA0, hV, rfl, hfz, hnd⟩ := hW
  have hA : DataW.TrodAll enc Try.prog W 0 (fun _ => true) true Try.f4.params.toList args.toList ds p := hA0
  rw [Try.params4] at hA hval
  obtain ⟨v0, v1, v2, v3, d0, d1, d2, d3, p0, p1, p2, p3, rfl, rfl, rfl, h0, h1, h2, h3⟩ := trodAll_four hA
  obtain ⟨rfl, rfl⟩ := trodVars_none hV
  have hb := isBulk H
  obtain ⟨l, a1, a2, a3⟩ := arg_one (bk := Rows.uptoBulk) (fun n => opens_ents n) ty_agg22 (fun _ => rfl) h0 (hval 0 _ v0 rfl rfl)
  obtain ⟨no, b1, b2, _⟩ := arg_one (fun n => opens_int hb ty_int3) ty_agg3 (fun _ => rfl) h1 (hval 1 _ v1 rfl rfl)
  obtain ⟨x, c1, c2, c3⟩ := arg_agg (bk := Rows.uptoBulk) (fun n => opens_ent n) ty_agg27 (fun _ => rfl) h2 (hval 2 _ v2 rfl rfl)
  obtain ⟨bb, e1, _, e3⟩ := arg_one (bk := Rows.uptoBulk) (fun n => opens_bytes n) ty_agg23 (fun _ => rfl) h3 (hval 3 _ v3 rfl rfl)
  have hd0 := bulk_arg hk (d := d0) (by simp)
  have hd2 := bulk_arg hk (d := d2) (by simp)
  have hd3 := bulk_arg hk (d := d3) (by simp)
  have hok := okL_of a2 (by omega)
  have hsx := wtE_small no (x := x) (by omega)
  refine ((c_LogFrames l no x bb ⟨[], []⟩ hok ⟨i64_mm b2, (goodE_wf c2).ch⟩ hsx.1 hsx.2 (by omega)).run (G.init W) W _ (sim_init W) ⟨rfl, fun i hi => ?_⟩).mono fun e W' ⟨r, H', σ', v, he, ⟨hr, _⟩, hE, _, hv⟩ => ?_
  · match i, hi with
    | 0, _ => exact a1
    | 1, _ => exact b1
    | 2, _ => exact c1
    | 3, _ => exact e1
  · subst hr
    cases hv
    have hp : ∀ t ∈ Try.f4.params.toList, Try.prog.readableRec t = true ∧ t < Try.prog.types.size := by
      rw [Try.params4]
      intro t ht
      simp only [List.mem_cons, List.not_mem_nil, or_false] at ht
      rcases ht with rfl | rfl | rfl | rfl <;> exact ⟨by kernel_rfl, by decide +kernel⟩
    exact ⟨_, he, post_of_old (tb := 4) hW' rfl hE.below laidOut hp rfl under_bool rfl⟩
set_option maxRecDepth 100000 in
theorem lifted_LogFrames (os : Os) (started : os.Started) (H : Type) (enc : TypeId × Value → H) (F : Stop.Interp) :
    ReturnsInHanded {} Try.checked os 4 .any ((Rows.OpenSpec.upto Rows.logFramesSpec).pre6 enc Try.prog Try.f4 Rows.logFramesUptoRow.domain false) (((Rows.OpenSpec.upto Rows.logFramesSpec).at F).post enc Try.prog Try.f4 false true false false) := by
  refine returnsInHanded_of_cond (C := Try.checked) (s := Rows.OpenSpec.upto Rows.logFramesSpec) (k := Rows.uptoSmall) rfl own started (by kernel_rfl) Try.func4
    (OpenSpec.witness (enc := enc) (C := Try.checked) (s := Rows.OpenSpec.upto Rows.logFramesSpec) (k := Rows.uptoSmall) rfl false ⟨#[], #[.slice none 0 0, .int .i64 0, .agg #[.int .i64 0, .slice none 0 0], .slice none 0 0], []⟩ 8 (by kernel_rfl) (by kernel_rfl) (by kernel_rfl)
      (x := ([.nil, .lit (.int .i64 0), .agg [.lit (.int .i64 0), .nil], .nil], [], [])) (by kernel_rfl) rfl (by kernel_rfl)) ?_
  intro W base args ds gs before hval hW _ hk _
  exact contract_LogFrames H enc W base args ds gs before hval hW hk
theorem over_LogFrames : Rows.logFramesUptoRow.holds Try.pinned (Rows.OpenSpec.upto Rows.logFramesSpec) :=
  OpenClaim.holds_of_cond 4 Try.f4 rfl rfl rfl rfl rfl rfl rfl ⟨rfl, rfl, rfl, rfl, rfl⟩ rfl rfl rfl rfl rfl (by kernel_rfl) Try.func4 (by kernel_rfl)
    (of_decide_eq_true (by kernel_rfl)) (by unfold Func.isWrapper; ((rw [if_neg (by decide +kernel)]; exact ⟨rfl, rfl⟩)))
    (fun os started H enc _ F => lifted_LogFrames os started H enc F)
theorem logFramesUpto_holds : Rows.LogFramesUptoSaid := over_LogFrames
end Go.Proofs.Ytdlbbcjacjockaa
