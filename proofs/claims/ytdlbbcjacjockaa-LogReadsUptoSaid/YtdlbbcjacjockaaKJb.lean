/-
  LogReads returns true for every list of entries, every place, every byte and every cut, and leaves them as they were, where what comes in is of bulk at most 1048576.
-/
import Derived.Test.YtdlbbcjacjockaaKJa
import Derived.Test.YtdlbbcjacjockaaKTb
set_option maxRecDepth 100000
set_option linter.unusedSimpArgs false
set_option linter.unusedVariables false
namespace Go.Proofs.Ytdlbbcjacjockaa
open Go Fw Go.RowKit Go.ChangeShapes
theorem okL_of {l : List Ent} (h : ∀ x ∈ l, goodE x) (hb : (l.map wtE).sum + 1 ≤ 1048576) : OkL l := by
  have hx : ∀ x ∈ l, wtE x ≤ 1048576 := fun x hx => by have := mem_sum wtE hx; omega
  have hl := len_sum wtE (fun x => by simp only [wtE]; omega) l
  have hg := gat_wt l 0 hx
  exact ⟨by omega, fun x hm => goodE_wf (h x hm), fun x hm n _ => (wtE_small n (hx x hm)).1, fun x hm => (wtE_small 0 (hx x hm)).2, by omega⟩
theorem own : ownKnob Try.prog.godebug = none := by kernel_rfl
theorem laidOut : laidOutB Try.prog = true := by kernel_rfl
theorem under_bool : Try.prog.underlying 4 = some .bool := by kernel_rfl
theorem u8_mm {n : Int} (h : IntKind.u8.min ≤ n ∧ n ≤ IntKind.u8.max) : ∃ c : UInt8, n = (c.toNat : Int) := by
  have h1 : IntKind.u8.min = 0 := by decide
  have h2 : IntKind.u8.max = 255 := by decide
  refine ⟨UInt8.ofNat n.toNat, ?_⟩
  rw [ofNat_toNat (by omega)]; omega
theorem contract_LogReads (H : Type) (enc : TypeId × Value → H) (W : World) (base : Nat) (args : Array Value) (ds gs : List (DataW H)) (before : List MemPlace)
    (hval : ∀ (j : Nat) t v, Try.f3.params[j]? = some t → args[j]? = some v → Value.okWide Try.prog W .any base t v)
    (hW : DataW.Whole enc Try.prog Try.f3.params.toList Rows.logReadsSpec.vars false W args.toList ds gs before) (hk : Rows.uptoSmall H (ds ++ gs) = true) :
    Calls Try.prog 3 args W fun e W' => ∃ v, e = .returned v ∧ Rows.logReadsSpec.post enc Try.prog Try.f3 false true false false W args v W' := by
  have hW' := hW
  obtain ⟨p, q, hA0, hV, rfl, hfz, hnd⟩ := hW
  have hA : DataW.TrodAll enc Try.prog W 0 (fun _ => true) true Try.f3.params.toList args.toList ds p := hA0
  rw [Try.params3] at hA hval
  obtain ⟨v0, v1, v2, v3, d0, d1, d2, d3, p0, p1, p2, p3, rfl, rfl, rfl, h0, h1, h2, h3⟩ := trodAll_four hA
  obtain ⟨rfl, rfl⟩ := trodVars_none hV
  have hb := isBulk H
  obtain ⟨l, a1, a2, a3⟩ := arg_one (bk := Rows.uptoBulk) (fun n => opens_ents n) ty_agg22 (fun _ => rfl) h0 (hval 0 _ v0 rfl rfl)
  obtain ⟨at_, b1, b2, _⟩ := arg_one (fun n => opens_int hb ty_int3) ty_agg3 (fun _ => rfl) h1 (hval 1 _ v1 rfl rfl)
  obtain ⟨by_, c1, c2, _⟩ := arg_one (fun n => opens_int hb ty_int5) ty_agg5 (fun _ => rfl) h2 (hval 2 _ v2 rfl rfl)
  obtain ⟨cut, e1, e2, _⟩ := arg_one (fun n => opens_int hb ty_int3) ty_agg3 (fun _ => rfl) h3 (hval 3 _ v3 rfl rfl)
  obtain ⟨c, rfl⟩ := u8_mm c2
  have hbd := bulk_arg hk (d := d0) (by simp)
  have hok := okL_of a2 (by omega)
  refine ((c_LogReads l at_ cut c ⟨[], []⟩ hok (i64_mm b2) (i64_mm e2)).run (G.init W) W _ (sim_init W) ⟨rfl, fun i hi => ?_⟩).mono fun e W' ⟨r, H', σ', v, he, ⟨hr, _⟩, hE, _, hv⟩ => ?_
  · match i, hi with
    | 0, _ => exact a1
    | 1, _ => exact b1
    | 2, _ => exact c1
    | 3, _ => exact e1
  · subst hr
    cases hv
    have hp : ∀ t ∈ Try.f3.params.toList, Try.prog.readableRec t = true ∧ t < Try.prog.types.size := by
      rw [Try.params3]
      intro t ht
      simp only [List.mem_cons, List.not_mem_nil, or_false] at ht
      rcases ht with rfl | rfl | rfl | rfl <;> exact ⟨by kernel_rfl, by decide +kernel⟩
    exact ⟨_, he, post_of_old (tb := 4) hW' rfl hE.below laidOut hp rfl under_bool rfl⟩
set_option maxRecDepth 100000 in
theorem lifted_LogReads (os : Os) (started : os.Started) (H : Type) (enc : TypeId × Value → H) (F : Stop.Interp) :
    ReturnsInHanded {} Try.checked os 3 .any ((Rows.OpenSpec.upto Rows.logReadsSpec).pre6 enc Try.prog Try.f3 Rows.logReadsUptoRow.domain false) (((Rows.OpenSpec.upto Rows.logReadsSpec).at F).post enc Try.prog Try.f3 false true false false) := by
  refine returnsInHanded_of_cond (C := Try.checked) (s := Rows.OpenSpec.upto Rows.logReadsSpec) (k := Rows.uptoSmall) rfl own started (by kernel_rfl) Try.func3
    (OpenSpec.witness (enc := enc) (C := Try.checked) (s := Rows.OpenSpec.upto Rows.logReadsSpec) (k := Rows.uptoSmall) rfl false ⟨#[], #[.slice none 0 0, .int .i64 0, .int .u8 0, .int .i64 0], []⟩ 8 (by kernel_rfl) (by kernel_rfl) (by kernel_rfl)
      (x := ([.nil, .lit (.int .i64 0), .lit (.int .u8 0), .lit (.int .i64 0)], [], [])) (by kernel_rfl) rfl (by kernel_rfl)) ?_
  intro W base args ds gs before hval hW _ hk _
  exact contract_LogReads H enc W base args ds gs before hval hW hk
theorem over_LogReads : Rows.logReadsUptoRow.holds Try.pinned (Rows.OpenSpec.upto Rows.logReadsSpec) :=
  OpenClaim.holds_of_cond 3 Try.f3 rfl rfl rfl rfl rfl rfl rfl ⟨rfl, rfl, rfl, rfl, rfl⟩ rfl rfl rfl rfl rfl (by kernel_rfl) Try.func3 (by kernel_rfl)
    (of_decide_eq_true (by kernel_rfl)) (by unfold Func.isWrapper; ((rw [if_neg (by decide +kernel)]; exact ⟨rfl, rfl⟩)))
    (fun os started H enc _ F => lifted_LogReads os started H enc F)
theorem logReadsUpto_holds : Rows.LogReadsUptoSaid := over_LogReads
end Go.Proofs.Ytdlbbcjacjockaa
