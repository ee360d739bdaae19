/-
  LogSinks returns true for every number and every list of entries, and leaves them as they were, where what comes in is of bulk at most 1048576.
-/
import Derived.Test.YtdlbbcjacjockaaKJa
import Derived.Test.YtdlbbcjacjockaaKKd
set_option maxRecDepth 100000
set_option linter.unusedSimpArgs false
set_option linter.unusedVariables false
namespace Go.Proofs.Ytdlbbcjacjockaa
open Go Fw Go.RowKit Go.ChangeShapes
theorem goodX_of {x : Ent} (h : goodE x) (hxb : wtE x ≤ 1048576) : GoodX x := by
  obtain ⟨w1, w2⟩ := wtE_small x.no hxb
  refine ⟨goodE_wf h, w1, w2, w1.ch, fun c hcm => ⟨(w1.row c hcm).1, fun v hv => ?_⟩⟩
  have hw : wtE x = (x.ch.map wtC).sum + 3 := rfl
  have h1 := mem_sum wtC hcm
  have hw2 : wtC c = c.rel.size + (c.row.map wtV).sum + 4 := rfl
  have h2 := mem_sum wtV hv
  have := sizeV_wt v
  omega
theorem len_three (l : List Ent) : 3 * l.length ≤ (l.map wtE).sum := by
  induction l with
  | nil => simp
  | cons a l ih => simp only [List.map_cons, List.sum_cons, List.length_cons, wtE]; omega
theorem own : ownKnob Try.prog.godebug = none := by kernel_rfl
theorem laidOut : laidOutB Try.prog = true := by kernel_rfl
theorem under_bool : Try.prog.underlying 4 = some .bool := by kernel_rfl
theorem contract_LogSinks (H : Type) (enc : TypeId × Value → H) (W : World) (base : Nat) (args : Array Value) (ds gs : List (DataW H)) (before : List MemPlace)
    (hval : ∀ (j : Nat) t v, Try.f7.params[j]? = some t → args[j]? = some v → Value.okWide Try.prog W .any base t v)
    (hW : DataW.Whole enc Try.prog Try.f7.params.toList Rows.logSinksSpec.vars false W args.toList ds gs before) (hk : Rows.uptoSmall H (ds ++ gs) = true) :
    Calls Try.prog 7 args W fun e W' => ∃ v, e = .returned v ∧ Rows.logSinksSpec.post enc Try.prog Try.f7 false true false false W args v W' := by
  have hW' := hW
  obtain ⟨p, q, hA0, hV, rfl, hfz, hnd⟩ := hW
  have hA : DataW.TrodAll enc Try.prog W 0 (fun _ => true) true Try.f7.params.toList args.toList ds p := hA0
  rw [Try.params7] at hA hval
  obtain ⟨v0, v1, d0, d1, p0, p1, rfl, rfl, rfl, h0, h1⟩ := trodAll_two hA
  obtain ⟨rfl, rfl⟩ := trodVars_none hV
  obtain ⟨x0, a0, b0, c0⟩ := arg_one (bk := Rows.uptoBulk) (fun n => opens_int (isBulk H) ty_int3) ty_agg3 (fun _ => rfl) h0 (hval 0 _ v0 rfl rfl)
  obtain ⟨x1, a1, b1, c1⟩ := arg_one (bk := Rows.uptoBulk) (fun n => opens_ents n) ty_agg22 (fun _ => rfl) h1 (hval 1 _ v1 rfl rfl)
  have hd0 := bulk_arg hk (d := d0) (by simp)
  have hd1 := bulk_arg hk (d := d1) (by simp)
  have hgx : ∀ x ∈ x1, GoodX x := fun x hx => goodX_of (b1 x hx) (by have := mem_sum wtE hx; omega)
  have hln : x1.length ≤ 1000000 := by have := len_three x1; omega
  refine ((c_LogSinks x1 x0 ⟨[], []⟩ hgx hln).run (G.init W) W _ (sim_init W) ⟨rfl, fun i hi => ?_⟩).mono fun e W' ⟨r, H', σ', v, he, ⟨hr, _⟩, hE, _, hv⟩ => ?_
  · match i, hi with
    | 0, _ => exact a0
    | 1, _ => exact a1
  · subst hr
    cases hv
    have hp : ∀ t ∈ Try.f7.params.toList, Try.prog.readableRec t = true ∧ t < Try.prog.types.size := by
      rw [Try.params7]
      intro t ht
      simp only [List.mem_cons, List.not_mem_nil, or_false] at ht
      rcases ht with rfl | rfl <;> exact ⟨by kernel_rfl, by decide +kernel⟩
    exact ⟨_, he, post_of_old (tb := 4) hW' rfl hE.below.toBelow laidOut hp rfl under_bool rfl⟩
set_option maxRecDepth 100000 in
theorem lifted_LogSinks (os : Os) (started : os.Started) (H : Type) (enc : TypeId × Value → H) (F : Stop.Interp) :
    ReturnsInHanded {} Try.checked os 7 .any ((Rows.OpenSpec.upto Rows.logSinksSpec).pre6 enc Try.prog Try.f7 Rows.logSinksUptoRow.domain false) (((Rows.OpenSpec.upto Rows.logSinksSpec).at F).post enc Try.prog Try.f7 false true false false) := by
  refine returnsInHanded_of_cond (C := Try.checked) (s := Rows.OpenSpec.upto Rows.logSinksSpec) (k := Rows.uptoSmall) rfl own started (by kernel_rfl) Try.func7
    (OpenSpec.witness (enc := enc) (C := Try.checked) (s := Rows.OpenSpec.upto Rows.logSinksSpec) (k := Rows.uptoSmall) rfl false ⟨#[], #[.int .i64 0, .slice none 0 0], []⟩ 8 (by kernel_rfl) (by kernel_rfl) (by kernel_rfl)
      (x := ([.lit (.int .i64 0), .nil], [], [])) (by kernel_rfl) rfl (by kernel_rfl)) ?_
  intro W base args ds gs before hval hW _ hk _
  exact contract_LogSinks H enc W base args ds gs before hval hW hk
theorem over_LogSinks : Rows.logSinksUptoRow.holds Try.pinned (Rows.OpenSpec.upto Rows.logSinksSpec) :=
  OpenClaim.holds_of_cond 7 Try.f7 rfl rfl rfl rfl rfl rfl rfl ⟨rfl, rfl, rfl, rfl, rfl⟩ rfl rfl rfl rfl rfl (by kernel_rfl) Try.func7 (by kernel_rfl)
    (of_decide_eq_true (by kernel_rfl)) (by unfold Func.isWrapper; ((rw [if_neg (by decide +kernel)]; exact ⟨rfl, rfl⟩)))
    (fun os started H enc _ F => lifted_LogSinks os started H enc F)
theorem logSinksUpto_holds : Rows.LogSinksUptoSaid := over_LogSinks
end Go.Proofs.Ytdlbbcjacjockaa
