/-
  CqRuns returns true for every base and every query, and leaves them as they were, where what comes in is of bulk at most 1048576.
-/
import Derived.Test.YtababmnmkmgbbaaGreatKJr
import Derived.Test.YtababmnmkmgbbaaGreatKQxf
set_option maxRecDepth 100000
set_option linter.unusedSimpArgs false
set_option linter.unusedVariables false
namespace Go.Proofs.YtababmnmkmgbbaaGreat
open Go Fw Go.RowKit Go.ChangeShapes
theorem own : ownKnob Tryz.prog.godebug = none := by kernel_rfl
theorem laidOut : laidOutB Tryz.prog = true := by kernel_rfl
theorem under_bool : Tryz.prog.underlying 4 = some .bool := by kernel_rfl
theorem contract_CqRuns (H : Type) (enc : TypeId × Value → H) (W : World) (base : Nat) (args : Array Value) (ds gs : List (DataW H)) (before : List MemPlace)
    (hval : ∀ (j : Nat) t v, Tryz.f6.params[j]? = some t → args[j]? = some v → Value.okWide Tryz.prog W .any base t v)
    (hW : DataW.Whole enc Tryz.prog Tryz.f6.params.toList Rows.cqRunsSpec.vars false W args.toList ds gs before) (hk : Rows.uptoSmall H (ds ++ gs) = true) :
    Calls Tryz.prog 6 args W fun e W' => ∃ v, e = .returned v ∧ Rows.cqRunsSpec.post enc Tryz.prog Tryz.f6 false true false false W args v W' := by
  have hW' := hW
  obtain ⟨p, q, hA0, hV, rfl, hfz, hnd⟩ := hW
  have hA : DataW.TrodAll enc Tryz.prog W 0 (fun _ => true) true Tryz.f6.params.toList args.toList ds p := hA0
  rw [Tryz.params6] at hA hval
  obtain ⟨v0, v1, d0, d1, p0, p1, rfl, rfl, rfl, h0, h1⟩ := trodAll_two hA
  obtain ⟨rfl, rfl⟩ := trodVars_none hV
  obtain ⟨x0, a0, b0, c0⟩ := arg_one (bk := Rows.uptoBulk) (fun n => opens_base n) ty_agg23 (fun _ => rfl) h0 (hval 0 _ v0 rfl rfl)
  obtain ⟨x1, a1, b1, c1⟩ := arg_agg (bk := Rows.uptoBulk) (fun n => opens_cq n) ty_agg54 (fun _ => rfl) h1 (hval 1 _ v1 rfl rfl)
  have hd0 := bulk_arg hk (d := d0) (by simp)
  have hd1 := bulk_arg hk (d := d1) (by simp)
  refine ((c_CqRuns x0 x1 ⟨[], []⟩ (gBase_of b0 (by omega)) (gCQ_of b1 (by omega))).run (G.init W) W _ (sim_init W) ⟨rfl, fun i hi => ?_⟩).mono fun e W' ⟨r, H', σ', v, he, ⟨hr, _⟩, hE, _, hv⟩ => ?_
  · match i, hi with
    | 0, _ => exact a0
    | 1, _ => exact a1
  · subst hr
    cases hv
    have hp : ∀ t ∈ Tryz.f6.params.toList, Tryz.prog.readableRec t = true ∧ t < Tryz.prog.types.size := by
      rw [Tryz.params6]
      intro t ht
      simp only [List.mem_cons, List.not_mem_nil, or_false] at ht
      rcases ht with rfl | rfl <;> exact ⟨by kernel_rfl, by decide +kernel⟩
    exact ⟨_, he, post_of_old (tb := 4) hW' rfl hE.below.toBelow laidOut hp rfl under_bool rfl⟩
set_option maxRecDepth 100000 in
theorem lifted_CqRuns (os : Os) (started : os.Started) (H : Type) (enc : TypeId × Value → H) (F : Stop.Interp) :
    ReturnsInHanded {} Tryz.checked os 6 .any ((Rows.OpenSpec.upto Rows.cqRunsSpec).pre6 enc Tryz.prog Tryz.f6 Rows.cqRunsUptoRow.domain false) (((Rows.OpenSpec.upto Rows.cqRunsSpec).at F).post enc Tryz.prog Tryz.f6 false true false false) := by
  refine returnsInHanded_of_cond (C := Tryz.checked) (s := Rows.OpenSpec.upto Rows.cqRunsSpec) (k := Rows.uptoSmall) rfl own started (by kernel_rfl) Tryz.func6
    (OpenSpec.witness (enc := enc) (C := Tryz.checked) (s := Rows.OpenSpec.upto Rows.cqRunsSpec) (k := Rows.uptoSmall) rfl false ⟨#[], #[.slice none 0 0, .agg #[.slice none 0 0, .slice none 0 0]], []⟩ 8 (by kernel_rfl) (by kernel_rfl) (by kernel_rfl)
      (x := ([.nil, .agg [.nil, .nil]], [], [])) (by kernel_rfl) rfl (by kernel_rfl)) ?_
  intro W base args ds gs before hval hW _ hk _
  exact contract_CqRuns H enc W base args ds gs before hval hW hk
theorem cqRuns_and {a b : Bool} (h : a = true) (k : b = true) : (a && b) = true := by rw [h, k]; rfl
theorem cqRuns_j0 : (Rows.cqRunsUptoRow.wf (OpenSpec.ofChange (Rows.OpenSpec.upto Rows.cqRunsSpec).bare)) = true := by kernel_rfl
theorem cqRuns_j1 : (laidOutB Tryz.pinned.checked.prog) = true := by kernel_rfl
theorem cqRuns_j2 : (mapsRowed Tryz.pinned.checked.prog) = true := by kernel_rfl
theorem cqRuns_j3 : (Tryz.f6.params.all (Tryz.pinned.checked.prog.readableRec ·)) = true := by kernel_rfl
theorem cqRuns_j4 : (namedTie Tryz.pinned.checked.prog Rows.cqRunsUptoRow.named (Rows.OpenSpec.upto Rows.cqRunsSpec).bare.vars) = true := by kernel_rfl
theorem cqRuns_j5 : ((Rows.cqRunsUptoRow.stops == [])) = true := by kernel_rfl
theorem cqRuns_j6 : ((Tryz.pinned.checked.prog.stops == [])) = true := by kernel_rfl
theorem cqRuns_j7 : ((Rows.cqRunsUptoRow.knobs == [])) = true := by kernel_rfl
theorem cqRuns_j8 : ((Tryz.pinned.checked.prog.stopKnobs == [])) = true := by kernel_rfl
theorem cqRuns_j9 : ((Rows.cqRunsUptoRow.inPlace == Tryz.pinned.checked.prog.inPlace 6)) = true := by kernel_rfl
theorem cqRuns_j10 : ((Rows.cqRunsUptoRow.unfollowed == Tryz.pinned.checked.prog.unfollowed 6)) = true := by kernel_rfl
theorem cqRuns_j11 : ((Rows.cqRunsUptoRow.recurses == Tryz.pinned.checked.prog.recurses 6)) = true := by kernel_rfl
theorem cqRuns_j12 : ((Rows.cqRunsUptoRow.named == Tryz.pinned.checked.prog.varsNamed 6)) = true := by kernel_rfl
theorem cqRuns_j13 : ((Rows.cqRunsUptoRow.maps == (Tryz.f6.params.toList ++ (Rows.OpenSpec.upto Rows.cqRunsSpec).bare.plain.varTypes Tryz.pinned.checked.prog).any (Tryz.pinned.checked.prog.mapsRec ·))) = true := by kernel_rfl
theorem cqRuns_j14 : ((Rows.cqRunsUptoRow.ifaces == (Tryz.f6.params.toList ++ (Rows.OpenSpec.upto Rows.cqRunsSpec).bare.plain.varTypes Tryz.pinned.checked.prog).any (Tryz.pinned.checked.prog.ifacesRec ·))) = true := by kernel_rfl
theorem cqRuns_j15 : ((Rows.cqRunsUptoRow.mapsOut == Tryz.pinned.checked.prog.mapsAmong Tryz.f6.resultTypes.toList)) = true := by kernel_rfl
theorem cqRuns_j16 : ((Rows.cqRunsUptoRow.loops == (Tryz.f6.params.toList ++ (Rows.OpenSpec.upto Rows.cqRunsSpec).bare.plain.varTypes Tryz.pinned.checked.prog).any (Tryz.pinned.checked.prog.loopsFrom ·))) = true := by kernel_rfl
theorem cqRuns_j17 : ((Rows.cqRunsUptoRow.wideKeys == (Tryz.f6.params.toList ++ (Rows.OpenSpec.upto Rows.cqRunsSpec).bare.plain.varTypes Tryz.pinned.checked.prog ++ Tryz.f6.resultTypes.toList).any (Tryz.pinned.checked.prog.wideKeysFrom ·))) = true := by kernel_rfl
theorem cqRuns_j18 : ((Rows.OpenSpec.upto Rows.cqRunsSpec).bare.vars.all (Tryz.pinned.checked.prog.varReadable ·)) = true := by kernel_rfl
theorem cqRuns_j19 : (Tryz.f6.resultTypes.all (fun t => Tryz.pinned.checked.prog.readableRec t && decide (t < Tryz.pinned.checked.prog.types.size))) = true := by kernel_rfl
theorem cqRuns_j20 : ((Rows.cqRunsUptoRow.ifacesOut == Tryz.f6.resultTypes.toList.any (Tryz.pinned.checked.prog.ifacesRec ·))) = true := by kernel_rfl
theorem cqRuns_j21 : ((Rows.cqRunsUptoRow.loopsOut == Tryz.f6.resultTypes.toList.any (Tryz.pinned.checked.prog.loopsFrom ·))) = true := by kernel_rfl
theorem cqRuns_j22 : ((Rows.cqRunsUptoRow.plainKeys == Tryz.pinned.checked.prog.plainKeys)) = true := by kernel_rfl
theorem cqRuns_j23 : (Rows.cqRunsUptoRow.shortTexts.isNone) = true := by kernel_rfl
theorem cqRuns_j24 : (Tryz.pinned.checked.prog.stopsHeard) = true := by kernel_rfl
theorem cqRuns_j25 : (Tryz.pinned.checked.prog.mayEnter) = true := by kernel_rfl
theorem cqRuns_j26 : ((Rows.cqRunsUptoRow.lifted == Tryz.pinned.checked.prog.liftsFinal)) = true := by kernel_rfl
theorem cqRuns_j27 : ((Tryz.pinned.checked.prog.make == some Rows.cqRunsUptoRow.make)) = true := by kernel_rfl
theorem cqRuns_j28 : ((Rows.cqRunsUptoRow.kinds == (if Rows.cqRunsUptoRow.domain.isEmpty then [] else Tryz.f6.params.toList.map fun t => match Tryz.pinned.checked.prog.underlying t with | some (.int k) => some k | _ => none))) = true := by kernel_rfl
theorem cqRuns_j29 : ((Rows.cqRunsUptoRow.pinned == Rows.cqRunsUptoRow.pinnedBy)) = true := by kernel_rfl
theorem cqRuns_j30 : ((Rows.cqRunsUptoRow.veiled == (Tryz.f6.params.toList ++ (Rows.OpenSpec.upto Rows.cqRunsSpec).bare.plain.varTypes Tryz.pinned.checked.prog ++ Tryz.f6.resultTypes.toList).any (Tryz.pinned.checked.prog.veiledRec ·))) = true := by kernel_rfl
theorem cqRuns_j31 : (Rows.cqRunsUptoRow.veiledFits Tryz.pinned.checked.prog Tryz.f6.params.toList (Tryz.f6.params.toList ++ (Rows.OpenSpec.upto Rows.cqRunsSpec).bare.plain.varTypes Tryz.pinned.checked.prog ++ Tryz.f6.resultTypes.toList)) = true := by kernel_rfl
theorem cqRuns_joined : joinedFacts Tryz.pinned.checked.prog 6 Tryz.f6 (Rows.OpenSpec.upto Rows.cqRunsSpec).bare Rows.cqRunsUptoRow = true := by
  unfold joinedFacts
  exact cqRuns_and (cqRuns_and (cqRuns_and (cqRuns_and (cqRuns_and (cqRuns_and (cqRuns_and (cqRuns_and (cqRuns_and (cqRuns_and (cqRuns_and (cqRuns_and (cqRuns_and (cqRuns_and (cqRuns_and (cqRuns_and (cqRuns_and (cqRuns_and (cqRuns_and (cqRuns_and (cqRuns_and (cqRuns_and (cqRuns_and (cqRuns_and (cqRuns_and (cqRuns_and (cqRuns_and (cqRuns_and (cqRuns_and (cqRuns_and (cqRuns_and (cqRuns_j0) cqRuns_j1) cqRuns_j2) cqRuns_j3) cqRuns_j4) cqRuns_j5) cqRuns_j6) cqRuns_j7) cqRuns_j8) cqRuns_j9) cqRuns_j10) cqRuns_j11) cqRuns_j12) cqRuns_j13) cqRuns_j14) cqRuns_j15) cqRuns_j16) cqRuns_j17) cqRuns_j18) cqRuns_j19) cqRuns_j20) cqRuns_j21) cqRuns_j22) cqRuns_j23) cqRuns_j24) cqRuns_j25) cqRuns_j26) cqRuns_j27) cqRuns_j28) cqRuns_j29) cqRuns_j30) cqRuns_j31
theorem cqRuns_named : Tryz.pinned.checked.prog.funcNamed Rows.cqRunsUptoRow.func = some 6 := by kernel_rfl
theorem cqRuns_inst : Tryz.f6.isInstance Tryz.pinned.checked.prog Rows.cqRunsUptoRow.origin Rows.cqRunsUptoRow.targs := of_decide_eq_true (by kernel_rfl)
theorem cqRuns_wrap : Tryz.f6.isWrapper Tryz.pinned.checked.prog Rows.cqRunsUptoRow.wrapper Rows.cqRunsUptoRow.mainSum := by unfold Func.isWrapper; ((rw [if_neg (by decide +kernel)]; exact ⟨rfl, rfl⟩))
theorem over_CqRuns : Rows.cqRunsUptoRow.holds Tryz.pinned (Rows.OpenSpec.upto Rows.cqRunsSpec) :=
  OpenClaim.holds_of_cond 6 Tryz.f6 rfl rfl rfl rfl rfl rfl rfl ⟨rfl, rfl, rfl, rfl, rfl⟩ rfl rfl rfl rfl rfl cqRuns_named Tryz.func6 cqRuns_joined cqRuns_inst cqRuns_wrap
    (fun os started H enc _ F => lifted_CqRuns os started H enc F)
theorem cqRunsUpto_holds : Rows.CqRunsUptoSaid := over_CqRuns
