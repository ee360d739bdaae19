/-
  CqChecks returns true for every base and all queries, and leaves them as they were, where what comes in is of bulk at most 1048576.
-/
import Derived.Test.YtababmnmkmgbbaaGreatKJr
import Derived.Test.YtababmnmkmgbbaaGreatKQn
set_option maxRecDepth 100000
set_option linter.unusedSimpArgs false
set_option linter.unusedVariables false
namespace Go.Proofs.YtababmnmkmgbbaaGreat
open Go Fw Go.RowKit Go.ChangeShapes
theorem own : ownKnob Tryz.prog.godebug = none := by kernel_rfl
theorem laidOut : laidOutB Tryz.prog = true := by kernel_rfl
theorem under_bool : Tryz.prog.underlying 4 = some .bool := by kernel_rfl
theorem contract_CqChecks (H : Type) (enc : TypeId × Value → H) (W : World) (base : Nat) (args : Array Value) (ds gs : List (DataW H)) (before : List MemPlace)
    (hval : ∀ (j : Nat) t v, Tryz.f4.params[j]? = some t → args[j]? = some v → Value.okWide Tryz.prog W .any base t v)
    (hW : DataW.Whole enc Tryz.prog Tryz.f4.params.toList Rows.cqChecksSpec.vars false W args.toList ds gs before) (hk : Rows.uptoSmall H (ds ++ gs) = true) :
    Calls Tryz.prog 4 args W fun e W' => ∃ v, e = .returned v ∧ Rows.cqChecksSpec.post enc Tryz.prog Tryz.f4 false true false false W args v W' := by
  have hW' := hW
  obtain ⟨p, q, hA0, hV, rfl, hfz, hnd⟩ := hW
  have hA : DataW.TrodAll enc Tryz.prog W 0 (fun _ => true) true Tryz.f4.params.toList args.toList ds p := hA0
  rw [Tryz.params4] at hA hval
  obtain ⟨v0, v1, v2, d0, d1, d2, p0, p1, p2, rfl, rfl, rfl, h0, h1, h2⟩ := trodAll_three hA
  obtain ⟨rfl, rfl⟩ := trodVars_none hV
  obtain ⟨x0, a0, b0, c0⟩ := arg_one (bk := Rows.uptoBulk) (fun n => opens_base n) ty_agg23 (fun _ => rfl) h0 (hval 0 _ v0 rfl rfl)
  obtain ⟨x1, a1, b1, c1⟩ := arg_agg (bk := Rows.uptoBulk) (fun n => opens_cq n) ty_agg54 (fun _ => rfl) h1 (hval 1 _ v1 rfl rfl)
  obtain ⟨x2, a2, b2, c2⟩ := arg_agg (bk := Rows.uptoBulk) (fun n => opens_cq n) ty_agg54 (fun _ => rfl) h2 (hval 2 _ v2 rfl rfl)
  have hd0 := bulk_arg hk (d := d0) (by simp)
  have hd1 := bulk_arg hk (d := d1) (by simp)
  have hd2 := bulk_arg hk (d := d2) (by simp)
  refine ((c_CqChecks x0 x1 x2 ⟨[], []⟩ (gBase_of b0 (by omega)) (gCQ_of b1 (by omega)) (gCQ_of b2 (by omega))).run (G.init W) W _ (sim_init W) ⟨rfl, fun i hi => ?_⟩).mono fun e W' ⟨r, H', σ', v, he, ⟨hr, _⟩, hE, _, hv⟩ => ?_
  · match i, hi with
    | 0, _ => exact a0
    | 1, _ => exact a1
    | 2, _ => exact a2
  · subst hr
    cases hv
    have hp : ∀ t ∈ Tryz.f4.params.toList, Tryz.prog.readableRec t = true ∧ t < Tryz.prog.types.size := by
      rw [Tryz.params4]
      intro t ht
      simp only [List.mem_cons, List.not_mem_nil, or_false] at ht
      rcases ht with rfl | rfl | rfl <;> exact ⟨by kernel_rfl, by decide +kernel⟩
    exact ⟨_, he, post_of_old (tb := 4) hW' rfl hE.below.toBelow laidOut hp rfl under_bool rfl⟩
set_option maxRecDepth 100000 in
theorem lifted_CqChecks (os : Os) (started : os.Started) (H : Type) (enc : TypeId × Value → H) (F : Stop.Interp) :
    ReturnsInHanded {} Tryz.checked os 4 .any ((Rows.OpenSpec.upto Rows.cqChecksSpec).pre6 enc Tryz.prog Tryz.f4 Rows.cqChecksUptoRow.domain false) (((Rows.OpenSpec.upto Rows.cqChecksSpec).at F).post enc Tryz.prog Tryz.f4 false true false false) := by
  refine returnsInHanded_of_cond (C := Tryz.checked) (s := Rows.OpenSpec.upto Rows.cqChecksSpec) (k := Rows.uptoSmall) rfl own started (by kernel_rfl) Tryz.func4
    (OpenSpec.witness (enc := enc) (C := Tryz.checked) (s := Rows.OpenSpec.upto Rows.cqChecksSpec) (k := Rows.uptoSmall) rfl false ⟨#[], #[.slice none 0 0, .agg #[.slice none 0 0, .slice none 0 0], .agg #[.slice none 0 0, .slice none 0 0]], []⟩ 8 (by kernel_rfl) (by kernel_rfl) (by kernel_rfl)
      (x := ([.nil, .agg [.nil, .nil], .agg [.nil, .nil]], [], [])) (by kernel_rfl) rfl (by kernel_rfl)) ?_
  intro W base args ds gs before hval hW _ hk _
  exact contract_CqChecks H enc W base args ds gs before hval hW hk
theorem cqChecks_and {a b : Bool} (h : a = true) (k : b = true) : (a && b) = true := by rw [h, k]; rfl
theorem cqChecks_j0 : (Rows.cqChecksUptoRow.wf (OpenSpec.ofChange (Rows.OpenSpec.upto Rows.cqChecksSpec).bare)) = true := by kernel_rfl
theorem cqChecks_j1 : (laidOutB Tryz.pinned.checked.prog) = true := by kernel_rfl
theorem cqChecks_j2 : (mapsRowed Tryz.pinned.checked.prog) = true := by kernel_rfl
theorem cqChecks_j3 : (Tryz.f4.params.all (Tryz.pinned.checked.prog.readableRec ·)) = true := by kernel_rfl
theorem cqChecks_j4 : (namedTie Tryz.pinned.checked.prog Rows.cqChecksUptoRow.named (Rows.OpenSpec.upto Rows.cqChecksSpec).bare.vars) = true := by kernel_rfl
theorem cqChecks_j5 : ((Rows.cqChecksUptoRow.stops == [])) = true := by kernel_rfl
theorem cqChecks_j6 : ((Tryz.pinned.checked.prog.stops == [])) = true := by kernel_rfl
theorem cqChecks_j7 : ((Rows.cqChecksUptoRow.knobs == [])) = true := by kernel_rfl
theorem cqChecks_j8 : ((Tryz.pinned.checked.prog.stopKnobs == [])) = true := by kernel_rfl
theorem cqChecks_j9 : ((Rows.cqChecksUptoRow.inPlace == Tryz.pinned.checked.prog.inPlace 4)) = true := by kernel_rfl
theorem cqChecks_j10 : ((Rows.cqChecksUptoRow.unfollowed == Tryz.pinned.checked.prog.unfollowed 4)) = true := by kernel_rfl
theorem cqChecks_j11 : ((Rows.cqChecksUptoRow.recurses == Tryz.pinned.checked.prog.recurses 4)) = true := by kernel_rfl
theorem cqChecks_j12 : ((Rows.cqChecksUptoRow.named == Tryz.pinned.checked.prog.varsNamed 4)) = true := by kernel_rfl
theorem cqChecks_j13 : ((Rows.cqChecksUptoRow.maps == (Tryz.f4.params.toList ++ (Rows.OpenSpec.upto Rows.cqChecksSpec).bare.plain.varTypes Tryz.pinned.checked.prog).any (Tryz.pinned.checked.prog.mapsRec ·))) = true := by kernel_rfl
theorem cqChecks_j14 : ((Rows.cqChecksUptoRow.ifaces == (Tryz.f4.params.toList ++ (Rows.OpenSpec.upto Rows.cqChecksSpec).bare.plain.varTypes Tryz.pinned.checked.prog).any (Tryz.pinned.checked.prog.ifacesRec ·))) = true := by kernel_rfl
theorem cqChecks_j15 : ((Rows.cqChecksUptoRow.mapsOut == Tryz.pinned.checked.prog.mapsAmong Tryz.f4.resultTypes.toList)) = true := by kernel_rfl
theorem cqChecks_j16 : ((Rows.cqChecksUptoRow.loops == (Tryz.f4.params.toList ++ (Rows.OpenSpec.upto Rows.cqChecksSpec).bare.plain.varTypes Tryz.pinned.checked.prog).any (Tryz.pinned.checked.prog.loopsFrom ·))) = true := by kernel_rfl
theorem cqChecks_j17 : ((Rows.cqChecksUptoRow.wideKeys == (Tryz.f4.params.toList ++ (Rows.OpenSpec.upto Rows.cqChecksSpec).bare.plain.varTypes Tryz.pinned.checked.prog ++ Tryz.f4.resultTypes.toList).any (Tryz.pinned.checked.prog.wideKeysFrom ·))) = true := by kernel_rfl
theorem cqChecks_j18 : ((Rows.OpenSpec.upto Rows.cqChecksSpec).bare.vars.all (Tryz.pinned.checked.prog.varReadable ·)) = true := by kernel_rfl
theorem cqChecks_j19 : (Tryz.f4.resultTypes.all (fun t => Tryz.pinned.checked.prog.readableRec t && decide (t < Tryz.pinned.checked.prog.types.size))) = true := by kernel_rfl
theorem cqChecks_j20 : ((Rows.cqChecksUptoRow.ifacesOut == Tryz.f4.resultTypes.toList.any (Tryz.pinned.checked.prog.ifacesRec ·))) = true := by kernel_rfl
theorem cqChecks_j21 : ((Rows.cqChecksUptoRow.loopsOut == Tryz.f4.resultTypes.toList.any (Tryz.pinned.checked.prog.loopsFrom ·))) = true := by kernel_rfl
theorem cqChecks_j22 : ((Rows.cqChecksUptoRow.plainKeys == Tryz.pinned.checked.prog.plainKeys)) = true := by kernel_rfl
theorem cqChecks_j23 : (Rows.cqChecksUptoRow.shortTexts.isNone) = true := by kernel_rfl
theorem cqChecks_j24 : (Tryz.pinned.checked.prog.stopsHeard) = true := by kernel_rfl
theorem cqChecks_j25 : (Tryz.pinned.checked.prog.mayEnter) = true := by kernel_rfl
theorem cqChecks_j26 : ((Rows.cqChecksUptoRow.lifted == Tryz.pinned.checked.prog.liftsFinal)) = true := by kernel_rfl
theorem cqChecks_j27 : ((Tryz.pinned.checked.prog.make == some Rows.cqChecksUptoRow.make)) = true := by kernel_rfl
theorem cqChecks_j28 : ((Rows.cqChecksUptoRow.kinds == (if Rows.cqChecksUptoRow.domain.isEmpty then [] else Tryz.f4.params.toList.map fun t => match Tryz.pinned.checked.prog.underlying t with | some (.int k) => some k | _ => none))) = true := by kernel_rfl
theorem cqChecks_j29 : ((Rows.cqChecksUptoRow.pinned == Rows.cqChecksUptoRow.pinnedBy)) = true := by kernel_rfl
theorem cqChecks_j30 : ((Rows.cqChecksUptoRow.veiled == (Tryz.f4.params.toList ++ (Rows.OpenSpec.upto Rows.cqChecksSpec).bare.plain.varTypes Tryz.pinned.checked.prog ++ Tryz.f4.resultTypes.toList).any (Tryz.pinned.checked.prog.veiledRec ·))) = true := by kernel_rfl
theorem cqChecks_j31 : (Rows.cqChecksUptoRow.veiledFits Tryz.pinned.checked.prog Tryz.f4.params.toList (Tryz.f4.params.toList ++ (Rows.OpenSpec.upto Rows.cqChecksSpec).bare.plain.varTypes Tryz.pinned.checked.prog ++ Tryz.f4.resultTypes.toList)) = true := by kernel_rfl
theorem cqChecks_joined : joinedFacts Tryz.pinned.checked.prog 4 Tryz.f4 (Rows.OpenSpec.upto Rows.cqChecksSpec).bare Rows.cqChecksUptoRow = true := by
  unfold joinedFacts
  exact cqChecks_and (cqChecks_and (cqChecks_and (cqChecks_and (cqChecks_and (cqChecks_and (cqChecks_and (cqChecks_and (cqChecks_and (cqChecks_and (cqChecks_and (cqChecks_and (cqChecks_and (cqChecks_and (cqChecks_and (cqChecks_and (cqChecks_and (cqChecks_and (cqChecks_and (cqChecks_and (cqChecks_and (cqChecks_and (cqChecks_and (cqChecks_and (cqChecks_and (cqChecks_and (cqChecks_and (cqChecks_and (cqChecks_and (cqChecks_and (cqChecks_and (cqChecks_j0) cqChecks_j1) cqChecks_j2) cqChecks_j3) cqChecks_j4) cqChecks_j5) cqChecks_j6) cqChecks_j7) cqChecks_j8) cqChecks_j9) cqChecks_j10) cqChecks_j11) cqChecks_j12) cqChecks_j13) cqChecks_j14) cqChecks_j15) cqChecks_j16) cqChecks_j17) cqChecks_j18) cqChecks_j19) cqChecks_j20) cqChecks_j21) cqChecks_j22) cqChecks_j23) cqChecks_j24) cqChecks_j25) cqChecks_j26) cqChecks_j27) cqChecks_j28) cqChecks_j29) cqChecks_j30) cqChecks_j31
theorem cqChecks_named : Tryz.pinned.checked.prog.funcNamed Rows.cqChecksUptoRow.func = some 4 := by kernel_rfl
theorem cqChecks_inst : Tryz.f4.isInstance Tryz.pinned.checked.prog Rows.cqChecksUptoRow.origin Rows.cqChecksUptoRow.targs := of_decide_eq_true (by kernel_rfl)
theorem cqChecks_wrap : Tryz.f4.isWrapper Tryz.pinned.checked.prog Rows.cqChecksUptoRow.wrapper Rows.cqChecksUptoRow.mainSum := by unfold Func.isWrapper; ((rw [if_neg (by decide +kernel)]; exact ⟨rfl, rfl⟩))
theorem over_CqChecks : Rows.cqChecksUptoRow.holds Tryz.pinned (Rows.OpenSpec.upto Rows.cqChecksSpec) :=
  OpenClaim.holds_of_cond 4 Tryz.f4 rfl rfl rfl rfl rfl rfl rfl ⟨rfl, rfl, rfl, rfl, rfl⟩ rfl rfl rfl rfl rfl cqChecks_named Tryz.func4 cqChecks_joined cqChecks_inst cqChecks_wrap
    (fun os started H enc _ F => lifted_CqChecks os started H enc F)
theorem cqChecksUpto_holds : Rows.CqChecksUptoSaid := over_CqChecks
end Go.Proofs.YtababmnmkmgbbaaGreat
