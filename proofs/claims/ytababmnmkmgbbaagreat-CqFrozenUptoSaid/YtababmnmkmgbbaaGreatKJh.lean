/-
  CqFrozen returns true for every base and all queries, and leaves them as they were, where what comes in is of bulk at most 1048576.
-/
import Derived.Test.YtababmnmkmgbbaaGreatKJr
import Derived.Test.YtababmnmkmgbbaaGreatKQzh
set_option maxRecDepth 100000
set_option linter.unusedSimpArgs false
set_option linter.unusedVariables false
namespace Go.Proofs.YtababmnmkmgbbaaGreat
open Go Fw Go.RowKit Go.ChangeShapes
theorem own : ownKnob Tryz.prog.godebug = none := by kernel_rfl
theorem laidOut : laidOutB Tryz.prog = true := by kernel_rfl
theorem under_bool : Tryz.prog.underlying 4 = some .bool := by kernel_rfl
theorem contract_CqFrozen (H : Type) (enc : TypeId × Value → H) (W : World) (base : Nat) (args : Array Value) (ds gs : List (DataW H)) (before : List MemPlace)
    (hval : ∀ (j : Nat) t v, Tryz.f10.params[j]? = some t → args[j]? = some v → Value.okWide Tryz.prog W .any base t v)
    (hW : DataW.Whole enc Tryz.prog Tryz.f10.params.toList Rows.cqFrozenSpec.vars false W args.toList ds gs before) (hk : Rows.uptoSmall H (ds ++ gs) = true) :
    Calls Tryz.prog 10 args W fun e W' => ∃ v, e = .returned v ∧ Rows.cqFrozenSpec.post enc Tryz.prog Tryz.f10 false true false false W args v W' := by
  have hW' := hW
  obtain ⟨p, q, hA0, hV, rfl, hfz, hnd⟩ := hW
  have hA : DataW.TrodAll enc Tryz.prog W 0 (fun _ => true) true Tryz.f10.params.toList args.toList ds p := hA0
  rw [Tryz.params10] at hA hval
  obtain ⟨v0, v1, v2, d0, d1, d2, p0, p1, p2, rfl, rfl, rfl, h0, h1, h2⟩ := trodAll_three hA
  obtain ⟨rfl, rfl⟩ := trodVars_none hV
  obtain ⟨x0, a0, b0, c0⟩ := arg_one (bk := Rows.uptoBulk) (fun n => opens_base n) ty_agg23 (fun _ => rfl) h0 (hval 0 _ v0 rfl rfl)
  obtain ⟨x1, a1, b1, c1⟩ := arg_agg (bk := Rows.uptoBulk) (fun n => opens_cq n) ty_agg54 (fun _ => rfl) h1 (hval 1 _ v1 rfl rfl)
  obtain ⟨x2, a2, b2, c2⟩ := arg_agg (bk := Rows.uptoBulk) (fun n => opens_cq n) ty_agg54 (fun _ => rfl) h2 (hval 2 _ v2 rfl rfl)
  have hd0 := bulk_arg hk (d := d0) (by simp)
  have hd1 := bulk_arg hk (d := d1) (by simp)
  have hd2 := bulk_arg hk (d := d2) (by simp)
  refine ((c_CqFrozen x0 x1 x2 ⟨[], []⟩ (gBase_of b0 (by omega)) (gCQ_of b1 (by omega)) (gCQ_of b2 (by omega))).run (G.init W) W _ (sim_init W) ⟨rfl, fun i hi => ?_⟩).mono fun e W' ⟨r, H', σ', v, he, ⟨hr, _⟩, hE, _, hv⟩ => ?_
  · match i, hi with
    | 0, _ => exact a0
    | 1, _ => exact a1
    | 2, _ => exact a2
  · subst hr
    cases hv
    have hp : ∀ t ∈ Tryz.f10.params.toList, Tryz.prog.readableRec t = true ∧ t < Tryz.prog.types.size := by
      rw [Tryz.params10]
      intro t ht
      simp only [List.mem_cons, List.not_mem_nil, or_false] at ht
      rcases ht with rfl | rfl | rfl <;> exact ⟨by kernel_rfl, by decide +kernel⟩
    exact ⟨_, he, post_of_old (tb := 4) hW' rfl hE.below.toBelow laidOut hp rfl under_bool rfl⟩
set_option maxRecDepth 100000 in
theorem lifted_CqFrozen (os : Os) (started : os.Started) (H : Type) (enc : TypeId × Value → H) (F : Stop.Interp) :
    ReturnsInHanded {} Tryz.checked os 10 .any ((Rows.OpenSpec.upto Rows.cqFrozenSpec).pre6 enc Tryz.prog Tryz.f10 Rows.cqFrozenUptoRow.domain false) (((Rows.OpenSpec.upto Rows.cqFrozenSpec).at F).post enc Tryz.prog Tryz.f10 false true false false) := by
  refine returnsInHanded_of_cond (C := Tryz.checked) (s := Rows.OpenSpec.upto Rows.cqFrozenSpec) (k := Rows.uptoSmall) rfl own started (by kernel_rfl) Tryz.func10
    (OpenSpec.witness (enc := enc) (C := Tryz.checked) (s := Rows.OpenSpec.upto Rows.cqFrozenSpec) (k := Rows.uptoSmall) rfl false ⟨#[], #[.slice none 0 0, .agg #[.slice none 0 0, .slice none 0 0], .agg #[.slice none 0 0, .slice none 0 0]], []⟩ 8 (by kernel_rfl) (by kernel_rfl) (by kernel_rfl)
      (x := ([.nil, .agg [.nil, .nil], .agg [.nil, .nil]], [], [])) (by kernel_rfl) rfl (by kernel_rfl)) ?_
  intro W base args ds gs before hval hW _ hk _
  exact contract_CqFrozen H enc W base args ds gs before hval hW hk
theorem cqFrozen_and {a b : Bool} (h : a = true) (k : b = true) : (a && b) = true := by rw [h, k]; rfl
theorem cqFrozen_j0 : (Rows.cqFrozenUptoRow.wf (OpenSpec.ofChange (Rows.OpenSpec.upto Rows.cqFrozenSpec).bare)) = true := by kernel_rfl
theorem cqFrozen_j1 : (laidOutB Tryz.pinned.checked.prog) = true := by kernel_rfl
theorem cqFrozen_j2 : (mapsRowed Tryz.pinned.checked.prog) = true := by kernel_rfl
theorem cqFrozen_j3 : (Tryz.f10.params.all (Tryz.pinned.checked.prog.readableRec ·)) = true := by kernel_rfl
theorem cqFrozen_j4 : (namedTie Tryz.pinned.checked.prog Rows.cqFrozenUptoRow.named (Rows.OpenSpec.upto Rows.cqFrozenSpec).bare.vars) = true := by kernel_rfl
theorem cqFrozen_j5 : ((Rows.cqFrozenUptoRow.stops == [])) = true := by kernel_rfl
theorem cqFrozen_j6 : ((Tryz.pinned.checked.prog.stops == [])) = true := by kernel_rfl
theorem cqFrozen_j7 : ((Rows.cqFrozenUptoRow.knobs == [])) = true := by kernel_rfl
theorem cqFrozen_j8 : ((Tryz.pinned.checked.prog.stopKnobs == [])) = true := by kernel_rfl
theorem cqFrozen_j9 : ((Rows.cqFrozenUptoRow.inPlace == Tryz.pinned.checked.prog.inPlace 10)) = true := by kernel_rfl
theorem cqFrozen_j10 : ((Rows.cqFrozenUptoRow.unfollowed == Tryz.pinned.checked.prog.unfollowed 10)) = true := by kernel_rfl
theorem cqFrozen_j11 : ((Rows.cqFrozenUptoRow.recurses == Tryz.pinned.checked.prog.recurses 10)) = true := by kernel_rfl
theorem cqFrozen_j12 : ((Rows.cqFrozenUptoRow.named == Tryz.pinned.checked.prog.varsNamed 10)) = true := by kernel_rfl
theorem cqFrozen_j13 : ((Rows.cqFrozenUptoRow.maps == (Tryz.f10.params.toList ++ (Rows.OpenSpec.upto Rows.cqFrozenSpec).bare.plain.varTypes Tryz.pinned.checked.prog).any (Tryz.pinned.checked.prog.mapsRec ·))) = true := by kernel_rfl
theorem cqFrozen_j14 : ((Rows.cqFrozenUptoRow.ifaces == (Tryz.f10.params.toList ++ (Rows.OpenSpec.upto Rows.cqFrozenSpec).bare.plain.varTypes Tryz.pinned.checked.prog).any (Tryz.pinned.checked.prog.ifacesRec ·))) = true := by kernel_rfl
theorem cqFrozen_j15 : ((Rows.cqFrozenUptoRow.mapsOut == Tryz.pinned.checked.prog.mapsAmong Tryz.f10.resultTypes.toList)) = true := by kernel_rfl
theorem cqFrozen_j16 : ((Rows.cqFrozenUptoRow.loops == (Tryz.f10.params.toList ++ (Rows.OpenSpec.upto Rows.cqFrozenSpec).bare.plain.varTypes Tryz.pinned.checked.prog).any (Tryz.pinned.checked.prog.loopsFrom ·))) = true := by kernel_rfl
theorem cqFrozen_j17 : ((Rows.cqFrozenUptoRow.wideKeys == (Tryz.f10.params.toList ++ (Rows.OpenSpec.upto Rows.cqFrozenSpec).bare.plain.varTypes Tryz.pinned.checked.prog ++ Tryz.f10.resultTypes.toList).any (Tryz.pinned.checked.prog.wideKeysFrom ·))) = true := by kernel_rfl
theorem cqFrozen_j18 : ((Rows.OpenSpec.upto Rows.cqFrozenSpec).bare.vars.all (Tryz.pinned.checked.prog.varReadable ·)) = true := by kernel_rfl
theorem cqFrozen_j19 : (Tryz.f10.resultTypes.all (fun t => Tryz.pinned.checked.prog.readableRec t && decide (t < Tryz.pinned.checked.prog.types.size))) = true := by kernel_rfl
theorem cqFrozen_j20 : ((Rows.cqFrozenUptoRow.ifacesOut == Tryz.f10.resultTypes.toList.any (Tryz.pinned.checked.prog.ifacesRec ·))) = true := by kernel_rfl
theorem cqFrozen_j21 : ((Rows.cqFrozenUptoRow.loopsOut == Tryz.f10.resultTypes.toList.any (Tryz.pinned.checked.prog.loopsFrom ·))) = true := by kernel_rfl
theorem cqFrozen_j22 : ((Rows.cqFrozenUptoRow.plainKeys == Tryz.pinned.checked.prog.plainKeys)) = true := by kernel_rfl
theorem cqFrozen_j23 : (Rows.cqFrozenUptoRow.shortTexts.isNone) = true := by kernel_rfl
theorem cqFrozen_j24 : (Tryz.pinned.checked.prog.stopsHeard) = true := by kernel_rfl
theorem cqFrozen_j25 : (Tryz.pinned.checked.prog.mayEnter) = true := by kernel_rfl
theorem cqFrozen_j26 : ((Rows.cqFrozenUptoRow.lifted == Tryz.pinned.checked.prog.liftsFinal)) = true := by kernel_rfl
theorem cqFrozen_j27 : ((Tryz.pinned.checked.prog.make == some Rows.cqFrozenUptoRow.make)) = true := by kernel_rfl
theorem cqFrozen_j28 : ((Rows.cqFrozenUptoRow.kinds == (if Rows.cqFrozenUptoRow.domain.isEmpty then [] else Tryz.f10.params.toList.map fun t => match Tryz.pinned.checked.prog.underlying t with | some (.int k) => some k | _ => none))) = true := by kernel_rfl
theorem cqFrozen_j29 : ((Rows.cqFrozenUptoRow.pinned == Rows.cqFrozenUptoRow.pinnedBy)) = true := by kernel_rfl
theorem cqFrozen_j30 : ((Rows.cqFrozenUptoRow.veiled == (Tryz.f10.params.toList ++ (Rows.OpenSpec.upto Rows.cqFrozenSpec).bare.plain.varTypes Tryz.pinned.checked.prog ++ Tryz.f10.resultTypes.toList).any (Tryz.pinned.checked.prog.veiledRec ·))) = true := by kernel_rfl
theorem cqFrozen_j31 : (Rows.cqFrozenUptoRow.veiledFits Tryz.pinned.checked.prog Tryz.f10.params.toList (Tryz.f10.params.toList ++ (Rows.OpenSpec.upto Rows.cqFrozenSpec).bare.plain.varTypes Tryz.pinned.checked.prog ++ Tryz.f10.resultTypes.toList)) = true := by kernel_rfl
theorem cqFrozen_joined : joinedFacts Tryz.pinned.checked.prog 10 Tryz.f10 (Rows.OpenSpec.upto Rows.cqFrozenSpec).bare Rows.cqFrozenUptoRow = true := by
  unfold joinedFacts
  exact cqFrozen_and (cqFrozen_and (cqFrozen_and (cqFrozen_and (cqFrozen_and (cqFrozen_and (cqFrozen_and (cqFrozen_and (cqFrozen_and (cqFrozen_and (cqFrozen_and (cqFrozen_and (cqFrozen_and (cqFrozen_and (cqFrozen_and (cqFrozen_and (cqFrozen_and (cqFrozen_and (cqFrozen_and (cqFrozen_and (cqFrozen_and (cqFrozen_and (cqFrozen_and (cqFrozen_and (cqFrozen_and (cqFrozen_and (cqFrozen_and (cqFrozen_and (cqFrozen_and (cqFrozen_and (cqFrozen_and (cqFrozen_j0) cqFrozen_j1) cqFrozen_j2) cqFrozen_j3) cqFrozen_j4) cqFrozen_j5) cqFrozen_j6) cqFrozen_j7) cqFrozen_j8) cqFrozen_j9) cqFrozen_j10) cqFrozen_j11) cqFrozen_j12) cqFrozen_j13) cqFrozen_j14) cqFrozen_j15) cqFrozen_j16) cqFrozen_j17) cqFrozen_j18) cqFrozen_j19) cqFrozen_j20) cqFrozen_j21) cqFrozen_j22) cqFrozen_j23) cqFrozen_j24) cqFrozen_j25) cqFrozen_j26) cqFrozen_j27) cqFrozen_j28) cqFrozen_j29) cqFrozen_j30) cqFrozen_j31
theorem cqFrozen_named : Tryz.pinned.checked.prog.funcNamed Rows.cqFrozenUptoRow.func = some 10 := by kernel_rfl
theorem cqFrozen_inst : Tryz.f10.isInstance Tryz.pinned.checked.prog Rows.cqFrozenUptoRow.origin Rows.cqFrozenUptoRow.targs := of_decide_eq_true (by kernel_rfl)
theorem cqFrozen_wrap : Tryz.f10.isWrapper Tryz.pinned.checked.prog Rows.cqFrozenUptoRow.wrapper Rows.cqFrozenUptoRow.mainSum := by unfold Func.isWrapper; ((rw [if_neg (by decide +kernel)]; exact ⟨rfl, rfl⟩))
theorem over_CqFrozen : Rows.cqFrozenUptoRow.holds Tryz.pinned (Rows.OpenSpec.upto Rows.cqFrozenSpec) :=
  OpenClaim.holds_of_cond 10 Tryz.f10 rfl rfl rfl rfl rfl rfl rfl ⟨rfl, rfl, rfl, rfl, rfl⟩ rfl rfl rfl rfl rfl cqFrozen_named Tryz.func10 cqFrozen_joined cqFrozen_inst cqFrozen_wrap
    (fun os started H enc _ F => lifted_CqFrozen os started H enc F)
theorem cqFrozenUpto_holds : Rows.CqFrozenUptoSaid := over_CqFrozen
