/-
  LogEntries returns true for every list of entries, every entry and all bytes, and leaves them as they were, where what comes in is of bulk at most 1048576.
-/
import Derived.Test.YtdlbbcjacjockaaKJa
import Derived.Test.YtdlbbcjacjockaaKTc
set_option maxRecDepth 100000
set_option linter.unusedSimpArgs false
set_option linter.unusedVariables false
namespace Go.Proofs.Ytdlbbcjacjockaa
open Go Fw Go.RowKit Go.ChangeShapes
theorem ren_mem : ∀ (l : List Ent) (k : Nat), ∀ y ∈ ren k l, ∃ x ∈ l, y.ch = x.ch ∧ ∃ n : Nat, y.no = n ∧ n ≤ k + l.length
  | [], k, y, h => by simp [ren] at h
  | x :: l, k, y, h => by
    rw [ren] at h
    rcases List.mem_cons.1 h with rfl | h
    · exact ⟨x, by simp, rfl, k + 1, rfl, by simp⟩
    · obtain ⟨z, h2, h3, n, h4, h5⟩ := ren_mem l (k + 1) y h
      exact ⟨z, by simp [h2], h3, n, h4, by simp; omega⟩
theorem ren_wt : ∀ (l : List Ent) (k : Nat), (∀ x ∈ l, wtE x ≤ 1048576) → (logB (ren k l)).length ≤ 9 * (l.map wtE).sum
  | [], k, _ => by simp [ren, logB]
  | x :: l, k, h => by
    have h1 := bodyB_wt x (k + 1 : Nat) (h x (by simp))
    have h0 : 3 ≤ wtE x := by simp only [wtE]; omega
    have := ren_wt l (k + 1) fun y hy => h y (by simp [hy])
    rw [ren, List.map_cons, List.sum_cons, logB_cons, List.length_append, frmB_length]
    omega
theorem okM_of {l : List Ent} {x : Ent} (h : ∀ y ∈ l, goodE y) (hb : (l.map wtE).sum + 1 ≤ 1048576) (hx : goodE x) (hxb : wtE x ≤ 1048576) : OkM (ren 0 l ++ [x]) ∧ l.length ≤ 1048576 := by
  have hy : ∀ y ∈ l, wtE y ≤ 1048576 := fun y hy => by have := mem_sum wtE hy; omega
  have hl := len_sum wtE (fun x => by simp only [wtE]; omega) l
  have hr := ren_wt l 0 hy
  have hxw := bodyB_wt x x.no hxb
  have hxe : (⟨x.no, x.ch⟩ : Ent) = x := rfl
  rw [hxe] at hxw
  refine ⟨⟨by simp only [List.length_append, List.length_singleton, ren_len]; omega, fun y hm => ?_, fun y hm => ?_, fun y hm => ?_, ?_⟩, by omega⟩
  · rcases List.mem_append.1 hm with hm | hm
    · obtain ⟨z, h2, h3, n, h4, h5⟩ := ren_mem l 0 y hm
      exact ⟨by rw [h4]; simp only [okI]; omega, by rw [h3]; exact (goodE_wf (h z h2)).ch⟩
    · rw [List.mem_singleton.1 hm]; exact goodE_wf hx
  · rcases List.mem_append.1 hm with hm | hm
    · obtain ⟨z, h2, h3, n, h4, h5⟩ := ren_mem l 0 y hm
      have := (wtE_small y.no (hy z h2)).1
      rw [← h3] at this
      exact this
    · rw [List.mem_singleton.1 hm]; exact (wtE_small x.no hxb).1
  · rcases List.mem_append.1 hm with hm | hm
    · obtain ⟨z, h2, h3, n, h4, h5⟩ := ren_mem l 0 y hm
      have := (wtE_small 0 (hy z h2)).2
      exact ⟨by rw [h3]; exact this.ch, by rw [h3]; exact this.row⟩
    · rw [List.mem_singleton.1 hm]; exact (wtE_small 0 hxb).2
  · rw [logB_append, logB_one, List.length_append, frmB_length]
    omega
theorem copy_of {x : Ent} (hxb : wtE x ≤ 1048576) : x.ch.length ≤ 1000000 ∧ ∀ c ∈ x.ch, c.row.length ≤ 1000000 ∧ ∀ v ∈ c.row, sizeV v ≤ 100000000 := by
  have h := (wtE_small 0 hxb).1
  have hc := h.ch
  refine ⟨hc, fun c hcm => ⟨(h.row c hcm).1, fun v hv => ?_⟩⟩
  have hw : wtE x = (x.ch.map wtC).sum + 3 := rfl
  have h1 := mem_sum wtC hcm
  have hw2 : wtC c = c.rel.size + (c.row.map wtV).sum + 4 := rfl
  have h2 := mem_sum wtV hv
  have := sizeV_wt v
  omega
theorem own : ownKnob Try.prog.godebug = none := by kernel_rfl
theorem laidOut : laidOutB Try.prog = true := by kernel_rfl
theorem under_bool : Try.prog.underlying 4 = some .bool := by kernel_rfl
theorem u8_mm {n : Int} (h : IntKind.u8.min ≤ n ∧ n ≤ IntKind.u8.max) : ∃ c : UInt8, n = (c.toNat : Int) := by
  have h1 : IntKind.u8.min = 0 := by decide
  have h2 : IntKind.u8.max = 255 := by decide
  refine ⟨UInt8.ofNat n.toNat, ?_⟩
  rw [ofNat_toNat (by omega)]; omega
theorem sum_ones (l : List Int) : (l.map fun _ => 1).sum = l.length := by
  induction l with
  | nil => rfl
  | cons a l ih => simp only [List.map_cons, List.sum_cons, List.length_cons, ih]; omega
theorem opens_bytes {H : Type} {enc : TypeId × Value → H} {W : World} (n : Nat) : Opens enc Try.prog W Rows.uptoBulk 23 n (fun l => .list (encB l) none) (fun _ => True) (fun l : Byt => l.length + 1) := by
  have h0 := opens_slice (isBulk H) ty_elem23 (by omega) (fun _ => rfl) (fun m _ => opens_int (enc := enc) (P := Try.prog) (W := W) (n := m) (isBulk H) ty_int5) (n := n)
  intro cs x hx
  obtain ⟨l, h1, h2, h3⟩ := h0 cs x hx
  have : ∀ l : List Int, (∀ a ∈ l, IntKind.u8.min ≤ a ∧ a ≤ IntKind.u8.max) → ∃ m : Byt, encB m = (l.map fun n => AV.con (.int .u8 n)) ∧ m.length = l.length := by
    intro l
    induction l with
    | nil => exact fun _ => ⟨[], rfl, rfl⟩
    | cons a l ih =>
      intro h
      obtain ⟨m, e1, e2⟩ := ih fun b hb => h b (by simp [hb])
      obtain ⟨c, hc⟩ := u8_mm (h a (by simp))
      exact ⟨c :: m, by rw [hc]; simp only [List.map_cons, ← e1]; rfl, by simp [e2]⟩
  obtain ⟨m, e1, e2⟩ := this l h2
  have h4 : (l.map fun _ => 1).sum = l.length := sum_ones l
  have h3 : (l.map fun _ => 1).sum + 1 ≤ Rows.uptoBulk x.1 := h3
  rw [h4] at h3
  refine ⟨m, ?_, trivial, by simp only; omega⟩
  show Dec W (AV.list (encB m) none).cells cs
  rw [e1]; exact h1
theorem contract_LogEntries (H : Type) (enc : TypeId × Value → H) (W : World) (base : Nat) (args : Array Value) (ds gs : List (DataW H)) (before : List MemPlace)
    (hval : ∀ (j : Nat) t v, Try.f5.params[j]? = some t → args[j]? = some v → Value.okWide Try.prog W .any base t v)
    (hW : DataW.Whole enc Try.prog Try.f5.params.toList Rows.logEntriesSpec.vars false W args.toList ds gs before) (hk : Rows.uptoSmall H (ds ++ gs) = true) :
    Calls Try.prog 5 args W fun e W' => ∃ v, e = .returned v ∧ Rows.logEntriesSpec.post enc Try.prog Try.f5 false true false false W args v W' := by
  have hW' := hW
  obtain ⟨p, q, hA0, hV, rfl, hfz, hnd⟩ := hW
  have hA : DataW.TrodAll enc Try.prog W 0 (fun _ => true) true Try.f5.params.toList args.toList ds p := hA0
  rw [Try.params5] at hA hval
  obtain ⟨v0, v1, v2, d0, d1, d2, p0, p1, p2, rfl, rfl, rfl, h0, h1, h2⟩ := trodAll_three hA
  obtain ⟨rfl, rfl⟩ := trodVars_none hV
  obtain ⟨l, a1, a2, a3⟩ := arg_one (bk := Rows.uptoBulk) (fun n => opens_ents n) ty_agg22 (fun _ => rfl) h0 (hval 0 _ v0 rfl rfl)
  obtain ⟨x, b1, b2, b3⟩ := arg_agg (bk := Rows.uptoBulk) (fun n => opens_ent n) ty_agg27 (fun _ => rfl) h1 (hval 1 _ v1 rfl rfl)
  obtain ⟨bb, c1, _, c3⟩ := arg_one (bk := Rows.uptoBulk) (fun n => opens_bytes n) ty_agg23 (fun _ => rfl) h2 (hval 2 _ v2 rfl rfl)
  have hd0 := bulk_arg hk (d := d0) (by simp)
  have hd1 := bulk_arg hk (d := d1) (by simp)
  have hd2 := bulk_arg hk (d := d2) (by simp)
  obtain ⟨hok, hll⟩ := okM_of a2 (by omega) b2 (by omega)
  refine ((c_LogEntries l x bb ⟨[], []⟩ hok hll (by omega) (copy_of (by omega))).run (G.init W) W _ (sim_init W) ⟨rfl, fun i hi => ?_⟩).mono fun e W' ⟨r, H', σ', v, he, ⟨hr, _⟩, hE, _, hv⟩ => ?_
  · match i, hi with
    | 0, _ => exact a1
    | 1, _ => exact b1
    | 2, _ => exact c1
  · subst hr
    cases hv
    have hp : ∀ t ∈ Try.f5.params.toList, Try.prog.readableRec t = true ∧ t < Try.prog.types.size := by
      rw [Try.params5]
      intro t ht
      simp only [List.mem_cons, List.not_mem_nil, or_false] at ht
      rcases ht with rfl | rfl | rfl <;> exact ⟨by kernel_rfl, by decide +kernel⟩
    exact ⟨_, he, post_of_old (tb := 4) hW' rfl hE.below laidOut hp rfl under_bool rfl⟩
set_option maxRecDepth 100000 in
theorem lifted_LogEntries (os : Os) (started : os.Started) (H : Type) (enc : TypeId × Value → H) (F : Stop.Interp) :
    ReturnsInHanded {} Try.checked os 5 .any ((Rows.OpenSpec.upto Rows.logEntriesSpec).pre6 enc Try.prog Try.f5 Rows.logEntriesUptoRow.domain false) (((Rows.OpenSpec.upto Rows.logEntriesSpec).at F).post enc Try.prog Try.f5 false true false false) := by
  refine returnsInHanded_of_cond (C := Try.checked) (s := Rows.OpenSpec.upto Rows.logEntriesSpec) (k := Rows.uptoSmall) rfl own started (by kernel_rfl) Try.func5
    (OpenSpec.witness (enc := enc) (C := Try.checked) (s := Rows.OpenSpec.upto Rows.logEntriesSpec) (k := Rows.uptoSmall) rfl false ⟨#[], #[.slice none 0 0, .agg #[.int .i64 0, .slice none 0 0], .slice none 0 0], []⟩ 8 (by kernel_rfl) (by kernel_rfl) (by kernel_rfl)
      (x := ([.nil, .agg [.lit (.int .i64 0), .nil], .nil], [], [])) (by kernel_rfl) rfl (by kernel_rfl)) ?_
  intro W base args ds gs before hval hW _ hk _
  exact contract_LogEntries H enc W base args ds gs before hval hW hk
theorem over_LogEntries : Rows.logEntriesUptoRow.holds Try.pinned (Rows.OpenSpec.upto Rows.logEntriesSpec) :=
  OpenClaim.holds_of_cond 5 Try.f5 rfl rfl rfl rfl rfl rfl rfl ⟨rfl, rfl, rfl, rfl, rfl⟩ rfl rfl rfl rfl rfl (by kernel_rfl) Try.func5 (by kernel_rfl)
    (of_decide_eq_true (by kernel_rfl)) (by unfold Func.isWrapper; ((rw [if_neg (by decide +kernel)]; exact ⟨rfl, rfl⟩)))
    (fun os started H enc _ F => lifted_LogEntries os started H enc F)
theorem logEntriesUpto_holds : Rows.LogEntriesUptoSaid := over_LogEntries
end Go.Proofs.Ytdlbbcjacjockaa
