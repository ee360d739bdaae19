/-
  A way to walk through code by abstract values: its rules, each proved.
-/
import Derived.Test.YtababmnmkmgbbaaGreatKFw1
import Derived.Maps.RangeRun
import Derived.Laws.MakeOwn
import Derived.Lib.AppendZerosOnto
set_option linter.unusedSimpArgs false
set_option linter.unusedVariables false
namespace Go.Proofs.YtababmnmkmgbbaaGreat.Fw
open Go.RowKit
variable {P : Program} {Q : Exit → St → Prop} {s : St} {o : Oper} {K : St → Prop} {ρ : Operand → AV} {H : Hp}
/-! A variable that is never written again: a slice over it becomes a list, its address a place to read. -/
def G.frozen (σ : G) (b : Nat) : G := { σ with fz := fun b' o => b' = b ∨ σ.fz b' o }
def mcells (us : Array MapEntry) (e : Nat) : Array Value := #[.tuple #[.tuple (us.map fun x => .tuple #[x.key, x.val, .int .i64 (x.born : Int)]), .int .i64 (e : Int)]]
def Fz (σ : G) (w : World) (id : Nat) (cs : List AV) : Prop := id < σ.next ∧ ((σ.kd id).plain → ∀ j, j < cs.length → σ.fz (σ.blk id) j ∧ ∃ u, w.cell? ⟨σ.blk id, j, none⟩ = some u ∧ VR σ w (cs.getD j .any) u) ∧
  (σ.kd id = .map → σ.fz (σ.blk id) 0 ∧ ∃ us e, w.heap[σ.blk id]? = some (.map us e) ∧ Stamped us e ∧ ∀ j, j < cs.length → VR σ w (cs.getD j .any) ((mcells us e).getD j undef))
def AV.fle (id : Nat) (cs : List AV) (x y : AV) : Prop := ∀ σ w v, Fz σ w id cs → VR σ w x v → VR σ w y v
theorem AV.fle.refl {id : Nat} {cs : List AV} (x : AV) : AV.fle id cs x x := fun _ _ _ _ h => h
theorem AV.fle_any {id : Nat} {cs : List AV} (x : AV) : AV.fle id cs x .any := fun _ _ v _ _ => .any v
theorem AV.le.fle {id : Nat} {cs : List AV} {x y : AV} (h : x.le y) : AV.fle id cs x y := fun σ w v _ k => h σ w v k
theorem AV.fle_sl {id k e k' : Nat} {cs xs : List AV} (hk : ∀ x ∈ xs, x.fits k) (hl : xs.length * k ≤ cs.length) (hg : ∀ i j, i < xs.length → j < k → (xs.getD i .any).cells.getD j .any = cs.getD (i * k + j) .any) :
    AV.fle id cs (.sl id xs.length e k') (.list xs none) := by
  intro σ w v hf hv
  generalize hn0 : xs.length = n0 at hv
  cases hv with
  | sl0 =>
    rw [List.eq_nil_of_length_eq_zero hn0]; exact .nil
  | sl1 =>
    rw [List.eq_nil_of_length_eq_zero hn0]; exact .odd _
  | sl _ _ _ _ c h hkd h0 hn hm =>
    subst hn0
    replace hf : id < σ.next ∧ _ := ⟨hf.1, hf.2.1 (by rw [hkd]; trivial)⟩
    have hcell : ∀ j, ∃ u, j < cs.length → w.cell? ⟨σ.blk id, j, none⟩ = some u ∧ VR σ w (cs.getD j .any) u := fun j => by
      rcases Nat.lt_or_ge j cs.length with hj | hj
      · obtain ⟨_, u, h1, h2⟩ := hf.2 j hj; exact ⟨u, fun _ => ⟨h1, h2⟩⟩
      · exact ⟨undef, fun h => by omega⟩
    refine .list xs (σ.blk id) 0 c k (fun j => (hcell j).choose) hn hm hk (fun j hj => ?_) (fun i j hi hj => ?_)
    · rw [Nat.zero_add]
      exact ⟨(hf.2 j (by omega)).1, ((hcell j).choose_spec (by omega)).1⟩
    · rw [hg i j hi hj]
      refine ((hcell (i * k + j)).choose_spec ?_).2
      have : (i + 1) * k ≤ xs.length * k := Nat.mul_le_mul_right _ hi
      rw [Nat.add_mul] at this
      omega
theorem AV.fle_ptr {id : Nat} {cs : List AV} : AV.fle id cs (.ptr id 0) (.ro cs) := by
  intro σ w v hf hv
  cases hv with
  | ptr _ _ h hkd =>
    replace hf : id < σ.next ∧ _ := ⟨hf.1, hf.2.1 hkd⟩
    have hcell : ∀ j, ∃ u, j < cs.length → w.cell? ⟨σ.blk id, j, none⟩ = some u ∧ VR σ w (cs.getD j .any) u := fun j => by
      rcases Nat.lt_or_ge j cs.length with hj | hj
      · obtain ⟨_, u, h1, h2⟩ := hf.2 j hj; exact ⟨u, fun _ => ⟨h1, h2⟩⟩
      · exact ⟨undef, fun h => by omega⟩
    refine .ro cs _ 0 (fun j => (hcell j).choose) (fun j hj => ?_) (fun j hj => ((hcell j).choose_spec hj).2)
    rw [Nat.zero_add]
    exact ⟨(hf.2 j hj).1, ((hcell j).choose_spec hj).1⟩
structure St.flk (id : Nat) (cs : List AV) (s s' : St) : Prop where
  n : s'.n = s.n
  t : ∀ d, (lk s.t d).fle id cs (lk s'.t d)
  tk : s'.h.tk = s.h.tk
  bx : ∀ i c', s'.h.box i = some c' → i ≠ id ∧ ∃ c, s.h.box i = some c ∧ c'.length = c.length ∧ ∀ j, j < c.length → (c.getD j .any).fle id cs (c'.getD j .any)
theorem freeze_sim {id : Nat} {cs : List AV} (hb : s.h.box id = some cs) {s' : St} (h : St.flk id cs s s') {σ : G} {w : World} {a : Act} (hs : Sim σ s.h w) (hl : Sl σ w s a) :
    ∃ σ', Ext σ w σ' w ∧ Sim σ' s'.h w ∧ Sl σ' w s' a := by
  obtain ⟨b1, b2, b3, cur, e, b4, b5, b6⟩ := hs.bx id cs hb
  have hlt : σ.blk id < w.heap.size := b4.lt
  have hE : Ext σ w (σ.frozen (σ.blk id)) w := ⟨rfl, .refl _ _, Nat.le_refl _, fun _ _ h => .inr h, fun _ _ _ => .refl _ _ _, fun _ _ => ⟨rfl, rfl⟩, fun t _ m hm => ⟨m, hm, Nat.le_refl _, fun _ => ⟨rfl, rfl⟩⟩⟩
  have hF : Fz (σ.frozen (σ.blk id)) w id cs := by
    refine ⟨b1, fun hp j hj => ⟨.inl rfl, cur.getD j undef, ?_, (b6 j hj).mono hE⟩, fun hp => ?_⟩
    · have hj' : j < cur.size := by omega
      show w.cell? ⟨σ.blk id, j, none⟩ = _
      have b4' := b4.zero hp
      simp [World.cell?, b4', Array.getD_eq_getD_getElem?, hj']
    · rw [show σ.kd id = .map from hp] at b4
      obtain ⟨us, m1, m2, m3⟩ := b4
      subst m3
      exact ⟨.inl rfl, us, e, m1, m2, fun j hj => (b6 j hj).mono hE⟩
  have htok : ∀ t, s'.h.tok t = s.h.tok t := fun t => by unfold Hp.tok; rw [h.tk]
  have hS : Sim (σ.frozen (σ.blk id)) s'.h w := by
    refine ⟨hs.base, fun b o hf => ?_, ?_, fun i c' hi => ?_, fun t n e k ht => ?_, fun i j c d hi hj hne => ?_, fun i t c n hi ht => ?_, fun x t m n g hx ht hne hg => ?_⟩
    · rcases hf with rfl | hf
      · exact hlt
      · exact hs.fzlt b o hf
    · show σ.tok = _
      rw [hs.tok]; funext t; exact (htok t).symm
    · obtain ⟨h1, c, h2, h3, h4⟩ := h.bx i c' hi
      obtain ⟨g1, g2, g3, cu, e', g4, g5, g6⟩ := hs.bx i c h2
      refine ⟨g1, g2, fun o hf => ?_, cu, e', g4, by rw [h3]; exact g5, fun j hj => h4 j (by omega) _ _ _ hF ((g6 j (by omega)).mono hE)⟩
      rcases hf with hf | hf
      · exact hs.bxbx i id c cs h2 hb h1 hf
      · exact g3 o hf
    · rw [htok] at ht
      obtain ⟨g1, xs, g2, g3⟩ := hs.tk t n e k ht
      refine ⟨g1, xs, g2, fun g hg o ho hf => ?_⟩
      rcases hf with hf | hf
      · exact hs.bxtk id t cs _ hb ht (by rw [← hf]; exact hg)
      · exact g3 g hg o ho hf
    · obtain ⟨_, c0, h2, _⟩ := h.bx i c hi
      obtain ⟨_, d0, h3, _⟩ := h.bx j d hj
      exact hs.bxbx i j c0 d0 h2 h3 hne
    · obtain ⟨_, c0, h2, _⟩ := h.bx i c hi
      rw [htok] at ht
      exact hs.bxtk i t c0 n h2 ht
    · rw [htok] at hx ht
      exact hs.tktk x t m n g hx ht hne hg
  have hL : Sl (σ.frozen (σ.blk id)) w s' a := ⟨by rw [h.n]; exact hl.size, fun d => h.t d _ _ _ hF ((hl.v d).mono hE), hl.defers⟩
  exact ⟨_, hE, hS, hL⟩
theorem aops_freeze {ops : Array Oper} {l : List Oper} {id : Nat} {cs : List AV} (hb : s.h.box id = some cs) {s' : St} (h : St.flk id cs s s') (k : aops P ops l Q s') : aops P ops l Q s := fun σ w a hs hl => by
  obtain ⟨σ', hE, hS, hL⟩ := freeze_sim hb h hs hl
  exact wpList_lift hE _ _ _ (k σ' w a hS hL)
theorem awp_freezek {c : Code} (id : Nat) {cs : List AV} (hb : s.h.box id = some cs) (s' : St) (h : St.flk id cs s s') (k : awp P c Q s') : awp P c Q s := fun σ w a hs hl => by
  obtain ⟨σ', hE, hS, hL⟩ := freeze_sim hb h hs hl
  exact wp_mono (k σ' w a hS hL) fun x _ _ hh => lift_trans hE hh
/-- A variable that is laid and written once: it is only read from then on. -/
theorem aops_allocStore {ops : Array Oper} {rest : List Oper} {o1 o2 : Oper} {t t2 d k : Nat} {y : Operand} {z : List AV} (g1 : o1.guard = none) (g2 : o2.guard = none) (h1 : o1.op = .alloc t) (hd : o1.dst = some d) (h2 : o2.op = .store t2 (.tmp d) y) (hd2 : o2.dst = none)
    (hyd : y ≠ .tmp d) (hz : tzero P t = some z) (hzk : z.length = k) (hk : tsz P t2 = some k) (hy : okv (s.ev y)) (hp : (un (s.ev y)).put1 = true) (hyk : (un (s.ev y)).cells.length = k) (hn : d < s.n)
    (h : aops P ops rest Q (s.put d (.ro (un (s.ev y)).cells))) : aops P ops (o1 :: o2 :: rest) Q s := by
  refine aops_cons g1 (sop_alloc h1 hz hd hn fun id f1 f2 => ?_)
  have e1 : (⟨s.n, (d, .ptr id 0) :: s.t, ⟨(id, z) :: s.h.bx, s.h.tk⟩⟩ : St).ev (.tmp d) = .ptr id 0 := by simp [St.ev, lk]
  have e2 : (⟨s.n, (d, .ptr id 0) :: s.t, ⟨(id, z) :: s.h.bx, s.h.tk⟩⟩ : St).ev y = s.ev y := by
    cases y with
    | tmp e => simp only [St.ev, lk]; rw [if_neg (fun h => hyd (by rw [h]))]
    | _ => rfl
  have e3 : (⟨(id, z) :: s.h.bx, s.h.tk⟩ : Hp).box id = some z := by simp [Hp.box]
  refine aops_cons g2 (sop_store h2 (by rw [e1]; exact True.intro) (by rw [e2]; exact hy) (by rw [e1]; rfl) e3 (by rw [e2]; exact hp) hk (by rw [e2]; exact hyk) (by omega) hd2 ?_)
  rw [e2]
  have e4 : over z 0 (un (s.ev y)).cells = (un (s.ev y)).cells := by
    unfold over
    rw [List.take_zero, List.nil_append, Nat.zero_add, List.drop_eq_nil_of_le (by omega), List.append_nil]
  refine aops_freeze (s' := s.put d (.ro (un (s.ev y)).cells)) (id := id) (cs := (un (s.ev y)).cells) ?_ ⟨rfl, fun e => ?_, rfl, fun i c' hi => ?_⟩ h
  · show Hp.box (Hp.upd ⟨(id, z) :: s.h.bx, s.h.tk⟩ id _) id = _
    simp [Hp.box, Hp.upd, updB, e4]
  · simp only [St.put, lk]
    by_cases e' : d = e
    · subst e'; rw [if_pos rfl, if_pos rfl]; exact AV.fle_ptr
    · rw [if_neg e', if_neg e']; exact AV.fle.refl _
  · have hi : s.h.box i = some c' := hi
    have hne : i ≠ id := fun e => by subst e; rw [show s.h.box i = none from f1] at hi; cases hi
    refine ⟨hne, c', ?_, rfl, fun j _ => AV.fle.refl _⟩
    show Hp.box (Hp.upd ⟨(id, z) :: s.h.bx, s.h.tk⟩ id _) i = _
    have : (i == id) = false := by simpa using hne
    simp only [Hp.box, Hp.upd, updB, if_true, List.lookup_cons, this]
    exact hi
/-- The same, with a copy of a value between. -/
theorem aops_allocMoveStore {ops : Array Oper} {rest : List Oper} {o1 oM o2 : Oper} {t t2 d dM k : Nat} {x y : Operand} {z : List AV} (g1 : o1.guard = none) (gM : oM.guard = none) (g2 : o2.guard = none) (h1 : o1.op = .alloc t) (hd : o1.dst = some d) (hM : oM.op = .move x ∨ oM.op = .assign x) (hdM : oM.dst = some dM) (h2 : o2.op = .store t2 (.tmp d) y) (hd2 : o2.dst = none)
    (hxd : x ≠ .tmp d) (hyd : y ≠ .tmp d) (hdd : dM ≠ d) (hx : okv (s.ev x)) (hnM : dM < s.n) (hz : tzero P t = some z) (hzk : z.length = k) (hk : tsz P t2 = some k) (hy : okv ((s.put dM (un (s.ev x))).ev y)) (hp : (un ((s.put dM (un (s.ev x))).ev y)).put1 = true) (hyk : (un ((s.put dM (un (s.ev x))).ev y)).cells.length = k) (hn : d < s.n)
    (h : aops P ops rest Q ((s.put dM (un (s.ev x))).put d (.ro (un ((s.put dM (un (s.ev x))).ev y)).cells))) : aops P ops (o1 :: oM :: o2 :: rest) Q s := by
  refine aops_cons g1 (sop_alloc h1 hz hd hn fun id f1 f2 => ?_)
  have e0 : (⟨s.n, (d, .ptr id 0) :: s.t, ⟨(id, z) :: s.h.bx, s.h.tk⟩⟩ : St).ev x = s.ev x := by
    cases x with
    | tmp e => simp only [St.ev, lk]; rw [if_neg (fun h => hxd (by rw [h]))]
    | _ => rfl
  have hvM : VOp P (⟨s.n, (d, .ptr id 0) :: s.t, ⟨(id, z) :: s.h.bx, s.h.tk⟩⟩ : St).h oM (⟨s.n, (d, .ptr id 0) :: s.t, ⟨(id, z) :: s.h.bx, s.h.tk⟩⟩ : St).ev (un ((⟨s.n, (d, .ptr id 0) :: s.t, ⟨(id, z) :: s.h.bx, s.h.tk⟩⟩ : St).ev x)) := by
    rcases hM with hM | hM
    · exact vop_move hM (by rw [e0]; exact hx)
    · exact vop_assign hM (by rw [e0]; exact hx)
  refine aops_cons gM (SOp.of_v (s := (⟨s.n, (d, .ptr id 0) :: s.t, ⟨(id, z) :: s.h.bx, s.h.tk⟩⟩ : St)) hdM hnM hvM ?_)
  rw [e0]
  generalize hs1 : s.put dM (un (s.ev x)) = s1 at hy hp hyk h
  have eT : ∀ e, e ≠ d → lk ((dM, un (s.ev x)) :: (d, .ptr id 0) :: s.t) e = lk s1.t e := by
    intro e he
    subst hs1
    simp only [St.put, lk]
    split
    · rfl
    · rw [if_neg (Ne.symm he)]
  have e1 : (St.put ⟨s.n, (d, .ptr id 0) :: s.t, ⟨(id, z) :: s.h.bx, s.h.tk⟩⟩ dM (un (s.ev x))).ev (.tmp d) = .ptr id 0 := by simp [St.ev, St.put, lk, hdd]
  have e2 : (St.put ⟨s.n, (d, .ptr id 0) :: s.t, ⟨(id, z) :: s.h.bx, s.h.tk⟩⟩ dM (un (s.ev x))).ev y = s1.ev y := by
    cases y with
    | tmp e => exact eT e (fun h => hyd (by rw [h]))
    | _ => rfl
  have e3 : (⟨(id, z) :: s.h.bx, s.h.tk⟩ : Hp).box id = some z := by simp [Hp.box]
  refine aops_cons g2 (sop_store h2 (by rw [e1]; exact True.intro) (by rw [e2]; exact hy) (by rw [e1]; rfl) e3 (by rw [e2]; exact hp) hk (by rw [e2]; exact hyk) (by omega) hd2 ?_)
  rw [e2]
  have e4 : over z 0 (un (s1.ev y)).cells = (un (s1.ev y)).cells := by
    unfold over
    rw [List.take_zero, List.nil_append, Nat.zero_add, List.drop_eq_nil_of_le (by omega), List.append_nil]
  have hs1n : s1.n = s.n := by subst hs1; rfl
  have hs1h : s1.h = s.h := by subst hs1; rfl
  refine aops_freeze (s' := s1.put d (.ro (un (s1.ev y)).cells)) (id := id) (cs := (un (s1.ev y)).cells) ?_ ⟨hs1n, fun e => ?_, by show s1.h.tk = _; rw [hs1h]; rfl, fun i c' hi => ?_⟩ h
  · show Hp.box (Hp.upd ⟨(id, z) :: s.h.bx, s.h.tk⟩ id _) id = _
    simp [Hp.box, Hp.upd, updB, e4]
  · by_cases e' : d = e
    · subst e'
      have a1 : lk (St.put ⟨s.n, (d, .ptr id 0) :: s.t, ⟨(id, z) :: s.h.bx, s.h.tk⟩⟩ dM (un (s.ev x))).t d = .ptr id 0 := e1
      show AV.fle id _ (lk (St.put ⟨s.n, (d, .ptr id 0) :: s.t, ⟨(id, z) :: s.h.bx, s.h.tk⟩⟩ dM (un (s.ev x))).t d) _
      rw [a1]
      simp only [St.put, lk, if_true]
      exact AV.fle_ptr
    · show AV.fle id _ (lk ((dM, un (s.ev x)) :: (d, .ptr id 0) :: s.t) e) _
      rw [eT e (Ne.symm e')]
      simp only [St.put, lk]
      rw [if_neg e']; exact AV.fle.refl _
  · have hi : s.h.box i = some c' := by rw [← hs1h]; exact hi
    have hne : i ≠ id := fun e => by subst e; rw [show s.h.box i = none from f1] at hi; cases hi
    refine ⟨hne, c', ?_, rfl, fun j _ => AV.fle.refl _⟩
    show Hp.box (Hp.upd ⟨(id, z) :: s.h.bx, s.h.tk⟩ id _) i = _
    have : (i == id) = false := by simpa using hne
    simp only [Hp.box, Hp.upd, updB, if_true, List.lookup_cons, this]
    exact hi
/-- A copy in memory that is only read. -/
theorem vop_boxRo {t : TypeId} {x : Operand} (ho : o.op = .box t x) (hx : okv (ρ x)) (hp : (un (ρ x)).put1 = true) : VOp P H o ρ (.ro (un (ρ x)).cells) := vop_run fun σ w ev hs hv => by
  have h1 := (hv x (by simp [ho, Op.operands])).un hx
  obtain ⟨d1, d2, d3⟩ := h1.cells hp
  have hE := ext_alloc hs (.cells (ev x).cells t) (un (ρ x)).cells.length
  refine ⟨.pointer (some ⟨w.heap.size, 0, none⟩), w.alloc (.cells (ev x).cells t), _, ?_, hE, sim_alloc hs _ _, .ro _ _ 0 (fun j => (ev x).cells.getD j undef) (fun j hj => ⟨.inr ⟨rfl, by omega⟩, ?_⟩) (fun j hj => (d2 j hj).mono hE)⟩
  · simp only [execOp, ho, Instr.box, Sem.run_bind, run_newVar, Result.andThen_ok, Sem.run_pure]
  · have hj' : j < (ev x).cells.size := by omega
    have := heap_alloc_new w (.cells (ev x).cells t)
    simp only [World.cell?, this, Nat.zero_add, Option.isSome_none, Bool.false_eq_true, if_false, Array.getD_eq_getD_getElem?, Array.getElem?_eq_getElem hj', Option.getD_some]
/-! A right to append. -/
def G.toked (σ : G) (n e k : Nat) (v : Value) : G := { σ with next := σ.next + 1, tok := fun j => if j = σ.next then some (n, e, k) else σ.tok j, tv := fun j => if j = σ.next then v else σ.tv j }
theorem add_tok {σ : G} {w : World} (hs : Sim σ H w) {n e k : Nat} {v : Value} {xs : List Value} (ho : w.ownsRow σ.base e k v n xs) (h1 : ∀ g, v.ownBlock = some g → (∀ o, n * k ≤ o → ¬ σ.fz g o) ∧ (∀ i c, H.box i = some c → σ.blk i ≠ g) ∧ ∀ t m, H.tok t = some m → (σ.tv t).ownBlock ≠ some g) :
    Ext σ w (σ.toked n e k v) w ∧ Sim (σ.toked n e k v) ⟨H.bx, (σ.next, n, e, k) :: H.tk⟩ w := by
  have hE : Ext σ w (σ.toked n e k v) w :=
    ⟨rfl, .refl _ _, Nat.le_succ _, fun _ _ h => h, fun _ _ _ => .refl _ _ _, fun _ _ => ⟨rfl, rfl⟩, fun t ht m hm => by
      simp only [G.toked] at hm ⊢
      rw [if_neg (by omega)] at hm ⊢
      exact ⟨m, hm, Nat.le_refl _, fun _ => ⟨rfl, rfl⟩⟩⟩
  refine ⟨hE, ?_⟩
  have htok : ∀ t p, (⟨H.bx, (σ.next, n, e, k) :: H.tk⟩ : Hp).tok t = some p → (t = σ.next ∧ p = (n, e, k)) ∨ (t ≠ σ.next ∧ H.tok t = some p) := by
    intro t p h
    simp only [Hp.tok, List.lookup_cons] at h
    by_cases he : t = σ.next
    · subst he; simp at h; exact .inl ⟨rfl, h.symm⟩
    · rw [show (t == σ.next) = false by simpa using he] at h; exact .inr ⟨he, h⟩
  refine ⟨hs.base, hs.fzlt, ?_, ?_, ?_, hs.bxbx, ?_, ?_⟩
  · funext t
    simp only [G.toked, Hp.tok, List.lookup_cons]
    by_cases he : t = σ.next
    · subst he; simp
    · rw [if_neg he, show (t == σ.next) = false by simpa using he, hs.tok]; rfl
  · intro id cs hc
    obtain ⟨g1, g2, g3, cur, e', g4, g5, g6⟩ := hs.bx id cs hc
    exact ⟨Nat.lt_succ_of_lt g1, g2, g3, cur, e', g4, g5, fun i hi => (g6 i hi).mono hE⟩
  · intro t n' e' k' h
    rcases htok t _ h with ⟨rfl, hp⟩ | ⟨hne, h⟩
    · simp only [Prod.mk.injEq] at hp
      obtain ⟨rfl, rfl, rfl⟩ := hp
      exact ⟨Nat.lt_succ_self _, xs, by simpa [G.toked] using ho, fun g hg => by simp only [G.toked, if_true] at hg ⊢; exact (h1 g hg).1⟩
    · obtain ⟨g1, xs, g2, g3⟩ := hs.tk t n' e' k' h
      exact ⟨Nat.lt_succ_of_lt g1, xs, by simpa [G.toked, hne] using g2, fun g hg => by simp only [G.toked, hne, if_false] at hg; exact g3 g hg⟩
  · intro i t c p hc h
    rcases htok t _ h with ⟨rfl, _⟩ | ⟨hne, h⟩
    · simp only [G.toked, if_true]; intro hh; exact (h1 _ hh).2.1 i c hc rfl
    · simp only [G.toked, hne, if_false]; exact hs.bxtk i t c p hc h
  · intro a b p q g ha hb hne hg
    rcases htok a _ ha with ⟨rfl, _⟩ | ⟨hna, ha2⟩
    · rcases htok b _ hb with ⟨rfl, _⟩ | ⟨hnb, hb2⟩
      · exact absurd rfl hne
      · simp only [G.toked, if_true, hnb, if_false] at hg ⊢
        exact (h1 g hg).2.2 b q hb2
    · rcases htok b _ hb with ⟨rfl, _⟩ | ⟨hnb, hb2⟩
      · simp only [G.toked, hna, if_false, if_true] at hg ⊢
        exact fun hh => (h1 g hh).2.2 a p ha2 hg
      · simp only [G.toked, hna, hnb, if_false] at hg ⊢
        exact hs.tktk a b p q g ha2 hb2 hne hg
/-- New cells, and the right to append to them. -/
theorem alloc_tok {σ : G} {w : World} (hs : Sim σ H w) {n c e k : Nat} {cur : Array Value} (hnc : n ≤ c) (hcm : c ≤ maxLen) (hcs : cur.size = c * k) (xs : List AV) (hxl : xs.length = n) (hk : ∀ x ∈ xs, x.fits k)
    (hv : ∀ i j, i < n → j < k → VR σ w ((xs.getD i .any).cells.getD j .any) (cur.getD (i * k + j) undef)) :
    ∃ σ' t, H.tok t = none ∧ H.box t = none ∧ Ext σ w σ' (w.alloc (.cells cur e)) ∧ Sim σ' ⟨H.bx, (t, n, e, k) :: H.tk⟩ (w.alloc (.cells cur e)) ∧ VR σ' (w.alloc (.cells cur e)) (.list xs (some t)) (.slice (some ⟨w.heap.size, 0, none⟩) n c) := by
  subst hxl
  have hle : xs.length * k ≤ c * k := Nat.mul_le_mul_right k hnc
  have hE0 := ext_alloc hs (.cells cur e) (xs.length * k)
  have hS0 := sim_alloc hs (.cells cur e) (xs.length * k)
  have hlist := vr_new hs xs k cur e c (0, 0) hnc hcm hk (by omega) hv
  have hrow : (w.alloc (.cells cur e)).ownsRow (σ.froze w.heap.size (xs.length * k)).base e k (.slice (some ⟨w.heap.size, 0, none⟩) xs.length c) xs.length (cur.toList.take (xs.length * k)) := by
    refine ⟨by simp; omega, .inr ⟨w.heap.size, c, cur, rfl, hs.base, heap_alloc_new w _, hnc, hcm, hcs, rfl⟩⟩
  obtain ⟨hE1, hS1⟩ := add_tok hS0 hrow (fun g hg => by
    simp only [Value.ownBlock, Option.some.injEq] at hg
    subst hg
    refine ⟨fun o' ho => ?_, fun i c' hi => ?_, fun t m ht => ?_⟩
    · rintro (h | ⟨_, h⟩)
      · have := hs.fzlt _ _ h; omega
      · omega
    · obtain ⟨_, _, _, cu, e', h4, _⟩ := hs.bx i c' hi
      have := h4.lt
      simp only [G.froze]; omega
    · obtain ⟨n', e', k'⟩ := m
      intro hh
      have := (owned_blk hs ht hh).2
      omega)
  have hf := fresh_id hs
  refine ⟨_, σ.next, hf.2, hf.1, hE0.trans hE1, hS1, .tok _ _ _ (hlist.mono hE1) (Nat.lt_succ_self _) fun m hm => ?_⟩
  simp only [G.toked, G.froze, if_true, Option.some.injEq] at hm
  subst hm
  exact ⟨Nat.le_refl _, fun _ => ⟨by simp [G.toked, G.froze], fun x hx => (hk x hx).1⟩⟩
theorem sop_buildSliceTok {t e k bb n d : Nat} {parts : Array (Nat × Operand)} {z : List AV} (ho : o.op = .buildSlice t n parts) (ht : telem P t = some (e, k, bb)) (hz : tzero P e = some z) (hzk : z.length = k)
    (hn : parts.toList.length = n) (hq : seqParts 0 parts.toList = true) (hlim : n * k ≤ 16777216) (hk : k ≠ 0) (hd : o.dst = some d) (hdn : d < s.n)
    (hp : ∀ p ∈ parts.toList, okv (s.ev p.2)) (h1 : ∀ p ∈ parts.toList, (un (s.ev p.2)).put1 = true ∧ (un (s.ev p.2)).cells.length = k)
    (h : ∀ t, s.h.tok t = none → s.h.box t = none → K ⟨s.n, (d, .list (parts.toList.map fun p => un (s.ev p.2)) (some t)) :: s.t, ⟨s.h.bx, (t, n, e, k) :: s.h.tk⟩⟩) : SOp P o s K := by
  intro σ w a hs hl KK Q hK
  have hvp : ∀ p ∈ parts.toList, VR σ w (un (s.ev p.2)) (a.eval p.2) := fun p hpm => (hl.ev p.2).un (hp p hpm)
  obtain ⟨cur, r1, r2, r3⟩ := run_buildSlice (P := P) (ρ := s.ev) (ev := a.eval) hs ht hz hzk hn hq hlim hvp h1
  obtain ⟨σ', t', f1, f2, hE, hS, hV⟩ := alloc_tok (e := e) hs (Nat.le_refl n) (by have := Nat.le_mul_of_pos_right n (show 0 < k by omega); simp only [maxLen]; omega) r2 (parts.toList.map fun p => un (s.ev p.2)) (by simp [hn])
    (fun x hx => by
      obtain ⟨p, hp, rfl⟩ := List.mem_map.1 hx
      exact fits_of (h1 p hp).1 (h1 p hp).2) r3
  unfold Oper.wp
  simp only [execOp, ho, Sem.run_bind, r1, Result.andThen_ok, Sem.run_pure, Oper.upon]
  refine hK _ σ' _ _ (h t' f1 f2) hE hS ?_
  have hl' : Sl σ' (w.alloc (.cells cur e)) (⟨s.n, s.t, ⟨s.h.bx, (t', n, e, k) :: s.h.tk⟩⟩ : St) a := ⟨hl.size, fun d => (hl.v d).mono hE, hl.defers⟩
  rw [hd]
  exact hl'.put hdn hV
/-- The walker's choice: what a place holds. -/
inductive orAt (d : Nat) (A B : Prop) : Prop where
  | l (h : A) : orAt d A B
  | r (h : B) : orAt d A B
@[congr] theorem orAt_congr (d : Nat) (A B : Prop) : orAt d A B = orAt d A B := rfl
theorem orAt_l {d : Nat} {A B : Prop} (h : A) : orAt d A B := .l h
theorem orAt_r (d : Nat) {A B : Prop} (h : B) : orAt d A B := .r h
end Go.Proofs.YtababmnmkmgbbaaGreat.Fw
set_option linter.unusedVariables false
namespace Go.Proofs.YtababmnmkmgbbaaGreat.Fw
open Go.RowKit
variable {P : Program} {Q : Exit → St → Prop} {s : St} {o : Oper} {K : St → Prop} {ρ : Operand → AV} {H : Hp}
/-! Maps. -/
abbrev MEs := List (MK × AV × Nat)
theorem mkey_inj : ∀ {a b : MK}, mkey a = mkey b → a = b
  | .i a, .i b, h => by simp [mkey] at h; rw [h]
  | .s a, .s b, h => by simp [mkey] at h; rw [h]
  | .i a, .s b, h => by simp [mkey] at h
  | .s a, .i b, h => by simp [mkey] at h
/-- Entries as the proof sees them. -/
structure MRel (σ : G) (w : World) (us : Array MapEntry) (es : MEs) : Prop where
  len : us.size = es.length
  get : ∀ (i : Nat) (u : MapEntry) (e : MK × AV × Nat), us[i]? = some u → es[i]? = some e → u.key = mkey e.1 ∧ u.born = e.2.2 ∧ VR σ w e.2.1 u.val
theorem MRel.mono {σ σ' : G} {w w' : World} {us : Array MapEntry} {es : MEs} (h : MRel σ w us es) (e : Ext σ w σ' w') : MRel σ' w' us es :=
  ⟨h.len, fun i u x h1 h2 => ⟨(h.get i u x h1 h2).1, (h.get i u x h1 h2).2.1, (h.get i u x h1 h2).2.2.mono e⟩⟩
theorem MRel.at {σ : G} {w : World} {us : Array MapEntry} {es : MEs} (h : MRel σ w us es) {i : Nat} {e : MK × AV × Nat} (he : es[i]? = some e) : ∃ u, us[i]? = some u ∧ u.key = mkey e.1 ∧ u.born = e.2.2 ∧ VR σ w e.2.1 u.val := by
  have hi : i < us.size := by rw [h.len]; exact (List.getElem?_eq_some_iff.1 he).1
  exact ⟨us[i], Array.getElem?_eq_getElem hi, h.get i _ _ (Array.getElem?_eq_getElem hi) he⟩
theorem MRel.at' {σ : G} {w : World} {us : Array MapEntry} {es : MEs} (h : MRel σ w us es) {i : Nat} {u : MapEntry} (hu : us[i]? = some u) : ∃ e, es[i]? = some e ∧ u.key = mkey e.1 ∧ u.born = e.2.2 ∧ VR σ w e.2.1 u.val := by
  have hi : i < es.length := by rw [← h.len]; exact (Array.getElem?_eq_some_iff.1 hu).1
  exact ⟨es[i], List.getElem?_eq_getElem hi, h.get i _ _ hu (List.getElem?_eq_getElem hi)⟩
theorem vr_con {σ : G} {w : World} {v u : Value} (h : VR σ w (.con v) u) : u = v := by cases h; rfl
theorem map_inj_arr {us vs : Array MapEntry} (h : us.map (fun x => Value.tuple #[x.key, x.val, .int .i64 (x.born : Int)]) = vs.map (fun x => Value.tuple #[x.key, x.val, .int .i64 (x.born : Int)])) : us = vs := by
  refine Array.ext (by simpa using congrArg Array.size h) fun i h1 h2 => ?_
  have h3 := congrArg (fun a => a[i]?) h
  simp only [Array.getElem?_map, Array.getElem?_eq_getElem h1, Array.getElem?_eq_getElem h2, Option.map_some, Option.some.injEq, Value.tuple.injEq] at h3
  have h4 := congrArg (fun a => a.toList) h3
  simp only [List.cons.injEq, Value.int.injEq, true_and, and_true] at h4
  cases hu : us[i]; cases hv : vs[i]
  rw [hu, hv] at h4
  simp only at h4
  rw [h4.1, h4.2.1, show _ = _ from Int.ofNat.inj h4.2.2]
theorem vr_mc {σ : G} {w : World} {us : Array MapEntry} {es : MEs} {c e : Nat} (h : VR σ w (.mc es c) ((mcells us e).getD 0 undef)) : MRel σ w us es ∧ c = e := by
  generalize hm : (mcells us e).getD 0 undef = v at h
  cases h with
  | mc _ _ vs h1 h2 h3 =>
    simp only [mcells] at hm
    have hm : Value.tuple #[.tuple (us.map fun x => .tuple #[x.key, x.val, .int .i64 (x.born : Int)]), .int .i64 (e : Int)] = _ := hm
    simp only [Value.tuple.injEq] at hm
    have h4 := congrArg (fun a => a.toList) hm
    simp only [List.cons.injEq, Value.tuple.injEq, Value.int.injEq, true_and, and_true] at h4
    obtain rfl := map_inj_arr h4.1
    exact ⟨⟨h1, fun i u x a b => ⟨(h2 i u x a b).1, (h2 i u x a b).2, h3 i u x a b⟩⟩, by have := h4.2; omega⟩
theorem MRel.vr {σ : G} {w : World} {us : Array MapEntry} {es : MEs} {c : Nat} (h : MRel σ w us es) : VR σ w (.mc es c) ((mcells us c).getD 0 undef) :=
  .mc es c us h.len (fun i u x a b => ⟨(h.get i u x a b).1, (h.get i u x a b).2.1⟩) (fun i u x a b => (h.get i u x a b).2.2)
/-- What an abstract value says of a map. -/
def mapOf (H : Hp) : AV → Option (MEs × Nat)
  | .mp id => match H.box id with
    | some [.mc es c] => some (es, c)
    | _ => none
  | .mv es c => some (es, c)
  | .con (.map none) => some ([], 0)
  | _ => none
theorem map_at {σ : G} {w : World} (hs : Sim σ H w) {x : AV} {v : Value} (hv : VR σ w x v) {es : MEs} {c : Nat} (hm : mapOf H x = some (es, c)) :
    (v = .map none ∧ es = [] ∧ c = 0) ∨ ∃ b us, v = .map (some b) ∧ w.heap[b]? = some (.map us c) ∧ Stamped us c ∧ MRel σ w us es := by
  unfold mapOf at hm
  split at hm
  · rename_i id
    split at hm
    · rename_i es' c' hb
      simp only [Option.some.injEq, Prod.mk.injEq] at hm
      obtain ⟨rfl, rfl⟩ := hm
      cases hv with
      | mp _ h hk =>
        obtain ⟨_, _, _, cur, e, h4, h5, h6⟩ := hs.bx id _ hb
        rw [hk] at h4
        obtain ⟨us, m1, m2, m3⟩ := h4
        subst m3
        obtain ⟨g1, g2⟩ := vr_mc (h6 0 (by simp))
        subst g2
        exact .inr ⟨_, us, rfl, m1, m2, g1⟩
    · cases hm
  · simp only [Option.some.injEq, Prod.mk.injEq] at hm
    obtain ⟨rfl, rfl⟩ := hm
    cases hv with
    | mv _ _ b o us h1 h2 h3 h4 h5 h6 => exact .inr ⟨b, us, rfl, h2, h3, h4, fun i u x a b => ⟨(h5 i u x a b).1, (h5 i u x a b).2, h6 i u x a b⟩⟩
  · simp only [Option.some.injEq, Prod.mk.injEq] at hm
    obtain ⟨rfl, rfl⟩ := hm
    cases hv
    exact .inl ⟨rfl, rfl, rfl⟩
  · cases hm
/-! Keys. -/
def kOk (P : Program) (kt : TypeId) : MK → Prop
  | .i _ => tint P kt = some .i64
  | .s _ => tkind P kt = 2
def mOk (P : Program) (kt : TypeId) (k : MK) (es : MEs) : Prop := kOk P kt k ∧ ∀ e ∈ es, kOk P kt e.1
def keyA : AV → Option MK
  | .con (.int .i64 n) => some (.i n)
  | .con (.string b) => some (.s b)
  | _ => none
def mhas (k : MK) (es : MEs) : Bool := es.any fun e => decide (e.1 = k)
def mget (k : MK) (es : MEs) : Option AV := (es.find? fun e => decide (e.1 = k)).map (·.2.1)
def mset (k : MK) (v : AV) (c : Nat) (es : MEs) : MEs := if mhas k es = true then es.map fun e => if e.1 = k then (k, v, e.2.2) else e else es ++ [(k, v, c)]
def mclk (k : MK) (c : Nat) (es : MEs) : Nat := if mhas k es = true then c else c + 1
def mdel (k : MK) (es : MEs) : MEs := es.filter fun e => decide (e.1 ≠ k)
theorem under_int {kt : TypeId} {q : IntKind} (h : tint P kt = some q) : P.underlying kt = some (.int q) := by
  unfold tint at h; split at h <;> first | (injection h with h; subst h; assumption) | cases h
theorem run_checkKey {kt : TypeId} {k : MK} (h : kOk P kt k) (em : Bool) (w : World) : (Instr.checkKey em 10000 kt (mkey k)).run P w = .ok () w := by
  obtain ⟨d, hd⟩ : ∃ d, 10000 = d + 1 := ⟨9999, rfl⟩
  rw [hd]
  cases k with
  | i n => simp only [Instr.checkKey, Sem.run_bind, run_underlying (under_int h), Result.andThen_ok, mkey, Sem.run_pure]
  | s b => simp only [Instr.checkKey, Sem.run_bind, run_underlying (tkind_string h), Result.andThen_ok, mkey, Sem.run_pure]
theorem findNow_eq {d : TypeDesc} {k : MK} : ∀ (us : List MapEntry) (i : Nat), (∀ u ∈ us, ∃ m, u.key = mkey m ∧ Instr.sameNow d (mkey k) (mkey m) = some (decide (m = k))) →
    (Instr.findNow d (mkey k) us i = some none ∧ ∀ u ∈ us, u.key ≠ mkey k) ∨ ∃ j u, us[j]? = some u ∧ u.key = mkey k ∧ (∀ j' u', j' < j → us[j']? = some u' → u'.key ≠ mkey k) ∧ Instr.findNow d (mkey k) us i = some (some (i + j, u.val)) := by
  intro us
  induction us with
  | nil => intro i _; exact .inl ⟨rfl, fun u hu => by cases hu⟩
  | cons u us ih =>
    intro i h
    obtain ⟨m, h1, h2⟩ := h u (by simp)
    by_cases hmk : m = k
    · subst hmk
      refine .inr ⟨0, u, rfl, h1, fun j' u' hj => by omega, ?_⟩
      rw [Instr.findNow, h1, h2]; simp
    · rcases ih (i + 1) (fun x hx => h x (by simp [hx])) with ⟨g1, g2⟩ | ⟨j, x, g1, g2, g3, g4⟩
      · refine .inl ⟨?_, fun x hx => ?_⟩
        · rw [Instr.findNow, h1, h2]; simp [hmk, g1]
        · rcases List.mem_cons.1 hx with rfl | hx
          · rw [h1]; exact fun e => hmk (mkey_inj e)
          · exact g2 x hx
      · refine .inr ⟨j + 1, x, g1, g2, fun j' u' hj hu' => ?_, ?_⟩
        · cases j' with
          | zero => simp at hu'; subst hu'; rw [h1]; exact fun e => hmk (mkey_inj e)
          | succ j' => exact g3 j' u' (by omega) hu'
        · rw [Instr.findNow, h1, h2]; simp only [hmk, decide_false]; rw [g4]; congr 3; omega
theorem same_ok {kt : TypeId} {k m : MK} (h : kOk P kt k) (g : kOk P kt m) : ∃ d, P.underlying kt = some d ∧ Instr.sameNow d (mkey k) (mkey m) = some (decide (m = k)) := by
  cases k with
  | i n =>
    cases m with
    | i n' => exact ⟨_, under_int h, by
      simp only [Instr.sameNow, mkey, MK.i.injEq, if_true]
      by_cases e : n = n'
      · subst e; simp
      · simp [e, Ne.symm e]⟩
    | s b => have := under_int h; have := tkind_string g; simp_all
  | s b =>
    cases m with
    | s b' => 
      refine ⟨_, tkind_string h, ?_⟩
      simp only [Instr.sameNow, mkey, MK.s.injEq]
      congr 1
      have hb : (b == b') = (b.data == b'.data) := rfl
      rw [hb]
      by_cases e : b = b'
      · subst e; simp
      · have : b.data ≠ b'.data := fun h => e (by cases b; cases b'; simp at h; rw [h])
        simp [Ne.symm e, this]
    | i n => have := under_int g; have := tkind_string h; simp_all
theorem run_findKey {σ : G} {kt : TypeId} {k : MK} {es : MEs} {us : Array MapEntry} {w w0 : World} (hm : mOk P kt k es) (hr : MRel σ w0 us es) :
    ((Instr.findKey kt (mkey k) us.toList).run P w = .ok none w ∧ ∀ e ∈ es, e.1 ≠ k) ∨
    ∃ j u e, us[j]? = some u ∧ es[j]? = some e ∧ e.1 = k ∧ es.find? (fun e => decide (e.1 = k)) = some e ∧ (Instr.findKey kt (mkey k) us.toList).run P w = .ok (some (j, u.val)) w := by
  have hd : ∃ d, P.underlying kt = some d := by
    obtain ⟨d, h, _⟩ := same_ok hm.1 hm.1; exact ⟨d, h⟩
  obtain ⟨d, hd⟩ := hd
  have hall : ∀ u ∈ us.toList, ∃ m, u.key = mkey m ∧ Instr.sameNow d (mkey k) (mkey m) = some (decide (m = k)) := by
    intro u hu
    obtain ⟨i, hi⟩ := List.getElem?_of_mem hu
    obtain ⟨e, g1, g2, _⟩ := hr.at' (i := i) (u := u) (by simpa using hi)
    obtain ⟨d', h1, h2⟩ := same_ok hm.1 (hm.2 e (List.mem_of_getElem? g1))
    rw [hd] at h1; injection h1 with h1; subst h1
    exact ⟨e.1, g2, h2⟩
  rcases findNow_eq us.toList 0 hall with ⟨h1, h2⟩ | ⟨j, u, h1, h2, h3, h4⟩
  · refine .inl ⟨by simp only [Instr.findKey, Sem.run_bind, run_underlying hd, Result.andThen_ok, h1, Sem.run_pure], fun e he => ?_⟩
    obtain ⟨i, hi⟩ := List.getElem?_of_mem he
    obtain ⟨u, g1, g2, _⟩ := hr.at hi
    exact fun e2 => h2 u (List.mem_of_getElem? (by simpa using g1)) (by rw [g2, e2])
  · have h1' : us[j]? = some u := by simpa using h1
    obtain ⟨e, g1, g2, _⟩ := hr.at' h1'
    have hek : e.1 = k := mkey_inj (by rw [← g2, h2])
    refine .inr ⟨j, u, e, h1', g1, hek, ?_, by simp only [Instr.findKey, Sem.run_bind, run_underlying hd, Result.andThen_ok, h4, Sem.run_pure, Nat.zero_add]⟩
    have hj : j < es.length := (List.getElem?_eq_some_iff.1 g1).1
    rw [List.find?_eq_some_iff_getElem]
    refine ⟨by simp [hek], j, hj, by rw [List.getElem?_eq_getElem hj] at g1; injection g1, fun j' hj' => ?_⟩
    have hj2 : j' < es.length := by omega
    obtain ⟨u', q1, q2, _⟩ := hr.at (List.getElem?_eq_getElem hj2)
    have := h3 j' u' hj' (by simpa using q1)
    simp only [Bool.not_eq_true', decide_eq_false_iff_not]
    exact fun e2 => this (by rw [q2, e2])
def tmap (P : Program) (t : TypeId) : Option (TypeId × TypeId) :=
  match P.underlying t with
  | some (.map k e) => some (k, e)
  | _ => none
theorem under_map {t k e : TypeId} (h : tmap P t = some (k, e)) : P.underlying t = some (.map k e) := by
  unfold tmap at h; split at h <;> first | (injection h with h; injection h with h1 h2; subst h1 h2; assumption) | cases h
def tzV (P : Program) (t : TypeId) : Option AV := ((P.info? t).bind (·.zero)).map fun v => match v with | .agg cs => .agg (cs.toList.map .con) | v => .con v
theorem run_zeroV {t : TypeId} {x : AV} (h : tzV P t = some x) (σ : G) (w : World) : ∃ v, (zeroValue t).run P w = .ok v w ∧ VR σ w x v := by
  unfold tzV at h
  obtain ⟨v, hv, rfl⟩ := Option.map_eq_some_iff.1 h
  obtain ⟨i, hi, hz⟩ := Option.bind_eq_some_iff.1 hv
  refine ⟨v, by simp [zeroValue, typeInfo, hi, hz], ?_⟩
  split
  · rename_i cs
    refine .agg _ _ (by simp) fun i hi => ?_
    have hj' : i < cs.size := by simpa using hi
    simp [List.getD_eq_getElem?_getD, Array.getD_eq_getD_getElem?, hj']
    exact .con _
  · exact .con _
theorem keyA_eq {σ : G} {w : World} {x : AV} {v : Value} {k : MK} (hv : VR σ w x v) (h : keyA x = some k) : v = mkey k := by
  unfold keyA at h
  split at h
  · injection h with h; subst h; exact vr_con hv
  · injection h with h; subst h; exact vr_con hv
  · cases h
/-- m[k] -/
def lookV (k : MK) (es : MEs) (z : AV) (ok : Bool) : AV :=
  match mget k es with
  | some v => if ok then .tup [v, .con (.bool true)] else v
  | none => if ok then .tup [z, .con (.bool false)] else z
theorem vr_pair {σ : G} {w : World} {x y : AV} {u v : Value} (h : VR σ w x u) (k : VR σ w y v) : VR σ w (.tup [x, y]) (.tuple #[u, v]) := by
  refine .tup _ _ rfl fun i hi => ?_
  have : i = 0 ∨ i = 1 := by simp at hi; omega
  rcases this with rfl | rfl
  · exact h
  · exact k
theorem vop_lookup {t kt et : TypeId} {x y : Operand} {ok : Bool} {es : MEs} {c : Nat} {k : MK} {z : AV} (ho : o.op = .lookup t x y ok) (hx : okv (ρ x)) (hy : okv (ρ y)) (ht : tmap P t = some (kt, et)) (hz : tzV P et = some z)
    (hm : mapOf H (un (ρ x)) = some (es, c)) (hk : keyA (un (ρ y)) = some k) (hok : mOk P kt k es) : VOp P H o ρ (lookV k es z ok) := vop_same fun σ w ev hs hv => by
  have h1 := (hv x (by simp [ho, Op.operands])).un hx
  have h2 := (hv y (by simp [ho, Op.operands])).un hy
  have hkey := keyA_eq h2 hk
  obtain ⟨zv, hz1, hz2⟩ := run_zeroV hz σ w
  rcases map_at hs h1 hm with ⟨e0, rfl, rfl⟩ | ⟨b, us, e0, hb, hst, hr⟩
  · have hf : (Instr.findKey kt (mkey k) []).run P w = .ok none w := by
      rcases run_findKey (w := w) (us := #[]) (w0 := w) (σ := σ) hok ⟨rfl, fun i u e h => by simp at h⟩ with ⟨g, _⟩ | ⟨j, u, e, g, _⟩
      · exact g
      · simp at g
    refine ⟨if ok then .tuple #[zv, .bool false] else zv, ?_, ?_⟩
    · simp only [execOp, ho, Instr.lookup, e0, hkey, Sem.run_bind, run_underlying (under_map ht), Result.andThen_ok, Sem.run_pure, run_checkKey hok.1, hf, hz1]
    · simp only [lookV, mget, List.find?_nil, Option.map_none]
      cases ok
      · exact hz2
      · exact vr_pair hz2 (.con _)
  · rcases run_findKey (w := w) hok hr with ⟨g1, g2⟩ | ⟨j, u, e, g1, g2, g3, g4, g5⟩
    · have hnone : mget k es = none := by
        simp only [mget, Option.map_eq_none_iff, List.find?_eq_none, decide_eq_true_eq]
        exact g2
      refine ⟨if ok then .tuple #[zv, .bool false] else zv, ?_, ?_⟩
      · simp only [execOp, ho, Instr.lookup, e0, hkey, Sem.run_bind, run_underlying (under_map ht), Result.andThen_ok, Sem.run_pure, MapKept.run_getObj_map hb, run_checkKey hok.1, g1, hz1]
      · simp only [lookV, hnone]
        cases ok
        · exact hz2
        · exact vr_pair hz2 (.con _)
    · have hsome : mget k es = some e.2.1 := by simp only [mget, g4, Option.map_some]
      have hve := (hr.get j u e g1 g2).2.2
      refine ⟨if ok then .tuple #[u.val, .bool true] else u.val, ?_, ?_⟩
      · simp only [execOp, ho, Instr.lookup, e0, hkey, Sem.run_bind, run_underlying (under_map ht), Result.andThen_ok, Sem.run_pure, MapKept.run_getObj_map hb, run_checkKey hok.1, g5]
      · simp only [lookV, hsome]
        cases ok
        · exact hve
        · exact vr_pair hve (.con _)

/-! What turns maps. -/
theorem sim_turn {σ : G} {H : Hp} {w w' : World} (hs : Sim σ H w) {id e' : Nat} {c c' : List AV} {cur' : Array Value} (hb : H.box id = some c) (hB : BelowD σ.base w w') (hsz : w'.heap.size = w.heap.size) (hoth : ∀ j, j ≠ σ.blk id → w'.heap[j]? = w.heap[j]?)
    (hO : HasObj w'.heap[σ.blk id]? (σ.kd id) cur' e') (hc : c'.length ≤ cur'.size ∧ ∀ i, i < c'.length → VR σ w (c'.getD i .any) (cur'.getD i undef)) : Ext σ w σ w' ∧ Sim σ (H.upd id fun _ => c') w' := by
  obtain ⟨h1, h2, h3, cur, e, h4, h5, h6⟩ := hs.bx id c hb
  have hE : Ext σ w σ w' := ⟨rfl, hB, Nat.le_refl _, fun _ _ h => h, fun b o' hf => .block (hoth b fun e => h3 o' (e ▸ hf)), fun _ _ => ⟨rfl, rfl⟩, fun t _ m hm => ⟨m, hm, Nat.le_refl _, fun _ => ⟨rfl, rfl⟩⟩⟩
  have hlook : ∀ j d, (H.upd id fun _ => c').box j = some d → (j = id ∧ d = c') ∨ (j ≠ id ∧ H.box j = some d) := by
    intro j d hj
    simp only [Hp.box, Hp.upd, lookup_updB] at hj
    split at hj
    · rename_i e; subst e
      rw [show H.bx.lookup j = some c from hb] at hj
      simp at hj; exact .inl ⟨rfl, hj.symm⟩
    · rename_i e; exact .inr ⟨e, hj⟩
  have hor : ∀ j d, (H.upd id fun _ => c').box j = some d → ∃ d', H.box j = some d' := by
    intro j d hj
    rcases hlook j d hj with ⟨rfl, _⟩ | ⟨_, hj⟩
    · exact ⟨c, hb⟩
    · exact ⟨d, hj⟩
  refine ⟨hE, by rw [hsz]; exact hs.base, fun b o' hf => by rw [hsz]; exact hs.fzlt b o' hf, hs.tok, ?_, ?_, ?_, ?_, hs.tktk⟩
  · intro j d hj
    rcases hlook j d hj with ⟨rfl, rfl⟩ | ⟨hne, hj⟩
    · exact ⟨h1, h2, h3, cur', e', hO, hc.1, fun i hi => (hc.2 i hi).mono hE⟩
    · obtain ⟨g1, g2, g3, cu, e', g4, g5, g6⟩ := hs.bx j d hj
      exact ⟨g1, g2, g3, cu, e', by rw [hoth _ (hs.bxbx j id d c hj hb hne)]; exact g4, g5, fun i hi => (g6 i hi).mono hE⟩
  · intro t' n e' k' ht
    obtain ⟨g1, xs, g2, g3⟩ := hs.tk t' n e' k' ht
    have hne := hs.bxtk id t' c _ hb ht
    refine ⟨g1, xs, g2.kept (row := some (σ.blk id)) ⟨hB.os, hB.tape, hB.output, by rw [hsz]; exact Nat.le_refl _, fun j _ hj => hoth j (fun e => hj (by rw [e]))⟩ (.inr hne), g3⟩
  · intro i j ci cj hi hj hne
    obtain ⟨ci', hi'⟩ := hor i ci hi
    obtain ⟨cj', hj'⟩ := hor j cj hj
    exact hs.bxbx i j ci' cj' hi' hj' hne
  · intro i t' ci n hi ht
    obtain ⟨ci', hi'⟩ := hor i ci hi
    exact hs.bxtk i t' ci' n hi' ht
open Go.ChangeMaps (setBlock)
theorem below_setBlock {w : World} {base b : Nat} {ob : Obj} (h : base ≤ b) : BelowD base w (setBlock w b ob) :=
  ⟨⟨rfl, rfl, rfl, by simp [setBlock], fun j hj => by simp [setBlock, show b ≠ j by omega]⟩, Nat.le_refl _⟩
/-- makeMap -/
theorem sop_makeMap {t : TypeId} {d : Nat} (ho : o.op = .makeMap t none) (hd : o.dst = some d) (hn : d < s.n)
    (h : ∀ id, s.h.box id = none → s.h.tok id = none → K ⟨s.n, (d, .mp id) :: s.t, ⟨(id, [.mc [] 0]) :: s.h.bx, s.h.tk⟩⟩) : SOp P o s K := by
  intro σ w a hs hl KK Q hK
  have hE := ext_box hs (.map #[] 0) .map
  have hmr : MRel σ w #[] [] := ⟨rfl, fun i u e h => by simp at h⟩
  have hS := sim_boxk hs (cs := [.mc [] 0]) (cur := mcells #[] 0) 0 .map (.map #[] 0) ⟨#[], rfl, MapKept.stamped_empty 0, rfl⟩ ⟨by simp [mcells], fun i hi => by
    obtain rfl : i = 0 := by simpa using hi
    exact hmr.vr⟩
  unfold Oper.wp
  simp only [execOp, ho, Instr.makeMap, newObj, Sem.run_bind, Result.andThen, Oper.upon]
  refine hK _ (σ.boxed w.heap.size .map) _ _ (h σ.next (fresh_id hs).1 (fresh_id hs).2) hE hS ?_
  have hl' : Sl (σ.boxed w.heap.size .map) (w.alloc (.map #[] 0)) (⟨s.n, s.t, ⟨(σ.next, [.mc [] 0]) :: s.h.bx, s.h.tk⟩⟩ : St) a := ⟨hl.size, fun d => (hl.v d).mono hE, hl.defers⟩
  rw [hd]
  refine hl'.put hn ?_
  have := VR.mp (σ := σ.boxed w.heap.size .map) (w := w.alloc (.map #[] 0)) σ.next (by simp [G.boxed]) (by simp [G.boxed])
  rwa [show (σ.boxed w.heap.size .map).blk σ.next = w.heap.size by simp [G.boxed]] at this
theorem mp_at {σ : G} {w : World} (hs : Sim σ H w) {id c : Nat} {es : MEs} {v : Value} (hv : VR σ w (.mp id) v) (hb : H.box id = some [.mc es c]) :
    v = .map (some (σ.blk id)) ∧ σ.base ≤ σ.blk id ∧ σ.kd id = .map ∧ ∃ us, w.heap[σ.blk id]? = some (.map us c) ∧ Stamped us c ∧ MRel σ w us es := by
  cases hv with
  | mp _ h hk =>
    obtain ⟨_, h2, _, cur, e, h4, h5, h6⟩ := hs.bx id _ hb
    rw [hk] at h4
    obtain ⟨us, m1, m2, m3⟩ := h4
    subst m3
    obtain ⟨g1, g2⟩ := vr_mc (h6 0 (by simp))
    subst g2
    exact ⟨rfl, h2, hk, us, m1, m2, g1⟩
/-- A map is turned. -/
theorem sim_map {σ : G} {w : World} (hs : Sim σ H w) {id c c' : Nat} {es es' : MEs} {us us' : Array MapEntry} (hb : H.box id = some [.mc es c]) (h2 : σ.base ≤ σ.blk id) (hk : σ.kd id = .map) (hw : w.heap[σ.blk id]? = some (.map us c)) (hst : Stamped us' c') (hr : MRel σ w us' es') :
    Ext σ w σ (setBlock w (σ.blk id) (.map us' c')) ∧ Sim σ (H.upd id fun _ => [.mc es' c']) (setBlock w (σ.blk id) (.map us' c')) := by
  refine sim_turn hs (cur' := mcells us' c') (e' := c') hb (below_setBlock h2) (by simp [setBlock]) (fun j hj => ChangeMaps.heap_setBlock_other hw _ hj) ?_ ⟨by simp [mcells], fun i hi => ?_⟩
  · rw [hk, ChangeMaps.heap_setBlock_same hw]
    exact ⟨us', rfl, hst, rfl⟩
  · obtain rfl : i = 0 := by simpa using hi
    exact hr.vr
theorem run_stays {k : MK} (w : World) : (Instr.keyThatStays (mkey k) (mkey k)).run P w = .ok (mkey k) w := by
  cases k with
  | i n => simp [Instr.keyThatStays, mkey, Instr.sameBits]
  | s b => simp [Instr.keyThatStays, mkey, Instr.sameBits, show (b == b) = true from (by show (b.data == b.data) = true; simp)]
theorem key_inj_get {us : Array MapEntry} {c : Nat} (h : Stamped us c) {i j : Nat} {u v : MapEntry} (hi : us[i]? = some u) (hj : us[j]? = some v) (hk : u.key = v.key) : i = j := by
  have hn : (us.toList.map (·.key)).Nodup := by
    have := ((MapKept.stamped_iff us c).1 h).2.2
    rw [List.Nodup, List.pairwise_map]; exact this
  have hi' : (us.toList.map (·.key))[i]? = some u.key := by simp [hi]
  have hj' : (us.toList.map (·.key))[j]? = some u.key := by simp [hj, hk]
  exact (List.getElem?_inj (List.getElem?_eq_some_iff.1 hi').1 hn).1 (hi'.trans hj'.symm)
/-- Keys and stamps, each once; stamps below the clock. -/
def Stm (es : MEs) (c : Nat) : Prop := es.Pairwise (fun a b => a.1 ≠ b.1) ∧ (es.map (·.2.2)).Nodup ∧ ∀ e ∈ es, e.2.2 < c
theorem MRel.stm {σ : G} {w : World} {us : Array MapEntry} {es : MEs} {c : Nat} (hr : MRel σ w us es) (hst : Stamped us c) : Stm es c := by
  obtain ⟨s1, s2, s3⟩ := (MapKept.stamped_iff us c).1 hst
  have hb : es.map (·.2.2) = us.toList.map (·.born) := by
    refine List.ext_getElem? fun i => ?_
    rw [List.getElem?_map, List.getElem?_map]
    rcases Nat.lt_or_ge i es.length with hi | hi
    · obtain ⟨u, h1, h2, h3, _⟩ := hr.at (List.getElem?_eq_getElem hi)
      have h1' : us.toList[i]? = some u := by simpa using h1
      rw [List.getElem?_eq_getElem hi, h1']; simp [h3]
    · rw [List.getElem?_eq_none hi, List.getElem?_eq_none (by simpa [hr.len] using hi)]; rfl
  refine ⟨?_, by rw [hb]; exact s2, fun e he => ?_⟩
  · rw [List.pairwise_iff_getElem] at s3 ⊢
    intro i j hi hj hij
    obtain ⟨u, h1, h2, _⟩ := hr.at (List.getElem?_eq_getElem hi)
    obtain ⟨v, g1, g2, _⟩ := hr.at (List.getElem?_eq_getElem hj)
    have hi' : i < us.toList.length := by simpa [hr.len] using hi
    have hj' : j < us.toList.length := by simpa [hr.len] using hj
    have := s3 i j hi' hj' hij
    intro e2
    refine this ?_
    have e1 : us.toList[i] = u := by have : us.toList[i]? = some u := by simpa using h1
                                     rw [List.getElem?_eq_getElem hi'] at this; injection this
    have e3 : us.toList[j] = v := by have : us.toList[j]? = some v := by simpa using g1
                                     rw [List.getElem?_eq_getElem hj'] at this; injection this
    rw [e1, e3, h2, g2, e2]
  · obtain ⟨i, hi⟩ := List.getElem?_of_mem he
    obtain ⟨u, h1, _, h3, _⟩ := hr.at hi
    rw [← h3]
    exact s1 u (List.mem_of_getElem? (i := i) (by simpa using h1))
/-- m[k] = v -/
theorem sop_mapUpdate {t kt et id c : Nat} {x y z : Operand} {es : MEs} {k : MK} (ho : o.op = .mapUpdate t x y z) (hd : o.dst = none) (hx : okv (s.ev x)) (hy : okv (s.ev y)) (hz : okv (s.ev z)) (ht : tmap P t = some (kt, et))
    (hxm : un (s.ev x) = .mp id) (hb : s.h.box id = some [.mc es c]) (hk : keyA (un (s.ev y)) = some k) (hok : mOk P kt k es)
    (h : K ⟨s.n, s.t, s.h.upd id fun _ => [.mc (mset k (un (s.ev z)) c es) (mclk k c es)]⟩) : SOp P o s K := by
  intro σ w a hs hl KK Q hK
  have h1 := (hl.ev x).un hx
  have h2 := (hl.ev y).un hy
  have h3 := (hl.ev z).un hz
  rw [hxm] at h1
  have hkey := keyA_eq h2 hk
  obtain ⟨e0, hbase, hkd, us, hw, hst, hr⟩ := mp_at hs h1 hb
  have fin : ∀ us', (execOp a.eval o).run P w = .ok .skip (setBlock w (σ.blk id) (.map us' (mclk k c es))) → Stamped us' (mclk k c es) → MRel σ w us' (mset k (un (s.ev z)) c es) → Oper.wp P o a w KK Q := by
    intro us' hrun hst' hr'
    obtain ⟨hE, hS⟩ := sim_map hs hb hbase hkd hw hst' hr'
    unfold Oper.wp
    rw [hrun]
    simp only [Oper.upon]
    rw [hd] at hK ⊢
    exact hK _ σ _ undef h hE hS ⟨hl.size, fun d => (hl.v d).mono hE, hl.defers⟩
  rcases run_findKey (w := w) hok hr with ⟨g1, g2⟩ | ⟨j, u, e, g1, g2, g3, g4, g5⟩
  · have hno : mhas k es = false := by simp only [mhas, List.any_eq_false, decide_eq_true_eq]; exact g2
    have hc : mclk k c es = c + 1 := by simp [mclk, hno]
    refine fin (us.push { key := mkey k, val := a.eval z, born := c }) ?_ ?_ ?_
    · rw [hc]
      simp only [execOp, ho, e0, hkey, Instr.mapUpdate, Sem.run_bind, run_underlying (under_map ht), Result.andThen_ok, MapKept.run_getObj_map hw, run_checkKey hok.1, g1, MapKept.run_setObj_map _ hw, Sem.run_pure, setBlock]
    · rw [hc]
      refine MapKept.stamped_push hst fun x hx => ?_
      obtain ⟨i, hi⟩ := List.getElem?_of_mem hx
      obtain ⟨e, q1, q2, _⟩ := hr.at' (i := i) (u := x) (by simpa using hi)
      rw [q2]
      exact fun e2 => g2 e (List.mem_of_getElem? q1) (mkey_inj e2)
    · simp only [mset, hno, Bool.false_eq_true, if_false]
      refine ⟨by simp [hr.len], fun i u' e' hu he => ?_⟩
      rw [Array.getElem?_push] at hu
      split at hu
      · rename_i hi
        injection hu with hu
        subst hu
        rw [hi, hr.len, List.getElem?_append_right (Nat.le_refl _)] at he
        simp at he
        subst he
        exact ⟨rfl, rfl, h3⟩
      · have hi : i < us.size := (Array.getElem?_eq_some_iff.1 hu).1
        rw [List.getElem?_append_left (by rw [← hr.len]; exact hi)] at he
        exact hr.get i _ _ hu he
  · have hyes : mhas k es = true := by simp only [mhas, List.any_eq_true, decide_eq_true_eq]; exact ⟨e, List.mem_of_getElem? g2, g3⟩
    have hc : mclk k c es = c := by simp [mclk, hyes]
    have huk : u.key = mkey k := by rw [(hr.get j u e g1 g2).1, g3]
    refine fin (us.modify j fun e => { e with key := mkey k, val := a.eval z }) ?_ ?_ ?_
    · rw [hc]
      simp only [execOp, ho, e0, hkey, Instr.mapUpdate, Sem.run_bind, run_underlying (under_map ht), Result.andThen_ok, MapKept.run_getObj_map hw, run_checkKey hok.1, g5, g1, Option.map_some, Option.getD_some, huk, run_stays, MapKept.run_setObj_map _ hw, Sem.run_pure, setBlock]
    · rw [hc]
      exact MapKept.stamped_modify hst j _ (fun e he => rfl) (fun e he hj => by rw [g1] at hj; injection hj with hj; subst hj; exact huk.symm)
    · simp only [mset, hyes, if_true]
      refine ⟨by simp [hr.len], fun i u' e' hu he => ?_⟩
      rw [Array.getElem?_modify] at hu
      rw [List.getElem?_map] at he
      obtain ⟨e1, he1, he2⟩ := Option.map_eq_some_iff.1 he
      split at hu
      · rename_i hij; subst hij
        obtain ⟨u1, hu1, hu2⟩ := Option.map_eq_some_iff.1 hu
        rw [g1] at hu1; injection hu1 with hu1; subst hu1
        rw [g2] at he1; injection he1 with he1; subst he1
        rw [if_pos g3] at he2
        subst he2 hu2
        exact ⟨rfl, (hr.get j u e g1 g2).2.1, h3⟩
      · rename_i hij
        have hne : e1.1 ≠ k := fun e2 => hij (key_inj_get hst g1 hu (by rw [huk, (hr.get i u' e1 hu he1).1, e2]))
        rw [if_neg hne] at he2
        subst he2
        exact hr.get i _ _ hu he1
/-- delete(m, k) -/
theorem sop_delete {c' : Call} {t kt et t2 id c : Nat} {ts : List TypeId} {x y : Operand} {es : MEs} {k : MK} (ho : o.op = .call c') (hcal : c'.callee = .builtin .delete) (ha : c'.args = #[x, y]) (hat : c'.argTypes = #[t, t2]) (hd : o.dst = none) (hx : okv (s.ev x)) (hy : okv (s.ev y)) (ht : tmap P t = some (kt, et))
    (hxm : un (s.ev x) = .mp id) (hb : s.h.box id = some [.mc es c]) (hk : keyA (un (s.ev y)) = some k) (hok : mOk P kt k es)
    (h : K ⟨s.n, s.t, s.h.upd id fun _ => [.mc (mdel k es) c]⟩) : SOp P o s K := by
  intro σ w a hs hl KK Q hK
  have h1 := (hl.ev x).un hx
  have h2 := (hl.ev y).un hy
  rw [hxm] at h1
  have hkey := keyA_eq h2 hk
  obtain ⟨e0, hbase, hkd, us, hw, hst, hr⟩ := mp_at hs h1 hb
  have fin : ∀ us', (execOp a.eval o).run P w = .ok (.value (.tuple #[])) (setBlock w (σ.blk id) (.map us' c)) → Stamped us' c → MRel σ w us' (mdel k es) → Oper.wp P o a w KK Q := by
    intro us' hrun hst' hr'
    obtain ⟨hE, hS⟩ := sim_map hs hb hbase hkd hw hst' hr'
    unfold Oper.wp
    rw [hrun]
    simp only [Oper.upon]
    rw [hd] at hK ⊢
    exact hK _ σ _ _ h hE hS ⟨hl.size, fun d => (hl.v d).mono hE, hl.defers⟩
  rcases run_findKey (w := w) hok hr with ⟨g1, g2⟩ | ⟨j, u, e, g1, g2, g3, g4, g5⟩
  · refine fin us ?_ hst ?_
    · simp only [execOp, ho, resolve, hcal, ha, invoke, builtin, Builtin.delete_, hat, List.map_toArray, List.map_cons, List.map_nil, List.getElem?_toArray, List.getElem?_cons_zero, List.getElem?_cons_succ, e0, hkey, Sem.run_bind, run_underlying (under_map ht), Result.andThen_ok, MapKept.run_getObj_map hw, run_checkKey hok.1, g1, MapKept.run_setObj_map _ hw, Sem.run_pure, setBlock]
    · have : mdel k es = es := by
        unfold mdel
        rw [List.filter_eq_self]
        intro e he
        simpa using g2 e he
      rw [this]; exact hr
  · have hj : j < us.size := (Array.getElem?_eq_some_iff.1 g1).1
    have huk : u.key = mkey k := by rw [(hr.get j u e g1 g2).1, g3]
    refine fin (us.eraseIdxIfInBounds j) ?_ (MapKept.stamped_erase hst j) ?_
    · simp only [execOp, ho, resolve, hcal, ha, invoke, builtin, Builtin.delete_, hat, List.map_toArray, List.map_cons, List.map_nil, List.getElem?_toArray, List.getElem?_cons_zero, List.getElem?_cons_succ, e0, hkey, Sem.run_bind, run_underlying (under_map ht), Result.andThen_ok, MapKept.run_getObj_map hw, run_checkKey hok.1, g5, MapKept.run_setObj_map _ hw, Sem.run_pure, setBlock]
    · have hd' : mdel k es = es.eraseIdx j := by
        unfold mdel
        have := ChangeMaps.filter_eq_eraseIdx (fun e : MK × AV × Nat => decide (e.1 = k)) es j e g2 (by simpa using g3) ((hr.stm hst).1.imp fun {a b} hab hh => by
          simp only [decide_eq_true_eq] at hh
          exact hab (hh.1.trans hh.2.symm))
        rw [← this]
        congr 1
        funext e
        simp
      rw [hd']
      have hE : us.eraseIdxIfInBounds j = us.eraseIdx j hj := by unfold Array.eraseIdxIfInBounds; rw [dif_pos hj]
      rw [hE]
      refine ⟨by rw [Array.size_eraseIdx, List.length_eraseIdx, hr.len, if_pos (by rw [← hr.len]; exact hj)], fun i u' e' hu he => ?_⟩
      rw [Array.getElem?_eraseIdx] at hu
      rw [List.getElem?_eraseIdx] at he
      split at hu
      · rename_i hi; rw [if_pos hi] at he; exact hr.get _ _ _ hu he
      · rename_i hi; rw [if_neg hi] at he; exact hr.get _ _ _ hu he
/-- len(m) -/
theorem vop_lenMap {c' : Call} {t kt et c : Nat} {ts : List TypeId} {x : Operand} {es : MEs} (ho : o.op = .call c') (hcal : c'.callee = .builtin .len) (ha : c'.args = #[x]) (hat : c'.argTypes = (t :: ts).toArray) (hx : okv (ρ x)) (ht : tmap P t = some (kt, et))
    (hm : mapOf H (un (ρ x)) = some (es, c)) : VOp P H o ρ (.con (.int .i64 (es.length : Int))) := vop_same fun σ w ev hs hv => by
  have h1 := (hv x (by simp [ho, Op.operands, Call.operands, hcal, ha])).un hx
  rcases map_at hs h1 hm with ⟨e0, rfl, rfl⟩ | ⟨b, us, e0, hb, hst, hr⟩
  · refine ⟨_, ?_, .con _⟩
    simp only [execOp, ho, resolve, hcal, ha, invoke, builtin, Builtin.len_, hat, List.map_toArray, List.map_cons, List.map_nil, List.getElem?_toArray, List.getElem?_cons_zero, e0, Sem.run_bind, run_underlying (under_map ht), Result.andThen_ok, Sem.run_pure, goInt]
    rfl
  · refine ⟨_, ?_, .con _⟩
    rw [← hr.len]
    simp only [execOp, ho, resolve, hcal, ha, invoke, builtin, Builtin.len_, hat, List.map_toArray, List.map_cons, List.map_nil, List.getElem?_toArray, List.getElem?_cons_zero, e0, Sem.run_bind, run_underlying (under_map ht), Result.andThen_ok, MapKept.run_getObj_map hb, Sem.run_pure, goInt]
/-- range m -/
theorem sop_range {t kt et c d : Nat} {x : Operand} {es : MEs} (ho : o.op = .range t x) (hd : o.dst = some d) (hn : d < s.n) (hx : okv (s.ev x)) (ht : tmap P t = some (kt, et)) (hm : mapOf s.h (un (s.ev x)) = some (es, c))
    (h : Stm es c → ∀ id, s.h.box id = none → s.h.tok id = none → K ⟨s.n, (d, .it id) :: s.t, ⟨(id, [un (s.ev x), .nl [], .con (.int .i64 (c : Int))]) :: s.h.bx, s.h.tk⟩⟩) : SOp P o s K := by
  intro σ w a hs hl KK Q hK
  have h1 := (hl.ev x).un hx
  obtain ⟨m, e0, hrun, hstm⟩ : ∃ m, a.eval x = .map m ∧ (Instr.range t (a.eval x)).run P w = .ok (.pointer (some ⟨w.heap.size, 0, none⟩)) (w.alloc (.mapIter m c #[] c)) ∧ Stm es c := by
    rcases map_at hs h1 hm with ⟨e0, rfl, rfl⟩ | ⟨b, us, e0, hb, hst, hr⟩
    · refine ⟨none, e0, ?_, ⟨by simp, by simp, by simp⟩⟩
      rw [e0]
      simp only [Instr.range, Sem.run_bind, run_underlying (under_map ht), Result.andThen_ok, Sem.run_pure, newObj, Sem.run]
      rfl
    · exact ⟨some b, e0, by rw [e0]; exact run_range_map w t kt et b us c (under_map ht) hb, hr.stm hst⟩
  have hE := ext_box hs (.mapIter m c #[] c) .iter
  have hS := sim_boxk hs (cs := [un (s.ev x), .nl [], .con (.int .i64 (c : Int))]) (cur := #[.map m, .tuple (#[].map fun (i : Nat) => Value.int .i64 (i : Int)), .int .i64 (c : Int)]) c .iter (.mapIter m c #[] c) ⟨m, #[], rfl, rfl⟩ ⟨by simp, fun i hi => by
    have : i = 0 ∨ i = 1 ∨ i = 2 := by simp at hi; omega
    rcases this with rfl | rfl | rfl
    · rw [e0] at h1; exact h1
    · exact .nl []
    · exact .con _⟩
  unfold Oper.wp
  simp only [execOp, ho, Sem.run_bind, hrun, Result.andThen_ok, Sem.run_pure, Oper.upon]
  refine hK _ (σ.boxed w.heap.size .iter) _ _ (h hstm σ.next (fresh_id hs).1 (fresh_id hs).2) hE hS ?_
  have hl' : Sl (σ.boxed w.heap.size .iter) (w.alloc (.mapIter m c #[] c)) (⟨s.n, s.t, ⟨(σ.next, [un (s.ev x), .nl [], .con (.int .i64 (c : Int))]) :: s.h.bx, s.h.tk⟩⟩ : St) a := ⟨hl.size, fun d => (hl.v d).mono hE, hl.defers⟩
  rw [hd]
  refine hl'.put hn ?_
  have := VR.it (σ := σ.boxed w.heap.size .iter) (w := w.alloc (.mapIter m c #[] c)) σ.next (by simp [G.boxed]) (by simp [G.boxed])
  rwa [show (σ.boxed w.heap.size .iter).blk σ.next = w.heap.size by simp [G.boxed]] at this
theorem nl_inj {σ : G} {w : World} {l : List Nat} {seen : Array Nat} (h : VR σ w (.nl l) (.tuple (seen.map fun (i : Nat) => Value.int .i64 (i : Int)))) : l = seen.toList := by
  generalize hv : Value.tuple (seen.map fun (i : Nat) => Value.int .i64 (i : Int)) = v at h
  cases h with
  | nl =>
    simp only [Value.tuple.injEq] at hv
    have h1 := congrArg Array.toList hv
    simp only [Array.toList_map] at h1
    refine (List.map_inj_right (f := fun (i : Nat) => Value.int .i64 (i : Int)) fun a b hab => ?_).1 h1.symm
    simp at hab; omega
theorem it_at {σ : G} {w : World} (hs : Sim σ H w) {id c : Nat} {X : AV} {l : List Nat} {v : Value} (hv : VR σ w (.it id) v) (hb : H.box id = some [X, .nl l, .con (.int .i64 (c : Int))]) :
    v = .pointer (some ⟨σ.blk id, 0, none⟩) ∧ σ.base ≤ σ.blk id ∧ σ.kd id = .iter ∧ ∃ m, VR σ w X (.map m) ∧ w.heap[σ.blk id]? = some (.mapIter m c l.toArray c) := by
  cases hv with
  | it _ h hk =>
    obtain ⟨_, h2, _, cur, e, h4, h5, h6⟩ := hs.bx id _ hb
    rw [hk] at h4
    obtain ⟨m, seen, m2, m3⟩ := h4
    subst m3
    have g0 := h6 0 (by simp)
    have g1 := h6 1 (by simp)
    have g2 := h6 2 (by simp)
    have g1' := nl_inj (show VR σ w (.nl l) (.tuple (seen.map fun (i : Nat) => Value.int .i64 (i : Int))) from g1)
    have g2' := vr_con (show VR σ w (.con (.int .i64 (c : Int))) (.int .i64 (e : Int)) from g2)
    simp only [Value.int.injEq, true_and] at g2'
    have : c = e := by omega
    subst this
    subst g1'
    exact ⟨rfl, h2, hk, m, g0, by simpa using m2⟩
theorem mrel_mem {σ : G} {w : World} {us : Array MapEntry} {es : MEs} (hr : MRel σ w us es) {u : MapEntry} (hu : u ∈ us.toList) : ∃ e, e ∈ es ∧ u.key = mkey e.1 ∧ u.born = e.2.2 ∧ VR σ w e.2.1 u.val := by
  obtain ⟨i, hi⟩ := List.getElem?_of_mem hu
  obtain ⟨e, g1, g2⟩ := hr.at' (i := i) (u := u) (by simpa using hi)
  exact ⟨e, List.mem_of_getElem? g1, g2⟩
theorem mrel_mem' {σ : G} {w : World} {us : Array MapEntry} {es : MEs} (hr : MRel σ w us es) {e : MK × AV × Nat} (he : e ∈ es) : ∃ u, u ∈ us.toList ∧ u.key = mkey e.1 ∧ u.born = e.2.2 ∧ VR σ w e.2.1 u.val := by
  obtain ⟨i, hi⟩ := List.getElem?_of_mem he
  obtain ⟨u, g1, g2⟩ := hr.at hi
  exact ⟨u, List.mem_of_getElem? (i := i) (by simpa using g1), g2⟩
theorem vr_trip {σ : G} {w : World} {x y z : AV} {u v q : Value} (h : VR σ w x u) (k : VR σ w y v) (l : VR σ w z q) : VR σ w (.tup [x, y, z]) (.tuple #[u, v, q]) := by
  refine .tup _ _ rfl fun i hi => ?_
  have : i = 0 ∨ i = 1 ∨ i = 2 := by simp at hi; omega
  rcases this with rfl | rfl | rfl
  · exact h
  · exact k
  · exact l
theorem find_stamp {es : MEs} (h : (es.map (·.2.2)).Nodup) {e : MK × AV × Nat} (he : e ∈ es) : (es.find? fun q => decide (q.2.2 = e.2.2)) = some e := by
  induction es with
  | nil => cases he
  | cons a r ih =>
    rw [List.map_cons, List.nodup_cons] at h
    rw [List.find?_cons]
    rcases List.mem_cons.1 he with rfl | he
    · simp
    · have hne : ¬ a.2.2 = e.2.2 := fun e2 => h.1 (by rw [e2]; exact List.mem_map_of_mem he)
      simp only [hne, decide_false]
      exact ih h.2 he
/-- The step of a walk over a map. -/
theorem sop_next {id c d : Nat} {x : Operand} {X : AV} {l : List Nat} {es : MEs} (ho : o.op = .next x false) (hd : o.dst = some d) (hn : d < s.n) (hx : okv (s.ev x)) (hxi : un (s.ev x) = .it id)
    (hb : s.h.box id = some [X, .nl l, .con (.int .i64 (c : Int))]) (hm : mapOf s.h X = some (es, c))
    (h0 : (∀ e ∈ es, e.2.2 ∈ l) → K ⟨s.n, (d, .tup [.con (.bool false)]) :: s.t, s.h⟩)
    (h : ∀ e, e ∈ es → e.2.2 ∉ l → (es.find? fun q => decide (q.2.2 = e.2.2)) = some e → K ⟨s.n, (d, .tup [.con (.bool true), .con (mkey e.1), e.2.1]) :: s.t, s.h.upd id fun _ => [X, .nl (l ++ [e.2.2]), .con (.int .i64 (c : Int))]⟩) : SOp P o s K := by
  intro σ w a hs hl KK Q hK
  have h1 := (hl.ev x).un hx
  rw [hxi] at h1
  obtain ⟨e0, hbase, hkd, m, hX, hw⟩ := it_at hs h1 hb
  rcases map_at hs hX hm with ⟨e1, rfl, rfl⟩ | ⟨b, us, e1, hbm, hst, hr⟩
  · simp only [Value.map.injEq] at e1
    subst e1
    have hrun : (execOp a.eval o).run P w = .ok (.value (.tuple #[.bool false])) w := by
      simp only [execOp, ho, e0, Instr.next, Sem.run_bind, getObj, Sem.run, hw, Result.andThen_ok, Sem.run_pure]
    unfold Oper.wp
    rw [hrun]
    simp only [Oper.upon]
    rw [hd] at hK ⊢
    refine hK _ σ _ _ (h0 (by simp)) (.refl _ _) hs ?_
    exact Sl.put (s := s) hl hn (.tup _ _ rfl fun i hi => by
      obtain rfl : i = 0 := by simpa using hi
      exact .con _)
  · simp only [Value.map.injEq] at e1
    subst e1
    obtain ⟨s1, s2, s3⟩ := (MapKept.stamped_iff us c).1 hst
    rcases run_next_at (P := P) w o.type (σ.blk id) b c c l.toArray us c hw hbm s1 (Nat.le_refl _) with ⟨hnone, hrun⟩ | ⟨e, he, w1, hw1, hrun⟩
    · have hrun' : (execOp a.eval o).run P w = .ok (.value (.tuple #[.bool false])) w := by
        simp only [execOp, ho, e0, Sem.run_bind, hrun, Result.andThen_ok, Sem.run_pure]
      unfold Oper.wp
      rw [hrun']
      simp only [Oper.upon]
      rw [hd] at hK ⊢
      refine hK _ σ _ _ (h0 fun e he => ?_) (.refl _ _) hs ?_
      · obtain ⟨u, g1, g2, g3, _⟩ := mrel_mem' hr he
        have : ¬ u ∈ (leftOf us l.toArray).toList := by
          rw [Array.eq_empty_of_size_eq_zero hnone]; simp
        unfold leftOf at this
        simp at this g1
        rw [← g3]
        exact this g1
      · exact Sl.put (s := s) hl hn (.tup _ _ rfl fun i hi => by
          obtain rfl : i = 0 := by simpa using hi
          exact .con _)
    · have hmem : e ∈ us.toList ∧ e.born ∉ l := by
        unfold leftOf at he
        simp at he
        exact ⟨by simpa using he.1, he.2⟩
      obtain ⟨x', hx1, hx2, hx3, hx4⟩ := mrel_mem hr hmem.1
      have hE1 : Ext σ w σ w1 ∧ Sim σ s.h w1 ∧ w1.heap = w.heap := by
        rcases hw1 with rfl | rfl
        · exact ⟨.refl _ _, hs, rfl⟩
        · exact ⟨ext_drew hs, sim_drew hs, rfl⟩
      obtain ⟨hE1, hS1, hheap⟩ := hE1
      have hw' : w1.heap[σ.blk id]? = some (.mapIter (some b) c l.toArray c) := by rw [hheap]; exact hw
      have hset := MapKept.heap_set (o' := .mapIter (some b) c (l.toArray.push e.born) c) hw'
      obtain ⟨hE2, hS2⟩ := sim_turn hS1 (w' := setBlock w1 (σ.blk id) (.mapIter (some b) c (l.toArray.push e.born) c)) (c' := [X, .nl (l ++ [x'.2.2]), .con (.int .i64 (c : Int))])
        (cur' := #[.map (some b), .tuple ((l.toArray.push e.born).map fun (i : Nat) => Value.int .i64 (i : Int)), .int .i64 (c : Int)]) (e' := c) hb (below_setBlock hbase) (by simp [setBlock])
        (fun j hj => hset.2 j hj) (by rw [hkd]; exact ⟨some b, l.toArray.push e.born, hset.1, rfl⟩) ⟨by simp, fun i hi => by
          have : i = 0 ∨ i = 1 ∨ i = 2 := by simp at hi; omega
          rcases this with rfl | rfl | rfl
          · exact hX.mono hE1
          · have := VR.nl (σ := σ) (w := w1) (l ++ [x'.2.2])
            rw [← hx3, show (l ++ [e.born]).toArray = l.toArray.push e.born by simp] at this
            rw [← hx3]
            exact this
          · exact .con _⟩
      have hrun' : (execOp a.eval o).run P w = .ok (.value (.tuple #[.bool true, e.key, e.val])) (setBlock w1 (σ.blk id) (.mapIter (some b) c (l.toArray.push e.born) c)) := by
        simp only [execOp, ho, e0, Sem.run_bind, hrun, Result.andThen_ok, Sem.run_pure]
      unfold Oper.wp
      rw [hrun']
      simp only [Oper.upon]
      have hE := hE1.trans hE2
      rw [hd] at hK ⊢
      refine hK _ σ _ _ (h x' hx1 (by rw [← hx3]; exact hmem.2) (find_stamp (hr.stm hst).2.1 hx1)) hE hS2 ?_
      have hl' : Sl σ (setBlock w1 (σ.blk id) (.mapIter (some b) c (l.toArray.push e.born) c)) (⟨s.n, s.t, s.h.upd id fun _ => [X, .nl (l ++ [x'.2.2]), .con (.int .i64 (c : Int))]⟩ : St) a := ⟨hl.size, fun d => (hl.v d).mono hE, hl.defers⟩
      refine hl'.put hn ?_
      rw [hx2]
      exact vr_trip (.con _) (.con _) (hx4.mono hE)
/-- The round's key and element. -/
theorem vop_entry {id c b : Nat} {x : Operand} {X : AV} {l : List Nat} {es : MEs} {e : MK × AV × Nat} (ho : o.op = .entry x) (hx : okv (ρ x)) (hxi : un (ρ x) = .it id)
    (hb : H.box id = some [X, .nl (l ++ [b]), .con (.int .i64 (c : Int))]) (hm : mapOf H X = some (es, c)) (he : e ∈ es) (heb : e.2.2 = b) : VOp P H o ρ (.tup [.con (mkey e.1), e.2.1]) := vop_same fun σ w ev hs hv => by
  have h1 := (hv x (by simp [ho, Op.operands])).un hx
  rw [hxi] at h1
  obtain ⟨e0, hbase, hkd, m, hX, hw⟩ := it_at hs h1 hb
  rcases map_at hs hX hm with ⟨e1, rfl, rfl⟩ | ⟨bm, us, e1, hbm, hst, hr⟩
  · cases he
  · simp only [Value.map.injEq] at e1
    subst e1
    obtain ⟨u, g1, g2, g3, g4⟩ := mrel_mem' hr he
    have hw' : w.heap[σ.blk id]? = some (.mapIter (some bm) c (l.toArray.push u.born) c) := by rw [hw, g3, heb]; simp
    have hrun := run_entry_at (P := P) w (σ.blk id) bm c l.toArray us c u hw' hbm g1 ((MapKept.stamped_iff us c).1 hst).2.1
    refine ⟨.tuple #[u.key, u.val], by simp only [execOp, ho, e0, Sem.run_bind, hrun, Result.andThen_ok, Sem.run_pure], ?_⟩
    rw [g2]
    exact vr_pair (.con _) g4
/-- A map that is never turned again. -/
theorem AV.fle_mp {id c : Nat} {es : MEs} : AV.fle id [.mc es c] (.mp id) (.mv es c) := by
  intro σ w v hf hv
  cases hv with
  | mp _ h hk =>
    obtain ⟨g1, us, e, g2, g3, g4⟩ := hf.2.2 hk
    obtain ⟨q1, q2⟩ := vr_mc (g4 0 (by simp))
    subst q2
    exact .mv es c _ 0 us g1 g2 g3 q1.len (fun i u x a b => ⟨(q1.get i u x a b).1, (q1.get i u x a b).2.1⟩) (fun i u x a b => (q1.get i u x a b).2.2)
end Go.Proofs.YtababmnmkmgbbaaGreat.Fw
set_option linter.unusedVariables false
namespace Go.Proofs.YtababmnmkmgbbaaGreat.Fw
open Go.RowKit
variable {P : Program} {Q : Exit → St → Prop} {s : St} {o : Oper} {K : St → Prop} {ρ : Operand → AV} {H : Hp}
/-! Rows that are written: made, and appended to. -/
def hold (id : Nat) (cs : List AV) (bx : List (Nat × List AV)) : List (Nat × List AV) := match cs with | [] => bx | _ => (id, cs) :: bx
def delB (id : Nat) : List (Nat × List AV) → List (Nat × List AV)
  | [] => []
  | p :: r => if p.1 = id then delB id r else p :: delB id r
theorem lookup_delB (id j : Nat) : ∀ bx : List (Nat × List AV), (delB id bx).lookup j = if j = id then none else bx.lookup j
  | [] => by simp [delB]
  | p :: r => by
    obtain ⟨i, c⟩ := p
    simp only [delB]
    by_cases h : i = id
    · subst h
      rw [if_pos rfl, lookup_delB i j r]
      by_cases hj : j = i
      · simp [hj]
      · simp [List.lookup_cons, show (j == i) = false by simpa using hj, hj]
    · rw [if_neg h]
      by_cases hj : j = i
      · subst hj; simp [h]
      · rw [List.lookup_cons, List.lookup_cons, show (j == i) = false by simpa using hj, lookup_delB id j r]
theorem delB_none {id : Nat} : ∀ {bx : List (Nat × List AV)}, bx.lookup id = none → delB id bx = bx
  | [], _ => rfl
  | (i, c) :: r, h => by
    rw [List.lookup_cons] at h
    split at h
    · cases h
    · rename_i hne
      have hne' : ¬ i = id := by rintro rfl; simp at hne
      simp only [delB]
      rw [if_neg hne', delB_none h]
def delZ (n id : Nat) (bx : List (Nat × List AV)) : List (Nat × List AV) := if n = 0 then bx else delB id bx
theorem delZ_hold {n id : Nat} {cs : List AV} {bx : List (Nat × List AV)} (h : bx.lookup id = none) (hn : n = 0 ↔ cs = []) : delZ n id (hold id cs bx) = bx := by
  unfold delZ hold
  split
  · rename_i h0; rw [hn.1 h0]
  · rename_i h0
    have : cs ≠ [] := fun e => h0 (hn.2 e)
    split
    · exact absurd rfl this
    · simp only [delB, if_pos]; exact delB_none h
theorem hold_cons {id : Nat} {x : AV} {cs : List AV} {bx : List (Nat × List AV)} : hold id (x :: cs) bx = (id, x :: cs) :: bx := rfl
theorem hold_ne {id : Nat} {cs : List AV} {bx : List (Nat × List AV)} (h : cs ≠ []) : hold id cs bx = (id, cs) :: bx := by
  cases cs with
  | nil => exact absurd rfl h
  | cons => rfl
theorem lookup_hold {id : Nat} {cs : List AV} {bx : List (Nat × List AV)} (h : cs ≠ []) : (hold id cs bx).lookup id = some cs := by rw [hold_ne h]; simp
/-- make([]T, n) -/
theorem sop_makeSlice {t e k bb d : Nat} {x y : Operand} {kx ky : IntKind} {n : Nat} {z : List AV} (ho : o.op = .makeSlice t x y) (hd : o.dst = some d) (hn : d < s.n) (hx : okv (s.ev x)) (hy : okv (s.ev y)) (hxn : un (s.ev x) = .con (.int kx n)) (hyn : un (s.ev y) = .con (.int ky n))
    (ht : telem P t = some (e, k, bb)) (hz : tzero P e = some z) (hzk : z.length = k) (hk : 0 < k) (hb1 : 0 < bb) (hb : n * bb ≤ 281474976710656)
    (h : ∀ id, s.h.box id = none → s.h.tok id = none → K ⟨s.n, (d, .sl id n e k) :: s.t, ⟨(id, (List.replicate n z).flatten) :: s.h.bx, s.h.tk⟩⟩) : SOp P o s K := by
  intro σ w a hs hl KK Q hK
  have h1 := (hl.ev x).un hx
  have h2 := (hl.ev y).un hy
  rw [hxn] at h1
  rw [hyn] at h2
  have e1 := vr_con h1
  have e2 := vr_con h2
  unfold telem at ht
  split at ht
  case h_2 => cases ht
  rename_i e' hue
  obtain ⟨inf, hinf, ht⟩ := Option.map_eq_some_iff.1 ht
  simp only [Prod.mk.injEq] at ht
  obtain ⟨rfl, hik, hib⟩ := ht
  unfold tzero at hz
  obtain ⟨zv, hzv, hzz⟩ := Option.map_eq_some_iff.1 hz
  rw [hinf] at hzv
  simp only [Option.bind_some] at hzv
  have hzs : zv.cells.size = k := by rw [← hzk, ← hzz]; simp
  have hnb : n ≤ n * bb := Nat.le_mul_of_pos_right n hb1
  have hbi : (inf.bytes : Int) * (n : Int) ≤ 281474976710656 := by
    rw [hib, Int.mul_comm, ← Int.natCast_mul]; omega
  have hr := run_make (P := P) w t e' inf zv hue hinf hzv kx ky n n (by omega) (Int.le_refl _) hbi (by omega)
  simp only [Int.toNat_natCast, hik] at hr
  have hfl : ((List.replicate n z).flatten).length = n * k := by simp [hzk]
  have hget : ∀ i, i < n * k → ((List.replicate n z).flatten).getD i .any = z.getD (i % k) .any := by
    intro i hi
    have hc : ∀ (n i : Nat), i < n * k → ((List.replicate n z).flatten).getD i .any = z.getD (i % k) .any := by
      intro n
      induction n with
      | zero => intro i hi; simp at hi
      | succ n ih =>
        intro i hi
        rw [List.replicate_succ, List.flatten_cons, List.getD_eq_getElem?_getD]
        rcases Nat.lt_or_ge i k with hlt | hge
        · rw [List.getElem?_append_left (by omega), Nat.mod_eq_of_lt hlt, List.getD_eq_getElem?_getD]
        · rw [List.getElem?_append_right (by omega), hzk, ← List.getD_eq_getElem?_getD, ih (i - k) (by rw [Nat.add_mul] at hi; omega), ← Nat.mod_eq_sub_mod hge]
    exact hc n i hi
  have hcs : ((List.replicate n z).flatten).length ≤ (madeCells zv.cells (n * k)).size ∧ ∀ i, i < ((List.replicate n z).flatten).length → VR σ w (((List.replicate n z).flatten).getD i .any) ((madeCells zv.cells (n * k)).getD i undef) := by
    rw [hfl, size_madeCells]
    refine ⟨Nat.le_refl _, fun i hi => ?_⟩
    rw [hget i hi]
    have hm : i % k < k := Nat.mod_lt _ hk
    have a1 : (madeCells zv.cells (n * k)).getD i undef = zv.cells.getD (i % k) undef := by
      simp [madeCells, Array.getD_eq_getD_getElem?, hi, hzs, hm]
    have a2 : z.getD (i % k) .any = .con (zv.cells.getD (i % k) undef) := by
      rw [← hzz, List.getD_eq_getElem?_getD, List.getElem?_map, Array.getElem?_toList]
      simp [Array.getD_eq_getD_getElem?, hzs, hm]
    rw [a1, a2]
    exact .con _
  have hE := ext_box hs (.cells (madeCells zv.cells (n * k)) e') (.row e' k n)
  have hS := sim_boxk hs e' (.row e' k n) (.cells (madeCells zv.cells (n * k)) e') ⟨rfl, rfl, size_madeCells _ _⟩ hcs
  unfold Oper.wp
  simp only [execOp, ho, e1, e2, Sem.run_bind, hr, Result.andThen_ok, Sem.run_pure, Oper.upon]
  refine hK _ (σ.boxed w.heap.size (.row e' k n)) _ _ (h σ.next (fresh_id hs).1 (fresh_id hs).2) hE hS ?_
  have hl' : Sl (σ.boxed w.heap.size (.row e' k n)) (w.alloc (.cells (madeCells zv.cells (n * k)) e')) (⟨s.n, s.t, ⟨(σ.next, (List.replicate n z).flatten) :: s.h.bx, s.h.tk⟩⟩ : St) a := ⟨hl.size, fun d => (hl.v d).mono hE, hl.defers⟩
  rw [hd]
  refine hl'.put hn ?_
  rcases Nat.eq_zero_or_pos n with h0 | h0
  · subst h0; exact .sl1 _ _ _ _ _
  have := VR.sl (σ := σ.boxed w.heap.size (.row e' k n)) (w := w.alloc (.cells (madeCells zv.cells (n * k)) e')) σ.next n e' k n (by simp [G.boxed]) (by simp [G.boxed]) h0 (Nat.le_refl _) (by simp only [maxLen]; omega)
  rwa [show (σ.boxed w.heap.size (.row e' k n)).blk σ.next = w.heap.size by simp [G.boxed]] at this
/-- append to a row that is written -/
theorem sop_append_sl {c : Call} {x y : Operand} {ty ty2 e k by_ d id n : Nat} {cs ys z : List AV} {tk : Option Nat} (ho : o.op = .call c) (hc : c.callee = .builtin .append) (ha : c.args = #[x, y]) (hat : c.argTypes = #[ty, ty2]) (hd : o.dst = some d) (hn : d < s.n)
    (hx : okv (s.ev x)) (hy : okv (s.ev y)) (hxs : un (s.ev x) = .sl id n e k) (hcs : (n = 0 ∧ cs = []) ∨ (0 < n ∧ s.h.box id = some cs ∧ cs.length = n * k)) (hA : AppOk P ty ty2 e k by_ z n (un (s.ev y)) ys) (hYl : un (s.ev y) = .list ys tk) (hpos : 0 < ys.length)
    (h : ∀ id', s.h.box id' = none → s.h.tok id' = none → K ⟨s.n, (d, .sl id' (n + ys.length) e k) :: s.t, ⟨(id', cs ++ flat ys) :: delZ n id s.h.bx, s.h.tk⟩⟩) : SOp P o s K := by
  intro σ w a hs hl KK Q hK
  have h1 := (hl.ev x).un hx
  have h2 := (hl.ev y).un hy
  rw [hxs] at h1
  by_cases hodd : ∃ bb oo, a.eval x = .slice (some ⟨bb, oo, none⟩) 0 0
  · obtain ⟨bb, oo, hvx⟩ := hodd
    have hn0 : n = 0 := by
      rw [hvx] at h1
      cases h1 with
      | sl => omega
      | sl1 => rfl
    subst hn0
    have hcs0 : cs = [] := by
      rcases hcs with ⟨_, h⟩ | ⟨h, _⟩
      · exact h
      · omega
    subst hcs0
    refine append_emp_core (tk := tk) ho hc ha hat hd hn hs hl hK hvx hy hA hYl (fun e => by rw [e] at hpos; simp at hpos) fun _ id' f1 f2 => ?_
    have := h id' f1 f2
    rw [Nat.zero_add] at this
    exact this
  rw [hYl] at h2
  obtain ⟨ht, hz, hzk, hk, hby, hY, hyk, hlim, hsame, hstr⟩ := hA
  have hsm : tkind P ty2 = 4 := hsame (by rw [hYl]; simp)
  unfold telem at ht
  split at ht
  case h_2 => cases ht
  rename_i e' hue
  obtain ⟨inf, hinf, ht⟩ := Option.map_eq_some_iff.1 ht
  simp only [Prod.mk.injEq] at ht
  obtain ⟨rfl, hik, hib⟩ := ht
  unfold tzero at hz
  obtain ⟨zv, hzv, hzz⟩ := Option.map_eq_some_iff.1 hz
  rw [hinf] at hzv
  simp only [Option.bind_some] at hzv
  have hzs : zv.cells.size = k := by rw [← hzk, ← hzz]; simp
  obtain ⟨b, o', c', k', vs, hv, hcc, hcm, hfit, hcell, hvs⟩ : ∃ (b o' c' k' : Nat) (vs : Nat → Value), a.eval y = .slice (some ⟨b, o', none⟩) ys.length c' ∧ ys.length ≤ c' ∧ c' ≤ maxLen ∧ (∀ x ∈ ys, x.fits k') ∧
      (∀ j, j < ys.length * k' → σ.fz b (o' + j) ∧ w.cell? ⟨b, o' + j, none⟩ = some (vs j)) ∧ ∀ i j, i < ys.length → j < k' → VR σ w ((ys.getD i .any).cells.getD j .any) (vs (i * k' + j)) := by
    rcases h2.list_inv with ⟨rfl, _⟩ | h
    · simp at hpos
    · exact h
  have hkk : k' = k := by
    obtain ⟨y0, hy0⟩ : ∃ y0, y0 ∈ ys := by cases ys with | nil => simp at hpos | cons y0 r => exact ⟨y0, by simp⟩
    rw [← (hfit y0 hy0).1, hyk y0 hy0]
  subst hkk
  -- the old row
  have hold : ∃ xs : List Value, xs.length = n * k' ∧ w.ownsRow σ.base e' k' (a.eval x) n xs ∧ (∀ i, i < cs.length → VR σ w (cs.getD i .any) (xs.getD i undef)) ∧ (0 < n → (a.eval x).ownBlock = some (σ.blk id)) ∧ (n = 0 → (a.eval x).ownBlock = none) := by
    generalize hev : a.eval x = v at h1
    rcases hcs with ⟨rfl, rfl⟩ | ⟨h0, hb, hcl⟩
    · cases h1 with
      | sl => omega
      | sl0 => exact ⟨[], by simp, ⟨by simp, .inl ⟨rfl, rfl⟩⟩, fun i hi => by simp at hi, fun h => by omega, fun _ => rfl⟩
      | sl1 => exact absurd ⟨_, _, hev⟩ hodd
    · cases h1 with
      | sl0 => omega
      | sl1 => omega
      | sl _ _ _ _ cap g1 g2 g3 g4 g5 =>
        obtain ⟨q1, q2, q3, cur, e2, q4, q5, q6⟩ := hs.bx id cs hb
        rw [g2] at q4
        obtain ⟨q4, rfl, q7⟩ := q4
        have hle : n * k' ≤ cur.size := by rw [q7]; exact Nat.mul_le_mul_right _ g4
        refine ⟨cur.toList.take (n * k'), by simp; omega, ⟨by simp; omega, .inr ⟨σ.blk id, cap, cur, rfl, q2, q4, g4, g5, q7, rfl⟩⟩, fun i hi => ?_, fun _ => rfl, fun h => by omega⟩
        have := q6 i hi
        rw [List.getD_eq_getElem?_getD (l := cur.toList.take (n * k')), List.getElem?_take_of_lt (by omega), Array.getElem?_toList, ← Array.getD_eq_getD_getElem?]
        exact this
  obtain ⟨xs, hxl, hown, hxv, hob, hob0⟩ := hold
  have hcl : cs.length = n * k' := by
    rcases hcs with ⟨rfl, rfl⟩ | ⟨_, _, h⟩
    · simp
    · exact h
  have hone : ∀ u ∈ (List.range (ys.length * k')).map vs, u.oneCell' = true := by
    intro u hu
    obtain ⟨j, hj, rfl⟩ := List.mem_map.1 hu
    have hj' : j < ys.length * k' := List.mem_range.1 hj
    have hd1 : j / k' < ys.length := (Nat.div_lt_iff_lt_mul hk).2 hj'
    have hd2 : j % k' < k' := Nat.mod_lt _ hk
    have h5 := hvs _ _ hd1 hd2
    rw [show j / k' * k' + j % k' = j by rw [Nat.mul_comm]; exact Nat.div_add_mod j k'] at h5
    have hmem : ys.getD (j / k') .any ∈ ys := by rw [List.getD_eq_getElem?_getD, List.getElem?_eq_getElem hd1]; exact List.getElem_mem hd1
    have hf := hfit _ hmem
    refine h5.one (hf.2 _ ?_)
    have hlt : j % k' < (ys.getD (j / k') .any).cells.length := by rw [hf.1]; exact hd2
    rw [List.getD_eq_getElem?_getD (l := (ys.getD (j / k') .any).cells), List.getElem?_eq_getElem hlt]
    exact List.getElem_mem hlt
  obtain ⟨v', w', hr, hown', hgrow, hdr⟩ := run_app (P := P) (ty := o.type) hue hinf hzv hik hib hzs hown (a := ⟨b, o', none⟩) (m := ys.length) (c := c') (news := (List.range (ys.length * k')).map vs) (by simp)
    (fun j q hj => by
      rw [List.getElem?_map] at hj
      rcases Nat.lt_or_ge j (ys.length * k') with hlt | hge
      · rw [List.getElem?_range hlt] at hj
        simp only [Option.map_some, Option.some.injEq] at hj
        rw [add_none, (hcell j hlt).2, hj]
      · rw [List.getElem?_eq_none (by simpa using hge)] at hj; cases hj) hone hpos
    (by have := Nat.le_mul_of_pos_right (n + ys.length) hby; simp only [maxLen]; omega) hlim hs.base
  rw [← hv] at hr
  -- the new row
  obtain ⟨hl1, hshape⟩ := hown'
  rcases hshape with ⟨_, h0⟩ | ⟨g, cap, cur, rfl, hbg, hg, hnc, hcm', hcs', htk⟩
  · omega
  have hgb : g = (if n = 0 then w.heap.size else σ.blk id) ∨ g = w.heap.size := by
    rcases hgrow with ⟨h, _⟩ | ⟨h, _⟩
    · rcases Nat.eq_zero_or_pos n with h0 | h0
      · rw [hob0 h0] at h; cases h
      · rw [hob h0] at h; simp [Value.ownBlock] at h; left; rw [if_neg (by omega)]; exact h
    · simp [Value.ownBlock] at h; exact .inr h
  have hbel : w.grownBy w' (if n = 0 then none else some (σ.blk id)) := by
    rcases hgrow with ⟨h, hh⟩ | ⟨h, hh⟩
    · rcases Nat.eq_zero_or_pos n with h0 | h0
      · rw [hob0 h0] at hh; rw [if_pos h0]; exact hh
      · rw [hob h0] at hh; rw [if_neg (by omega)]; exact hh
    · exact ⟨hh.os, hh.tape, hh.output, hh.size, fun j hj _ => hh.block j hj (by simp)⟩
  -- what stands in no other variable's way
  have hfree : (∀ o, ¬ σ.fz g o) ∧ (∀ j c, s.h.box j = some c → (n = 0 ∨ j ≠ id) → σ.blk j ≠ g) ∧ ∀ t m, s.h.tok t = some m → (σ.tv t).ownBlock ≠ some g := by
    have hnew : g = w.heap.size → (∀ o, ¬ σ.fz g o) ∧ (∀ j c, s.h.box j = some c → (n = 0 ∨ j ≠ id) → σ.blk j ≠ g) ∧ ∀ t m, s.h.tok t = some m → (σ.tv t).ownBlock ≠ some g := by
      rintro rfl
      refine ⟨fun o hf => ?_, fun j c hj _ => ?_, fun t m ht hb => ?_⟩
      · have := hs.fzlt _ _ hf; omega
      · obtain ⟨_, _, _, _, _, h4, _⟩ := hs.bx j c hj
        have := h4.lt; omega
      · obtain ⟨n1, n2, n3⟩ := m
        have := (owned_blk hs ht hb).2; omega
    rcases hgb with h | h
    · rcases Nat.eq_zero_or_pos n with h0 | h0
      · rw [if_pos h0] at h; exact hnew h
      · rw [if_neg (by omega)] at h
        subst h
        rcases hcs with ⟨h, _⟩ | ⟨_, hb, _⟩
        · omega
        · obtain ⟨_, _, h3, _⟩ := hs.bx id cs hb
          exact ⟨h3, fun j c hj hne => hs.bxbx j id c cs hj hb (by rcases hne with h | h; omega; exact h), fun t m ht => hs.bxtk id t cs m hb ht⟩
    · exact hnew h
  have hE : Ext σ w (σ.boxed g (.row e' k' cap)) w' := by
    refine ⟨rfl, ?_, Nat.le_succ _, fun _ _ h => h, fun b1 o1 hf => ?_, fun i hi => by simp only [G.boxed]; rw [if_neg (by omega), if_neg (by omega)]; exact ⟨rfl, rfl⟩, fun t _ m hm => ⟨m, hm, Nat.le_refl _, fun _ => ⟨rfl, rfl⟩⟩⟩
    · refine ⟨(Below.refl _ _).grown hbel hs.base fun q hq => ?_, hdr⟩
      split at hq
      · cases hq
      · rename_i h0
        rcases hcs with ⟨h, _⟩ | ⟨_, hb, _⟩
        · omega
        · injection hq with hq; subst hq; exact (hs.bx id cs hb).2.1
    · refine .block (hbel.block b1 (hs.fzlt _ _ hf) fun e => ?_)
      split at e
      · cases e
      · injection e with e
        subst e
        rcases hcs with ⟨h, _⟩ | ⟨_, hb, _⟩
        · omega
        · exact (hs.bx id cs hb).2.2.1 _ hf
  have hlook : ∀ j d, (⟨(σ.next, cs ++ flat ys) :: delZ n id s.h.bx, s.h.tk⟩ : Hp).box j = some d → (j = σ.next ∧ d = cs ++ flat ys) ∨ (j ≠ σ.next ∧ s.h.box j = some d ∧ (n = 0 ∨ j ≠ id)) := by
    intro j d hj
    simp only [Hp.box, List.lookup_cons] at hj
    by_cases he : j = σ.next
    · subst he; simp at hj; exact .inl ⟨rfl, hj.symm⟩
    · rw [show (j == σ.next) = false by simpa using he] at hj
      right
      replace hj : (delZ n id s.h.bx).lookup j = some d := hj
      unfold delZ at hj
      by_cases h0 : n = 0
      · rw [if_pos h0] at hj; exact ⟨he, hj, .inl h0⟩
      · rw [if_neg h0, lookup_delB] at hj
        split at hj
        · cases hj
        · rename_i hne; exact ⟨he, hj, .inr hne⟩
  have hold2 : ∀ j c, s.h.box j = some c → (σ.boxed g (.row e' k' cap)).blk j = σ.blk j ∧ (σ.boxed g (.row e' k' cap)).kd j = σ.kd j ∧ j < σ.next := by
    intro j c hj
    have := (hs.bx j c hj).1
    exact ⟨by simp only [G.boxed]; rw [if_neg (by omega)], by simp only [G.boxed]; rw [if_neg (by omega)], this⟩
  have hnb : (σ.boxed g (.row e' k' cap)).blk σ.next = g := by simp [G.boxed]
  have hnk : (σ.boxed g (.row e' k' cap)).kd σ.next = .row e' k' cap := by simp [G.boxed]
  have hstay : ∀ j, j < w.heap.size → (∀ h : 0 < n, j ≠ σ.blk id) → w'.heap[j]? = w.heap[j]? := by
    intro j hj hne
    refine hbel.block j hj fun e => ?_
    split at e
    · cases e
    · injection e with e; exact hne (by omega) e
  have hS : Sim (σ.boxed g (.row e' k' cap)) ⟨(σ.next, cs ++ flat ys) :: delZ n id s.h.bx, s.h.tk⟩ w' := by
    refine ⟨Nat.le_trans hs.base hbel.size, fun b1 o1 hf => Nat.lt_of_lt_of_le (hs.fzlt b1 o1 hf) hbel.size, hs.tok, ?_, ?_, ?_, ?_, hs.tktk⟩
    · intro j d hj
      rcases hlook j d hj with ⟨rfl, rfl⟩ | ⟨hne, hj, hor⟩
      · rw [hnb, hnk]
        refine ⟨by simp [G.boxed], hbg, hfree.1, cur, e', ⟨hg, rfl, hcs'⟩, ?_, fun i hi => ?_⟩
        · rw [List.length_append, hcl, flat_len hyk, ← Nat.add_mul, hcs']
          exact Nat.mul_le_mul_right _ hnc
        · rw [List.length_append, flat_len hyk] at hi
          have hcur : cur.getD i undef = (xs ++ (List.range (ys.length * k')).map vs).getD i undef := by
            rw [← htk, List.getD_eq_getElem?_getD, List.getElem?_take_of_lt (by rw [Nat.add_mul]; omega), Array.getElem?_toList, ← Array.getD_eq_getD_getElem?]
          rw [hcur, List.getD_eq_getElem?_getD, List.getD_eq_getElem?_getD]
          rcases Nat.lt_or_ge i (n * k') with hlt | hge
          · rw [List.getElem?_append_left (by omega), List.getElem?_append_left (by omega), ← List.getD_eq_getElem?_getD, ← List.getD_eq_getElem?_getD]
            exact (hxv i (by omega)).mono hE
          · rw [List.getElem?_append_right (by omega), List.getElem?_append_right (by omega), hcl, hxl, ← List.getD_eq_getElem?_getD, ← List.getD_eq_getElem?_getD]
            have hq : i - n * k' < ys.length * k' := by omega
            generalize i - n * k' = q at hq
            have hd1 : q / k' < ys.length := (Nat.div_lt_iff_lt_mul hk).2 hq
            have hd2 : q % k' < k' := Nat.mod_lt _ hk
            have h5 := hvs _ _ hd1 hd2
            have h6 := flat_get hyk hd1 hd2
            rw [show q / k' * k' + q % k' = q by rw [Nat.mul_comm]; exact Nat.div_add_mod q k'] at h5 h6
            rw [h6, List.getD_eq_getElem?_getD (l := (List.range (ys.length * k')).map vs), List.getElem?_map, List.getElem?_range hq]
            exact h5.mono hE
      · obtain ⟨g1, g2, g3, cu, e2, g4, g5, g6⟩ := hs.bx j d hj
        obtain ⟨q1, q2, q3⟩ := hold2 j d hj
        rw [q1, q2]
        refine ⟨Nat.lt_succ_of_lt g1, g2, g3, cu, e2, ?_, g5, fun i hi => (g6 i hi).mono hE⟩
        rw [hstay _ g4.lt fun h0 => ?_]
        · exact g4
        · rcases hcs with ⟨h, _⟩ | ⟨_, hb, _⟩
          · omega
          · exact hs.bxbx j id d cs hj hb (by rcases hor with h | h; omega; exact h)
    · intro t n1 e1 k1 ht
      obtain ⟨g1, xs1, g2, g3⟩ := hs.tk t n1 e1 k1 ht
      refine ⟨Nat.lt_succ_of_lt g1, xs1, g2.kept hbel ?_, g3⟩
      split
      · show (σ.tv t).ownBlock = none ∨ (σ.tv t).ownBlock ≠ none
        cases (σ.tv t).ownBlock <;> simp
      · rename_i h0
        rcases hcs with ⟨h, _⟩ | ⟨_, hb, _⟩
        · omega
        · exact .inr (hs.bxtk id t cs _ hb ht)
    · intro i j ci cj hi hj hne
      rcases hlook i ci hi with ⟨rfl, rfl⟩ | ⟨hi1, hi2, hi3⟩
      · rcases hlook j cj hj with ⟨rfl, rfl⟩ | ⟨hj1, hj2, hj3⟩
        · exact absurd rfl hne
        · rw [hnb, (hold2 j cj hj2).1]; exact (hfree.2.1 j cj hj2 hj3).symm
      · rcases hlook j cj hj with ⟨rfl, rfl⟩ | ⟨hj1, hj2, hj3⟩
        · rw [hnb, (hold2 i ci hi2).1]; exact hfree.2.1 i ci hi2 hi3
        · rw [(hold2 i ci hi2).1, (hold2 j cj hj2).1]; exact hs.bxbx i j ci cj hi2 hj2 hne
    · intro i t ci m hi ht
      rcases hlook i ci hi with ⟨rfl, rfl⟩ | ⟨hi1, hi2, hi3⟩
      · rw [hnb]; exact hfree.2.2 t m ht
      · rw [(hold2 i ci hi2).1]; exact hs.bxtk i t ci m hi2 ht
  have hf := fresh_id hs
  refine run_app_op ho hc ha hat a w ((append_ty2 hue hsm _ _).trans hr) KK Q (hK _ _ _ _ (h σ.next hf.1 hf.2) hE hS ?_)
  have hl' : Sl (σ.boxed g (.row e' k' cap)) w' (⟨s.n, s.t, ⟨(σ.next, cs ++ flat ys) :: delZ n id s.h.bx, s.h.tk⟩⟩ : St) a := ⟨hl.size, fun d => (hl.v d).mono hE, hl.defers⟩
  rw [hd]
  refine hl'.put hn ?_
  have := VR.sl (σ := σ.boxed g (.row e' k' cap)) (w := w') σ.next (n + ys.length) e' k' cap (by simp [G.boxed]) hnk (by omega) hnc hcm'
  rwa [hnb] at this
end Go.Proofs.YtababmnmkmgbbaaGreat.Fw
set_option linter.unusedVariables false
namespace Go.Proofs.YtababmnmkmgbbaaGreat.Fw
open Go.RowKit
/-! A part of a row that is written, with what stands behind its length. -/
section
variable {P : Program} {o : Oper} {H : Hp} {ρ : Operand → AV}
theorem vop_indexSlc {t : TypeId} {x i : Operand} {id off m c se sk : Nat} {kk : IntKind} {n : Int} {e k bb : Nat} (ho : o.op = .indexAddr t x i) (hx : okv (ρ x)) (hi : okv (ρ i)) (hxs : un (ρ x) = .slc id off m c se sk) (hin : un (ρ i) = .con (.int kk n))
    (ht : telem P t = some (e, k, bb)) (h0 : 0 ≤ n) (hn : n < m) : VOp P H o ρ (.ptr id (off * sk + n.toNat * k)) := vop_same fun σ w ev hs hv => by
  have h1 := (hv x (by simp [ho, Op.operands])).un hx
  have h2 := (hv i (by simp [ho, Op.operands])).un hi
  rw [hxs] at h1
  rw [hin] at h2
  generalize hu : ev x = u at h1
  generalize hj : ev i = j at h2
  cases h2
  cases h1 with
  | slc0 => omega
  | slc _ _ _ _ _ _ h hkd h0' hn' hm =>
    refine ⟨.pointer (some ⟨σ.blk id, off * sk + n.toNat * k, none⟩), ?_, .ptr id _ h (by rw [hkd]; trivial)⟩
    unfold telem at ht
    split at ht
    · rename_i e' hue
      obtain ⟨inf, hinf, ht⟩ := Option.map_eq_some_iff.1 ht
      simp only [Prod.mk.injEq] at ht
      obtain ⟨rfl, rfl, rfl⟩ := ht
      have hsz : tsz P e' = some inf.size := by simp [tsz, hinf]
      simp only [execOp, ho, hu, hj, Instr.indexAt, asIntOf, Sem.run_bind, Sem.run_pure, Result.andThen_ok, run_underlying hue, h0, hn, and_self, if_true, run_sizeOf hsz, add_none]
    · cases ht
theorem run_bounds2 {σ : G} {w : World} {isS : Bool} {len cap : Nat} {lo hi : Option Operand} {L Hh : Int} {ev : Operand → Value} (hlo : bnd ρ 0 lo = some L) (hhi : bnd ρ len hi = some Hh) (h0 : 0 ≤ L) (h1 : L ≤ Hh) (h2 : Hh ≤ cap)
    (hv1 : ∀ x, lo = some x → VR σ w (ρ x) (ev x)) (hv2 : ∀ x, hi = some x → VR σ w (ρ x) (ev x)) :
    (Instr.sliceBounds isS len cap (lo.map ev) (hi.map ev) none).run P w = .ok (L.toNat, Hh.toNat, cap) w := by
  have key : ∀ y : Nat, Hh.toNat = y → (match lo.map ev with
      | some v => Instr.sliceBound v y (if (none : Option Value).isSome then .slice3C else .sliceB)
      | none => pure 0 : Sem Nat).run P w = .ok L.toNat w := by
    intro y hy
    cases lo with
    | none => simp only [bnd, Option.some.injEq] at hlo; subst hlo; rfl
    | some x =>
      obtain ⟨k, e⟩ := bnd_val (ρ := ρ) hlo (hv1 x rfl)
      simp only [Option.map_some, e]
      exact run_sliceBound h0 (by omega)
  cases hi with
  | none =>
    simp only [bnd, Option.some.injEq] at hhi
    subst hhi
    have := key len (by omega)
    simp only [Option.isSome_none, Bool.false_eq_true, if_false] at this
    simp only [Instr.sliceBounds, Option.map_none, Sem.run_bind, Sem.run_pure, Result.andThen_ok, Option.isSome_none, Bool.false_eq_true, if_false]
    cases lo with
    | none =>
      simp only [bnd, Option.some.injEq] at hlo; subst hlo
      simp
    | some x =>
      simp only [Option.map_some] at this ⊢
      simp only [Sem.run_bind, this, Result.andThen_ok, Sem.run_pure]
      try simp
  | some y =>
    obtain ⟨k, e⟩ := bnd_val (ρ := ρ) hhi (hv2 y rfl)
    have := key Hh.toNat rfl
    simp only [Option.isSome_none, Bool.false_eq_true, if_false] at this
    have hb : ∀ code, (Instr.sliceBound (.int k Hh) cap code).run P w = .ok Hh.toNat w := fun code => run_sliceBound (by omega) (by omega)
    simp only [Instr.sliceBounds, Option.map_some, e, Sem.run_bind, Sem.run_pure, Result.andThen_ok, Option.isSome_none, Bool.false_eq_true, if_false, hb]
    cases lo with
    | none =>
      simp only [bnd, Option.some.injEq] at hlo; subst hlo
      simp
    | some x =>
      simp only [Option.map_some] at this ⊢
      simp only [Sem.run_bind, this, Result.andThen_ok, Sem.run_pure]
      try simp
theorem telem_under {t e k bb : Nat} (ht : telem P t = some (e, k, bb)) : P.underlying t = some (.slice e) ∧ tsz P e = some k := by
  unfold telem at ht
  split at ht
  · rename_i e' hue
    obtain ⟨inf, hinf, ht⟩ := Option.map_eq_some_iff.1 ht
    simp only [Prod.mk.injEq] at ht
    obtain ⟨rfl, rfl, rfl⟩ := ht
    exact ⟨hue, by simp [tsz, hinf]⟩
  · cases ht
theorem vop_sliceSlc {t e k by_ : TypeId} {x : Operand} {lo hi : Option Operand} {id off n c se : Nat} {L Hh : Int} (ho : o.op = .slice t x lo hi none) (hx : okv (ρ x)) (hlo' : okB ρ lo) (hhi' : okB ρ hi) (h : un (ρ x) = .slc id off n c se k) (ht : telem P t = some (e, k, by_))
    (hlo : bnd (fun y => un (ρ y)) 0 lo = some L) (hhi : bnd (fun y => un (ρ y)) n hi = some Hh) (h0 : 0 ≤ L) (h1 : L ≤ Hh) (h2 : Hh ≤ c) : VOp P H o ρ (.slc id (off + L.toNat) (Hh.toNat - L.toNat) (c - L.toNat) se k) := vop_same fun σ w ev hs hv => by
  have g1 := (hv x (by simp [ho, Op.operands])).un hx
  rw [h] at g1
  generalize hu : ev x = u at g1
  obtain ⟨hd, hsz⟩ := telem_under ht
  have hb := run_bounds2 (P := P) (σ := σ) (w := w) (isS := true) (cap := c) (ρ := fun y => un (ρ y)) (ev := ev) hlo hhi h0 h1 h2
    (fun y e => (hv y (by simp [ho, Op.operands, e])).un (by subst e; exact hlo')) (fun y e => (hv y (by simp [ho, Op.operands, e])).un (by subst e; exact hhi'))
  cases g1 with
  | slc0 _ _ _ _ A =>
    have hL : L = 0 := by omega
    have hH : Hh = 0 := by omega
    subst hL hH
    refine ⟨.slice A 0 0, ?_, .slc0 _ _ _ _ _⟩
    simp only [execOp, ho, hu, Instr.sliceAt, Instr.slice, Sem.run_bind, run_underlying hd, Result.andThen_ok, Option.map_none, hb, run_sizeOf hsz, Sem.run_pure]
    rfl
  | slc _ _ _ _ _ _ q1 q2 q3 q4 q5 =>
    have hrun : (execOp ev o).run P w = .ok (.value (.slice (if c = L.toNat then some ⟨σ.blk id, off * k, none⟩ else some ⟨σ.blk id, off * k + L.toNat * k, none⟩) (Hh.toNat - L.toNat) (c - L.toNat))) w := by
      simp only [execOp, ho, hu, Instr.sliceAt, Instr.slice, Sem.run_bind, run_underlying hd, Result.andThen_ok, Option.map_none, hb, run_sizeOf hsz, Sem.run_pure, Option.map_some, add_none]
    refine ⟨_, hrun, ?_⟩
    by_cases hc : c = L.toNat
    · rw [if_pos hc, show c - L.toNat = 0 by omega, show Hh.toNat - L.toNat = 0 by omega]
      exact .slc0 _ _ _ _ _
    · rw [if_neg hc, ← Nat.add_mul]
      exact .slc id (off + L.toNat) (Hh.toNat - L.toNat) (c - L.toNat) se k q1 (by rw [q2]; congr 1; omega) (by omega) (by omega) (by omega)
/-- how long a slice may be cut at least -/
def capGe : AV → Option Nat
  | .sl _ n _ _ => some n
  | .slc _ _ _ c _ _ => some c
  | .list xs _ => some xs.length
  | .con (.slice none 0 0) => some 0
  | .emp => some 0
  | _ => none
theorem capGe_at {σ : G} {w : World} {X : AV} {v : Value} {m : Nat} (h : capGe X = some m) (hv : VR σ w X v) : ∃ A n c, v = .slice A n c ∧ m ≤ c ∧ ((lenA X).1 → (n : Int) = (lenA X).2) := by
  cases X with
  | sl id n e k =>
    simp only [capGe, Option.some.injEq] at h; subst h
    cases hv with
    | sl0 => exact ⟨_, _, _, rfl, Nat.le_refl _, fun _ => rfl⟩
    | sl1 => exact ⟨_, _, _, rfl, Nat.le_refl _, fun _ => rfl⟩
    | sl _ _ _ _ c _ _ _ h1 _ => exact ⟨_, _, _, rfl, h1, fun _ => rfl⟩
  | slc id off n c e k =>
    simp only [capGe, Option.some.injEq] at h; subst h
    cases hv <;> exact ⟨_, _, _, rfl, Nat.le_refl _, fun _ => rfl⟩
  | list xs t =>
    simp only [capGe, Option.some.injEq] at h; subst h
    rcases hv.list_inv with ⟨rfl, A, rfl⟩ | ⟨b, o', c, k', vs, rfl, hcl, _⟩
    · exact ⟨_, _, _, rfl, Nat.le_refl _, fun _ => rfl⟩
    · exact ⟨_, _, _, rfl, hcl, fun _ => rfl⟩
  | con u =>
    cases u with
    | slice A n c =>
      cases A with
      | none => cases n with
        | zero => cases c with
          | zero =>
            simp only [capGe, Option.some.injEq] at h; subst h
            cases hv; exact ⟨_, _, _, rfl, Nat.le_refl _, fun _ => rfl⟩
          | succ => simp [capGe] at h
        | succ => simp [capGe] at h
      | some => simp [capGe] at h
    | _ => simp [capGe] at h
  | emp =>
    simp only [capGe, Option.some.injEq] at h; subst h
    cases hv; exact ⟨_, _, _, rfl, Nat.le_refl _, fun _ => rfl⟩
  | _ => simp [capGe] at h
theorem run_bounds3 {σ : G} {w : World} {len cap : Nat} {lo hi : Option Operand} {mx : Operand} {L Hh X : Int} {ev : Operand → Value} (hlo : bnd ρ 0 lo = some L) (hhi : ∃ y, hi = some y ∧ bnd ρ 0 (some y) = some Hh) (hX : bnd ρ 0 (some mx) = some X) (h0 : 0 ≤ L) (h1 : L ≤ Hh) (h2 : Hh ≤ X) (h3 : X ≤ cap)
    (hv1 : ∀ x, lo = some x → VR σ w (ρ x) (ev x)) (hv2 : ∀ x, hi = some x → VR σ w (ρ x) (ev x)) (hv3 : VR σ w (ρ mx) (ev mx)) :
    (Instr.sliceBounds true len cap (lo.map ev) (hi.map ev) (some (ev mx))).run P w = .ok (L.toNat, Hh.toNat, X.toNat) w := by
  obtain ⟨y, rfl, hhi⟩ := hhi
  obtain ⟨k3, e3⟩ := bnd_val (ρ := ρ) hX hv3
  obtain ⟨k2, e2⟩ := bnd_val (ρ := ρ) hhi (hv2 y rfl)
  have b3 : ∀ code, (Instr.sliceBound (.int k3 X) cap code).run P w = .ok X.toNat w := fun code => run_sliceBound (by omega) (by omega)
  have b2 : ∀ code, (Instr.sliceBound (.int k2 Hh) X.toNat code).run P w = .ok Hh.toNat w := fun code => run_sliceBound (by omega) (by omega)
  cases lo with
  | none =>
    simp only [bnd, Option.some.injEq] at hlo; subst hlo
    simp only [Instr.sliceBounds, Option.map_none, Option.map_some, e2, e3, Sem.run_bind, b3, b2, Result.andThen_ok, Sem.run_pure, if_true]
    simp
  | some x =>
    obtain ⟨k1, e1⟩ := bnd_val (ρ := ρ) hlo (hv1 x rfl)
    have b1 : ∀ code, (Instr.sliceBound (.int k1 L) Hh.toNat code).run P w = .ok L.toNat w := fun code => run_sliceBound (by omega) (by omega)
    simp only [Instr.sliceBounds, Option.map_some, e1, e2, e3, Sem.run_bind, b3, b2, b1, Result.andThen_ok, Sem.run_pure, if_true]
/-- A slice that is cut, and not looked at. -/
theorem vop_slice3 {t e k by_ : TypeId} {x mx : Operand} {lo hi : Option Operand} {m : Nat} {L Hh X : Int} (ho : o.op = .slice t x lo hi (some mx)) (hx : okv (ρ x)) (hlo' : okB ρ lo) (hhi' : okB ρ hi) (hmx' : okv (ρ mx)) (h : capGe (un (ρ x)) = some m) (ht : telem P t = some (e, k, by_))
    (hlo : bnd (fun y => un (ρ y)) 0 lo = some L) (hhi : ∃ y, hi = some y ∧ bnd (fun y => un (ρ y)) 0 (some y) = some Hh) (hX : bnd (fun y => un (ρ y)) 0 (some mx) = some X) (h0 : 0 ≤ L) (h1 : L ≤ Hh) (h2 : Hh ≤ X) (h3 : X ≤ m) : VOp P H o ρ .any := vop_same fun σ w ev hs hv => by
  have g1 := (hv x (by simp [ho, Op.operands])).un hx
  obtain ⟨hd, hsz⟩ := telem_under ht
  obtain ⟨A, n, c, e1, hmc, _⟩ := capGe_at h g1
  have hb := run_bounds3 (P := P) (σ := σ) (w := w) (len := n) (cap := c) (ρ := fun y => un (ρ y)) (ev := ev) hlo hhi hX h0 h1 h2 (by omega)
    (fun y e => (hv y (by simp [ho, Op.operands, e])).un (by subst e; exact hlo')) (fun y e => (hv y (by simp [ho, Op.operands, e])).un (by subst e; exact hhi')) ((hv mx (by simp [ho, Op.operands])).un hmx')
  refine ⟨.slice (if X.toNat = L.toNat then A else A.map (·.add (L.toNat * k))) (Hh.toNat - L.toNat) (X.toNat - L.toNat), ?_, .any _⟩
  simp only [execOp, ho, e1, Instr.sliceAt, Instr.slice, Sem.run_bind, run_underlying hd, Result.andThen_ok, Option.map_some, hb, run_sizeOf hsz, Sem.run_pure]
/-- A row that is written, cut, and not looked at. -/
theorem vop_sliceSl {t e k by_ : TypeId} {x : Operand} {lo hi : Option Operand} {m : Nat} {L Hh : Int} (ho : o.op = .slice t x lo hi none) (hx : okv (ρ x)) (hlo' : okB ρ lo) (hhi' : okB ρ hi) (h : capGe (un (ρ x)) = some m) (hln : (lenA (un (ρ x))).1) (ht : telem P t = some (e, k, by_))
    (hlo : bnd (fun y => un (ρ y)) 0 lo = some L) (hhi : bnd (fun y => un (ρ y)) (lenA (un (ρ x))).2 hi = some Hh) (h0 : 0 ≤ L) (h1 : L ≤ Hh) (h2 : Hh ≤ m) : VOp P H o ρ .any := vop_same fun σ w ev hs hv => by
  have g1 := (hv x (by simp [ho, Op.operands])).un hx
  obtain ⟨hd, hsz⟩ := telem_under ht
  obtain ⟨A, n, c, e1, hmc, hnl⟩ := capGe_at h g1
  rw [← hnl hln] at hhi
  have hb := run_bounds2 (P := P) (σ := σ) (w := w) (isS := true) (cap := c) (ρ := fun y => un (ρ y)) (ev := ev) hlo hhi h0 h1 (by omega)
    (fun y e => (hv y (by simp [ho, Op.operands, e])).un (by subst e; exact hlo')) (fun y e => (hv y (by simp [ho, Op.operands, e])).un (by subst e; exact hhi'))
  refine ⟨.slice (if c = L.toNat then A else A.map (·.add (L.toNat * k))) (Hh.toNat - L.toNat) (c - L.toNat), ?_, .any _⟩
  simp only [execOp, ho, e1, Instr.sliceAt, Instr.slice, Sem.run_bind, run_underlying hd, Result.andThen_ok, Option.map_none, hb, run_sizeOf hsz, Sem.run_pure]
theorem vop_cap {c : Call} {x : Operand} {t : TypeId} {ts : List TypeId} {id off n cp e k : Nat} (ho : o.op = .call c) (hc : c.callee = .builtin .cap) (ha : c.args = #[x]) (hat : c.argTypes = (t :: ts).toArray) (hx : okv (ρ x)) (ht : tkind P t = 4) (h : un (ρ x) = .slc id off n cp e k) : VOp P H o ρ (.con (.int .i64 (cp : Int))) := vop_same fun σ w ev hs hv => by
  have h1 := (hv x (by simp [ho, Op.operands, Call.operands, hc, ha])).un hx
  rw [h] at h1
  obtain ⟨e', hu⟩ := tkind_slice ht
  obtain ⟨A, hA⟩ : ∃ A, ev x = .slice A n cp := by
    generalize ev x = u at h1
    cases h1 <;> exact ⟨_, rfl⟩
  have hr : (Builtin.cap_ (t :: ts).toArray o.type #[ev x]).run P w = .ok (.int .i64 cp) w := by
    rw [hA]; simp [Builtin.cap_, run_underlying hu, goInt]
  refine ⟨_, ?_, .con _⟩
  simp only [execOp, ho, resolve, hc, ha, hat, invoke, builtin, Sem.run_bind, Sem.run_pure, Result.andThen_ok, List.map_toArray, List.map_cons, List.map_nil, hr]
end
/-- What a slice holds that is read: how many elements, and their cells. -/
def srcC (H : Hp) (k : Nat) : AV → Option (Nat × List AV)
  | .list ys _ => some (ys.length, flat ys)
  | .con (.slice none 0 0) => some (0, [])
  | .emp => some (0, [])
  | .sl id n _ k' => if k' = k then (if n = 0 then some (0, []) else (H.box id).map fun cs => (n, cs.take (n * k))) else none
  | .slc id off n _ _ k' => if k' = k then (if n = 0 then some (0, []) else (H.box id).map fun cs => (n, (cs.drop (off * k)).take (n * k))) else none
  | _ => none
theorem src_read {σ : G} {H : Hp} {w : World} (hs : Sim σ H w) {X : AV} {v : Value} (hv : VR σ w X v) {k n : Nat} {cs : List AV} (h : srcC H k X = some (n, cs)) (hl : cs.length = n * k) (hk : ∀ ys t, X = .list ys t → ∀ y ∈ ys, y.cells.length = k) :
    ∃ A c, v = .slice A n c ∧ (0 < n → ∃ b o, ∃ vs : Nat → Value, A = some ⟨b, o, none⟩ ∧ ∀ j, j < n * k → w.cell? ⟨b, o + j, none⟩ = some (vs j) ∧ VR σ w (cs.getD j .any) (vs j)) := by
  cases X with
  | list ys t =>
    simp only [srcC, Option.some.injEq, Prod.mk.injEq] at h
    obtain ⟨rfl, rfl⟩ := h
    have hky := hk ys t rfl
    rcases hv.list_inv with ⟨rfl, A, rfl⟩ | ⟨b, o', c, k', vs, rfl, hcl, hcm, hfit, hcell, hvs⟩
    · exact ⟨A, 0, rfl, fun h => by simp at h⟩
    · refine ⟨_, c, rfl, fun hpos => ⟨b, o', vs, rfl, fun j hj => ?_⟩⟩
      have hkk : k' = k := by
        have hm := List.getElem_mem (l := ys) (n := 0) hpos
        rw [← (hfit _ hm).1, hky _ hm]
      subst hkk
      have hk0 : 0 < k' := by rcases Nat.eq_zero_or_pos k' with h | h; (rw [h] at hj; omega); exact h
      have hd1 : j / k' < ys.length := (Nat.div_lt_iff_lt_mul hk0).2 hj
      have hd2 : j % k' < k' := Nat.mod_lt _ hk0
      have h5 := hvs _ _ hd1 hd2
      have h6 := flat_get hky hd1 hd2
      rw [show j / k' * k' + j % k' = j by rw [Nat.mul_comm]; exact Nat.div_add_mod j k'] at h5 h6
      exact ⟨(hcell j hj).2, by rw [h6]; exact h5⟩
  | con u =>
    cases u with
    | slice A n' c =>
      cases A with
      | none => cases n' with
        | zero => cases c with
          | zero =>
            simp only [srcC, Option.some.injEq, Prod.mk.injEq] at h
            obtain ⟨rfl, rfl⟩ := h
            cases hv
            exact ⟨_, _, rfl, fun h => by omega⟩
          | succ => simp [srcC] at h
        | succ => simp [srcC] at h
      | some => simp [srcC] at h
    | _ => simp [srcC] at h
  | emp =>
    simp only [srcC, Option.some.injEq, Prod.mk.injEq] at h
    obtain ⟨rfl, rfl⟩ := h
    cases hv
    exact ⟨_, _, rfl, fun h => by omega⟩
  | sl id m e k' =>
    simp only [srcC] at h
    split at h
    · rename_i hkk
      subst hkk
      split at h
      · rename_i h0
        simp only [Option.some.injEq, Prod.mk.injEq] at h
        obtain ⟨rfl, rfl⟩ := h
        subst h0
        cases hv <;> exact ⟨_, _, rfl, fun h => by omega⟩
      · rename_i h0
        obtain ⟨d, hb, hd⟩ := Option.map_eq_some_iff.1 h
        simp only [Prod.mk.injEq] at hd
        obtain ⟨rfl, rfl⟩ := hd
        cases hv with
        | sl0 => omega
        | sl1 => omega
        | sl _ _ _ _ c g1 g2 g3 g4 g5 =>
          obtain ⟨q1, q2, q3, cur, e2, q4, q5, q6⟩ := hs.bx id d hb
          rw [g2] at q4
          obtain ⟨q4, rfl, q7⟩ := q4
          have hdl : m * k' ≤ d.length := by rw [List.length_take] at hl; omega
          refine ⟨_, _, rfl, fun _ => ⟨_, 0, fun j => cur.getD j undef, rfl, fun j hj => ⟨?_, ?_⟩⟩⟩
          · simp [World.cell?, q4, Array.getD_eq_getD_getElem?, show j < cur.size by omega]
          · have := q6 j (by omega)
            rwa [show (d.take (m * k')).getD j AV.any = d.getD j .any by simp [List.getD_eq_getElem?_getD, List.getElem?_take_of_lt hj]]
    · cases h
  | slc id off m c e k' =>
    simp only [srcC] at h
    split at h
    · rename_i hkk
      subst hkk
      split at h
      · rename_i h0
        simp only [Option.some.injEq, Prod.mk.injEq] at h
        obtain ⟨rfl, rfl⟩ := h
        subst h0
        cases hv <;> exact ⟨_, _, rfl, fun h => by omega⟩
      · rename_i h0
        obtain ⟨d, hb, hd⟩ := Option.map_eq_some_iff.1 h
        simp only [Prod.mk.injEq] at hd
        obtain ⟨rfl, rfl⟩ := hd
        cases hv with
        | slc0 => omega
        | slc _ _ _ _ _ _ g1 g2 g3 g4 g5 =>
          obtain ⟨q1, q2, q3, cur, e2, q4, q5, q6⟩ := hs.bx id d hb
          rw [g2] at q4
          obtain ⟨q4, rfl, q7⟩ := q4
          have hdl : off * k' + m * k' ≤ d.length := by
            rw [List.length_take, List.length_drop] at hl
            rcases Nat.eq_zero_or_pos (m * k') with hz | hz
            · rcases Nat.mul_eq_zero.1 hz with hz | hz
              · omega
              · subst hz; simp
            · omega
          refine ⟨_, _, rfl, fun _ => ⟨_, off * k', fun j => cur.getD (off * k' + j) undef, rfl, fun j hj => ⟨?_, ?_⟩⟩⟩
          · simp [World.cell?, q4, Array.getD_eq_getD_getElem?, show off * k' + j < cur.size by omega]
          · have := q6 (off * k' + j) (by omega)
            rwa [show ((d.drop (off * k')).take (m * k')).getD j AV.any = d.getD (off * k' + j) .any by simp [List.getD_eq_getElem?_getD, List.getElem?_take_of_lt hj]]
    · cases h
  | _ => simp [srcC] at h
/-- Where a slice lies that is written: the row, the cell, how many elements. -/
def dstC (H : Hp) (k : Nat) : AV → Option (Nat × Nat × Nat)
  | .sl id n _ k' => if k' = k ∧ 0 < n then some (id, 0, n) else none
  | .slc id off n c _ k' => if k' = k ∧ 0 < c then some (id, off * k, n) else none
  | _ => none
theorem dst_at {σ : G} {H : Hp} {w : World} (hs : Sim σ H w) {X : AV} {v : Value} (hv : VR σ w X v) {k id off n : Nat} (h : dstC H k X = some (id, off, n)) :
    ∃ c, v = .slice (some ⟨σ.blk id, off, none⟩) n c ∧ (σ.kd id).plain := by
  cases X with
  | sl i m e k' =>
    simp only [dstC] at h
    split at h
    · rename_i hh
      simp only [Option.some.injEq, Prod.mk.injEq] at h
      obtain ⟨rfl, rfl, rfl⟩ := h
      cases hv with
      | sl0 => omega
      | sl1 => omega
      | sl _ _ _ _ c g1 g2 g3 g4 g5 => exact ⟨c, rfl, by rw [g2]; trivial⟩
    · cases h
  | slc i o m c e k' =>
    simp only [dstC] at h
    split at h
    · rename_i hh
      obtain ⟨rfl, hh⟩ := hh
      simp only [Option.some.injEq, Prod.mk.injEq] at h
      obtain ⟨rfl, rfl, rfl⟩ := h
      cases hv with
      | slc0 => omega
      | slc _ _ _ _ _ _ g1 g2 g3 g4 g5 => exact ⟨c, rfl, by rw [g2]; trivial⟩
    · cases h
  | _ => simp [dstC] at h
section
variable {P : Program} {o : Oper} {s : St} {K : St → Prop}
/-- Cells are written over. -/
theorem turn_over {σ : G} {H : Hp} {w : World} (hs : Sim σ H w) {id off : Nat} {c xs : List AV} {vs : Array Value} (hb : H.box id = some c) (hk : (σ.kd id).plain) (hv : VRs σ w xs vs) (h1 : ∀ v ∈ vs.toList, v.oneCell' = true) (hl : off + xs.length ≤ c.length) :
    ∃ w', (storeCells ⟨σ.blk id, off, none⟩ vs.toList).run P w = .ok () w' ∧ Ext σ w σ w' ∧ Sim σ (H.upd id fun _ => over c off xs) w' := by
  obtain ⟨q1, q2, q3, cur, e, q4, q5, q6⟩ := hs.bx id c hb
  have hO := q4
  replace q4 := q4.zero hk
  obtain ⟨cur', r1, r2, r3⟩ := run_storeCells (P := P) (off := off) (vs := vs) q4 (by rw [hv.1]; omega) h1
  refine ⟨_, r1, ?_⟩
  have hlt : σ.blk id < w.heap.size := hO.lt
  refine sim_turn hs (cur' := cur') (e' := e) hb ⟨⟨rfl, rfl, rfl, by rw [size_setRow]; exact Nat.le_refl _, fun j hj => setRow_other w _ j _ (by omega)⟩, Nat.le_refl _⟩ (size_setRow _ _ _) (fun j hj => setRow_other w _ j _ hj)
    (hO.turn hk (setRow_heap w _ cur _ e _ q4) r2) ⟨by rw [over_length hl, r2]; exact q5, fun i hi => ?_⟩
  rw [over_length hl] at hi
  rw [over_get hl, r3, hv.1]
  split
  · rename_i hh; exact hv.2 _ (by omega)
  · exact q6 i hi
theorem run_loadCells_at {w : World} {b o : Nat} {vs : Nat → Value} {n : Nat} (h : ∀ j, j < n → w.cell? ⟨b, o + j, none⟩ = some (vs j)) : (loadCells ⟨b, o, none⟩ n).run P w = .ok ((List.range n).map vs).toArray w := by
  have := run_loadCells_list (P := P) (w := w) ⟨b, o, none⟩ ((List.range n).map vs) (fun j v hj => by
    rw [List.getElem?_map] at hj
    rcases Nat.lt_or_ge j n with hlt | hge
    · rw [List.getElem?_range hlt] at hj
      simp only [Option.map_some, Option.some.injEq] at hj
      rw [add_none, h j hlt, hj]
    · rw [List.getElem?_eq_none (by simpa using hge)] at hj; cases hj)
  rwa [List.length_map, List.length_range] at this
/-- copy -/
theorem sop_copy {c : Call} {x y : Operand} {t t2 e k by_ id off n n' : Nat} {ds cs : List AV} (ho : o.op = .call c) (hc : c.callee = .builtin .copy) (ha : c.args = #[x, y]) (hat : c.argTypes = #[t, t2]) (hx : okv (s.ev x)) (hy : okv (s.ev y)) (ht : telem P t = some (e, k, by_))
    (hd : dstC s.h k (un (s.ev x)) = some (id, off, n)) (hb : s.h.box id = some ds) (hsrc : srcC s.h k (un (s.ev y)) = some (n', cs)) (hcl : cs.length = n' * k) (hky : ∀ ys t, un (s.ev y) = .list ys t → ∀ y ∈ ys, y.cells.length = k)
    (h1 : ∀ z ∈ cs.take (min n' n * k), z.one = true) (hfit : off + min n' n * k ≤ ds.length) (hdst : ∀ d, o.dst = some d → d < s.n)
    (h : K ((⟨s.n, s.t, s.h.upd id fun _ => over ds off (cs.take (min n' n * k))⟩ : St).puto o.dst (.con (.int .i64 ((min n' n : Nat) : Int))))) : SOp P o s K := by
  intro σ w a hs hl KK Q hK
  have v1 := (hl.ev x).un hx
  have v2 := (hl.ev y).un hy
  obtain ⟨cp, e1, hkd⟩ := dst_at hs v1 hd
  obtain ⟨A, c2, e2, hrd⟩ := src_read hs v2 hsrc hcl hky
  obtain ⟨hu, hsz⟩ := telem_under ht
  have hmin : min n' n * k ≤ n' * k := Nat.mul_le_mul_right _ (Nat.min_le_left _ _)
  have htl : (cs.take (min n' n * k)).length = min n' n * k := by rw [List.length_take, hcl]; omega
  obtain ⟨vs, hload, hvr⟩ : ∃ vs : Array Value, (Builtin.firstCells k (min n' n) (.slice A n' c2)).run P w = .ok vs w ∧ VRs σ w (cs.take (min n' n * k)) vs := by
    rcases Nat.eq_zero_or_pos n' with h0 | h0
    · subst h0
      refine ⟨#[], ?_, by simp, fun i hi => by rw [htl] at hi; simp at hi⟩
      cases A with
      | none => simp [Builtin.firstCells]
      | some a => simp [Builtin.firstCells, loadCells, loadCellsFrom]
    · obtain ⟨b, o', vs, rfl, hcell⟩ := hrd h0
      refine ⟨((List.range (min n' n * k)).map vs).toArray, ?_, by simp [htl], fun i hi => ?_⟩
      · simp only [Builtin.firstCells]
        exact run_loadCells_at fun j hj => (hcell j (by omega)).1
      · rw [htl] at hi
        have := (hcell i (by omega)).2
        rw [List.getD_eq_getElem?_getD, List.getElem?_take_of_lt hi, ← List.getD_eq_getElem?_getD]
        simpa [Array.getD_eq_getD_getElem?, hi] using this
  have hone : ∀ v ∈ vs.toList, v.oneCell' = true := by
    intro v hv
    obtain ⟨i, hi, rfl⟩ := List.getElem_of_mem hv
    have hi' : i < (cs.take (min n' n * k)).length := by rw [← hvr.1]; simpa using hi
    have g1 := hvr.2 i hi'
    have g2 := h1 ((cs.take (min n' n * k)).getD i .any) (by rw [List.getD_eq_getElem?_getD, List.getElem?_eq_getElem hi']; exact List.getElem_mem hi')
    have := g1.one g2
    simpa [Array.getD_eq_getD_getElem?, show i < vs.size by simpa using hi] using this
  obtain ⟨w', hst, hE, hS⟩ := turn_over (P := P) hs hb hkd hvr hone (by rw [htl]; exact hfit)
  have hrun : (Builtin.copy_ #[t, t2] o.type #[a.eval x, a.eval y]).run P w = .ok (goInt ((min n' n : Nat) : Int)) w' := by
    rw [e1, e2]
    simp only [Builtin.copy_, List.getElem?_toArray, List.getElem?_cons_zero, List.getElem?_cons_succ, Sem.run_bind, run_underlying hu, Result.andThen_ok, Builtin.lenOf, Sem.run_pure, run_sizeOf hsz]
    rw [show Nat.min n' n = min n' n from rfl, hload]
    simp only [Result.andThen_ok, hst]
  unfold Oper.wp
  simp only [execOp, ho, resolve, hc, ha, hat, invoke, builtin, Sem.run_bind, Sem.run_pure, Result.andThen_ok, List.map_toArray, List.map_cons, List.map_nil, hrun, Oper.upon]
  refine hK _ σ w' _ h hE (by cases o.dst <;> exact hS) ?_
  have hl' : Sl σ w' (⟨s.n, s.t, s.h.upd id fun _ => over ds off (cs.take (min n' n * k))⟩ : St) a := ⟨hl.size, fun d => (hl.v d).mono hE, hl.defers⟩
  cases hq : o.dst with
  | none => exact hl'
  | some d => exact hl'.put (hdst d hq) (by unfold goInt; exact .con _)
/-- clear -/
theorem sop_clear {c : Call} {x : Operand} {t e k by_ id off n : Nat} {ts : List Nat} {ds z : List AV} (ho : o.op = .call c) (hc : c.callee = .builtin .clear) (ha : c.args = #[x]) (hat : c.argTypes = (t :: ts).toArray) (hx : okv (s.ev x)) (ht : telem P t = some (e, k, by_)) (hz : tzero P e = some z) (hzk : z.length = k)
    (hd : dstC s.h k (un (s.ev x)) = some (id, off, n)) (hb : s.h.box id = some ds) (hn : 0 < n) (hz1 : ∀ y ∈ z, y.one = true) (hfit : off + n * k ≤ ds.length) (hdst : o.dst = none)
    (h : K ⟨s.n, s.t, s.h.upd id fun _ => over ds off (List.replicate n z).flatten⟩) : SOp P o s K := by
  intro σ w a hs hl KK Q hK
  have v1 := (hl.ev x).un hx
  obtain ⟨cp, e1, hkd⟩ := dst_at hs v1 hd
  obtain ⟨hu, hsz⟩ := telem_under ht
  unfold tzero at hz
  obtain ⟨zv, hzv, hzz⟩ := Option.map_eq_some_iff.1 hz
  have hzs : zv.cells.size = k := by rw [← hzk, ← hzz]; simp
  have hfl : ((List.replicate n z).flatten).length = n * k := by simp [hzk]
  have hvr : VRs σ w (List.replicate n z).flatten (Builtin.zeroCells zv.cells n) := by
    refine ⟨by simp [Builtin.zeroCells, hfl, hzs], fun i hi => ?_⟩
    rw [hfl] at hi
    have hk0 : 0 < k := by rcases Nat.eq_zero_or_pos k with h | h; (rw [h] at hi; omega); exact h
    have hget : ((List.replicate n z).flatten).getD i .any = z.getD (i % k) .any := by
      have hcg : ∀ (n i : Nat), i < n * k → ((List.replicate n z).flatten).getD i .any = z.getD (i % k) .any := by
        intro n
        induction n with
        | zero => intro i hi; simp at hi
        | succ n ih =>
          intro i hi
          rw [List.replicate_succ, List.flatten_cons, List.getD_eq_getElem?_getD]
          rcases Nat.lt_or_ge i k with hlt | hge
          · rw [List.getElem?_append_left (by omega), Nat.mod_eq_of_lt hlt, List.getD_eq_getElem?_getD]
          · rw [List.getElem?_append_right (by omega), hzk, ← List.getD_eq_getElem?_getD, ih (i - k) (by rw [Nat.add_mul] at hi; omega), ← Nat.mod_eq_sub_mod hge]
      exact hcg n i hi
    rw [hget]
    have hm : i % k < k := Nat.mod_lt _ hk0
    have a1 : (Builtin.zeroCells zv.cells n).getD i undef = zv.cells.getD (i % k) undef := by
      simp [Builtin.zeroCells, Array.getD_eq_getD_getElem?, hi, hzs, hm]
    have a2 : z.getD (i % k) .any = .con (zv.cells.getD (i % k) undef) := by
      rw [← hzz, List.getD_eq_getElem?_getD, List.getElem?_map, Array.getElem?_toList]
      simp [Array.getD_eq_getD_getElem?, hzs, hm]
    rw [a1, a2]
    exact .con _
  have hone : ∀ v ∈ (Builtin.zeroCells zv.cells n).toList, v.oneCell' = true := by
    intro v hv
    obtain ⟨i, hi, rfl⟩ := List.getElem_of_mem hv
    have hi' : i < ((List.replicate n z).flatten).length := by rw [← hvr.1]; simpa using hi
    have g1 := hvr.2 i hi'
    have g2 : (((List.replicate n z).flatten).getD i .any).one = true := by
      rw [List.getD_eq_getElem?_getD, List.getElem?_eq_getElem hi']
      have := List.getElem_mem hi'
      obtain ⟨q, hq, hm⟩ := List.mem_flatten.1 this
      rw [(List.mem_replicate.1 hq).2] at hm
      exact hz1 _ hm
    have := g1.one g2
    simpa [Array.getD_eq_getD_getElem?, show i < (Builtin.zeroCells zv.cells n).size by simpa using hi] using this
  obtain ⟨w', hst, hE, hS⟩ := turn_over (P := P) hs hb hkd hvr hone (by rw [hfl]; exact hfit)
  have hzr : (zeroValue e).run P w = .ok zv w := by
    obtain ⟨q, h1, _, h3⟩ := run_zero (P := P) (t := e) (cs := z) (by unfold tzero; rw [hzv]; simp [hzz]) σ w
    have hq : (P.info? e).bind (·.zero) = some zv := hzv
    obtain ⟨inf, hi1, hi2⟩ := Option.bind_eq_some_iff.1 hq
    simp [zeroValue, typeInfo, hi1, hi2]
  have hrun : (Builtin.clear_ (t :: ts).toArray o.type #[a.eval x]).run P w = .ok (.tuple #[]) w' := by
    rw [e1]
    obtain ⟨m, rfl⟩ : ∃ m, n = m + 1 := ⟨n - 1, by omega⟩
    simp only [Builtin.clear_, List.getElem?_toArray, List.getElem?_cons_zero, Sem.run_bind, run_underlying hu, Result.andThen_ok, hzr, hst, Sem.run_pure]
  unfold Oper.wp
  simp only [execOp, ho, resolve, hc, ha, hat, invoke, builtin, Sem.run_bind, Sem.run_pure, Result.andThen_ok, List.map_toArray, List.map_cons, List.map_nil, hrun, Oper.upon]
  rw [hdst] at hK ⊢
  have hl' : Sl σ w' (⟨s.n, s.t, s.h.upd id fun _ => over ds off (List.replicate n z).flatten⟩ : St) a := ⟨hl.size, fun d => (hl.v d).mono hE, hl.defers⟩
  exact hK _ σ w' _ h hE hS hl'
end
section
variable {P : Program} {o : Oper} {s : St} {K : St → Prop}
/-- append in place, where there is room -/
theorem sop_append_fit {c' : Call} {x y : Operand} {ty ty2 e k by_ d id off n cp m e' : Nat} {ds cs : List AV} (ho : o.op = .call c') (hc : c'.callee = .builtin .append) (ha : c'.args = #[x, y]) (hat : c'.argTypes = #[ty, ty2]) (hty : ty2 = ty) (hd : o.dst = some d) (hn : d < s.n)
    (hx : okv (s.ev x)) (hy : okv (s.ev y)) (ht : telem P ty = some (e, k, by_)) (hxs : un (s.ev x) = .slc id off n cp e' k) (hcp : 0 < cp) (hb : s.h.box id = some ds) (hsrc : srcC s.h k (un (s.ev y)) = some (m, cs)) (hcl : cs.length = m * k)
    (hky : ∀ ys t, un (s.ev y) = .list ys t → ∀ y ∈ ys, y.cells.length = k) (h1 : ∀ z ∈ cs, z.one = true) (hfit : n + m ≤ cp) (hdl : (off + n) * k + m * k ≤ ds.length)
    (h : K ⟨s.n, (d, .slc id off (n + m) cp e' k) :: s.t, s.h.upd id fun _ => over ds ((off + n) * k) cs⟩) : SOp P o s K := by
  subst hty
  intro σ w a hs hl KK Q hK
  have v1 := (hl.ev x).un hx
  have v2 := (hl.ev y).un hy
  rw [hxs] at v1
  obtain ⟨A, c2, e2, hrd⟩ := src_read hs v2 hsrc hcl hky
  obtain ⟨hu, hsz⟩ := telem_under ht
  obtain ⟨e1, q1, q2, q4⟩ : a.eval x = .slice (some ⟨σ.blk id, off * k, none⟩) n cp ∧ id < σ.next ∧ σ.kd id = .row e' k (off + cp) ∧ off + cp ≤ maxLen := by
    generalize a.eval x = u at v1
    cases v1 with
    | slc0 => omega
    | slc _ _ _ _ _ _ g1 g2 g3 g4 g5 => exact ⟨rfl, g1, g2, g5⟩
  obtain ⟨vs, hload, hvr⟩ : ∃ vs : Array Value, (Builtin.firstCells k m (.slice A m c2)).run P w = .ok vs w ∧ VRs σ w cs vs := by
    rcases Nat.eq_zero_or_pos m with h0 | h0
    · subst h0
      refine ⟨#[], ?_, by simp [hcl], fun i hi => by rw [hcl] at hi; simp at hi⟩
      cases A with
      | none => simp [Builtin.firstCells]
      | some a => simp [Builtin.firstCells, loadCells, loadCellsFrom]
    · obtain ⟨b, o', vs, rfl, hcell⟩ := hrd h0
      refine ⟨((List.range (m * k)).map vs).toArray, ?_, by simp [hcl], fun i hi => ?_⟩
      · simp only [Builtin.firstCells]
        exact run_loadCells_at fun j hj => (hcell j hj).1
      · rw [hcl] at hi
        have := (hcell i hi).2
        simpa [Array.getD_eq_getD_getElem?, hi] using this
  have hone : ∀ v ∈ vs.toList, v.oneCell' = true := by
    intro v hv
    obtain ⟨i, hi, rfl⟩ := List.getElem_of_mem hv
    have hi' : i < cs.length := by rw [← hvr.1]; simpa using hi
    have g1 := hvr.2 i hi'
    have g2 := h1 (cs.getD i .any) (by rw [List.getD_eq_getElem?_getD, List.getElem?_eq_getElem hi']; exact List.getElem_mem hi')
    have := g1.one g2
    simpa [Array.getD_eq_getD_getElem?, show i < vs.size by simpa using hi] using this
  obtain ⟨w', hst, hE, hS⟩ := turn_over (P := P) (off := (off + n) * k) hs hb (by rw [q2]; trivial) hvr hone (by rw [hcl]; exact hdl)
  have hadd : (⟨σ.blk id, off * k, none⟩ : Addr).add (n * k) = ⟨σ.blk id, (off + n) * k, none⟩ := by rw [add_none, ← Nat.add_mul]
  have hrun : (Builtin.append_ #[ty2, ty2] o.type #[a.eval x, a.eval y]).run P w = .ok (.slice (some ⟨σ.blk id, off * k, none⟩) (n + m) cp) w' := by
    rw [e1, e2]
    simp only [Builtin.append_, List.getElem?_toArray, List.getElem?_cons_zero, List.getElem?_cons_succ, Sem.run_bind, run_underlying hu, Result.andThen_ok, Builtin.lenOf, Sem.run_pure, run_sizeOf hsz, Bool.false_eq_true, if_false, if_pos hfit, Bool.not_false, if_true, hload, hadd, hst]
  refine run_app_op ho hc ha hat a w hrun KK Q (hK _ _ _ _ h hE hS ?_)
  have hl' : Sl σ w' (⟨s.n, s.t, s.h.upd id fun _ => over ds ((off + n) * k) cs⟩ : St) a := ⟨hl.size, fun d => (hl.v d).mono hE, hl.defers⟩
  rw [hd]
  exact hl'.put hn (.slc id off (n + m) cp e' k (Nat.lt_of_lt_of_le q1 hE.next) ((hE.blk id q1).2.trans q2) hcp hfit q4)
/-- A row that is written is copied into a new one. -/
theorem sop_append_empC {c : Call} {x y : Operand} {ty ty2 e k by_ d m : Nat} {cs z : List AV} (ho : o.op = .call c) (hc : c.callee = .builtin .append) (ha : c.args = #[x, y]) (hat : c.argTypes = #[ty, ty2]) (hty : ty2 = ty) (hd : o.dst = some d) (hn : d < s.n)
    (hx : okv (s.ev x)) (hy : okv (s.ev y)) (hxs : un (s.ev x) = .emp) (ht : telem P ty = some (e, k, by_)) (hz : tzero P e = some z) (hzk : z.length = k) (hk : 0 < k) (hby : 0 < by_) (hlim : m * by_ ≤ 140737488355328)
    (hsrc : srcC s.h k (un (s.ev y)) = some (m, cs)) (hcl : cs.length = m * k) (hky : ∀ ys t, un (s.ev y) = .list ys t → ∀ y ∈ ys, y.cells.length = k) (hm : 0 < m)
    (h : ∀ id, s.h.box id = none → s.h.tok id = none → K ⟨s.n, (d, .sl id m e k) :: s.t, ⟨(id, cs) :: s.h.bx, s.h.tk⟩⟩) : SOp P o s K := by
  subst hty
  intro σ w a hs hl KK Q hK
  have h1 := (hl.ev x).un hx
  have h2 := (hl.ev y).un hy
  rw [hxs] at h1
  obtain ⟨A, c2, e2, hrd⟩ := src_read hs h2 hsrc hcl hky
  obtain ⟨b, o', vs, rfl, hcell⟩ := hrd hm
  unfold telem at ht
  split at ht
  case h_2 => cases ht
  rename_i e' hue
  obtain ⟨inf, hinf, ht⟩ := Option.map_eq_some_iff.1 ht
  simp only [Prod.mk.injEq] at ht
  obtain ⟨rfl, hik, hib⟩ := ht
  unfold tzero at hz
  obtain ⟨zv, hzv, hzz⟩ := Option.map_eq_some_iff.1 hz
  rw [hinf] at hzv
  simp only [Option.bind_some] at hzv
  have hzs : zv.cells.size = k := by rw [← hzk, ← hzz]; simp
  generalize hvx : a.eval x = vx at h1
  cases h1 with
  | emp bb oo =>
    have hr := run_append_grow (P := P) w ty2 o.type e' inf zv hue hinf hzv ⟨bb, oo, none⟩ 0 0 [] (by simp) (by simp) ⟨b, o', none⟩ m c2 ((List.range (m * k)).map vs) (by simp [hik])
      (fun j q hj => by
        rw [List.getElem?_map] at hj
        rcases Nat.lt_or_ge j (m * k) with hlt | hge
        · rw [List.getElem?_range hlt] at hj
          simp only [Option.map_some, Option.some.injEq] at hj
          rw [add_none, (hcell j hlt).1, hj]
        · rw [List.getElem?_eq_none (by simpa using hge)] at hj; cases hj) (by omega)
      (by have := Nat.le_mul_of_pos_right m hby; omega) (growslice_fits (by omega) (by rw [hib, Nat.zero_add]; exact hlim))
    rw [← hvx, ← e2] at hr
    simp only [Nat.zero_add, Array.empty_append] at hr
    have hg1 := grownCap_ge w m 0 e'
    have hg2 := grownCap_le_maxLen w m 0 e' (by have := Nat.le_mul_of_pos_right m hby; simp only [maxLen]; omega)
    have hsz : ∀ q, q < m * k → (((List.range (m * k)).map vs).toArray ++ Builtin.zeroCells zv.cells (grownCap w m 0 e' - m)).getD q undef = vs q := by
      intro q hq
      simp [Array.getD_eq_getD_getElem?, Array.getElem?_append_left, hq]
    have hcs : cs.length ≤ (((List.range (m * k)).map vs).toArray ++ Builtin.zeroCells zv.cells (grownCap w m 0 e' - m)).size ∧ ∀ i, i < cs.length →
        VR σ w.drew (cs.getD i .any) ((((List.range (m * k)).map vs).toArray ++ Builtin.zeroCells zv.cells (grownCap w m 0 e' - m)).getD i undef) := by
      rw [hcl]
      refine ⟨by simp, fun i hi => ?_⟩
      rw [hsz i hi]
      exact (hcell i hi).2.mono (ext_drew hs)
    have hS := sim_boxk (sim_drew hs) e' (.row e' k (grownCap w m 0 e')) (.cells (((List.range (m * k)).map vs).toArray ++ Builtin.zeroCells zv.cells (grownCap w m 0 e' - m)) e') ⟨rfl, rfl, by
      simp only [Array.size_append, List.size_toArray, List.length_map, List.length_range, size_zeroCells, hzs, ← Nat.add_mul]
      congr 1; omega⟩ hcs
    have hE := (ext_drew hs).trans (ext_box (sim_drew hs) (.cells (((List.range (m * k)).map vs).toArray ++ Builtin.zeroCells zv.cells (grownCap w m 0 e' - m)) e') (.row e' k (grownCap w m 0 e')))
    have hf := fresh_id hs
    refine run_app_op ho hc ha hat a w hr KK Q (hK _ _ _ _ (h σ.next hf.1 hf.2) hE hS ?_)
    have hl' : Sl (σ.boxed w.drew.heap.size (.row e' k (grownCap w m 0 e'))) (w.drew.alloc (.cells (((List.range (m * k)).map vs).toArray ++ Builtin.zeroCells zv.cells (grownCap w m 0 e' - m)) e')) (⟨s.n, s.t, ⟨(σ.next, cs) :: s.h.bx, s.h.tk⟩⟩ : St) a := ⟨hl.size, fun d => (hl.v d).mono hE, hl.defers⟩
    rw [hd]
    refine hl'.put hn ?_
    have := VR.sl (σ := σ.boxed w.drew.heap.size (.row e' k (grownCap w m 0 e'))) (w := w.drew.alloc (.cells (((List.range (m * k)).map vs).toArray ++ Builtin.zeroCells zv.cells (grownCap w m 0 e' - m)) e')) σ.next m e' k (grownCap w m 0 e') (by simp [G.boxed]) (by simp [G.boxed]) hm hg1 hg2
    rwa [show (σ.boxed w.drew.heap.size (.row e' k (grownCap w m 0 e'))).blk σ.next = w.heap.size by simp only [G.boxed, if_true]; rfl] at this
/-- append of zero elements, where there is no room -/
theorem sop_append_zeros {c' : Call} {x y : Operand} {ty ty2 e k by_ d id off n cp m e' : Nat} {kk kn : IntKind} {ds z : List AV} (ho : o.op = .call c') (hc : c'.callee = .builtin .append) (ha : c'.args = #[x, y]) (hat : c'.argTypes = #[ty, ty2]) (htn : tint P ty2 = some kn) (hd : o.dst = some d) (hn : d < s.n)
    (hx : okv (s.ev x)) (hy : okv (s.ev y)) (ht : telem P ty = some (e, k, by_)) (hz : tzero P e = some z) (hzk : z.length = k) (hxs : un (s.ev x) = .slc id off n cp e' k) (hys : un (s.ev y) = .con (.int kk (m : Int))) (hcp : 0 < cp) (hb : s.h.box id = some ds) (hdl : off * k + n * k ≤ ds.length)
    (hm : 0 < m) (hk : 0 < k) (hby : 0 < by_) (hfit : cp < n + m) (hlim : (n + m) * by_ ≤ 140737488355328)
    (h : ∀ id', s.h.box id' = none → s.h.tok id' = none → K ⟨s.n, (d, .sl id' (n + m) e k) :: s.t, ⟨(id', (ds.drop (off * k)).take (n * k) ++ (List.replicate m z).flatten) :: s.h.bx, s.h.tk⟩⟩) : SOp P o s K := by
  intro σ w a hs hl KK Q hK
  have v1 := (hl.ev x).un hx
  have v2 := (hl.ev y).un hy
  rw [hxs] at v1
  rw [hys] at v2
  have e2 := vr_con v2
  obtain ⟨hu, hsz⟩ := telem_under ht
  obtain ⟨e1, q1, q2, q4, q5⟩ : a.eval x = .slice (some ⟨σ.blk id, off * k, none⟩) n cp ∧ id < σ.next ∧ σ.kd id = .row e' k (off + cp) ∧ off + cp ≤ maxLen ∧ n ≤ cp := by
    generalize a.eval x = u at v1
    cases v1 with
    | slc0 => omega
    | slc _ _ _ _ _ _ g1 g2 g3 g4 g5 => exact ⟨rfl, g1, g2, g5, g4⟩
  unfold tzero at hz
  obtain ⟨zv, hzv, hzz⟩ := Option.map_eq_some_iff.1 hz
  have hzs : zv.cells.size = k := by rw [← hzk, ← hzz]; simp
  obtain ⟨inf, hinf, hzi⟩ := Option.bind_eq_some_iff.1 hzv
  unfold telem at ht
  rw [hu] at ht
  simp only [hinf, Option.map_some, Option.some.injEq, Prod.mk.injEq, true_and] at ht
  obtain ⟨hik, hib⟩ := ht
  obtain ⟨g1, g2, g3, cur, e3, g4, g5, g6⟩ := hs.bx id ds hb
  have hO := g4
  rw [q2] at g4
  obtain ⟨g4, rfl, g7⟩ := g4
  have hkd := under_int htn
  have hnle : n * k ≤ cur.size := by omega
  let olds := (List.range (n * k)).map fun j => cur.getD (off * k + j) undef
  have hbn : n + m ≤ (n + m) * by_ := Nat.le_mul_of_pos_right _ hby
  have hml : n + m ≤ maxLen := by simp only [maxLen]; omega
  have hr := Lib.run_append_grow_zeros (P := P) w ty ty2 o.type e inf zv kk kn hu hkd hinf hzi (some ⟨σ.blk id, off * k, none⟩) n cp olds
    (by
      rw [hik]
      simp only [Builtin.firstCells]
      refine run_loadCells_at fun j hj => ?_
      rw [World.cell?_drew]
      simp [World.cell?, g4, Array.getD_eq_getD_getElem?, show off * k + j < cur.size by omega])
    m hm (by omega) hfit (by omega) (by rw [hib]; have : m * by_ ≤ (n + m) * by_ := Nat.mul_le_mul_right _ (by omega); omega) (by rw [hib]; exact growslice_fits hfit hlim)
  have hge := grownCap_ge w (n + m) cp e
  have hle := grownCap_le_maxLen w (n + m) cp e hml
  generalize hG : grownCap w (n + m) cp e = GC at hr hge hle
  have hE1 := ext_drew hs
  have hS1 := sim_drew hs
  have hszc : (olds.toArray ++ Builtin.zeroCells zv.cells m ++ Builtin.zeroCells zv.cells (GC - (n + m))).size = GC * k := by
    simp only [olds, Array.size_append, List.size_toArray, List.length_map, List.length_range, Builtin.zeroCells, Array.size_map, Array.size_range, hzs]
    rw [← Nat.add_mul, ← Nat.add_mul]; congr 1; omega
  have hfl : ((List.replicate m z).flatten).length = m * k := by simp [hzk]
  have hget : ∀ i, i < m * k → ((List.replicate m z).flatten).getD i .any = z.getD (i % k) .any := by
    have hcg : ∀ (n i : Nat), i < n * k → ((List.replicate n z).flatten).getD i .any = z.getD (i % k) .any := by
      intro n
      induction n with
      | zero => intro i hi; simp at hi
      | succ n ih =>
        intro i hi
        rw [List.replicate_succ, List.flatten_cons, List.getD_eq_getElem?_getD]
        rcases Nat.lt_or_ge i k with hlt | hge
        · rw [List.getElem?_append_left (by omega), Nat.mod_eq_of_lt hlt, List.getD_eq_getElem?_getD]
        · rw [List.getElem?_append_right (by omega), hzk, ← List.getD_eq_getElem?_getD, ih (i - k) (by rw [Nat.add_mul] at hi; omega), ← Nat.mod_eq_sub_mod hge]
    exact hcg m
  have hcs : ((ds.drop (off * k)).take (n * k) ++ (List.replicate m z).flatten).length ≤ (olds.toArray ++ Builtin.zeroCells zv.cells m ++ Builtin.zeroCells zv.cells (GC - (n + m))).size ∧
      ∀ i, i < ((ds.drop (off * k)).take (n * k) ++ (List.replicate m z).flatten).length → VR σ w.drew (((ds.drop (off * k)).take (n * k) ++ (List.replicate m z).flatten).getD i .any) ((olds.toArray ++ Builtin.zeroCells zv.cells m ++ Builtin.zeroCells zv.cells (GC - (n + m))).getD i undef) := by
    have hl1 : ((ds.drop (off * k)).take (n * k)).length = n * k := by rw [List.length_take, List.length_drop]; omega
    have hol : olds.length = n * k := by simp [olds]
    rw [List.length_append, hl1, hfl, hszc, ← Nat.add_mul]
    refine ⟨Nat.mul_le_mul_right _ hge, fun i hi => ?_⟩
    rw [Array.append_assoc]
    rcases Nat.lt_or_ge i (n * k) with hlt | hge'
    · have a1 : ((ds.drop (off * k)).take (n * k) ++ (List.replicate m z).flatten).getD i .any = ds.getD (off * k + i) .any := by
        rw [List.getD_eq_getElem?_getD, List.getElem?_append_left (by omega), List.getElem?_take_of_lt hlt, List.getElem?_drop, ← List.getD_eq_getElem?_getD]
      have a2 : (olds.toArray ++ (Builtin.zeroCells zv.cells m ++ Builtin.zeroCells zv.cells (GC - (n + m)))).getD i undef = cur.getD (off * k + i) undef := by
        rw [Array.getD_eq_getD_getElem?, Array.getElem?_append_left (by simpa [hol] using hlt)]
        simp [olds, hlt]
      rw [a1, a2]
      exact (g6 _ (by omega)).mono hE1
    · rw [Nat.add_mul] at hi
      have hq : i - n * k < m * k := by omega
      have a1 : ((ds.drop (off * k)).take (n * k) ++ (List.replicate m z).flatten).getD i .any = z.getD ((i - n * k) % k) .any := by
        rw [List.getD_eq_getElem?_getD, List.getElem?_append_right (by omega), hl1, ← List.getD_eq_getElem?_getD, hget _ hq]
      have hm2 : (i - n * k) % k < k := Nat.mod_lt _ hk
      have a2 : (olds.toArray ++ (Builtin.zeroCells zv.cells m ++ Builtin.zeroCells zv.cells (GC - (n + m)))).getD i undef = zv.cells.getD ((i - n * k) % k) undef := by
        rw [Array.getD_eq_getD_getElem?, Array.getElem?_append_right (by simpa [hol] using hge')]
        simp only [List.size_toArray, hol]
        rw [Array.getElem?_append_left (by simp [Builtin.zeroCells, hzs]; omega)]
        simp [Builtin.zeroCells, Array.getD_eq_getD_getElem?, hzs, hq, hm2]
      have a3 : z.getD ((i - n * k) % k) .any = .con (zv.cells.getD ((i - n * k) % k) undef) := by
        rw [← hzz, List.getD_eq_getElem?_getD, List.getElem?_map, Array.getElem?_toList]
        simp [Array.getD_eq_getD_getElem?, hzs, hm2]
      rw [a1, a2, a3]
      exact .con _
  have hE := hE1.trans (ext_box hS1 (.cells (olds.toArray ++ Builtin.zeroCells zv.cells m ++ Builtin.zeroCells zv.cells (GC - (n + m))) e) (.row e k GC))
  have hS := sim_boxk hS1 e (.row e k GC) (.cells (olds.toArray ++ Builtin.zeroCells zv.cells m ++ Builtin.zeroCells zv.cells (GC - (n + m))) e) ⟨rfl, rfl, hszc⟩ hcs
  have hf := fresh_id hs
  have hrun : (Builtin.append_ #[ty, ty2] o.type #[a.eval x, a.eval y]).run P w = .ok (.slice (some ⟨w.heap.size, 0, none⟩) (n + m) GC) (w.drew.alloc (.cells (olds.toArray ++ Builtin.zeroCells zv.cells m ++ Builtin.zeroCells zv.cells (GC - (n + m))) e)) := by
    rw [e1, e2]; exact hr
  refine run_app_op ho hc ha hat a w hrun KK Q (hK _ _ _ _ (h σ.next hf.1 hf.2) hE hS ?_)
  have hl' : Sl (σ.boxed w.drew.heap.size (.row e k GC)) (w.drew.alloc (.cells (olds.toArray ++ Builtin.zeroCells zv.cells m ++ Builtin.zeroCells zv.cells (GC - (n + m))) e)) (⟨s.n, s.t, ⟨(σ.next, (ds.drop (off * k)).take (n * k) ++ (List.replicate m z).flatten) :: s.h.bx, s.h.tk⟩⟩ : St) a := ⟨hl.size, fun d => (hl.v d).mono hE, hl.defers⟩
  rw [hd]
  refine hl'.put hn ?_
  have := VR.sl (σ := σ.boxed w.drew.heap.size (.row e k GC)) (w := w.drew.alloc (.cells (olds.toArray ++ Builtin.zeroCells zv.cells m ++ Builtin.zeroCells zv.cells (GC - (n + m))) e)) σ.next (n + m) e k GC (by simp [G.boxed]) (by simp [G.boxed]) (by omega) hge hle
  rwa [show (σ.boxed w.drew.heap.size (.row e k GC)).blk σ.next = w.heap.size by simp only [G.boxed, if_true]; rfl] at this
end
/-- What stands behind a row's length is seen. -/
theorem awp_openSl {P : Program} {Q : Exit → St → Prop} {s : St} {c : Code} (d : Nat) {id n e k : Nat} {cs : List AV} (h : lk s.t d = .sl id n e k) (h0 : 0 < n) (hb : s.h.box id = some cs) (hl : cs.length = n * k)
    (step : ∀ m, awp P c Q ⟨s.n, (d, .slc id 0 n (n + m) e k) :: s.t, s.h.upd id fun _ => cs ++ List.replicate (m * k) .any⟩) : awp P c Q s := fun σ w a hs hsl => by
  have hv := hsl.v d
  rw [h] at hv
  generalize hu : a.tmps.getD d undef = u at hv
  cases hv with
  | sl0 => omega
  | sl1 => omega
  | sl _ _ _ _ cap g1 g2 g3 g4 g5 =>
    obtain ⟨q1, q2, q3, cur, e2, q4, q5, q6⟩ := hs.bx id cs hb
    have hO := q4
    rw [g2] at q4
    obtain ⟨q4, rfl, q7⟩ := q4
    obtain ⟨m, rfl⟩ : ∃ m, cap = n + m := ⟨cap - n, by omega⟩
    have hS := (sim_turn hs (w' := w) (c' := cs ++ List.replicate (m * k) .any) (cur' := cur) (e' := e2) hb (.refl _ _) rfl (fun _ _ => rfl) hO ⟨by rw [List.length_append, List.length_replicate, hl, q7, Nat.add_mul]; exact Nat.le_refl _, fun i hi => by
      rw [List.getD_eq_getElem?_getD]
      rcases Nat.lt_or_ge i cs.length with hlt | hge
      · rw [List.getElem?_append_left hlt, ← List.getD_eq_getElem?_getD]; exact q6 i hlt
      · rw [List.getElem?_append_right hge, List.getElem?_replicate]
        split <;> exact .any _⟩).2
    refine step m σ w a hS ⟨hsl.size, fun j => ?_, hsl.defers⟩
    simp only [lk]
    split
    · rename_i hj
      subst hj
      rw [hu]
      have := VR.slc (σ := σ) (w := w) id 0 n (n + m) e2 k g1 (by rw [g2, Nat.zero_add]) (by omega) (by omega) (by omega)
      rwa [Nat.zero_mul] at this
    · exact hsl.v j
theorem AV.le_slc {id n c e k : Nat} (h : 0 < n) : (AV.slc id 0 n c e k).le (.sl id n e k) := fun σ w v hv => by
  cases hv with
  | slc0 => omega
  | slc _ _ _ _ _ _ g1 g2 g3 g4 g5 =>
    rw [Nat.zero_mul]
    exact .sl id n e k c g1 (by rw [g2, Nat.zero_add]) h g4 (by omega)
end Go.Proofs.YtababmnmkmgbbaaGreat.Fw
set_option linter.unusedVariables false
namespace Go.Proofs.YtababmnmkmgbbaaGreat.Fw
open Go.RowKit

def byteN : AV → Int
  | .con (.int .u8 n) => n
  | _ => 0
def isB : AV → Prop
  | .con (.int .u8 _) => True
  | _ => False
theorem bytes_eq {xs : List AV} (h : ∀ x ∈ xs, isB x) : xs = (xs.map byteN).map fun n => .con (.int .u8 n) := by
  rw [List.map_map]
  refine (List.map_id xs).symm.trans (List.map_congr_left fun x hx => ?_)
  have := h x hx
  unfold isB at this
  split at this
  · rfl
  · exact this.elim
def isStr : AV → Bool
  | .con (.string _) => true
  | _ => false
def no : Prop × AV := (False, .any)
def pvUn (op : UnOp) (x : AV) : Prop × AV :=
  match op, x with
  | .not, .con (.bool b) => (True, .con (.bool (!b)))
  | .neg, .con (.int k n) => (True, .con (.int k (k.wrap (0 - n))))
  | .xor, .con (.int k n) => (True, .con (.int k (Go.bits .xor k (if k.signed then -1 else k.max) n)))
  | _, _ => no
def pvConv (P : Program) (t1 t2 : TypeId) (x : AV) : Prop × AV :=
  match x with
  | .con (.int k' n) => (tint P t1 = some k' ∧ (tint P t2).isSome, .con (.int ((tint P t2).getD .i64) (((tint P t2).getD .i64).wrap n)))
  | .con (.string s) =>
    match telem P t2 with
    | some (e, _, _) => (tkind P t1 = 2 ∧ tint P e = some .u8 ∧ s.size ≤ maxLen, .list (bytesA s) none)
    | none => no
  | x =>
    match telem P t1, srcA x with
    | some (e, _, _), some xs => (tkind P t2 = 2 ∧ tint P e = some .u8 ∧ ∀ y ∈ xs, isB y, .con (.string (strOfNums (xs.map byteN))))
    | _, _ => no
def pvIdx (P : Program) (t : TypeId) (x i : AV) : Prop × AV :=
  match i with
  | .con (.int _ n) =>
    match x with
    | .list xs _ =>
      match telem P t with
      | some (_, k, _) => (0 ≤ n ∧ n < xs.length ∧ (xs.getD n.toNat .any).cells.length = k, .ro (xs.getD n.toNat .any).cells)
      | none => no
    | .sl id m _ _ =>
      match telem P t with
      | some (_, k, _) => (0 ≤ n ∧ n < m, .ptr id (n.toNat * k))
      | none => no
    | .slc id off m _ _ sk =>
      match telem P t with
      | some (_, k, _) => (0 ≤ n ∧ n < m, .ptr id (off * sk + n.toNat * k))
      | none => no
    | x =>
      match tarr P t with
      | some (m, k) => (isP x ∧ 0 ≤ n ∧ n < m, adv x (n.toNat * k))
      | none => no
  | _ => no
def pvIx (P : Program) (t : TypeId) (x i : AV) : Prop × AV :=
  match x, i with
  | .con (.string s), .con (.int _ n) => (tkind P t = 2 ∧ 0 ≤ n ∧ n < s.size, .con (.int .u8 (bt s n)))
  | _, _ => no
def pvSl (P : Program) (t : TypeId) (ρ : Operand → AV) (x : AV) (lo hi : Option Operand) : Prop × AV :=
  match x with
  | .con (.string s) =>
    match bnd (fun y => un (ρ y)) 0 lo, bnd (fun y => un (ρ y)) s.size hi with
    | some L, some M => (tkind P t = 2 ∧ 0 ≤ L ∧ L ≤ M ∧ M ≤ s.size, .con (.string (s.extract L.toNat M.toNat)))
    | _, _ => no
  | .list xs _ =>
    match telem P t, bnd (fun y => un (ρ y)) 0 lo, bnd (fun y => un (ρ y)) xs.length hi with
    | some (_, k, _), some L, some M => (0 ≤ L ∧ L ≤ M ∧ M ≤ xs.length ∧ (∀ x ∈ xs, x.cells.length = k), .list ((xs.take M.toNat).drop L.toNat) none)
    | _, _, _ => no
  | .slc id off n c e sk =>
    match telem P t, bnd (fun y => un (ρ y)) 0 lo, bnd (fun y => un (ρ y)) n hi with
    | some (_, k, _), some L, some M => (0 ≤ L ∧ L ≤ M ∧ M ≤ c ∧ k = sk, .slc id (off + L.toNat) (M.toNat - L.toNat) (c - L.toNat) e sk)
    | _, _, _ => no
  | X =>
    match telem P t, capGe X, bnd (fun y => un (ρ y)) 0 lo, bnd (fun y => un (ρ y)) (lenA X).2 hi with
    | some _, some m, some L, some M => ((lenA X).1 ∧ 0 ≤ L ∧ L ≤ M ∧ M ≤ m, .any)
    | _, _, _, _ => no
def pvSl3 (P : Program) (t : TypeId) (ρ : Operand → AV) (X : AV) (lo hi : Option Operand) (mx : Operand) : Prop × AV :=
  match hi with
  | some y =>
    match telem P t, capGe X, bnd (fun y => un (ρ y)) 0 lo, bnd (fun y => un (ρ y)) 0 (some y), bnd (fun y => un (ρ y)) 0 (some mx) with
    | some _, some m, some L, some M, some X => (0 ≤ L ∧ L ≤ M ∧ M ≤ X ∧ X ≤ m, .any)
    | _, _, _, _, _ => no
  | none => no
/-- the length of a map -/
def mlen (P : Program) (H : Hp) (t : TypeId) : AV → Option (Prop × AV)
  | .mp id => match H.box id with
    | some [.mc es _] => some ((tmap P t).isSome = true, .con (.int .i64 (es.length : Int)))
    | _ => some no
  | .mv es _ => some ((tmap P t).isSome = true, .con (.int .i64 (es.length : Int)))
  | _ => none
def pvB (P : Program) (H : Hp) (b : Builtin) (xs : List AV) (t : TypeId) : Prop × AV :=
  match b, xs with
  | .len, [x] => match mlen P H t x with
    | some r => r
    | none => ((lenA x).1 ∧ (if isStr x then tkind P t = 2 else tkind P t = 4), .con (.int .i64 (lenA x).2))
  | .max, [.con (.int k a), .con (.int k' b)] => (k = k', .con (.int k (max a b)))
  | .min, [.con (.int k a), .con (.int k' b)] => (k = k', .con (.int k (min a b)))
  | .cap, [.slc _ _ _ c _ _] => (tkind P t = 4, .con (.int .i64 (c : Int)))
  | _, _ => no
/-- m[k] -/
def pvLk (P : Program) (H : Hp) (t : TypeId) (a b : AV) (ok : Bool) : Prop × AV :=
  match tmap P t with
  | some (kt, et) => match mapOf H a, keyA b, tzV P et with
    | some (es, _), some k, some z => (mOk P kt k es, lookV k es z ok)
    | _, _, _ => no
  | none => no
/-- the round's key and element -/
def pvEn (H : Hp) (a : AV) : Prop × AV :=
  match a with
  | .it id => match H.box id with
    | some [X, .nl l, .con (.int .i64 c)] => match mapOf H X, l.getLast? with
      | some (es, c'), some b => match es.find? fun e => decide (e.2.2 = b) with
        | some e => (c = (c' : Int), .tup [.con (mkey e.1), e.2.1])
        | none => no
      | _, _ => no
    | _ => no
  | _ => no
def okAll (ρ : Operand → AV) : List Operand → Prop
  | [] => True
  | x :: r => okv (ρ x) ∧ okAll ρ r
theorem okAll_mem {ρ : Operand → AV} : ∀ {l : List Operand}, okAll ρ l → ∀ x ∈ l, okv (ρ x)
  | y :: r, h, x, hx => by
    rcases List.mem_cons.1 hx with rfl | hx
    · exact h.1
    · exact okAll_mem h.2 x hx
def okPs (ρ : Operand → AV) : List (Nat × Operand) → Prop
  | [] => True
  | x :: r => okv (ρ x.2) ∧ okPs ρ r
theorem okPs_mem {ρ : Operand → AV} : ∀ {l : List (Nat × Operand)}, okPs ρ l → ∀ x ∈ l, okv (ρ x.2)
  | y :: r, h, x, hx => by
    rcases List.mem_cons.1 hx with rfl | hx
    · exact h.1
    · exact okPs_mem h.2 x hx
def okRow (ρ : Operand → AV) (k : Nat) : List (Nat × Operand) → Prop
  | [] => True
  | x :: r => ((un (ρ x.2)).put1 = true ∧ (un (ρ x.2)).cells.length = k) ∧ okRow ρ k r
theorem okRow_mem {ρ : Operand → AV} {k : Nat} : ∀ {l : List (Nat × Operand)}, okRow ρ k l → ∀ x ∈ l, (un (ρ x.2)).put1 = true ∧ (un (ρ x.2)).cells.length = k
  | y :: r, h, x, hx => by
    rcases List.mem_cons.1 hx with rfl | hx
    · exact h.1
    · exact okRow_mem h.2 x hx
/-- What a value operation gives, and when. -/
def pv (P : Program) (H : Hp) (ρ : Operand → AV) (op : Op) : Prop × AV :=
  match op with
  | .move x => (okv (ρ x), un (ρ x))
  | .assign x => (okv (ρ x), un (ρ x))
  | .pick c x y =>
    match un (ρ c) with
    | .con (.bool b) => (okv (ρ c) ∧ (b = true → okv (ρ x)) ∧ (b = false → okv (ρ y)), pickV b (un (ρ x)) (un (ρ y)))
    | _ => no
  | .load t x => (okv (ρ x) ∧ ldOk P H t (un (ρ x)), ldV P H t (un (ρ x)))
  | .fieldAddr t x f =>
    match tfld P t f with
    | some (off, _, k) => (okv (ρ x) ∧ k ≠ 0 ∧ isP (un (ρ x)), adv (un (ρ x)) off)
    | none => no
  | .indexAddr t x i => (okv (ρ x) ∧ okv (ρ i) ∧ (pvIdx P t (un (ρ x)) (un (ρ i))).1, (pvIdx P t (un (ρ x)) (un (ρ i))).2)
  | .index t x i => (okv (ρ x) ∧ okv (ρ i) ∧ (pvIx P t (un (ρ x)) (un (ρ i))).1, (pvIx P t (un (ρ x)) (un (ρ i))).2)
  | .binOp b t x y _ => (okv (ρ x) ∧ okv (ρ y) ∧ (binV P b t (un (ρ x)) (un (ρ y))).1, (binV P b t (un (ρ x)) (un (ρ y))).2)
  | .unOp u _ x => (okv (ρ x) ∧ (pvUn u (un (ρ x))).1, (pvUn u (un (ρ x))).2)
  | .convert t1 t2 x => (okv (ρ x) ∧ (pvConv P t1 t2 (un (ρ x))).1, (pvConv P t1 t2 (un (ρ x))).2)
  | .makeFunc (.func f) ⟨[]⟩ cap => (True, .fn f (cap.toList.map ρ))
  | .extract x j =>
    match un (ρ x) with
    | .tup cs => (okv (ρ x) ∧ j < cs.length, cs.getD j .any)
    | _ => no
  | .nilCheck x => (okv (ρ x) ∧ isP (un (ρ x)), un (ρ x))
  | .makeMap _ none => (True, .cel)
  | .lookup t x y ok => (okv (ρ x) ∧ okv (ρ y) ∧ (pvLk P H t (un (ρ x)) (un (ρ y)) ok).1, (pvLk P H t (un (ρ x)) (un (ρ y)) ok).2)
  | .entry x => (okv (ρ x) ∧ (pvEn H (un (ρ x))).1, (pvEn H (un (ρ x))).2)
  | .slice t x lo hi none => (okv (ρ x) ∧ okB ρ lo ∧ okB ρ hi ∧ (pvSl P t ρ (un (ρ x)) lo hi).1, (pvSl P t ρ (un (ρ x)) lo hi).2)
  | .slice t x lo hi (some mx) => (okv (ρ x) ∧ okB ρ lo ∧ okB ρ hi ∧ okv (ρ mx) ∧ (pvSl3 P t ρ (un (ρ x)) lo hi mx).1, (pvSl3 P t ρ (un (ρ x)) lo hi mx).2)
  | .build t parts =>
    match tzero P t with
    | some z =>
      match fillA (places P t) z (parts.toList.map fun p => (p.1, un (ρ p.2))) with
      | some cs => (tflds P t = true ∧ okPs ρ parts.toList, .agg cs)
      | none => no
    | none => no
  | .buildSlice t n parts =>
    match telem P t with
    | some (e, k, _) =>
      match tzero P e with
      | some z => if n = 0 then (z.length = k ∧ parts.toList = [], .emp) else (z.length = k ∧ parts.toList.length = n ∧ seqParts 0 parts.toList = true ∧ n * k ≤ 16777216 ∧ k ≠ 0 ∧ okPs ρ parts.toList ∧ okRow ρ k parts.toList,
          .list (parts.toList.map fun p => un (ρ p.2)) none)
      | none => no
    | none => no
  | .call { callee := .builtin b, args := ⟨args⟩, argTypes := ⟨ty :: _⟩ } => (okAll ρ args ∧ (pvB P H b (args.map fun x => un (ρ x)) ty).1, (pvB P H b (args.map fun x => un (ρ x)) ty).2)
  | _ => no
theorem pv_sound {P : Program} {H : Hp} {ρ : Operand → AV} {o : Oper} (h : (pv P H ρ o.op).1) : VOp P H o ρ (pv P H ρ o.op).2 := by
  generalize hop : o.op = op at h
  cases op with
  | move x => exact vop_move hop h
  | assign x => exact vop_assign hop h
  | pick c x y =>
    simp only [pv] at h ⊢
    split at h
    · rename_i b e; (try rw [e]); exact vop_pick hop h.1 e h.2.1 h.2.2
    · exact h.elim
  | load t x => exact vop_load hop h.1 h.2
  | fieldAddr t x f =>
    simp only [pv] at h ⊢
    split at h
    · rename_i off ft k e; (try rw [e]); exact vop_fieldAddr hop h.1 e h.2.1 h.2.2
    · exact h.elim
  | indexAddr t x i =>
    obtain ⟨h1, h2, h3⟩ := h
    simp only [pv]
    generalize hi : un (ρ i) = I at h3
    generalize hx : un (ρ x) = X at h3
    unfold pvIdx at h3 ⊢
    split at h3
    · rename_i n
      split at h3
      · rename_i xs tk
        split at h3
        · rename_i e k bb he; (try rw [he]); exact vop_indexAddr hop h1 h2 hx hi he h3.1 h3.2.1 h3.2.2
        · exact h3.elim
      · rename_i id m
        split at h3
        · rename_i e k bb he; (try rw [he]); exact vop_indexSl hop h1 h2 hx hi he h3.1 h3.2
        · exact h3.elim
      · rename_i id off m c se sk
        split at h3
        · rename_i e k bb he; (try rw [he]); exact vop_indexSlc hop h1 h2 hx hi he h3.1 h3.2
        · exact h3.elim
      · rename_i hnl hnl2 hnl3
        split at h3
        · rename_i m k he
          (try rw [he])
          have := vop_indexArr (H := H) hop h1 h2 (hx ▸ h3.1) hi he h3.2.1 h3.2.2
          rw [hx] at this
          cases X <;> first | exact this | exact absurd rfl (hnl _ _) | exact absurd rfl (hnl2 _ _) | exact absurd rfl (hnl2 _ _ _ _) | exact absurd rfl (hnl3 _ _ _ _ _ _)
        · exact h3.elim
    · exact h3.elim
  | index t x i =>
    obtain ⟨h1, h2, h3⟩ := h
    simp only [pv]
    generalize hi : un (ρ i) = I at h3
    generalize hx : un (ρ x) = X at h3
    unfold pvIx at h3 ⊢
    split at h3
    · exact vop_index hop h1 h2 hx hi h3.1 h3.2.1 h3.2.2
    · exact h3.elim
  | binOp b t x y t2 => exact vop_bin hop h.1 h.2.1 h.2.2
  | unOp u t x =>
    obtain ⟨h1, h3⟩ := h
    simp only [pv]
    generalize hx : un (ρ x) = X at h3
    unfold pvUn at h3 ⊢
    split at h3
    · exact vop_not hop h1 hx
    · exact vop_neg hop h1 hx
    · exact vop_compl hop h1 hx
    · exact h3.elim
  | convert t1 t2 x =>
    obtain ⟨h1, h3⟩ := h
    simp only [pv]
    generalize hx : un (ρ x) = X at h3
    unfold pvConv at h3 ⊢
    split at h3
    · obtain ⟨k, hk⟩ := Option.isSome_iff_exists.1 h3.2
      rw [hk]
      exact vop_conv hop h1 hx h3.1 hk
    · split at h3
      · rename_i e k b he; (try rw [he]); exact vop_bytes hop h1 hx h3.1 he h3.2.1 h3.2.2
      · exact h3.elim
    · rename_i hns hni
      split at h3
      · rename_i e k b xs he hsrc
        (try rw [he, hsrc])
        have := vop_str (H := H) (xs := xs) (ns := xs.map byteN) hop h1 (hx ▸ hsrc) (by intro s e; rw [hx] at e; exact hni _ e) (bytes_eq h3.2.2) h3.1 he h3.2.1
        cases X with
        | con v => cases v <;> first | exact this | exact absurd rfl (hns _ _) | exact absurd rfl (hni _)
        | _ => exact this
      · exact h3.elim
  | makeFunc f first cap =>
    cases f with
    | func f =>
      cases first with | mk l => cases l with
        | nil => exact vop_makeFunc hop
        | cons => exact h.elim
    | _ => cases first with | mk l => cases l <;> exact h.elim
  | extract x j =>
    simp only [pv] at h ⊢
    split at h
    · rename_i cs e; (try rw [e]); exact vop_extract hop h.1 e h.2
    · exact h.elim
  | nilCheck x => exact vop_nilCheck hop h.1 h.2
  | lookup t x y ok =>
    obtain ⟨h1, h2, h3⟩ := h
    simp only [pv]
    generalize hpk : pvLk P H t (un (ρ x)) (un (ρ y)) ok = r at h3
    unfold pvLk at hpk
    split at hpk
    · rename_i kt et hkt
      split at hpk
      · rename_i es c k z hm hk hz
        subst hpk
        exact vop_lookup hop h1 h2 hkt hz hm hk h3
      · subst hpk; exact h3.elim
    · subst hpk; exact h3.elim
  | entry x =>
    obtain ⟨h1, h3⟩ := h
    simp only [pv]
    generalize hX : un (ρ x) = X at h3
    generalize hpk : pvEn H X = r at h3
    unfold pvEn at hpk
    split at hpk
    · split at hpk
      · rename_i id X l c hb
        split at hpk
        · rename_i es c' b hm hl
          split at hpk
          · rename_i e he
            subst hpk
            have hc : c = (c' : Int) := h3
            subst hc
            have hl' : l = l.dropLast ++ [b] := by
              have hne : l ≠ [] := by rintro rfl; simp at hl
              rw [List.getLast?_eq_some_getLast hne] at hl
              injection hl with hl
              rw [← hl]; exact (List.dropLast_concat_getLast hne).symm
            rw [hl'] at hb
            have h4 := List.find?_some he
            exact vop_entry hop h1 hX hb hm (List.mem_of_find?_eq_some he) (by simpa using h4)
          · subst hpk; exact h3.elim
        · subst hpk; exact h3.elim
      · subst hpk; exact h3.elim
    · subst hpk; exact h3.elim
  | makeMap t r =>
    cases r with
    | none => exact vop_makeMap hop
    | some _ => exact h.elim
  | slice t x lo hi mx =>
    cases mx with
    | some mx =>
      obtain ⟨h1, h2, h3, h5, h4⟩ := h
      simp only [pv]
      generalize hx : un (ρ x) = X at h4
      unfold pvSl3 at h4 ⊢
      split at h4
      · split at h4
        · rename_i y _ _ _ _ _ q m L M X' e0 e1 e2 e3 e4; obtain ⟨qe, qk, qb⟩ := q; (try rw [e0, e1, e2, e3, e4]); exact vop_slice3 hop h1 h2 h3 h5 (hx ▸ e1) e0 e2 ⟨_, rfl, e3⟩ e4 h4.1 h4.2.1 h4.2.2.1 h4.2.2.2
        · exact h4.elim
      · exact h4.elim
    | none =>
      obtain ⟨h1, h2, h3, h4⟩ := h
      simp only [pv]
      generalize hx : un (ρ x) = X at h4
      unfold pvSl at h4 ⊢
      split at h4
      · split at h4
        · rename_i L M e1 e2; (try rw [e1, e2]); exact vop_sliceStr hop h1 h2 h3 hx h4.1 e1 e2 h4.2.1 h4.2.2.1 h4.2.2.2
        · exact h4.elim
      · split at h4
        · rename_i e k b L M e0 e1 e2; (try rw [e0, e1, e2]); exact vop_sliceList hop h1 h2 h3 hx e0 e1 e2 h4.1 h4.2.1 h4.2.2.1 h4.2.2.2
        · exact h4.elim
      · split at h4
        · rename_i e k b L M e0 e1 e2; obtain ⟨a1, a2, a3, rfl⟩ := h4; (try rw [e0, e1, e2]); exact vop_sliceSlc hop h1 h2 h3 hx e0 e1 e2 a1 a2 a3
        · exact h4.elim
      · split at h4
        · rename_i q m L M e0 e1 e2 e3; obtain ⟨qe, qk, qb⟩ := q; (try rw [e0, e1, e2, e3]); exact vop_sliceSl hop h1 h2 h3 (hx ▸ e1) (hx ▸ h4.1) e0 e2 (hx ▸ e3) h4.2.1 h4.2.2.1 h4.2.2.2
        · exact h4.elim
  | build t parts =>
    simp only [pv] at h ⊢
    split at h
    · rename_i z hz
      (try rw [hz])
      split at h
      · rename_i cs hf; (try rw [hf]); exact vop_build hop hz (okPs_mem h.2) h.1 hf
      · exact h.elim
    · exact h.elim
  | buildSlice t n parts =>
    simp only [pv] at h ⊢
    split at h
    · rename_i e k b he
      (try rw [he])
      split at h
      · rename_i z hz
        (try rw [hz])
        by_cases hn0 : n = 0
        · subst hn0
          simp only [if_true] at h ⊢
          exact vop_buildSlice0 hop he hz h.1 h.2
        · simp only [if_neg hn0] at h ⊢
          obtain ⟨a1, a2, a3, a4, a5, a6, a7⟩ := h; exact vop_buildSlice hop he hz a1 a2 a3 a4 a5 (okPs_mem a6) (okRow_mem a7)
      · exact h.elim
    · exact h.elim
  | call c =>
    obtain ⟨callee, args, argTypes⟩ := c
    cases callee with
    | builtin b =>
      obtain ⟨l⟩ := args
      obtain ⟨ts⟩ := argTypes
      cases ts with
      | nil => exact h.elim
      | cons t ts =>
      obtain ⟨h1', h3⟩ := h
      have h1 := okAll_mem h1'
      simp only [pv]
      cases b with
      | len =>
        match l with
        | [x] =>
          simp only [List.map_cons, List.map_nil, pvB] at h3 ⊢
          have h5 : okv (ρ x) := h1 x (by simp)
          cases hml : mlen P H t (un (ρ x)) with
          | none =>
            rw [hml] at h3
            obtain ⟨h3, h4⟩ := h3
            exact vop_len2 hop rfl rfl rfl h5 h4 h3
          | some r =>
            rw [hml] at h3
            simp only at h3 ⊢
            generalize hX : un (ρ x) = X at hml
            cases X with
            | mp id =>
              simp only [mlen] at hml
              split at hml
              · rename_i es c hb
                injection hml with hml; subst hml
                obtain ⟨⟨kt, et⟩, hkt⟩ := Option.isSome_iff_exists.1 h3
                exact vop_lenMap (es := es) (c := c) hop rfl rfl rfl h5 hkt (by rw [hX]; simp [mapOf, hb])
              · injection hml with hml; subst hml; exact h3.elim
            | mv es c =>
              simp only [mlen] at hml
              injection hml with hml; subst hml
              obtain ⟨⟨kt, et⟩, hkt⟩ := Option.isSome_iff_exists.1 h3
              exact vop_lenMap (es := es) (c := c) hop rfl rfl rfl h5 hkt (by rw [hX]; rfl)
            | _ => cases hml
        | [] => exact h3.elim
        | _ :: _ :: _ => exact h3.elim
      | max =>
        match l with
        | [x, y] =>
          simp only [List.map_cons, List.map_nil] at h3 ⊢
          generalize hx : un (ρ x) = X at h3
          generalize hy : un (ρ y) = Y at h3
          unfold pvB at h3 ⊢
          split at h3
          · rename_i e; cases e
          · rename_i e; simp only [List.cons.injEq, and_true] at e; obtain ⟨rfl, rfl⟩ := e; subst h3; exact vop_max hop rfl rfl (h1 x (by simp)) (h1 y (by simp)) hx hy
          · rename_i e; simp only [reduceCtorEq] at *
          all_goals first | exact h3.elim | (rename_i e; simp only [reduceCtorEq] at *)
        | [] => exact h3.elim
        | [q] => simp only [List.map_cons, List.map_nil] at h3; generalize un (ρ q) = X at h3; cases X with
          | con v => cases v <;> exact h3.elim
          | _ => exact h3.elim
        | q1 :: q2 :: q3 :: qs => simp only [List.map_cons] at h3; generalize un (ρ q1) = X at h3; generalize un (ρ q2) = Y at h3; unfold pvB at h3; split at h3 <;> first | exact h3.elim | (rename_i e; simp at e)
      | min =>
        match l with
        | [x, y] =>
          simp only [List.map_cons, List.map_nil] at h3 ⊢
          generalize hx : un (ρ x) = X at h3
          generalize hy : un (ρ y) = Y at h3
          unfold pvB at h3 ⊢
          split at h3
          · rename_i e; cases e
          · rename_i e; simp only [reduceCtorEq] at *
          · rename_i e; simp only [List.cons.injEq, and_true] at e; obtain ⟨rfl, rfl⟩ := e; subst h3; exact vop_min hop rfl rfl (h1 x (by simp)) (h1 y (by simp)) hx hy
          all_goals first | exact h3.elim | (rename_i e; simp only [reduceCtorEq] at *)
        | [] => exact h3.elim
        | [q] => simp only [List.map_cons, List.map_nil] at h3; generalize un (ρ q) = X at h3; cases X with
          | con v => cases v <;> exact h3.elim
          | _ => exact h3.elim
        | q1 :: q2 :: q3 :: qs => simp only [List.map_cons] at h3; generalize un (ρ q1) = X at h3; generalize un (ρ q2) = Y at h3; unfold pvB at h3; split at h3 <;> first | exact h3.elim | (rename_i e; simp at e)
      | cap =>
        match l with
        | [x] =>
          simp only [List.map_cons, List.map_nil] at h3 ⊢
          generalize hx : un (ρ x) = X at h3
          cases X with
          | slc id off n c e k => exact vop_cap hop rfl rfl rfl (h1 x (by simp)) h3 hx
          | _ => exact h3.elim
        | [] => exact h3.elim
        | q1 :: q2 :: qs => simp only [List.map_cons] at h3; generalize un (ρ q1) = X at h3; cases X <;> exact h3.elim
      | _ => exact h3.elim
    | _ => exact h.elim
  | _ => exact h.elim
end Go.Proofs.YtababmnmkmgbbaaGreat.Fw
set_option linter.unusedVariables false
namespace Go.Proofs.YtababmnmkmgbbaaGreat.Fw
open Go.RowKit

/-- A call that the model answers itself. -/
def ECalls (P : Program) (g : Nat) (args : List AV) (H : Hp) (r : AV) : Prop :=
  ∀ σ w vs, Sim σ H w → VRs σ w args vs → ∃ v, (callFunc g vs).run P w = .ok (.value v) w ∧ VR σ w r v
theorem vop_ecall {P : Program} {H : Hp} {o : Oper} {ρ : Operand → AV} {x : AV} {c : Call} {f : Operand} (ho : o.op = .call c) (hc : c.callee = .value f) {g : Nat} {cap : List AV} (hf : ρ f = .fn g cap)
    (h : ECalls P g (c.args.toList.map ρ ++ cap) H x) : VOp P H o ρ x := by
  intro σ w a hs hv K Q hK
  have hops : ∀ y ∈ c.operands, VR σ w (ρ y) (a.eval y) := fun y hy => hv y (by rw [ho]; exact hy)
  have hff := hops f (by simp [Call.operands, hc])
  rw [hf] at hff
  generalize hfv : a.eval f = fv at hff
  cases hff with
  | fn _ _ vs hsz hvs =>
    have hargs : VRs σ w (c.args.toList.map ρ ++ cap) (c.args.map a.eval ++ vs) := by
      refine VRs.append ⟨by simp, fun i hi => ?_⟩ ⟨hsz, hvs⟩
      have hi' : i < c.args.size := by simpa using hi
      simp [List.getD_eq_getElem?_getD, Array.getD_eq_getD_getElem?, hi']
      exact hops _ (by simp [Call.operands, hc])
    obtain ⟨v, h1, h2⟩ := h σ w _ hs hargs
    unfold Oper.wp execOp
    simp only [ho, resolve, hc, hfv, Deferred.ofValue, Sem.run_bind, Sem.run_pure, Result.andThen_ok, invoke, Array.empty_append, h1, Oper.upon]
    exact hK v w σ (.refl _ _) hs h2
theorem vop_callU {P : Program} {H : Hp} {o : Oper} {ρ : Operand → AV} {x : AV} {c : Call} {f : Operand} (ho : o.op = .call c) (hc : c.callee = .value f) (hfo : okv (ρ f)) {g : Nat} {cap : List AV} (hf : un (ρ f) = .fn g cap)
    (h : PureAt P g (c.args.toList.map ρ ++ cap) H x) : VOp P H o ρ x := by
  intro σ w a hs hv K Q hK
  obtain ⟨hcb, h⟩ := h
  have hops : ∀ y ∈ c.operands, VR σ w (ρ y) (a.eval y) := fun y hy => hv y (by rw [ho]; exact hy)
  have hff := (hops f (by simp [Call.operands, hc])).un hfo
  rw [hf] at hff
  generalize hfv : a.eval f = fv at hff
  cases hff with
  | fn _ _ vs hsz hvs =>
    have hargs : VRs σ w (c.args.toList.map ρ ++ cap) (c.args.map a.eval ++ vs) := by
      refine VRs.append ⟨by simp, fun i hi => ?_⟩ ⟨hsz, hvs⟩
      have hi' : i < c.args.size := by simpa using hi
      simp [List.getD_eq_getElem?_getD, Array.getD_eq_getD_getElem?, hi']
      exact hops _ (by simp [Call.operands, hc])
    have := h σ w _ hs hargs
    unfold Oper.wp execOp
    simp only [ho, resolve, hc, hfv, Deferred.ofValue, Sem.run_bind, Sem.run_pure, Result.andThen_ok, invoke, Array.empty_append, run_call hcb, Oper.upon]
    exact this.mono fun e w' ⟨r, H', σ', v, e1, ⟨e2, e3⟩, e4, e5, e6⟩ => by
      subst e1 e2 e3
      exact hK v w' σ' e4 e5 e6
/-- What an append needs. -/
def appOk (P : Program) (ty ty2 : TypeId) (n : Nat) (Y : AV) : Prop :=
  match telem P ty, srcA Y with
  | some (e, k, by_), some ys =>
    match tzero P e with
    | some z => z.length = k ∧ 0 < k ∧ 0 < by_ ∧ (∀ y ∈ ys, y.cells.length = k) ∧ (n + ys.length) * by_ ≤ 140737488355328 ∧
        (if isStr Y then tkind P ty2 = 2 ∧ by_ = 1 ∧ k = 1 ∧ (P.info? e).bind (·.zero) = some (.int .u8 0) else tkind P ty2 = 4)
    | none => False
  | _, _ => False
def srcL (Y : AV) : List AV := (srcA Y).getD []
theorem appOk_iff {P : Program} {ty ty2 : TypeId} {n : Nat} {Y : AV} (h : appOk P ty ty2 n Y) : ∃ e k by_ z, telem P ty = some (e, k, by_) ∧ AppOk P ty ty2 e k by_ z n Y (srcL Y) := by
  unfold appOk at h
  split at h
  · rename_i e k b ys h1 h2
    split at h
    · rename_i z h3
      obtain ⟨a1, a2, a3, a4, a5, a6⟩ := h
      have hs : srcL Y = ys := by simp [srcL, h2]
      refine ⟨e, k, b, z, h1, ⟨h1, h3, a1, a2, a3, by rw [hs]; exact h2, by rw [hs]; exact a4, by rw [hs]; exact a5, fun hn => ?_, fun s hs => ?_⟩⟩
      · have : isStr Y = false := by
          cases Y with
          | con v => cases v <;> first | rfl | exact absurd rfl (hn _)
          | _ => rfl
        rw [this] at a6
        simpa using a6
      · subst hs
        simpa [isStr] using a6
    · exact h.elim
  · exact h.elim
/-- A name that is not in use. -/
def fresh (H : Hp) (id : Nat) : Prop := H.box id = none ∧ H.tok id = none
/-- a list -/
def isL : AV → Prop
  | .list _ _ => True
  | _ => False
/-- the cells of a row that is written, and when they are there -/
def slC (H : Hp) (id n : Nat) : List AV := if n = 0 then [] else (H.box id).getD []
def slOk (H : Hp) (id n k : Nat) : Prop := n = 0 ∨ ((H.box id).isSome = true ∧ (slC H id n).length = n * k)
theorem slOk_cs {H : Hp} {id n k : Nat} (h : slOk H id n k) : (n = 0 ∧ slC H id n = []) ∨ (0 < n ∧ H.box id = some (slC H id n) ∧ (slC H id n).length = n * k) := by
  rcases Nat.eq_zero_or_pos n with h0 | h0
  · exact .inl ⟨h0, by simp [slC, h0]⟩
  · rcases h with h | ⟨h1, h2⟩
    · omega
    · obtain ⟨c, hc⟩ := Option.isSome_iff_exists.1 h1
      exact .inr ⟨h0, by simp [slC, hc, show ¬ n = 0 by omega], h2⟩
theorem slC_hold {id n : Nat} {cs : List AV} {bx : List (Nat × List AV)} {tk : List (Nat × Nat × Nat × Nat)} (hn : n = 0 ↔ cs = []) : slC ⟨hold id cs bx, tk⟩ id n = cs := by
  unfold slC
  split
  · rename_i h; rw [hn.1 h]
  · rename_i h
    have : cs ≠ [] := fun e => h (hn.2 e)
    show ((hold id cs bx).lookup id).getD [] = cs
    rw [lookup_hold this]; rfl
theorem slOk_hold {id n k : Nat} {cs : List AV} {bx : List (Nat × List AV)} {tk : List (Nat × Nat × Nat × Nat)} (hn : n = 0 ↔ cs = []) (hl : cs.length = n * k) : slOk ⟨hold id cs bx, tk⟩ id n k := by
  rcases Nat.eq_zero_or_pos n with h0 | h0
  · exact .inl h0
  · have : cs ≠ [] := fun e => by have := hn.2 e; omega
    exact .inr ⟨by show ((hold id cs bx).lookup id).isSome = true; rw [lookup_hold this]; rfl, by rw [slC_hold hn]; exact hl⟩
/-- the elements of a list have k cells -/
def isK (k : Nat) : AV → Prop
  | .list ys _ => ∀ y ∈ ys, y.cells.length = k
  | _ => True
theorem isK_list {k : Nat} {X : AV} (h : isK k X) : ∀ ys t, X = .list ys t → ∀ y ∈ ys, y.cells.length = k := by
  intro ys t e; subst e; exact h
/-- One operation without guard: what must hold for K to hold behind it. -/
def vcN (P : Program) (o : Oper) (K : St → Prop) (s : St) : Prop :=
  match o.op with
  | .call { callee := .value f, args, .. } =>
    match s.ev f with
    | .fn g cap => orAt (o.dst.getD 0) ((match o.dst with | some d => d < s.n | none => True) ∧ ACalls P g (args.toList.map s.ev ++ cap) s.h fun r H' => K ((⟨s.n, s.t, H'⟩ : St).puto o.dst r))
        (match o.dst with | some d => d < s.n ∧ ∃ r, ECalls P g (args.toList.map s.ev ++ cap) s.h r ∧ K (s.put d r) | none => False)
    | _ => False
  | .call { callee := .builtin .append, args := ⟨[x, y]⟩, argTypes := ⟨[ty, ty2]⟩ } =>
    match o.dst, un (s.ev x) with
    | some d, .list xs (some t) => d < s.n ∧ okv (s.ev x) ∧ okv (s.ev y) ∧ appOk P ty ty2 xs.length (un (s.ev y)) ∧ s.h.tok t = (telem P ty).map (fun p => (xs.length, p.1, p.2.1)) ∧
        K ⟨s.n, (d, .list (xs ++ srcL (un (s.ev y))) (some t)) :: s.t, s.h.grow t (xs.length + (srcL (un (s.ev y))).length)⟩
    | some d, .con (.slice none 0 0) => d < s.n ∧ okv (s.ev x) ∧ okv (s.ev y) ∧ appOk P ty ty2 0 (un (s.ev y)) ∧
        ∀ t, fresh s.h t → K ⟨s.n, (d, .list (srcL (un (s.ev y))) (some t)) :: s.t, ⟨s.h.bx, (t, (srcL (un (s.ev y))).length, ((telem P ty).map (·.1)).getD 0, ((telem P ty).map (·.2.1)).getD 0) :: s.h.tk⟩⟩
    | some d, .emp => match un (s.ev y) with
      | .sl id0 n0 e0 k0 =>
        match telem P ty, srcC s.h k0 (.sl id0 n0 e0 k0) with
        | some (e, k, by_), some (m, cs) => match tzero P e with
          | some z => d < s.n ∧ okv (s.ev x) ∧ okv (s.ev y) ∧ ty2 = ty ∧ k0 = k ∧ z.length = k ∧ 0 < k ∧ 0 < by_ ∧ m * by_ ≤ 140737488355328 ∧ cs.length = m * k ∧ 0 < m ∧
              ∀ id, fresh s.h id → K ⟨s.n, (d, .sl id m e k) :: s.t, ⟨(id, cs) :: s.h.bx, s.h.tk⟩⟩
          | none => False
        | _, _ => False
      | _ => d < s.n ∧ okv (s.ev x) ∧ okv (s.ev y) ∧ appOk P ty ty2 0 (un (s.ev y)) ∧ isL (un (s.ev y)) ∧ (srcL (un (s.ev y)) = [] → K ⟨s.n, (d, .emp) :: s.t, s.h⟩) ∧
        (srcL (un (s.ev y)) ≠ [] → ∀ id, fresh s.h id → K ⟨s.n, (d, .sl id (srcL (un (s.ev y))).length (((telem P ty).map (·.1)).getD 0) (((telem P ty).map (·.2.1)).getD 0)) :: s.t, ⟨(id, flat (srcL (un (s.ev y)))) :: s.h.bx, s.h.tk⟩⟩)
    | some d, .sl id n e k => d < s.n ∧ okv (s.ev x) ∧ okv (s.ev y) ∧ appOk P ty ty2 n (un (s.ev y)) ∧ isL (un (s.ev y)) ∧ (telem P ty).map (fun p => (p.1, p.2.1)) = some (e, k) ∧ 0 < (srcL (un (s.ev y))).length ∧ slOk s.h id n k ∧
        ∀ id', fresh s.h id' → K ⟨s.n, (d, .sl id' (n + (srcL (un (s.ev y))).length) e k) :: s.t, ⟨(id', slC s.h id n ++ flat (srcL (un (s.ev y)))) :: delZ n id s.h.bx, s.h.tk⟩⟩
    | some d, .slc id off n cp e' k' =>
      match un (s.ev y) with
      | .con (.int _ m) =>
        match telem P ty, s.h.box id with
        | some (e, k, by_), some ds => match tzero P e with
          | some z => d < s.n ∧ okv (s.ev x) ∧ okv (s.ev y) ∧ (tint P ty2).isSome = true ∧ z.length = k ∧ k' = k ∧ 0 < cp ∧ 0 < m ∧ 0 < k ∧ 0 < by_ ∧ off * k + n * k ≤ ds.length ∧ (cp : Int) < n + m ∧ ((n : Int) + m) * by_ ≤ 140737488355328 ∧
              ∀ id', fresh s.h id' → K ⟨s.n, (d, .sl id' (n + m.toNat) e k) :: s.t, ⟨(id', (ds.drop (off * k)).take (n * k) ++ (List.replicate m.toNat z).flatten) :: s.h.bx, s.h.tk⟩⟩
          | none => False
        | _, _ => False
      | Y =>
        match telem P ty, s.h.box id, srcC s.h k' Y with
        | some (e, k, _), some ds, some (m, cs) => d < s.n ∧ okv (s.ev x) ∧ okv (s.ev y) ∧ ty2 = ty ∧ k' = k ∧ 0 < cp ∧ cs.length = m * k ∧ isK k Y ∧ (∀ z ∈ cs, z.one = true) ∧ n + m ≤ cp ∧ (off + n) * k + m * k ≤ ds.length ∧
            K ⟨s.n, (d, .slc id off (n + m) cp e' k) :: s.t, s.h.upd id fun _ => over ds ((off + n) * k) cs⟩
        | _, _, _ => False
    | _, _ => False
  | .call { callee := .builtin .delete, args := ⟨[x, y]⟩, argTypes := ⟨[t, _]⟩ } =>
    match o.dst, un (s.ev x) with
    | none, .mp id => match s.h.box id with
      | some [.mc es c] => match tmap P t, keyA (un (s.ev y)) with
        | some (kt, _), some k => okv (s.ev x) ∧ okv (s.ev y) ∧ mOk P kt k es ∧ K ⟨s.n, s.t, s.h.upd id fun _ => [.mc (mdel k es) c]⟩
        | _, _ => False
      | _ => False
    | _, _ => False
  | .call { callee := .builtin .copy, args := ⟨[x, y]⟩, argTypes := ⟨[t, _]⟩ } =>
    match telem P t with
    | some (_, k, _) => match dstC s.h k (un (s.ev x)), srcC s.h k (un (s.ev y)) with
      | some (id, off, n), some (n', cs) => match s.h.box id with
        | some ds => okv (s.ev x) ∧ okv (s.ev y) ∧ cs.length = n' * k ∧ isK k (un (s.ev y)) ∧ (∀ z ∈ cs.take (min n' n * k), z.one = true) ∧ off + min n' n * k ≤ ds.length ∧ (match o.dst with | some d => d < s.n | none => True) ∧
            K ((⟨s.n, s.t, s.h.upd id fun _ => over ds off (cs.take (min n' n * k))⟩ : St).puto o.dst (.con (.int .i64 ((min n' n : Nat) : Int))))
        | none => False
      | _, _ => False
    | none => False
  | .call { callee := .builtin .clear, args := ⟨[x]⟩, argTypes := ⟨t :: _⟩ } =>
    match o.dst, telem P t with
    | none, some (e, k, _) => match tzero P e, dstC s.h k (un (s.ev x)) with
      | some z, some (id, off, n) => match s.h.box id with
        | some ds => okv (s.ev x) ∧ z.length = k ∧ 0 < n ∧ (∀ y ∈ z, y.one = true) ∧ off + n * k ≤ ds.length ∧ K ⟨s.n, s.t, s.h.upd id fun _ => over ds off (List.replicate n z).flatten⟩
        | none => False
      | _, _ => False
    | _, _ => False
  | .makeSlice t x y =>
    match o.dst, un (s.ev x), un (s.ev y) with
    | some d, .con (.int _ a), .con (.int _ b) =>
      match telem P t with
      | some (e, k, bb) => match tzero P e with
        | some z => d < s.n ∧ okv (s.ev x) ∧ okv (s.ev y) ∧ 0 ≤ a ∧ a = b ∧ z.length = k ∧ 0 < k ∧ 0 < bb ∧ a * bb ≤ 281474976710656 ∧
            ∀ id, fresh s.h id → K ⟨s.n, (d, .sl id a.toNat e k) :: s.t, ⟨(id, (List.replicate a.toNat z).flatten) :: s.h.bx, s.h.tk⟩⟩
        | none => False
      | none => False
    | _, _, _ => False
  | .makeMap t none =>
    match o.dst with
    | some d => d < s.n ∧ ∀ id, fresh s.h id → K ⟨s.n, (d, .mp id) :: s.t, ⟨(id, [.mc [] 0]) :: s.h.bx, s.h.tk⟩⟩
    | none => False
  | .mapUpdate t x y z =>
    match o.dst, un (s.ev x) with
    | none, .mp id => match s.h.box id with
      | some [.mc es c] => match tmap P t, keyA (un (s.ev y)) with
        | some (kt, _), some k => okv (s.ev x) ∧ okv (s.ev y) ∧ okv (s.ev z) ∧ mOk P kt k es ∧ K ⟨s.n, s.t, s.h.upd id fun _ => [.mc (mset k (un (s.ev z)) c es) (mclk k c es)]⟩
        | _, _ => False
      | _ => False
    | _, _ => False
  | .range t x =>
    match o.dst, tmap P t, mapOf s.h (un (s.ev x)) with
    | some d, some _, some (es, c) => d < s.n ∧ okv (s.ev x) ∧ (Stm es c → ∀ id, fresh s.h id → K ⟨s.n, (d, .it id) :: s.t, ⟨(id, [un (s.ev x), .nl [], .con (.int .i64 (c : Int))]) :: s.h.bx, s.h.tk⟩⟩)
    | _, _, _ => False
  | .next x false =>
    match o.dst, un (s.ev x) with
    | some d, .it id => match s.h.box id with
      | some [X, .nl l, .con (.int .i64 c)] => match mapOf s.h X with
        | some (es, c') => c = (c' : Int) ∧ d < s.n ∧ okv (s.ev x) ∧ ((∀ e ∈ es, e.2.2 ∈ l) → K ⟨s.n, (d, .tup [.con (.bool false)]) :: s.t, s.h⟩) ∧
            ∀ e, e ∈ es → e.2.2 ∉ l → (es.find? fun q => decide (q.2.2 = e.2.2)) = some e → K ⟨s.n, (d, .tup [.con (.bool true), .con (mkey e.1), e.2.1]) :: s.t, s.h.upd id fun _ => [X, .nl (l ++ [e.2.2]), .con (.int .i64 c)]⟩
        | none => False
      | _ => False
    | _, _ => False
  | .alloc t =>
    match o.dst, tzero P t with
    | some d, some z => d < s.n ∧ ∀ id, fresh s.h id → K ⟨s.n, (d, .ptr id 0) :: s.t, ⟨(id, z) :: s.h.bx, s.h.tk⟩⟩
    | _, _ => False
  | .box t x =>
    match o.dst with
    | some d => orAt d (d < s.n ∧ okv (s.ev x) ∧ (un (s.ev x)).put1 = true ∧ ∀ id, fresh s.h id → K ⟨s.n, (d, .ptr id 0) :: s.t, ⟨(id, (un (s.ev x)).cells) :: s.h.bx, s.h.tk⟩⟩)
        (d < s.n ∧ okv (s.ev x) ∧ (un (s.ev x)).put1 = true ∧ K (s.put d (.ro (un (s.ev x)).cells)))
    | none => False
  | .buildSlice t n parts =>
    match o.dst with
    | some d => orAt d ((pv P s.h s.ev (.buildSlice t n parts)).1 ∧ d < s.n ∧ K (s.put d (pv P s.h s.ev (.buildSlice t n parts)).2))
        (match telem P t with
        | some (e, k, _) => match tzero P e with
          | some z => z.length = k ∧ parts.toList.length = n ∧ seqParts 0 parts.toList = true ∧ n * k ≤ 16777216 ∧ k ≠ 0 ∧ d < s.n ∧ okPs s.ev parts.toList ∧ okRow s.ev k parts.toList ∧
              ∀ t, fresh s.h t → K ⟨s.n, (d, .list (parts.toList.map fun p => un (s.ev p.2)) (some t)) :: s.t, ⟨s.h.bx, (t, n, e, k) :: s.h.tk⟩⟩
          | none => False
        | none => False)
    | none => False
  | .store t x y =>
    match o.dst, un (s.ev x) with
    | none, .ptr id off =>
      match s.h.box id with
      | some c => okv (s.ev x) ∧ okv (s.ev y) ∧ (un (s.ev y)).put1 = true ∧ tsz P t = some (un (s.ev y)).cells.length ∧ off + (un (s.ev y)).cells.length ≤ c.length ∧
          K ⟨s.n, s.t, s.h.upd id fun c => over c off (un (s.ev y)).cells⟩
      | none => False
    | _, _ => False
  | .binOp op t x y t2 =>
    match o.dst, un (s.ev x), un (s.ev y) with
    | some d, .list xs _, .con (.slice none 0 0) => d < s.n ∧ okv (s.ev x) ∧ okv (s.ev y) ∧ tkind P t = 4 ∧ isEq op ∧ ∀ b, (b = true → xs = []) → K (s.put d (.con (.bool (nilB op b))))
    | some d, _, _ => (pv P s.h s.ev (.binOp op t x y t2)).1 ∧ d < s.n ∧ K (s.put d (pv P s.h s.ev (.binOp op t x y t2)).2)
    | none, _, _ => (pv P s.h s.ev (.binOp op t x y t2)).1 ∧ K s
  | op =>
    match o.dst with
    | some d => (pv P s.h s.ev op).1 ∧ d < s.n ∧ K (s.put d (pv P s.h s.ev op).2)
    | none => (pv P s.h s.ev op).1 ∧ K s
theorem vcN_sound {P : Program} {o : Oper} {K : St → Prop} {s : St} (h : vcN P o K s) : SOp P o s K := by
  have gen : (match o.dst with
    | some d => (pv P s.h s.ev o.op).1 ∧ d < s.n ∧ K (s.put d (pv P s.h s.ev o.op).2)
    | none => (pv P s.h s.ev o.op).1 ∧ K s) → SOp P o s K := by
    intro h
    split at h
    · rename_i d hd; exact .of_v hd h.2.1 (pv_sound h.1) h.2.2
    · rename_i hd; exact .of_v0 hd (pv_sound h.1) h.2
  unfold vcN at h
  split at h
  · rename_i f args ats ho
    split at h
    · rename_i g cap hf
      rcases h with h | h
      · exact .of_call ho rfl hf (fun d hd => by have := h.1; rw [hd] at this; exact this) h.2
      · split at h
        · rename_i d hd
          obtain ⟨a1, r, a2, a3⟩ := h
          exact .of_v hd a1 (vop_ecall ho rfl hf a2) a3
        · exact h.elim
    · exact h.elim
  · rename_i x y ty ty2 ho
    split at h
    · rename_i d xs t hd hx
      obtain ⟨a1, a2, a3, a4, a5, a6⟩ := h
      obtain ⟨e, k, b, z, h1, hA⟩ := appOk_iff a4
      rw [h1] at a5
      exact sop_append ho rfl rfl rfl hd a1 a2 a3 hx a5 hA a6
    · rename_i d hd hx
      obtain ⟨a1, a2, a3, a4, a6⟩ := h
      obtain ⟨e, k, b, z, h1, hA⟩ := appOk_iff a4
      rw [h1] at a6
      exact sop_append_nil ho rfl rfl rfl hd a1 a2 a3 hx hA fun t h1 h2 => a6 t ⟨h2, h1⟩
    · rename_i d hd hx
      split at h
      · rename_i id0 n0 e0 k0 hy
        split at h
        · rename_i e k bb m cs he hsrc
          split at h
          · rename_i z hz
            obtain ⟨a1, a2, a3, a4, a5, a6, a7, a8, a9, a10, a11, a12⟩ := h
            subst a5
            exact sop_append_empC ho rfl rfl rfl a4 hd a1 a2 a3 hx he hz a6 a7 a8 a9 (by rw [hy]; exact hsrc) a10 (fun ys t e => by rw [hy] at e; cases e) a11 fun id h1 h2 => a12 id ⟨h1, h2⟩
          · exact h.elim
        · exact h.elim
      rename_i hnsl
      obtain ⟨a1, a2, a3, a4, a5, a6, a7⟩ := h
      obtain ⟨e, k, b, z, h1, hA⟩ := appOk_iff a4
      obtain ⟨ys, tk, hY⟩ : ∃ ys tk, un (s.ev y) = .list ys tk := by
        generalize un (s.ev y) = Y at a5
        cases Y <;> first | exact a5.elim | exact ⟨_, _, rfl⟩
      have hsl : srcL (un (s.ev y)) = ys := by rw [hY]; rfl
      rw [hsl] at hA a6 a7
      rw [h1] at a7
      exact sop_append_emp ho rfl rfl rfl hd a1 a2 a3 hx hA hY a6 fun h id h1 h2 => a7 h id ⟨h1, h2⟩
    · rename_i d id n e k hd hx
      obtain ⟨a1, a2, a3, a4, a5, a6, a7, a8, a9⟩ := h
      obtain ⟨e', k', b, z, h1, hA⟩ := appOk_iff a4
      rw [h1] at a6
      simp only [Option.map_some, Option.some.injEq, Prod.mk.injEq] at a6
      obtain ⟨rfl, rfl⟩ := a6
      obtain ⟨ys, tk, hY⟩ : ∃ ys tk, un (s.ev y) = .list ys tk := by
        generalize un (s.ev y) = Y at a5
        cases Y <;> first | exact a5.elim | exact ⟨_, _, rfl⟩
      have hsl : srcL (un (s.ev y)) = ys := by rw [hY]; rfl
      rw [hsl] at hA a7 a9
      exact sop_append_sl ho rfl rfl rfl hd a1 a2 a3 hx (slOk_cs a8) hA hY a7 fun id' h1 h2 => a9 id' ⟨h1, h2⟩
    · rename_i d id off n cp e' k' hd hx
      split at h
      · rename_i kk m hy
        split at h
        · rename_i e k bb ds he hb
          split at h
          · rename_i z hz
            obtain ⟨a1, a2, a3, a4, a5, a6, a7, a8, a9, a10, a11, a12, a13, a14⟩ := h
            subst a6
            obtain ⟨q, hq⟩ := Option.isSome_iff_exists.1 a4
            obtain ⟨mm, rfl⟩ := Int.eq_ofNat_of_zero_le (Int.le_of_lt a8)
            exact sop_append_zeros ho rfl rfl rfl hq hd a1 a2 a3 he hz a5 hx hy a7 hb a11 (by omega) a9 a10 (by omega) (by rw [← Int.natCast_add, ← Int.natCast_mul] at a13; omega) fun id' h1 h2 => a14 id' ⟨h1, h2⟩
          · exact h.elim
        · exact h.elim
      · rename_i Y hY
        split at h
        · rename_i e k bb ds m cs he hb hsrc
          obtain ⟨a1, a2, a3, a4, a5, a6, a7, a8, a9, a10, a11, a12⟩ := h
          subst a5
          exact sop_append_fit ho rfl rfl rfl a4 hd a1 a2 a3 he hx a6 hb hsrc a7 (isK_list a8) a9 a10 a11 a12
        · exact h.elim
    · exact h.elim
  · rename_i x y t t2 ho
    split at h
    · rename_i id hd hx
      split at h
      · rename_i es c hb
        split at h
        · rename_i kt et k hkt hk
          exact sop_delete (ts := []) ho rfl rfl rfl hd h.1 h.2.1 hkt hx hb hk h.2.2.1 h.2.2.2
        · exact h.elim
      · exact h.elim
    · exact h.elim
  · rename_i x y t t2 ho
    split at h
    · rename_i e k bb he
      split at h
      · rename_i id off n n' cs hd hs
        split at h
        · rename_i ds hb
          obtain ⟨a1, a2, a3, a4, a5, a6, a7, a8⟩ := h
          exact sop_copy ho rfl rfl rfl a1 a2 he hd hb hs a3 (isK_list a4) a5 a6 (fun d hq => by rw [hq] at a7; exact a7) a8
        · exact h.elim
      · exact h.elim
    · exact h.elim
  · rename_i x t ts ho
    split at h
    · rename_i e k bb hd he
      split at h
      · rename_i z id off n hz hdc
        split at h
        · rename_i ds hb
          obtain ⟨a1, a2, a3, a4, a5, a6⟩ := h
          exact sop_clear ho rfl rfl rfl a1 he hz a2 hdc hb a3 a4 a5 hd a6
        · exact h.elim
      · exact h.elim
    · exact h.elim
  · rename_i t x y ho
    split at h
    · rename_i d kx a ky b hd hx hy
      split at h
      · rename_i e k bb he
        split at h
        · rename_i z hz
          obtain ⟨a1, a2, a3, a4, a5, a6, a7, a8, a9, a10⟩ := h
          subst a5
          obtain ⟨n, rfl⟩ := Int.eq_ofNat_of_zero_le a4
          refine sop_makeSlice ho hd a1 a2 a3 hx hy he hz a6 a7 a8 ?_ fun id h1 h2 => a10 id ⟨h1, h2⟩
          rw [← Int.natCast_mul] at a9; omega
        · exact h.elim
      · exact h.elim
    · exact h.elim
  · rename_i t ho
    split at h
    · rename_i d hd; exact sop_makeMap ho hd h.1 fun id h1 h2 => h.2 id ⟨h1, h2⟩
    · exact h.elim
  · rename_i t x y z ho
    split at h
    · rename_i id hd hx
      split at h
      · rename_i es c hb
        split at h
        · rename_i kt et k hkt hk
          exact sop_mapUpdate ho hd h.1 h.2.1 h.2.2.1 hkt hx hb hk h.2.2.2.1 h.2.2.2.2
        · exact h.elim
      · exact h.elim
    · exact h.elim
  · rename_i t x ho
    split at h
    · rename_i d km es c hd hkt hm
      obtain ⟨kt, et⟩ := km
      exact sop_range ho hd h.1 h.2.1 hkt hm fun h3 id h1 h2 => h.2.2 h3 id ⟨h1, h2⟩
    · exact h.elim
  · rename_i x ho
    split at h
    · rename_i d id hd hx
      split at h
      · rename_i X l c hb
        split at h
        · rename_i es c' hm
          obtain ⟨a1, a2, a3, a4, a5⟩ := h
          subst a1
          exact sop_next ho hd a2 a3 hx hb hm a4 fun e h1 h2 h3 => a5 e h1 h2 h3
        · exact h.elim
      · exact h.elim
    · exact h.elim
  · rename_i t ho
    split at h
    · rename_i d z hd hz; exact sop_alloc ho hz hd h.1 fun id h1 h2 => h.2 id ⟨h1, h2⟩
    · exact h.elim
  · rename_i t x ho
    split at h
    · rename_i d hd
      rcases h with h | h
      · exact sop_box ho h.2.1 h.2.2.1 hd h.1 fun id h1 h2 => h.2.2.2 id ⟨h1, h2⟩
      · exact .of_v hd h.1 (vop_boxRo ho h.2.1 h.2.2.1) h.2.2.2
    · exact h.elim
  · rename_i t n parts ho
    split at h
    · rename_i d hd
      rcases h with h | h
      · refine gen ?_; rw [ho, hd]; exact h
      · split at h
        · rename_i e k bb he
          split at h
          · rename_i z hz
            obtain ⟨a1, a2, a3, a4, a5, a6, a7, a8, a9⟩ := h
            exact sop_buildSliceTok ho he hz a1 a2 a3 a4 a5 hd a6 (okPs_mem a7) (okRow_mem a8) fun t h1 h2 => a9 t ⟨h2, h1⟩
          · exact h.elim
        · exact h.elim
    · exact h.elim
  · rename_i t x y ho
    split at h
    · rename_i id off hd hx
      split at h
      · rename_i c hb; exact sop_store ho h.1 h.2.1 hx hb h.2.2.1 h.2.2.2.1 rfl h.2.2.2.2.1 hd h.2.2.2.2.2
      · exact h.elim
    · exact h.elim
  · rename_i op t x y t2 ho
    split at h
    · rename_i d xs tk hd hx hy; exact sop_nilcmp ho h.2.2.2.2.1 hd h.1 h.2.1 h.2.2.1 hx hy h.2.2.2.1 h.2.2.2.2.2
    · rename_i d hd _; refine gen ?_; rw [ho, hd]; exact h
    · rename_i hd; refine gen ?_; rw [ho, hd]; exact h
  · exact gen h

/-- The place that operation j writes. -/
def dstAt : List (Option Nat) → Nat → Option Nat
  | [], _ => none
  | d :: _, 0 => d
  | _ :: r, n + 1 => dstAt r n
theorem dstAt_eq (l : List Oper) : ∀ j, dstAt (l.map (·.dst)) j = (l.toArray[j]?).bind (·.dst) := by
  induction l with
  | nil => intro j; simp [dstAt]
  | cons o l ih =>
    intro j
    cases j with
    | zero => simp [dstAt]
    | succ j => simp only [List.map_cons, dstAt]; rw [ih j]; simp
theorem AV.le_un {x : AV} (h : okv x) : x.le (un x) := fun _ _ _ k => k.un h
theorem PureAt.un_args {P : Program} {q : Nat} {ρ : Operand → AV} {args : List Operand} {cap : List AV} {H : Hp} {r : AV} (h : okAll ρ args) (k : PureAt P q ((args.map fun x => un (ρ x)) ++ cap) H r) :
    PureAt P q (args.map ρ ++ cap) H r := by
  refine ACalls.args k (by simp) fun i hi => ?_
  simp only [List.getD_eq_getElem?_getD]
  rcases Nat.lt_or_ge i args.length with hl | hl
  · rw [List.getElem?_append_left (by simpa using hl), List.getElem?_append_left (by simpa using hl)]
    simp only [List.getElem?_map, List.getElem?_eq_getElem hl, Option.map_some, Option.getD_some]
    exact AV.le_un (okAll_mem h _ (List.getElem_mem hl))
  · rw [List.getElem?_append_right (by simpa using hl), List.getElem?_append_right (by simpa using hl)]
    simp only [List.length_map]
    exact AV.le.refl _
/-- One guarded operation. -/
def vcG (P : Program) (dj d : Nat) (want : Bool) (op : Op) (K : St → Prop) (s : St) : Prop :=
  match gv want (lk s.t dj) with
  | some g =>
    match op with
    | .call { callee := .value f, args, .. } =>
      match un (s.ev f) with
      | .fn q cap => dj < s.n ∧ d < s.n ∧ ∃ r, (g = true → (okv (s.ev f) ∧ okAll s.ev args.toList) ∧ PureAt P q ((args.toList.map fun x => un (s.ev x)) ++ cap) s.h r) ∧ K (s.put d (.opt g r))
      | _ => False
    | op => dj < s.n ∧ d < s.n ∧ (g = true → (pv P s.h s.ev op).1) ∧ K (s.put d (.opt g (pv P s.h s.ev op).2))
  | none => False
def notTmp (d : Nat) : Operand → Bool
  | .tmp e => e != d
  | _ => true
/-- A variable is laid, and written whole at once. -/
def asOf (o1 o2 : Oper) : Option (Nat × Nat × Nat × Operand) :=
  match o1.guard, o1.op, o1.dst, o2.guard, o2.op, o2.dst with
  | none, .alloc t, some d, none, .store t2 (.tmp d') y, none => if d' = d then (if notTmp d y = true then some (d, t, t2, y) else none) else none
  | _, _, _, _, _, _ => none
def mvOf : Op → Option Operand
  | .move x => some x
  | .assign x => some x
  | _ => none
theorem mvOf_eq {op : Op} {x : Operand} (h : mvOf op = some x) : op = .move x ∨ op = .assign x := by
  unfold mvOf at h
  split at h
  · injection h with h; subst h; exact .inl rfl
  · injection h with h; subst h; exact .inr rfl
  · cases h
/-- A variable is laid, a value copied, and the variable written whole. -/
def asOf3 (o1 oM o2 : Oper) : Option (Nat × Nat × Nat × Operand × Nat × Operand) :=
  match o1.guard, o1.op, o1.dst, oM.guard, mvOf oM.op, oM.dst, o2.guard, o2.op, o2.dst with
  | none, .alloc t, some d, none, some x, some dM, none, .store t2 (.tmp d') y, none => if d' = d then (if notTmp d y = true then (if notTmp d x = true then (if dM = d then none else some (d, t, t2, y, dM, x)) else none) else none) else none
  | _, _, _, _, _, _, _, _, _ => none
def roC (P : Program) (s : St) (d t t2 : Nat) (y : Operand) : Prop :=
  match tzero P t, tsz P t2 with
  | some z, some k => z.length = k ∧ okv (s.ev y) ∧ (un (s.ev y)).put1 = true ∧ (un (s.ev y)).cells.length = k ∧ d < s.n
  | _, _ => False
def vc1 (P : Program) (ds : List (Option Nat)) (o : Oper) (K : St → Prop) (s : St) : Prop :=
  match o.guard with
  | none => vcN P o K s
  | some (j, want) =>
    match dstAt ds j, o.dst with
    | some dj, some d => vcG P dj d want o.op K s
    | _, _ => False
/-- The operations of a region, one after the other. -/
def vcL (P : Program) (ds : List (Option Nat)) (K : St → Prop) : List Oper → St → Prop
  | [], s => K s
  | [o], s => vc1 P ds o K s
  | [o, o2], s =>
    match asOf o o2 with
    | some (d, t, t2, y) => orAt d (vc1 P ds o (vcL P ds K [o2]) s) (roC P s d t t2 y ∧ vcL P ds K [] (s.put d (.ro (un (s.ev y)).cells)))
    | none => vc1 P ds o (vcL P ds K [o2]) s
  | o :: o2 :: o3 :: rest, s =>
    match asOf o o2 with
    | some (d, t, t2, y) => orAt d (vc1 P ds o (vcL P ds K (o2 :: o3 :: rest)) s) (roC P s d t t2 y ∧ vcL P ds K (o3 :: rest) (s.put d (.ro (un (s.ev y)).cells)))
    | none =>
      match asOf3 o o2 o3 with
      | some (d, t, t2, y, dM, x) => orAt d (vc1 P ds o (vcL P ds K (o2 :: o3 :: rest)) s)
          ((okv (s.ev x) ∧ dM < s.n ∧ roC P (s.put dM (un (s.ev x))) d t t2 y) ∧ vcL P ds K rest ((s.put dM (un (s.ev x))).put d (.ro (un ((s.put dM (un (s.ev x))).ev y)).cells)))
      | none => vc1 P ds o (vcL P ds K (o2 :: o3 :: rest)) s
theorem vc1_sound {P : Program} {ops : List Oper} {Q : Exit → St → Prop} {K : St → Prop} {o : Oper} {rest : List Oper} {s : St} (h : vc1 P (ops.map (·.dst)) o K s) (ih : ∀ s, K s → aops P ops.toArray rest Q s) : aops P ops.toArray (o :: rest) Q s := by
  unfold vc1 at h
  split at h
  · rename_i hg
    exact aops_cons hg ((vcN_sound h).mono ih)
  · rename_i j want hg
    split at h
    · rename_i dj d hj hd
      rw [dstAt_eq] at hj
      unfold vcG at h
      split at h
      · rename_i g hb
        split at h
        · rename_i f args ats ho
          split at h
          · rename_i q cap hf
            obtain ⟨a1, a2, r, a3, a4⟩ := h
            exact aops_guard hg hj hb a1 hd a2 r (fun e => vop_callU ho rfl (a3 e).1.1 hf (PureAt.un_args (a3 e).1.2 (a3 e).2)) (ih _ a4)
          · exact h.elim
        · obtain ⟨a1, a2, a3, a4⟩ := h
          exact aops_guard hg hj hb a1 hd a2 _ (fun e => pv_sound (a3 e)) (ih _ a4)
      · exact h.elim
    · exact h.elim
theorem vcL_sound {P : Program} {ops : List Oper} {Q : Exit → St → Prop} {K : St → Prop} (hK : ∀ s, K s → Q .normal s) : ∀ (n : Nat) (l : List Oper) (s : St), l.length ≤ n → vcL P (ops.map (·.dst)) K l s → aops P ops.toArray l Q s := by
  intro n
  induction n with
  | zero => intro l s hl h; obtain rfl := List.eq_nil_of_length_eq_zero (Nat.le_zero.1 hl); exact aops_nil (hK s h)
  | succ n ih =>
    have two : ∀ {o o2 : Oper} {rest : List Oper} {s : St} {d t t2 : Nat} {y : Operand}, (o :: o2 :: rest).length ≤ n + 1 → asOf o o2 = some (d, t, t2, y) → roC P s d t t2 y → vcL P (ops.map (·.dst)) K rest (s.put d (.ro (un (s.ev y)).cells)) → aops P ops.toArray (o :: o2 :: rest) Q s := by
      intro o o2 rest s d t t2 y hl has h1 h2
      unfold asOf at has
      split at has
      · rename_i t' d' t2' d2 y' g1 e1 e2 g2 e3 e4
        split at has
        · rename_i hdd
          split at has
          · rename_i hnt
            simp only [Option.some.injEq, Prod.mk.injEq] at has
            obtain ⟨rfl, rfl, rfl, rfl⟩ := has
            subst hdd
            unfold roC at h1
            split at h1
            · rename_i z k hz hk
              obtain ⟨b1, b2, b3, b4, b5⟩ := h1
              exact aops_allocStore g1 g2 e1 e2 e3 e4 (fun e => by subst e; simp [notTmp] at hnt) hz b1 hk b2 b3 b4 b5 (ih rest _ (by simp at hl; omega) h2)
            · exact h1.elim
          · cases has
        · cases has
      · cases has
    intro l s hl h
    cases l with
    | nil => exact aops_nil (hK s h)
    | cons o r =>
      cases r with
      | nil => exact vc1_sound h fun s h => aops_nil (hK s h)
      | cons o2 rest =>
        have ih1 := fun s => ih (o2 :: rest) s (by simp at hl ⊢; omega)
        cases rest with
        | nil =>
          rw [vcL] at h
          split at h
          · rename_i d t t2 y has
            rcases h with h | ⟨h1, h2⟩
            · exact vc1_sound h ih1
            · exact two hl has h1 h2
          · exact vc1_sound h ih1
        | cons o3 rest3 =>
          rw [vcL] at h
          split at h
          · rename_i d t t2 y has
            rcases h with h | ⟨h1, h2⟩
            · exact vc1_sound h ih1
            · exact two hl has h1 h2
          · split at h
            · rename_i d t t2 y dM x has
              rcases h with h | ⟨⟨h0, h4, h1⟩, h2⟩
              · exact vc1_sound h ih1
              · unfold asOf3 at has
                split at has
                · rename_i t' d' x' dM' t2' d2 y' g1 e1 e2 gM eM eMd g2 e3 e4
                  split at has
                  · rename_i hdd
                    split at has
                    · rename_i hnt
                      split at has
                      · rename_i hnx
                        split at has
                        · cases has
                        · rename_i hne
                          simp only [Option.some.injEq, Prod.mk.injEq] at has
                          obtain ⟨rfl, rfl, rfl, rfl, rfl, rfl⟩ := has
                          subst hdd
                          unfold roC at h1
                          split at h1
                          · rename_i z k hz hk
                            obtain ⟨b1, b2, b3, b4, b5⟩ := h1
                            exact aops_allocMoveStore g1 gM g2 e1 e2 (mvOf_eq eM) eMd e3 e4 (fun e => by subst e; simp [notTmp] at hnx) (fun e => by subst e; simp [notTmp] at hnt) hne h0 h4 hz b1 hk b2 b3 b4 b5 (ih rest3 _ (by simp at hl; omega) h2)
                          · exact h1.elim
                      · cases has
                    · cases has
                  · cases has
                · cases has
            · exact vc1_sound h ih1
theorem awp_reg {P : Program} {id : Nat} {l : List Oper} {Q : Exit → St → Prop} {s : St} (ds : List (Option Nat)) (hds : ds = l.map (·.dst)) (h : vcL P ds (Q .normal) l s) : awp P (.region id l.toArray false) Q s :=
  awp_region (vcL_sound (fun _ h => h) _ _ _ (Nat.le_refl _) (hds ▸ h))
end Go.Proofs.YtababmnmkmgbbaaGreat.Fw
