/-
  A part of the proof: its theorems say what each gives.
-/
import Derived.Test.YtababmnmkmgbbaaGreatKSe
import Derived.Test.YtababmnmkmgbbaaGreatKFw1
import Derived.Test.YtababmnmkmgbbaaGreatKFw2
import Derived.Test.YtababmnmkmgbbaaGreatKFw3
import Derived.Lib.Overlaps
set_option maxRecDepth 100000
set_option maxHeartbeats 4000000
set_option linter.unusedSimpArgs false
set_option linter.unusedVariables false
namespace Go.Proofs.YtababmnmkmgbbaaGreat
open Go Fw Go.RowKit Go.Lib
/-! slices.Insert at rows. -/
theorem e_overlaps {xs : List AV} {t id off n c e e2 k : Nat} {H : Hp} {cs : List AV} (h0 : 0 < xs.length) (hn : 0 < n) (ht : H.tok t = some (xs.length, e2, k)) (hb : H.box id = some cs) :
    ECalls Tryz.prog 309 [.list xs (some t), .slc id off n c e 1] H (.con (.bool false)) := by
  intro σ w vs hs hv
  obtain ⟨hvs, hvv⟩ := hv
  have hv0 := hvv 0 (by simp)
  have hv1 := hvv 1 (by simp)
  have hvs2 : vs = #[vs.getD 0 undef, vs.getD 1 undef] := by
    refine Array.ext (by simpa using hvs) fun i h1 h2 => ?_
    have : i = 0 ∨ i = 1 := by simp at h2; omega
    rcases this with rfl | rfl <;> simp [Array.getD_eq_getD_getElem?, h1]
  rw [hvs2]
  generalize vs.getD 0 undef = v0 at hv0
  generalize vs.getD 1 undef = v1 at hv1
  replace hv0 : VR σ w (.list xs (some t)) v0 := hv0
  replace hv1 : VR σ w (.slc id off n c e 1) v1 := hv1
  cases hv0 with
  | tok _ _ _ h ht2 hm =>
    have hst : σ.tok t = some (xs.length, e2, k) := by rw [hs.tok]; exact ht
    have h1 := ((hm _ hst).2 rfl).1
    obtain ⟨q1, xs', q2, q3⟩ := hs.tk t _ _ _ ht
    obtain ⟨_, ⟨g1, g2⟩ | ⟨g, cap, cur, g1, g2, g3, g4, g5, g6, g7⟩⟩ := q2
    · omega
    · rw [h1, g1]
      cases hv1 with
      | slc0 => omega
      | slc _ _ _ _ _ _ p1 p2 p3 p4 p5 =>
        obtain ⟨b1, b2, b3, cu, ee, b4, b5, b6⟩ := hs.bx id cs hb
        rw [p2] at b4
        obtain ⟨b4, rfl, b7⟩ := b4
        have hne : g ≠ σ.blk id := fun e => hs.bxtk id t cs _ hb ht (by rw [g1, e]; rfl)
        refine ⟨.bool false, ?_, .con _⟩
        rw [run_callFunc_extern Tryz.func309 (by kernel_rfl) (by kernel_rfl) (by kernel_rfl) (e := Extern.SlicesOverlaps.overlaps #[70, 70] #[4]) (by kernel_rfl),
          Lib.run_overlaps_apart w 70 4 80 (by kernel_rfl) 1 (fun w => Fw.run_sizeOf ty_sz80 w) ⟨g, 0, none⟩ ⟨σ.blk id, off * 1, none⟩ xs.length cap n c hne e2 ee cur.size cu.size (by simp [World.shape?, g3]) (by simp [World.shape?, b4]) (by rw [b7]; omega) (by simp [World.frozen?, g3]) (by simp [World.frozen?, g3])]
        rfl
theorem weak_boxtok {id t n e k : Nat} {c : List AV} {bx : List (Nat × List AV)} {tk : List (Nat × Nat × Nat × Nat)} (h : Hp.tok ⟨bx, tk⟩ t = none) : Weak ⟨(id, c) :: bx, (t, n, e, k) :: tk⟩ ⟨(id, c) :: bx, tk⟩ := weak_tok h (.refl _)
theorem c_InsertRw (l : List (List Val)) (i : Nat) (row : List Val) (ix t : Nat) (bx : List (Nat × List AV)) (tk : List (Nat × Nat × Nat × Nat)) (hi : i ≤ l.length) (hl : l.length ≤ 2000000) (hfr : l = [] ∨ Hp.box ⟨bx, tk⟩ ix = none) (htk : Hp.tok ⟨bx, tk⟩ t = none) :
    ACalls Tryz.prog 238 [.sl ix l.length 80 1, .con (.int .i64 (i : Int)), .list [cRw row] (some t)] ⟨hold ix (encRws l) bx, (t, 1, 80, 1) :: tk⟩
      fun r H' => r = .list (encRws (l.take i ++ [row] ++ l.drop i)) none ∧ H' = ⟨bx, tk⟩ := by
  generalize hL : l.take i ++ [row] ++ l.drop i = L
  have hLl : L.length = l.length + 1 := by rw [← hL]; simp; omega
  refine ACalls.frz (R := fun r H' => (∃ id2, r = .sl id2 L.length 80 1 ∧ Hp.box ⟨bx, tk⟩ id2 = none ∧ H' = ⟨(id2, encRws L) :: bx, tk⟩) ∨ (∃ (id2 c : Nat) (tl : List AV), r = .slc id2 0 L.length c 80 1 ∧ Hp.box ⟨bx, tk⟩ id2 = none ∧ H' = ⟨(id2, encRws L ++ tl) :: bx, tk⟩)) ?_ fun r H' h => ?_
  rotate_left
  · rcases h with ⟨id2, h1, h2, h3⟩ | ⟨id2, c, tl, h1, h2, h3⟩
    · subst h1 h3
      refine .inr ⟨id2, encRws L, .list (encRws L) none, ⟨bx, tk⟩, ?_, ?_, rfl, fleX_skip (fleX_refl h2), rfl, rfl⟩
      · show ((id2, encRws L) :: bx).lookup id2 = _; simp
      · have := fle_slL (id := id2) (se := 80) (sk := 1) (encRws_fits L) (n := L.length) (by rw [encRws_length])
        rwa [flat_rws] at this
    · subst h1 h3
      refine .inr ⟨id2, encRws L ++ tl, .list (encRws L) none, ⟨bx, tk⟩, ?_, AV.fle_slc (by omega) (by rw [encRws_length]) (encRws_fits _) (by rw [List.length_append]; omega) (fun a j ha hj => ?_), rfl, fleX_skip (fleX_refl h2), rfl, rfl⟩
      · show ((id2, encRws L ++ tl) :: bx).lookup id2 = _; simp
      · obtain rfl : j = 0 := by omega
        rw [encRws_length] at ha
        obtain ⟨x, hx, _⟩ := at_lt ha
        rw [encRws_get hx, Nat.mul_one, Nat.add_zero, List.getD_eq_getElem?_getD (l := encRws L ++ tl), List.getElem?_append_left (by rw [encRws_length]; exact ha)]
        simp [encRws, hx, AV.cells]
  rcases Nat.lt_or_ge i l.length with hlt | hge
  rotate_left
  · obtain rfl : i = l.length := by omega
    have hz : l.length = 0 ↔ encRws l = [] := by rw [← List.length_eq_zero_iff (l := encRws _), encRws_length]
    have hlen : (encRws l).length = l.length * 1 := by rw [encRws_length]; omega
    have hsl := fun tk => slC_hold (id := ix) (bx := bx) (tk := tk) hz
    have hok := fun tk => eq_true (slOk_hold (id := ix) (k := 1) (bx := bx) (tk := tk) hz hlen)
    have hdz : delZ l.length ix (hold ix (encRws l) bx) = bx := by
      rcases hfr with h0 | h0
      · subst h0; rfl
      · exact delZ_hold h0 hz
    have c1 : ((l.length : Int) = (l.length : Int)) = True := eq_true rfl
    refine ACalls.args (args' := [.sl ix l.length 80 1, .con (.int .i64 (l.length : Int)), .list [cRw row] none]) ?_ rfl (fun a ha => ?_)
    rotate_left
    · match a, ha with
      | 0, _ => exact .refl _
      | 1, _ => exact .refl _
      | 2, _ => exact AV.le_list _ _
    refine acalls_of (by kernel_rfl) Tryz.func238 rfl 95 Tryz.ntmps238 (by simp) [.tmp 6] rfl ?_
    ((repeat' (first | (refine awp_seq_k (fun K hK => ?_)) | (refine awp_reg _ rfl ?_; (try simp only [go_sem, Nat.reduceLT, Nat.reduceEqDiff, Nat.reduceAdd, ↓reduceIte, reduceCtorEq, hsl, hok, hdz, decide_true])) | (refine awp_condT rfl (by ((rfl))) ?_) | (refine awp_condF rfl (by ((rfl))) ?_) | (refine awp_skip ?_; (try simp only [sq])) | (refine awp_ret ?_; (try simp only [sq])) | (with_reducible apply And.intro) | (refine all_fresh fun id fr => ?_; (try have := NeI.of_frt fr)) | (refine hK _ ?_; clear hK; (try clear K)))); (all_goals (try (first | omega | (simp only [List.mem_cons, List.not_mem_nil, or_false, forall_eq, AV.cells, List.length_cons, List.length_nil, Nat.reduceAdd]; done)))))
    have hLe : encRws L = encRws l ++ [cRw row] := by
      rw [← hL, List.take_length, List.drop_length, List.append_nil, encRws_append]; rfl
    refine fin_any (x := .sl id (l.length + 1) 80 1) (H := ⟨(id, encRws L) :: bx, tk⟩) (by (try simp only [forall_eq, List.mem_cons, List.not_mem_nil, or_false, resOk])) rfl (by rw [hLe]; exact weak_boxtok htk) (.inl ⟨id, by rw [hLl], ?_, rfl⟩)
    exact (fresh_hold fr).1.1
  · have hne : encRws l ≠ [] := by intro e; have := congrArg List.length e; rw [encRws_length, List.length_nil] at this; omega
    have c1 : ((i : Int) = (l.length : Int)) = False := eq_false (by omega)
    rw [hold_ne hne]
    have hb0 : Hp.box ⟨bx, tk⟩ ix = none := by
      rcases hfr with h | h
      · rw [h] at hlt; simp at hlt
      · exact h
    refine acalls_of (by kernel_rfl) Tryz.func238 rfl 95 Tryz.ntmps238 (by simp) [.tmp 6] rfl ?_
    refine awp_openSl 0 (id := ix) (n := l.length) (e := 80) (k := 1) (cs := encRws l) (by simp only [go_sem, Nat.reduceAdd, ↓reduceIte]) (by omega) (by show ((ix, encRws l) :: bx).lookup ix = _; simp) (by rw [encRws_length, Nat.mul_one]) (fun m => ?_)
    have w1 : IntKind.i64.wrap ((l.length : Int) + 1) = ((l.length + 1 : Nat) : Int) := by rw [wrap_id (by omega) (by omega)]; omega
    have w2 : IntKind.i64.wrap ((i : Int) + 1) = ((i + 1 : Nat) : Int) := by rw [wrap_id (by omega) (by omega)]; omega
    have w3 : IntKind.i64.wrap (((l.length + 1 : Nat) : Int) - (i : Int)) = ((l.length + 1 - i : Nat) : Int) := by rw [wrap_id (by omega) (by omega)]; omega
    generalize hrst : List.replicate (m * 1) AV.any = rst
    have hov : ∀ off n c X, 0 < n → ECalls Tryz.prog 309 [.list [cRw row] (some t), .slc ix off n c 80 1] ⟨(ix, X) :: bx, (t, 1, 80, 1) :: tk⟩ (.con (.bool false)) := fun off n c X hn => e_overlaps (cs := X) (e2 := 80) (k := 1) (by simp) hn (by simp [Hp.tok]) (by simp [Hp.box])
    refine awp_cut 6 (fun K hK => ?_)
    simp only [dropN] at hK
    have hK1 : ∀ s : St, St.le s ⟨95, [(0, .slc ix 0 l.length (l.length + m) 80 1), (1, .con (.int .i64 (i : Int))), (2, .list [cRw row] (some t)), (7, .con (.int .i64 1)), (8, .con (.int .i64 (l.length : Int)))], ⟨(ix, encRws l ++ rst) :: bx, (t, 1, 80, 1) :: tk⟩⟩ → K s := by
      intro s hs
      refine hK _ (awp_weak _ hs ?_)
      clear hs hK
      rcases Nat.eq_zero_or_pos m with hm | hm
      · subst hm
        obtain rfl : rst = [] := by rw [← hrst]; simp
        rw [List.append_nil]
        refine awp_seq_k (fun K hK => ?_)
        clear hK
        refine awp_seq_k (fun K2 hK2 => ?_)
        refine awp_reg _ rfl ?_
        simp only [go_sem, Nat.reduceLT, Nat.reduceEqDiff, ↓reduceIte, reduceCtorEq, w1]
        refine hK2 _ ?_
        clear hK2
        refine awp_condT rfl (by simp only [decide_eq_true_eq]; omega) ?_
        refine awp_cut 1 (fun K3 hK3 => ?_)
        simp only [dropN] at hK3
        have hK4 : ∀ (s : St) (i2 : Nat), fresh ⟨(ix, encRws l) :: bx, (t, 1, 80, 1) :: tk⟩ i2 → St.le s ⟨95, [(0, .slc ix 0 l.length (l.length + 0) 80 1), (1, .con (.int .i64 (i : Int))), (2, .list [cRw row] (some t)), (7, .con (.int .i64 1)), (9, .sl i2 (l.length + 1) 80 1)], ⟨(i2, encRws (l.take i) ++ List.replicate (l.length + 1 - i) (.con (.slice none 0 0))) :: (ix, encRws l) :: bx, (t, 1, 80, 1) :: tk⟩⟩ → K3 s := by
          intro s i2 fr2 hs
          refine hK3 _ (awp_weak _ hs ?_)
          clear hs hK3
          have hne2 : ¬ i2 = ix := fun e => (fresh_box fr2).1 e.symm
          refine awp_openSl 9 (id := i2) (n := l.length + 1) (e := 80) (k := 1) (cs := encRws (l.take i) ++ List.replicate (l.length + 1 - i) (.con (.slice none 0 0))) (by simp only [go_sem, Nat.reduceEqDiff, ↓reduceIte, reduceCtorEq]) (by omega) (by show ((i2, _) :: _).lookup i2 = _; simp) (by rw [List.length_append, encRws_length, List.length_take, List.length_replicate]; omega) (fun m2 => ?_)
          generalize hr2 : List.replicate (m2 * 1) AV.any = r2
          have e1 : (0 < l.length + 1 + m2 - i) = True := eq_true (by omega)
          have e2 : min 1 (l.length + 1 - i) = 1 := by omega
          have hlt1 : (encRws (l.take i)).length = i := by rw [encRws_length, List.length_take]; omega
          have e3 : (i + 1 ≤ (encRws (l.take i) ++ List.replicate (l.length + 1 - i) (AV.con (.slice none 0 0)) ++ r2).length) = True := eq_true (by rw [List.length_append, List.length_append, List.length_replicate, hlt1]; omega)
          have e4 : List.take i (encRws (l.take i) ++ List.replicate (l.length + 1 - i) (AV.con (.slice none 0 0)) ++ r2) ++ [AV.list (encVs row) none] ++ List.drop (i + 1) (encRws (l.take i) ++ List.replicate (l.length + 1 - i) (AV.con (.slice none 0 0)) ++ r2) = encRws (l.take i) ++ [AV.list (encVs row) none] ++ List.replicate (l.length - i) (AV.con (.slice none 0 0)) ++ r2 := by
            rw [List.append_assoc (encRws (l.take i)), List.take_left' hlt1, List.drop_append, hlt1, show i + 1 - i = 1 by omega, List.drop_of_length_le (by rw [hlt1]; omega), show l.length + 1 - i = (l.length - i) + 1 by omega, List.replicate_succ]
            simp
          have e5 : (0 < l.length + 1 + m2 - (i + 1)) = True := eq_true (by omega)
          have e6 : (l.length - i = 0) = False := eq_false (by omega)
          have e7 : min (l.length - i) (l.length + 1 - (i + 1)) = l.length - i := by omega
          have e8 : List.take (l.length - i) (List.drop i (encRws l)) = encRws (l.drop i) := by rw [encRws_drop, List.take_of_length_le (by rw [encRws_length, List.length_drop]; omega)]
          have e9 : List.take (l.length - i) (encRws (l.drop i)) = encRws (l.drop i) := List.take_of_length_le (by rw [encRws_length, List.length_drop]; omega)
          have e10 : (i + 1 + (l.length - i) ≤ (encRws (l.take i) ++ [AV.list (encVs row) none] ++ List.replicate (l.length - i) (AV.con (.slice none 0 0)) ++ r2).length) = True := eq_true (by simp only [List.length_append, List.length_replicate, hlt1, List.length_cons, List.length_nil]; omega)
          have hfl : flat [AV.list (encVs row) none] = [AV.list (encVs row) none] := rfl
          have hone : ∀ z ∈ encRws (l.drop i), z.one = true := fun z hz => by obtain ⟨y, _, rfl⟩ := List.mem_map.1 hz; rfl
          have := NeI.of_fr fr2
          ((repeat' (first | (refine awp_mixed (id := 11) [0, 1, 2, 3, 4, 5, 6, 7, 8] [8] [(8, [])] (by kernel_rfl) (by kernel_rfl) ?_; (try simp only [go_sem, Nat.reduceLT, Nat.reduceEqDiff, ↓reduceIte, reduceCtorEq, w2, hne2, e5, e6, e7, e8, e9, e10, Nat.zero_add, Nat.mul_one])) | (refine awp_seq_k (fun K hK => ?_)) | (refine awp_reg _ rfl ?_; (try simp only [go_sem, Nat.reduceLT, Nat.reduceEqDiff, ↓reduceIte, reduceCtorEq, hfl, e1, e2, e3, e4, List.take_succ_cons, List.take_nil, List.length_cons, List.length_nil, Nat.zero_add, Nat.mul_one, Nat.add_zero])) | (refine awp_ret ?_; (try simp only [sq])) | (with_reducible apply And.intro) | (refine hK _ ?_; clear hK; (try clear K)))); (all_goals (try (first | omega | assumption | (simp only [List.length_drop] <;> omega) | (simp only [List.mem_cons, List.not_mem_nil, or_false, forall_eq, AV.cells, List.length_cons, List.length_nil, Nat.reduceAdd]; done)))))
          have hdl : (List.drop i l).length = l.length - i := List.length_drop
          have hD2 : List.take (i + 1) (encRws (l.take i) ++ [AV.list (encVs row) none] ++ List.replicate (l.length - i) (AV.con (.slice none 0 0)) ++ r2) ++ encRws (l.drop i) ++ List.drop (i + 1 + (List.drop i l).length) (encRws (l.take i) ++ [AV.list (encVs row) none] ++ List.replicate (l.length - i) (AV.con (.slice none 0 0)) ++ r2) = encRws L ++ r2 := by
            have hE : (encRws (l.take i) ++ [AV.list (encVs row) none]).length = i + 1 := by rw [List.length_append, hlt1]; rfl
            rw [← hL, encRws_append, encRws_append, encRws_one, hdl, List.append_assoc (encRws (l.take i) ++ [AV.list (encVs row) none]), List.take_left' hE, List.drop_append, hE, List.drop_of_length_le (l := encRws (l.take i) ++ [AV.list (encVs row) none]) (by rw [hE]; omega), List.nil_append, show i + 1 + (l.length - i) - (i + 1) = l.length - i by omega, List.drop_left' (List.length_replicate ..)]
          rw [hD2]
          refine fin_any (x := .slc i2 0 (l.length + 1) (l.length + 1 + m2) 80 1) (H := ⟨(i2, encRws L ++ r2) :: bx, tk⟩) (by (try simp only [forall_eq, List.mem_cons, List.not_mem_nil, or_false, resOk])) rfl (weak_tok (by exact htk) (weak_boxle (.refl _) (weak_box (by exact hb0) (.refl _)))) (.inr ⟨i2, l.length + 1 + m2, r2, by rw [hLl], ?_, rfl⟩)
          exact (fresh_tok2 (fresh_box fr2).2).2.1
        clear hK3
        ((repeat' (first | (refine awp_reg _ rfl ?_; (try simp only [go_sem, Nat.reduceLT, Nat.reduceEqDiff, Int.reduceToNat, ↓reduceIte, reduceCtorEq, w1, w3, Nat.zero_add, Nat.mul_one, Nat.add_zero, Nat.sub_zero])) | (with_reducible apply And.intro) | (refine all_fresh fun id fr => ?_; (try have := NeI.of_fr fr); (try have := NeI.of_frt fr); (try have := NeI.of_frt (fr_drop fr)); (try have := NeI.of_fr (fr_dropt fr))) | (refine awpN_zero ?_))); (all_goals (try ((omega)))))
        refine hK4 _ id fr ?_
        have h1 : List.take i (encRws l) ++ (List.replicate (l.length + 1 - i) [AV.con (.slice none 0 0)]).flatten = encRws (l.take i) ++ List.replicate (l.length + 1 - i) (AV.con (.slice none 0 0)) := by
          rw [encRws_take]; congr 1
          generalize l.length + 1 - i = a
          induction a with
          | zero => rfl
          | succ a ih => rw [List.replicate_succ, List.flatten_cons, ih, List.replicate_succ]; rfl
        have h2 : i + (l.length + 1 - i) = l.length + 1 := by omega
        (refine st_le rfl ?_ (by ((try dsimp only); (try simp only [h1,  ]); repeat' (((refine weak_tokeq (by (rfl))))))); (try simp only [go_sem, Nat.reduceEqDiff, ↓reduceIte, reduceCtorEq, h2, Nat.add_zero]))
      · have e1 : (0 < l.length + m - (i + 1)) = True := eq_true (by omega)
        have e2 : (l.length + 1 - i = 0) = False := eq_false (by omega)
        have e3 : min (l.length + 1 - i) (l.length + 1 - (i + 1)) = l.length - i := by omega
        have hrl : rst.length = m := by rw [← hrst]; simp
        obtain ⟨r0, rst, rfl⟩ : ∃ r0 r1, rst = r0 :: r1 := List.exists_cons_of_ne_nil (fun e => by rw [e] at hrl; simp at hrl; omega)
        have e4 : List.take (l.length - i) (List.take (l.length + 1 - i) (List.drop i (encRws l ++ r0 :: rst))) = encRws (l.drop i) := by
          rw [List.take_take, Nat.min_eq_left (by omega), List.drop_append_of_le_length (by rw [encRws_length]; omega), List.take_append_of_le_length (by rw [List.length_drop, encRws_length]; omega), List.take_of_length_le (by rw [List.length_drop, encRws_length]; omega), encRws_drop]
        have e5 : (i + 1 + (l.length - i) ≤ (encRws l ++ r0 :: rst).length) = True := eq_true (by rw [List.length_append, encRws_length, List.length_cons]; omega)
        have e5b : (List.take (l.length + 1 - i) (List.drop i (encRws l ++ r0 :: rst))).length = l.length + 1 - i := by rw [List.length_take, List.length_drop, List.length_append, encRws_length, List.length_cons]; omega
        have hone : ∀ z ∈ encRws (l.drop i), z.one = true := fun z hz => by obtain ⟨y, _, rfl⟩ := List.mem_map.1 hz; rfl
        have hfl : flat [AV.list (encVs row) none] = [AV.list (encVs row) none] := rfl
        have hld : (encRws (l.drop i)).length = l.length - i := by rw [encRws_length, List.length_drop]
        have e6 : (0 < l.length + m - i) = True := eq_true (by omega)
        have e7 : min 1 (l.length + 1 - i) = 1 := by omega
        have e8 : List.take (i + 1) (encRws l ++ r0 :: rst) ++ encRws (l.drop i) ++ List.drop (i + 1 + (l.length - i)) (encRws l ++ r0 :: rst) = encRws (l.take (i + 1)) ++ encRws (l.drop i) ++ rst := by
          rw [List.take_append_of_le_length (by rw [encRws_length]; omega), encRws_take, show i + 1 + (l.length - i) = l.length + 1 by omega, List.drop_append, encRws_length, List.drop_of_length_le (l := encRws l) (by rw [encRws_length]; omega), show l.length + 1 - l.length = 1 by omega]
          simp
        have e9 : (i + 1 ≤ (encRws (l.take (i + 1)) ++ encRws (l.drop i) ++ rst).length) = True := eq_true (by rw [List.length_append, List.length_append, encRws_length, List.length_take]; omega)
        ((repeat' (first | (refine awp_mixed (id := 15) [0, 1, 2, 3, 4, 5, 6, 7, 8] [8] [(8, [])] (by kernel_rfl) (by kernel_rfl) ?_; (try simp only [go_sem, Nat.reduceLT, Nat.reduceEqDiff, ↓reduceIte, reduceCtorEq, e1, e2, e3, e4, e5, e5b, hld, e8, w2, Nat.zero_add, Nat.mul_one])) | (refine awp_seq_k (fun K hK => ?_)) | (refine awp_reg _ rfl ?_; (try simp only [go_sem, Nat.reduceLT, Nat.reduceEqDiff, Int.reduceToNat, ↓reduceIte, reduceCtorEq, hfl, e6, e7, e9, List.take_succ_cons, List.take_nil, List.length_cons, List.length_nil, w1, w2, Nat.zero_add, Nat.mul_one, Nat.add_zero, Nat.sub_zero])) | (refine awp_condT rfl (by ((rfl))) ?_) | (refine awp_condF rfl (by (first | rfl | (simp only [decide_eq_false_iff_not]; omega))) ?_) | (refine awp_skip ?_; (try simp only [sq])) | (refine awp_ret ?_; (try simp only [sq])) | (refine ⟨_, hov _ _ _ _ (by omega), ?_⟩ <;> (try simp only [go_sem, bls])) | (refine orAt_r 67 ?_) | (with_reducible apply And.intro) | (refine hK _ ?_; clear hK; (try clear K)))); (all_goals (try (first | omega | assumption | (simp only [List.mem_cons, List.not_mem_nil, or_false, forall_eq, AV.cells, List.length_cons, List.length_nil, Nat.reduceAdd]; done)))))
        have hE : (encRws (l.take i)).length = i := by rw [encRws_length, List.length_take]; omega
        have hD2 : List.take i (encRws (l.take (i + 1)) ++ encRws (l.drop i) ++ rst) ++ [AV.list (encVs row) none] ++ List.drop (i + 1) (encRws (l.take (i + 1)) ++ encRws (l.drop i) ++ rst) = encRws L ++ rst := by
          have hE1 : (encRws (l.take (i + 1))).length = i + 1 := by rw [encRws_length, List.length_take]; omega
          obtain ⟨y, hy, _⟩ := at_lt hlt
          rw [← hL, encRws_append, encRws_append, encRws_one, List.append_assoc (encRws (l.take (i + 1))), List.drop_left' hE1, take_at hy, encRws_append, List.append_assoc (encRws (l.take i)), List.take_left' hE]
          simp
        rw [hD2]
        refine fin_any (x := .slc ix 0 (l.length + 1) (l.length + m) 80 1) (H := ⟨(ix, encRws L ++ rst) :: bx, tk⟩) (by (try simp only [forall_eq, List.mem_cons, List.not_mem_nil, or_false, resOk])) rfl (weak_tok (by exact htk) (.refl _)) (.inr ⟨ix, l.length + m, rst, by rw [hLl], hb0, rfl⟩)
    clear hK
    ((repeat' (first | (refine awp_seq_k (fun K hK => ?_)) | (refine awp_reg _ rfl ?_; (try simp only [go_sem, Nat.reduceLT, Nat.reduceEqDiff, Nat.reduceAdd, ↓reduceIte, reduceCtorEq, c1, Nat.zero_add, decide_false])) | (refine awp_condF rfl (by ((rfl))) ?_) | (refine awp_skip ?_; (try simp only [sq])) | (with_reducible apply And.intro) | (refine awpN_zero ?_) | (refine hK _ ?_; clear hK; (try clear K)))); (all_goals (try ((omega)))))
    exact hK1 _ (by (refine st_le rfl ?_ (by ((try dsimp only); repeat' (((refine weak_tokeq (by (rfl))))))); (try simp only [go_sem, Nat.reduceEqDiff, ↓reduceIte, reduceCtorEq])))
end Go.Proofs.YtababmnmkmgbbaaGreat
