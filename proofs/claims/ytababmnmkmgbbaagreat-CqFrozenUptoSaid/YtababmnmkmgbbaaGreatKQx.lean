/-
  A part of the proof: its theorems say what each gives.
-/
import Derived.Test.YtababmnmkmgbbaaGreatKM44
import Derived.Test.YtababmnmkmgbbaaGreatKM28
set_option maxRecDepth 100000
set_option maxHeartbeats 4000000
set_option linter.unusedSimpArgs false
set_option linter.unusedVariables false
namespace Go.Proofs.YtababmnmkmgbbaaGreat
open Go Fw
/-! The reference: all environments. -/
def encPs (ps : List (MEs × Nat)) : List AV := ps.map fun p => .mv p.1 p.2
@[go_sem] theorem encPs_length (l : List (MEs × Nat)) : (encPs l).length = l.length := by simp [encPs]
@[go_sem] theorem encPs_cells (l : List (MEs × Nat)) : (∀ y, y ∈ encPs l → y.cells.length = 1) = True := eq_true fun y hy => by obtain ⟨v, _, rfl⟩ := List.mem_map.1 hy; rfl
theorem encPs_append (a b : List (MEs × Nat)) : encPs (a ++ b) = encPs a ++ encPs b := by simp [encPs]
theorem encPs_get {l : List (MEs × Nat)} {i : Nat} {x : MEs × Nat} (h : l[i]? = some x) : (encPs l).getD i .any = .mv x.1 x.2 := by simp [encPs, List.getD_eq_getElem?_getD, h]
theorem rowsOf_gd {b : List Rel} (h : gBase b) (nm : ByteArray) : gRws (rowsOf b nm) := by
  unfold rowsOf
  cases hf : findR b nm with
  | none => exact ⟨by simp, by simp⟩
  | some r => exact (h.2 r (List.mem_of_find?_eq_some hf)).rows
abbrev RepB : List Val → MEs → Prop := fun y m => repM m (envB y)
theorem upd_cnt {H : Hp} {id : Nat} {pre post : List AV} {k : Int} {m : List Int} (h : H.box id = some (pre ++ encIs (k :: m) ++ post)) (j : Int) :
    H.upd id (fun c => List.take pre.length c ++ [.con (.int .i64 j)] ++ List.drop (pre.length + 1) c) = H.set id (pre ++ encIs (j :: m) ++ post) := by
  rw [upd_known h, box_set]
theorem c_Envs (b : List Rel) (hb : gBase b) : ∀ (l : List Atm) (x : List Val) (es : MEs) (ec : Nat) (lv : List Int) (pre post : List AV) (id c : Nat) (H : Hp), gAs l → okAtoms b 24 l → x.length = 24 → gRow x → repM es (envB x) →
    lv.length = l.length + 1 → l.length ≤ 12 → okLv lv → 0 ≤ lv.headD 0 → lv.headD 0 ≤ 100000000000 → l.length + 1 ≤ c → H.box id = some (pre ++ encIs lv ++ post) →
    ACalls Tryz.prog 148 [.list (encRels b) none, .list (encAs l) none, .mv es ec, .slc id pre.length (l.length + 1) c 3 1] H fun r H' =>
      ∃ ps, r = .list (encPs ps) none ∧ Reps RepB ps (envsZ b l x lv).1 ∧ H' = H.set id (pre ++ encIs (envsZ b l x lv).2 ++ post)
  | [], x, es, ec, lv, pre, post, id0, c, H, hl, ho, h24, hx, hE, hlv, h12, hok, hh0, hh1, hc, hbx => by
    obtain ⟨k, m, rfl, hm⟩ := lv_cons hlv
    have hu := upd_cnt hbx
    have hbg := fun j => box_get pre post j m
    have hbs := fun d => Fw.box_set hbx d
    have hbl : ∀ j, (1 ≤ (List.drop pre.length (pre ++ encIs (j :: m) ++ post)).length) = True := fun j => eq_true (by simp [encIs])
    have hbl2 : ∀ j, (pre.length + 1 ≤ (pre ++ encIs (j :: m) ++ post).length) = True := fun j => eq_true (by simp [encIs])
    refine acalls_of (by kernel_rfl) Tryz.func148 rfl 69 Tryz.ntmps148 (by simp) [.tmp 8] rfl ?_
    ((repeat' (first | (refine awp_seq_k (fun K hK => ?_)) | (refine awp_reg _ rfl ?_; (try simp only [go_sem, Nat.reduceLT, Nat.reduceEqDiff, Nat.reduceLeDiff, Nat.reduceAdd, Int.reduceToNat, ↓reduceIte, reduceCtorEq, hbx, hbg, hbs, hbl, hbl2, hu, Nat.mul_one, Nat.add_zero, ↓pkv, decide_true, bls])) | (refine awp_cond _ rfl (fun hc => ?_) (fun hc => ?_) <;> (try (simp only [cds] at hc))) | (refine awp_ret ?_; (try simp only [sq])) | (refine orAt_l ?_) | (with_reducible apply And.intro) | (refine hK _ ?_; clear hK; (try clear K)))); (all_goals (try (first | omega | decide))))
    refine fin_any (x := .list (encPs [(es, ec)]) none) (H := H.set id0 (pre ++ encIs (IntKind.i64.wrap (k + 1) :: m) ++ post)) (by (try simp only [forall_eq, resOk, List.mem_cons, List.not_mem_nil, or_false])) (by (try simp only [go_sem, ↓reduceIte]); (try rfl)) (by ((try dsimp only); repeat' ((with_reducible exact .refl _)))) ?_
    exact ⟨[(es, ec)], rfl, .cons hE .nil, rfl⟩
  | a :: l, x, es, ec, lv, pre, post, id0, c, H, hl, ho, h24, hx, hE, hlv, h12, hok, hh0, hh1, hc, hbx => by
    obtain ⟨k, m, rfl, hm⟩ := lv_cons hlv
    have ih := c_Envs b hb l
    obtain ⟨ho1, ho2⟩ := ho a (List.mem_cons_self ..)
    have hcr := c_relOf b a.rel
    rw [envsZ_cons]
    have hu := upd_cnt hbx
    have hbg := fun j => box_get pre post j m
    have hbs := fun d => Fw.box_set hbx d
    have hbl : ∀ j, (1 ≤ (List.drop pre.length (pre ++ encIs (j :: m) ++ post)).length) = True := fun j => eq_true (by simp [encIs])
    have hbl2 : ∀ j, (pre.length + 1 ≤ (pre ++ encIs (j :: m) ++ post).length) = True := fun j => eq_true (by simp [encIs])
    have c0 : (((l.length + 1 : Nat) : Int) = 0) = False := eq_false (by omega)
    have hcc := hc
    simp only [List.length_cons] at hcc
    have hc2 : (((l.length + 1 + 1 : Nat) : Int) ≤ (c : Int)) = True := eq_true (by omega)
    by_cases hf : 20000 < (incZ (k :: m)).headD 0
    · rw [if_pos hf]
      have c1 : (20000 < IntKind.i64.wrap (k + 1)) = True := eq_true hf
      refine acalls_of (by kernel_rfl) Tryz.func148 rfl 69 Tryz.ntmps148 (by simp) [.tmp 8] rfl ?_
      ((repeat' (first | (refine awp_seq_k (fun K hK => ?_)) | (refine awp_reg _ rfl ?_; (try simp only [go_sem, Nat.reduceLT, Nat.reduceEqDiff, Nat.reduceLeDiff, Nat.reduceAdd, Int.reduceToNat, ↓reduceIte, reduceCtorEq, hbx, hbg, hbs, hbl, hbl2, hu, c0, c1, Nat.mul_one, Nat.add_zero, ↓pkv, decide_true, decide_false, bls])) | (refine awp_cond _ rfl (fun hc => ?_) (fun hc => ?_) <;> (try (simp only [cds] at hc))) | (refine awp_ret ?_; (try simp only [sq])) | (refine orAt_l ?_) | (with_reducible apply And.intro) | (refine hK _ ?_; clear hK; (try clear K)))); (all_goals (try (first | omega | decide))))
      refine fin_any (x := .list (encPs [(es, ec)]) none) (H := H.set id0 (pre ++ encIs (IntKind.i64.wrap (k + 1) :: m) ++ post)) (by (try simp only [forall_eq, resOk, List.mem_cons, List.not_mem_nil, or_false])) (by (try simp only [go_sem, ↓reduceIte]); (try rfl)) (by ((try dsimp only); repeat' ((with_reducible exact .refl _)))) ?_
      exact ⟨[(es, ec)], rfl, .cons hE .nil, rfl⟩
    · rw [if_neg hf]
      have c1 : (20000 < IntKind.i64.wrap (k + 1)) = False := eq_false hf
      have hgr := rowsOf_gd hb a.rel
      obtain ⟨R, hR⟩ : ∃ R, (findR b a.rel).getD zRel = R := ⟨_, rfl⟩
      rw [hR] at hcr
      have hrw : rowsOf b a.rel = R.rows := by unfold rowsOf; rw [hR]
      rw [hrw] at hgr ho1 ⊢
      generalize (findR b a.rel).isSome = sm at hcr
      obtain ⟨hgr1, hgr2⟩ := hgr
      have hrl : (rowsOf b a.rel).length ≤ 2000000 := rowsLe_of hb a.rel
      have hl12 : l.length ≤ 12 := by rw [List.length_cons] at h12; omega
      rw [hrw] at hrl
      simp only [List.tail_cons]
      rw [← foldS_all]
      have hS := foldS_ok (rowsLe_of hb) l a x hrl hl12 (by simpa using hm) hok
      have hwz : (incZ (k :: m)).headD 0 = IntKind.i64.wrap (k + 1) := rfl
      obtain ⟨w, hww⟩ : ∃ w, IntKind.i64.wrap (k + 1) = w := ⟨_, rfl⟩
      rw [hwz, hww]
      rw [hww] at c1
      have hga := hl.2 a (List.mem_cons_self ..)
      have hgl : gAs l := ⟨by have := hl.1; rw [List.length_cons] at this; omega, fun z hz => hl.2 z (List.mem_cons_of_mem _ hz)⟩
      have hgt : (encAs (a :: l)).getD 0 .any = cAtm a := rfl
      refine acalls_of (by kernel_rfl) Tryz.func148 rfl 69 Tryz.ntmps148 (by simp) [.tmp 8] rfl ?_
      ((repeat' (first | (refine awp_seq_k (fun K hK => ?_)) | (refine awp_block ?_) | (refine awp_reg _ rfl ?_; (try simp only [go_sem, Nat.reduceLT, Nat.reduceEqDiff, Nat.reduceLeDiff, Nat.reduceAdd, Int.reduceToNat, ↓reduceIte, reduceCtorEq, hbx, hbg, hbs, hbl, hbl2, hu, hww, c0, c1, hgt, Nat.mul_one, Nat.add_zero, ↓pkv, decide_false, bls])) | (refine awp_cond _ rfl (fun hc => ?_) (fun hc => ?_) <;> (try (simp only [cds] at hc))) | (refine awp_skip ?_; (try simp only [sq])) | (refine PureAt.use (hcr _ hb) ?_ <;> (try simp only [go_sem, Nat.reduceLT, Nat.reduceLeDiff, Nat.reduceAdd, bls])) | (refine orAt_r 9 ?_; (try simp only [go_sem, Nat.reduceLT, Nat.reduceEqDiff, Nat.reduceAdd, ↓reduceIte, bls])) | (refine orAt_l ?_) | (with_reducible apply And.intro) | (refine hK _ ?_; clear hK; (try clear K)))); (all_goals (try ((omega)))))
      refine awp_nilK 11 87 1 [0, 1, 2, 3, 42, 43, 44] (by simp only [keepT_cons, keepT_nil, lk, Nat.reduceEqDiff, ↓reduceIte, reduceCtorEq]; rfl) (by simp only [go_sem, Nat.reduceEqDiff, ↓reduceIte]) (fun t frt => ?_)
      refine awp_loopKG (ι := Nat × List (MEs × Nat)) [0, 1, 2, 3, 42, 43] (fun q => [(11, .list (encPs q.2) (some t)), (44, .con (.int .i64 (q.1 : Int)))]) (fun q => ⟨(H.set id0 ((pre ++ [.con (.int .i64 w)]) ++ encIs (foldS b l a x R.rows m q.1).2 ++ post)).bx, (t, q.2.length, 87, 1) :: H.tk⟩) (fun q => q.1 ≤ R.rows.length ∧ Reps RepB q.2 (foldS b l a x R.rows m q.1).1) (fun q => R.rows.length - q.1) (0, []) (by intro; simp only [keepT_cons, keepT_nil, List.cons_append, List.nil_append, lk, Nat.reduceEqDiff, ↓reduceIte, reduceCtorEq]; rfl) ?_ ?_ ?_ ?_
      · exact ⟨by omega, .nil⟩
      · simp only [go_sem, Nat.reduceEqDiff, ↓reduceIte, reduceCtorEq, show encPs [] = [] from rfl]
      · rw [box_next]; exact .refl _
      rintro ⟨i, ps⟩ ⟨hi, hps⟩
      simp only at hi hps
      rcases Nat.lt_or_ge i R.rows.length with hlt | hge
      rotate_left
      · obtain rfl : i = R.rows.length := by omega
        ((repeat' (first | (refine awp_seq_k (fun K hK => ?_)) | (refine awp_reg _ rfl ?_; (try simp only [go_sem, Nat.reduceLT, Nat.reduceEqDiff, ↓reduceIte, reduceCtorEq])) | (refine awp_cond _ rfl (fun hc => ?_) (fun hc => ?_) <;> (try (simp only [decide_eq_true_eq, decide_eq_false_iff_not] at hc)) <;> (try (exfalso; omega))) | (refine awp_exit ?_; (try simp only [sq, bk, ↓reduceIte])) | (refine awp_ret ?_) | (refine hK _ ?_; clear hK; (try clear K)) | (refine kk (by assumption) ?_))))
        refine fin_le (.list (encPs ps) none) (H.set id0 (pre ++ encIs (w :: (foldS b l a x R.rows m R.rows.length).2) ++ post)) (by (try simp only [forall_eq, List.mem_cons, List.not_mem_nil, or_false, resOk])) (AV.le_list _ _) (by rw [box_next]; exact weak_tok (by have := frt.2; exact this) (.refl _)) ⟨ps, rfl, hps, rfl⟩
      obtain ⟨row, hrow, hrm⟩ := at_lt hlt
      have hg3 := encRws_get hrow
      have hrr := hgr2 row hrm
      obtain ⟨hr1, hr2⟩ := ho1 row hrm
      have hS1 := hS (i + 1)
      ((repeat' (first | (refine awp_seq_k (fun K hK => ?_)) | (refine awp_block ?_) | (refine awp_reg _ rfl ?_; (try simp only [go_sem, Nat.reduceLT, Nat.reduceEqDiff, Nat.reduceLeDiff, Nat.reduceAdd, Int.reduceToNat, ↓reduceIte, reduceCtorEq, hg3, hgt])) | (refine awp_cond _ rfl (fun hc => ?_) (fun hc => ?_) <;> (try (simp only [decide_eq_true_eq, decide_eq_false_iff_not] at hc)) <;> (try (exfalso; omega))) | (refine awp_skip ?_; (try simp only [sq])) | (refine orAt_l ?_) | (with_reducible apply And.intro) | (refine hK _ ?_; clear hK; (try clear K)))); (all_goals (try ((omega)))))
      refine ACalls.mono (c_fitsB es ec x a row _ hE hx hga hrr hr1 (fun t ht hv => by rw [h24]; exact ho2 t ht hv) hr2) (fun r H' hx' => ?_)
      obtain ⟨rfl, ⟨hbr, rfl⟩ | ⟨y, es', c', hbr, hrep, rfl⟩⟩ := hx'
      · have hst := foldS_none (b := b) (l := l) m hrow hbr
        (try simp only [go_sem, Nat.reduceLT, Nat.reduceAdd, ↓reduceIte])
        ((repeat' (first | (refine awp_seq_k (fun K hK => ?_)) | (refine awp_reg _ rfl ?_; (try simp only [go_sem, Nat.reduceLT, Nat.reduceEqDiff, ↓reduceIte, wrap_succ i (by omega)])) | (refine awp_cond _ rfl (fun hc => ?_) (fun hc => ?_) <;> (try (simp only [cds] at hc))) | (refine awp_skip ?_; (try simp only [sq, bk])) | (refine hK _ ?_; clear hK; (try clear K)))))
        refine ⟨(i + 1, ps), by simp only; omega, ⟨by simp only; omega, by simp only; rw [hst]; exact hps⟩, ?_⟩
        simp only [hst]
        (refine st_le rfl ?_ (by ((try dsimp only); repeat' (((refine weak_tokeq (by (rfl))))))); (try simp only [go_sem, Nat.reduceEqDiff, ↓reduceIte, reduceCtorEq]))
      · have hst := foldS_some (b := b) (l := l) m hrow hbr
        obtain ⟨hs2, hs3, hs4, hs5, _⟩ := hS i
        obtain ⟨hy1, hy2⟩ := bindR_good hbr hx hrr
        (try simp only [go_sem, Nat.reduceLT, Nat.reduceAdd, ↓reduceIte])
        ((repeat' (first | (refine awp_mixed (id := 11) [0, 1, 2, 3, 4, 5, 6, 7, 8, 9] [7, 8] [(7, []), (8, [])] (by kernel_rfl) (by kernel_rfl) ?_; (try simp only [go_sem, Nat.reduceLT, Nat.reduceEqDiff, Int.reduceToNat, ↓reduceIte, reduceCtorEq, hc2])) | (refine awp_seq_k (fun K hK => ?_)) | (refine awp_reg _ rfl ?_; (try simp only [go_sem, Nat.reduceLT, ↓reduceIte])) | (refine awp_cond _ rfl (fun hc => ?_) (fun hc => ?_) <;> (try (simp only [cds] at hc))) | (refine orAt_l ?_) | (with_reducible apply And.intro) | (refine hK _ ?_; clear hK; (try clear K)))); (all_goals (try ((omega)))))
        have e1 : List.drop 1 (List.take (l.length + 1) (encAs (a :: l))) = encAs l := by
          rw [encAs_take, encAs_drop, List.take_succ_cons, List.drop_succ_cons, List.take_length, List.drop_zero]
        have e2 : l.length + 1 + 1 - 1 = l.length + 1 := by omega
        have hih := fun H' hb' => ih y es' c' (foldS b l a x R.rows m i).2 (pre ++ [AV.con (.int .i64 w)]) post id0 (c - 1) H' hgl (okAtoms_tail ho) (hy1.trans h24) hy2 hrep hs2 hl12 hs3 hs4 hs5 (by omega) hb'
        simp only [box_len] at hih
        rw [e1, e2]
        have hql := envsZ_len b l y _ hs2
        refine ACalls.mono (hih _ (box_setB hbx _ _)) (fun r H' hx' => ?_)
        obtain ⟨qs, rfl, hq, hH⟩ := hx'
        have hH2 : H' = ⟨setB H.bx id0 ((pre ++ [.con (.int .i64 w)]) ++ encIs (envsZ b l y (foldS b l a x R.rows m i).2).2 ++ post), (t, ps.length, 87, 1) :: H.tk⟩ := by
          rw [hH]; unfold Hp.set setB; rw [updB_updB]
        subst hH2
        have hpq := hps.app hq
        rw [hst] at hS1
        have hE9 := hpq.len
        simp only at hS1
        generalize envsZ b l y (foldS b l a x R.rows m i).2 = E at *
        have hln : (ps.length + qs.length) * 8 ≤ 140737488355328 := by rw [List.length_append] at hE9; omega
        (try simp only [go_sem, Nat.reduceLT, Nat.reduceAdd, ↓reduceIte])
        ((repeat' (first | (refine awp_reg _ rfl ?_; (try simp only [go_sem, Nat.reduceLT, Nat.reduceEqDiff, ↓reduceIte, wrap_succ i (by omega)])) | (with_reducible apply And.intro) | (refine hK _ ?_; clear hK; (try clear K)))); (all_goals (try ((omega)))))
        refine ⟨(i + 1, ps ++ qs), by simp only; omega, ⟨by simp only; omega, by simp only; rw [hst]; exact hpq⟩, ?_⟩
        simp only [hst]
        (refine st_le rfl ?_ (by ((try dsimp only); (try simp only [ List.length_append]); repeat' (((refine weak_tokeq (by (rfl))))))); (try simp only [go_sem, Nat.reduceEqDiff, ↓reduceIte, reduceCtorEq, encPs_append]))
end Go.Proofs.YtababmnmkmgbbaaGreat
