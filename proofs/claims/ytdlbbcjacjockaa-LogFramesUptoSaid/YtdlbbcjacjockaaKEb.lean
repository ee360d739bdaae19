/-
  A part of the proof: its theorems say what each gives.
-/
import Derived.Test.YtdlbbcjacjockaaKEa
import Derived.Test.YtdlbbcjacjockaaKRe
import Derived.Test.YtdlbbcjacjockaaKLh
set_option maxRecDepth 100000
set_option maxHeartbeats 16000000
set_option linter.unusedSimpArgs false
set_option linter.unusedVariables false
namespace Go.Proofs.Ytdlbbcjacjockaa
open Go Fw
/-! The reference: the entry of which bytes are the body. -/
theorem tN_len : ∀ (f i acc : Nat) (s : Rd), (tN f i acc s).2.1.length ≤ s.1.length ∧ (tN f i acc s).1 < 18446744073709551616
  | 0, i, acc, s => by simp [tN]
  | f + 1, i, acc, s => by
    have h1 := tSome_len 1 s
    rw [tN]
    split
    · exact ⟨h1, by simp⟩
    · split
      · exact ⟨h1, Nat.mod_lt _ (by omega)⟩
      · have := tN_len f (i + 1) ((acc + bAt (tSome 1 s).1 0 % 128 * 128 ^ i) % 18446744073709551616) (tSome 1 s).2
        exact ⟨by omega, this.2⟩
theorem tNum_len (s : Rd) : (tNum s).2.1.length ≤ s.1.length := (tN_len 10 0 0 s).1
theorem tNum_lt (s : Rd) : (tNum s).1 < 18446744073709551616 := (tN_len 10 0 0 s).2
theorem tSome_size (n : Nat) (s : Rd) : (tSome n s).1.length ≤ s.1.length := by
  unfold tSome; split <;> simp; omega
theorem bs_size (l : Byt) : (bs l).size = l.length := by simp [bs, ByteArray.size]
theorem tVal_len (s : Rd) : (tVal s).2.1.length ≤ s.1.length ∧ (tVal s).1.fs = [] ∧ (tVal s).1.s.size ≤ s.1.length := by
  have h1 := tNum_len s
  have h2 := tNum_len (tNum s).2
  have h3 := tSome_len (tNum (tNum s).2).1 (tNum (tNum s).2).2
  have h4 := tSome_size (tNum (tNum s).2).1 (tNum (tNum s).2).2
  unfold tVal
  simp only
  split
  · refine ⟨by simp only; omega, rfl, ?_⟩
    simp only [Val.s, bs_size]; omega
  · exact ⟨by simp only; omega, rfl, Nat.zero_le _⟩
theorem tRow_bd : ∀ (m n : Nat) (s : Rd), (tRow m n s).2.1.length ≤ s.1.length ∧ (tRow m n s).1.length ≤ m ∧ ∀ v ∈ (tRow m n s).1, v.fs = [] ∧ v.s.size ≤ s.1.length
  | 0, n, s => by simp [tRow]
  | m + 1, 0, s => by simp [tRow]
  | m + 1, n + 1, s => by
    obtain ⟨a, b, c⟩ := tVal_len s
    obtain ⟨d, e, f⟩ := tRow_bd m n (tVal s).2
    rw [tRow]
    split
    · simp
    · simp only
      refine ⟨by omega, by simp only [List.length_cons]; omega, fun v hv => ?_⟩
      rcases List.mem_cons.1 hv with rfl | hv
      · exact ⟨b, c⟩
      · have := f v hv; exact ⟨this.1, by omega⟩
theorem tChg_bd (s : Rd) : (tChg s).2.1.length ≤ s.1.length ∧ (tChg s).1.row.length ≤ 13 ∧ (tChg s).1.rel.size ≤ s.1.length ∧ ∀ v ∈ (tChg s).1.row, v.fs = [] ∧ v.s.size ≤ s.1.length := by
  have h1 := tNum_len s
  have h2 := tNum_len (tNum s).2
  have h3 := tSome_len (tNum (tNum s).2).1 (tNum (tNum s).2).2
  have h4 := tSome_size (tNum (tNum s).2).1 (tNum (tNum s).2).2
  have h5 := tNum_len (tSome (tNum (tNum s).2).1 (tNum (tNum s).2).2).2
  obtain ⟨a, b, c⟩ := tRow_bd 13 (tNum (tSome (tNum (tNum s).2).1 (tNum (tNum s).2).2).2).1 (tNum (tSome (tNum (tNum s).2).1 (tNum (tNum s).2).2).2).2
  unfold tChg
  simp only [bs_size]
  exact ⟨by omega, b, by omega, fun v hv => ⟨(c v hv).1, by have := (c v hv).2; omega⟩⟩
theorem tChs_bd : ∀ (m n : Nat) (s : Rd), (tChs m n s).2.1.length ≤ s.1.length ∧ (tChs m n s).1.length ≤ m ∧ ∀ c ∈ (tChs m n s).1, c.row.length ≤ 13 ∧ c.rel.size ≤ s.1.length ∧ ∀ v ∈ c.row, v.fs = [] ∧ v.s.size ≤ s.1.length
  | 0, n, s => by simp [tChs]
  | m + 1, 0, s => by simp [tChs]
  | m + 1, n + 1, s => by
    obtain ⟨a, b, c, g⟩ := tChg_bd s
    obtain ⟨d, e, f⟩ := tChs_bd m n (tChg s).2
    rw [tChs]
    split
    · simp
    · simp only
      refine ⟨by omega, by simp only [List.length_cons]; omega, fun v hv => ?_⟩
      rcases List.mem_cons.1 hv with rfl | hv
      · exact ⟨b, c, g⟩
      · obtain ⟨p, q, r⟩ := f v hv
        exact ⟨p, by omega, fun w hw => ⟨(r w hw).1, by have := (r w hw).2; omega⟩⟩
theorem flat_bd {α : Type} (f : α → Byt) (m : Nat) (l : List α) (h : ∀ a ∈ l, (f a).length ≤ m) : (l.flatMap f).length ≤ l.length * m := by
  induction l with
  | nil => simp
  | cons b l ih =>
    rw [List.flatMap_cons, List.length_append, List.length_cons, Nat.add_mul]
    have := h b (by simp)
    have := ih fun a ha => h a (by simp [ha])
    omega
theorem sev_len20 {n : Nat} (h : n < 1000000000) : (sev n).length ≤ 10 := sev_len 9 (Nat.lt_of_lt_of_le h (by decide))
theorem tEnt_ok (b : Byt) (hb : b.length ≤ 65535) : WfE (tEnt b).1 ∧ SmallE (tEnt b).1 ∧ RangeE (tEnt b).1 := by
  have h1 := tNum_len (b, false)
  have h2 := tNum_len (tNum (b, false)).2
  obtain ⟨a, c, d⟩ := tChs_bd 51 (tNum (tNum (b, false)).2).1 (tNum (tNum (b, false)).2).2
  have hw := tChs_wf 51 (tNum (tNum (b, false)).2).1 (tNum (tNum (b, false)).2).2
  have e : (tEnt b).1 = ⟨IntKind.i64.wrap (tNum (b, false)).1, (tChs 51 (tNum (tNum (b, false)).2).1 (tNum (tNum (b, false)).2).2).1⟩ := rfl
  rw [e]
  generalize (tChs 51 (tNum (tNum (b, false)).2).1 (tNum (tNum (b, false)).2).2).1 = l at *
  simp only at h1
  have hd : ∀ c ∈ l, c.row.length ≤ 13 ∧ c.rel.size ≤ 65535 ∧ ∀ v ∈ c.row, v.fs = [] ∧ v.s.size ≤ 65535 := fun c hc => by
    obtain ⟨p, q, r⟩ := d c hc
    exact ⟨p, by omega, fun v hv => ⟨(r v hv).1, by have := (r v hv).2; omega⟩⟩
  have hv : ∀ v : Val, v.s.size ≤ 65535 → (valB v).length ≤ 70000 := fun v hs => by
    have h1 := sev_len10 v.k
    unfold valB
    rw [List.length_append]
    split
    · have := sev_len20 (n := v.s.size) (by omega)
      rw [txtB, List.length_append, sb_length]; omega
    · have := sev_len10 (zig v.n); omega
  have hc : ∀ c ∈ l, (chgB c).length ≤ 1000000 := fun c hc => by
    obtain ⟨p, q, r⟩ := hd c hc
    have h1 := flat_bd valB 70000 c.row fun v hv' => hv v (r v hv').2
    have h2 : (sev (if c.del then 1 else 0)).length ≤ 10 := sev_len20 (by split <;> omega)
    have h3 := sev_len20 (n := c.rel.size) (by omega)
    have h4 := sev_len20 (n := c.row.length) (by omega)
    unfold chgB txtB rowB
    simp only [List.length_append, sb_length]
    omega
  have hall := flat_bd chgB 1000000 l hc
  refine ⟨⟨wrap_okI _, hw⟩, ⟨by simp only; omega, fun c hc => ?_, ?_⟩, ⟨by simp only; omega, fun c hc => ?_⟩⟩
  · obtain ⟨p, q, r⟩ := hd c hc
    exact ⟨by omega, by omega, fun v hv => by have := (r v hv).2; omega⟩
  · have h2 := sev_len10 (IntKind.i64.wrap (tNum (b, false)).1)
    have h3 := sev_len20 (n := l.length) (by omega)
    unfold bodyB chsB
    simp only [List.length_append]
    omega
  · obtain ⟨p, q, r⟩ := hd c hc
    refine ⟨by omega, fun v hv => ?_⟩
    have h0 := (r v hv).1
    obtain ⟨k, n, s, fs⟩ := v
    simp only [Val.fs] at h0
    subst h0
    simp [sizeV, sizeFs]
theorem le_nilE' (n : Int) : (AV.agg [.con (.int .i64 n), .con (.slice none 0 0)]).le (cE ⟨n, []⟩) :=
  AV.le_aggc rfl (lec_cons (.refl _) (lec_cons AV.le_nil lec_nil))
theorem c_BodyP (x : Ent) (H : Hp) (hw : WfE x) (hs : SmallE x) : PureAt Try.prog 38 [cE x] H (.list (encB (bodyB x)) none) :=
  acalls_weak (c_Body x H hw hs) fun r H' ⟨t, h1, h2, h3⟩ => ⟨.list (encB (bodyB x)) none, H, by rw [h2]; exact AV.le_list _ _, by rw [h3]; exact weak_tok h1.2 (.refl _), rfl, rfl⟩
abbrev ZB : List AV := [.con (.int .i64 0), .con (.slice none 0 0)]
theorem c_EntryOf (b : Byt) (H : Hp) (hl : b.length ≤ 65535) : PureAt Try.prog 16 [.list (encB b) none] H (.tup [cE (match eofM b with | some x => x | none => ⟨0, []⟩), .con (.int .i64 (if (eofM b).isSome then 0 else 3))]) := by
  have hn1 := tNum_len (b, false)
  have hn2 := tNum_len (tNum (b, false)).2
  simp only at hn1
  obtain ⟨hwf, hsm, hrg⟩ := tEnt_ok b hl
  have hEnt : tEnt b = (⟨IntKind.i64.wrap (tNum (b, false)).1, (tChs 51 (tNum (tNum (b, false)).2).1 (tNum (tNum (b, false)).2).2).1⟩, (tChs 51 (tNum (tNum (b, false)).2).1 (tNum (tNum (b, false)).2).2).2) := rfl
  have hml := tNum_lt (tNum (b, false)).2
  generalize hno : IntKind.i64.wrap (((tNum (b, false)).1 : Nat) : Int) = no at *
  generalize hmm : tNum (tNum (b, false)).2 = m at *
  refine acalls_of (by kernel_rfl) Try.func16 rfl 125 Try.ntmps16 (by simp) [.cell 2 27, .tmp 3] rfl ?_
  ((repeat' (first | (refine awp_seq_k (fun K hK => ?_)) | (refine awp_block ?_) | (refine awp_reg _ rfl ?_; (try simp only [go_sem, Nat.reduceLT, Nat.reduceEqDiff, Nat.reduceLeDiff, Nat.reduceAdd, Nat.reduceMul, Int.reduceToNat, Nat.reducePow, ↓reduceIte, reduceCtorEq, hno, hmm])) | (refine ACalls.det (c_tnumber (b, false) _ _ ?_ (by simp only; omega)) ?_; (focus ((simp only [go_sem, Nat.reduceLT, Nat.reduceEqDiff, Nat.reduceLeDiff, Nat.reduceAdd, Nat.reduceMul, Int.reduceToNat, Nat.reducePow, ↓reduceIte, reduceCtorEq]); done)); (try simp only [go_sem, Nat.reduceLT, Nat.reduceEqDiff, Nat.reduceLeDiff, Nat.reduceAdd, Nat.reduceMul, Int.reduceToNat, Nat.reducePow, ↓reduceIte, reduceCtorEq, hno, hmm])) | (refine ACalls.det (c_tnumber (tNum (b, false)).2 _ _ ?_ (by omega)) ?_; (focus ((simp only [go_sem, Nat.reduceLT, Nat.reduceEqDiff, Nat.reduceLeDiff, Nat.reduceAdd, Nat.reduceMul, Int.reduceToNat, Nat.reducePow, ↓reduceIte, reduceCtorEq]); done)); (try simp only [go_sem, Nat.reduceLT, Nat.reduceEqDiff, Nat.reduceLeDiff, Nat.reduceAdd, Nat.reduceMul, Int.reduceToNat, Nat.reducePow, ↓reduceIte, reduceCtorEq, hno, hmm])) | (refine orAt_l ?_) | (refine all_fresh fun id fr => ?_; (try have := NeI.of_fr fr); (try have := NeI.of_fr (fr_drop fr))) | (refine hK _ ?_; clear hK; (try clear K)))))
  rename_i b2 fb2 rd frd ne1 ne2
  rename Nat => x
  rename fresh _ _ => frx
  refine awp_nil 71 3 (fun t => ⟨125, [(0, .list (encB b) none), (2, .ptr b2 0), (4, .ptr rd 0), (5, .ptr x 0), (6, .con (.int .u64 (m.1 : Nat)))],
    ⟨(x, [.con (.int .i64 no), .list [] (some t)]) :: (rd, rdA m.2) :: (b2, ZB) :: H.bx, (t, 0, 71, 3) :: H.tk⟩⟩) (fun t => rfl) (fun t => by simp only [go_sem, Nat.reduceLT, Nat.reduceEqDiff, Nat.reduceLeDiff, Nat.reduceAdd, Nat.reduceMul, Int.reduceToNat, Nat.reducePow, ↓reduceIte, reduceCtorEq]) (fun t => by simp only [go_sem, Nat.reduceLT, Nat.reduceEqDiff, Nat.reduceLeDiff, Nat.reduceAdd, Nat.reduceMul, Int.reduceToNat, Nat.reducePow, ↓reduceIte, reduceCtorEq]) (fun t => rfl) (fun tx frt => ?_)
  have hK2 : ∀ s : St, St.le s ⟨125, [(0, .list (encB b) none), (2, .ptr b2 0), (4, .ptr rd 0), (5, .ptr x 0)], ⟨(x, [.con (.int .i64 no), .list (encCs (tChs 51 m.1 m.2).1) none]) :: (rd, rdA (tChs 51 m.1 m.2).2) :: (b2, ZB) :: H.bx, H.tk⟩⟩ → K s := by
    intro s hs
    refine hK _ (awp_weak _ hs ?_)
    clear hs hK
    generalize hq : tChs 51 m.1 m.2 = q at *
    obtain ⟨ch, rdr, bad⟩ := q
    refine awp_freezeTop rfl (by simp only [go_sem, Nat.reduceLT, Nat.reduceEqDiff, Nat.reduceLeDiff, Nat.reduceAdd, Nat.reduceMul, Int.reduceToNat, Nat.reducePow, ↓reduceIte, reduceCtorEq]; exact (fr_drop (fr_drop frx)).1) ⟨125, [(0, .list (encB b) none), (2, .ptr b2 0), (4, .ptr rd 0), (5, .ro [.con (.int .i64 no), .list (encCs ch) none])],
      ⟨(rd, rdA (rdr, bad)) :: (b2, ZB) :: H.bx, H.tk⟩⟩ rfl rfl (by simp only [go_sem, Nat.reduceLT, Nat.reduceEqDiff, Nat.reduceLeDiff, Nat.reduceAdd, Nat.reduceMul, Int.reduceToNat, Nat.reducePow, ↓reduceIte, reduceCtorEq]) ?_
    refine awp_freezeTop rfl (by simp only [go_sem, Nat.reduceLT, Nat.reduceEqDiff, Nat.reduceLeDiff, Nat.reduceAdd, Nat.reduceMul, Int.reduceToNat, Nat.reducePow, ↓reduceIte, reduceCtorEq]; exact (fr_drop frd).1) ⟨125, [(0, .list (encB b) none), (2, .ptr b2 0), (4, .ro (rdA (rdr, bad))), (5, .ro [.con (.int .i64 no), .list (encCs ch) none])],
      ⟨(b2, ZB) :: H.bx, H.tk⟩⟩ rfl rfl (by simp only [go_sem, Nat.reduceLT, Nat.reduceEqDiff, Nat.reduceLeDiff, Nat.reduceAdd, Nat.reduceMul, Int.reduceToNat, Nat.reducePow, ↓reduceIte, reduceCtorEq]) ?_
    have hE1 : tEnt b = (⟨no, ch⟩, (rdr, bad)) := hEnt
    rw [hE1] at hwf hsm hrg
    have heq : eofM b = if bad = false ∧ entE ⟨no, ch⟩ = 0 ∧ bodyB ⟨no, ch⟩ = b then some ⟨no, ch⟩ else none := by unfold eofM; rw [hE1]
    have hbl : (bodyB ⟨no, ch⟩).length ≤ 900000000 := hsm.all
    have hEF := fun H => c_EntryFault ⟨no, ch⟩ H hwf hsm hrg
    have hBd := fun H => c_BodyP ⟨no, ch⟩ H hwf hsm
    have hQ := fun H => c_EqualB (bodyB ⟨no, ch⟩) b H (by omega) (by omega)
    have hZ : (AV.agg [.con (.int .i64 0), .con (.slice none 0 0)]).le (cE ⟨0, []⟩) := le_nilE' 0
    cases bad with
    | true =>
      rw [if_neg (by simp)] at heq
      rw [heq]
      ((repeat' (first | (refine awp_seq_k (fun K hK => ?_)) | (refine awp_reg _ rfl ?_; (try simp only [go_sem, Nat.reduceLT, Nat.reduceEqDiff, Nat.reduceLeDiff, Nat.reduceAdd, Nat.reduceMul, Int.reduceToNat, Nat.reducePow, ↓reduceIte, reduceCtorEq, decide_true, decide_false, not_true_eq_false, not_false_eq_true, Bool.not_true, Bool.not_false, Bool.true_or, Bool.false_or, Bool.or_true, Bool.or_false, Bool.false_and, Bool.and_false, bne_self_eq_false, beq_self_eq_true, true_implies])) | (refine awp_cond _ rfl (fun hc => ?_) (fun hc => ?_) <;> (try (simp only [decide_eq_true_eq, decide_eq_false_iff_not, Bool.or_eq_true, Bool.and_eq_true, Bool.not_eq_true', Bool.not_eq_false', Bool.or_eq_false_iff, Bool.and_eq_false_imp, Bool.not_eq_false, Bool.not_eq_true, Bool.not_true, Bool.not_false, Bool.true_eq_false, Bool.false_eq_true, not_true_eq_false, Decidable.not_not, ite_or, ite_and] at hc))) | (refine awp_ret ?_; (try simp only [sq, bk, ↓reduceIte, Nat.reduceEqDiff, reduceCtorEq])) | (refine ⟨AV.any, fun hg => False.elim hg, ?_⟩; (try simp only [go_sem, Nat.reduceLT, Nat.reduceEqDiff, Nat.reduceLeDiff, Nat.reduceAdd, Nat.reduceMul, Int.reduceToNat, Nat.reducePow, ↓reduceIte, reduceCtorEq, decide_true, decide_false, not_true_eq_false, not_false_eq_true, Bool.not_true, Bool.not_false, Bool.true_or, Bool.false_or, Bool.or_true, Bool.or_false, Bool.false_and, Bool.and_false, bne_self_eq_false, beq_self_eq_true, true_implies])) | (refine hK _ ?_; clear hK; (try clear K)))))
      refine fin_le (.tup [cE ⟨0, []⟩, .con (.int .i64 3)]) H ?_ ?_ ?_ ⟨rfl, rfl⟩
      · simp only [List.mem_cons, List.not_mem_nil, or_false, forall_eq_or_imp, forall_eq, resOk]
        simp only [go_sem, Nat.reduceLT, Nat.reduceEqDiff, Nat.reduceLeDiff, Nat.reduceAdd, Nat.reduceMul, Int.reduceToNat, Nat.reducePow, ↓reduceIte, reduceCtorEq]
      · simp only [go_sem, Nat.reduceLT, Nat.reduceEqDiff, Nat.reduceLeDiff, Nat.reduceAdd, Nat.reduceMul, Int.reduceToNat, Nat.reducePow, ↓reduceIte, reduceCtorEq]
        exact AV.le_tupc rfl (lec_cons hZ (lec_cons (.refl _) lec_nil))
      · ((try dsimp only); repeat' (first | with_reducible exact .refl _ | exact box_fresh (by assumption) | refine weak_box ?_ ?_))
    | false =>
      by_cases he : entE ⟨no, ch⟩ = 0
      · have heT : (entE ⟨no, ch⟩ = 0) = True := eq_true he
        by_cases hbb : bodyB ⟨no, ch⟩ = b
        · rw [if_pos ⟨rfl, he, hbb⟩] at heq
          rw [heq]
          rw [hbb] at hBd hQ
          simp only [decide_true] at hQ
          ((repeat' (first | (refine awp_seq_k (fun K hK => ?_)) | (refine awp_reg _ rfl ?_; (try simp only [go_sem, Nat.reduceLT, Nat.reduceEqDiff, Nat.reduceLeDiff, Nat.reduceAdd, Nat.reduceMul, Int.reduceToNat, Nat.reducePow, ↓reduceIte, reduceCtorEq, heT, decide_true, decide_false, not_true_eq_false, not_false_eq_true, Bool.not_true, Bool.not_false, Bool.true_or, Bool.false_or, Bool.or_true, Bool.or_false, Bool.false_and, Bool.and_false, bne_self_eq_false, beq_self_eq_true, true_implies])) | (refine awp_cond _ rfl (fun hc => ?_) (fun hc => ?_) <;> (try (simp only [decide_eq_true_eq, decide_eq_false_iff_not, Bool.or_eq_true, Bool.and_eq_true, Bool.not_eq_true', Bool.not_eq_false', Bool.or_eq_false_iff, Bool.and_eq_false_imp, Bool.not_eq_false, Bool.not_eq_true, Bool.not_true, Bool.not_false, Bool.true_eq_false, Bool.false_eq_true, not_true_eq_false, Decidable.not_not, ite_or, ite_and] at hc))) | (refine awp_skip ?_; (try simp only [sq, bk, ↓reduceIte, Nat.reduceEqDiff, reduceCtorEq])) | (refine awp_ret ?_; (try simp only [sq, bk, ↓reduceIte, Nat.reduceEqDiff, reduceCtorEq])) | (refine ⟨_, hEF _, ?_⟩ <;> (try simp only [go_sem, Nat.reduceLT, Nat.reduceEqDiff, Nat.reduceLeDiff, Nat.reduceAdd, Nat.reduceMul, Int.reduceToNat, Nat.reducePow, ↓reduceIte, reduceCtorEq, heT, decide_true, decide_false, not_true_eq_false, not_false_eq_true, Bool.not_true, Bool.not_false, Bool.true_or, Bool.false_or, Bool.or_true, Bool.or_false, Bool.false_and, Bool.and_false, bne_self_eq_false, beq_self_eq_true, true_implies])) | (refine ⟨_, hBd _, ?_⟩) | (refine ⟨_, hQ _, ?_⟩ <;> (try simp only [go_sem, Nat.reduceLT, Nat.reduceEqDiff, Nat.reduceLeDiff, Nat.reduceAdd, Nat.reduceMul, Int.reduceToNat, Nat.reducePow, ↓reduceIte, reduceCtorEq, heT, decide_true, decide_false, not_true_eq_false, not_false_eq_true, Bool.not_true, Bool.not_false, Bool.true_or, Bool.false_or, Bool.or_true, Bool.or_false, Bool.false_and, Bool.and_false, bne_self_eq_false, beq_self_eq_true, true_implies])) | (refine hK _ ?_; clear hK; (try clear K)))))
          refine fin_le (.tup [cE ⟨no, ch⟩, .con (.int .i64 0)]) H ?_ ?_ ?_ ⟨rfl, rfl⟩
          · simp only [List.mem_cons, List.not_mem_nil, or_false, forall_eq_or_imp, forall_eq, resOk]
            simp only [go_sem, Nat.reduceLT, Nat.reduceEqDiff, Nat.reduceLeDiff, Nat.reduceAdd, Nat.reduceMul, Int.reduceToNat, Nat.reducePow, ↓reduceIte, reduceCtorEq]
          · simp only [go_sem, Nat.reduceLT, Nat.reduceEqDiff, Nat.reduceLeDiff, Nat.reduceAdd, Nat.reduceMul, Int.reduceToNat, Nat.reducePow, ↓reduceIte, reduceCtorEq]
            (repeat' (first | exact .refl _ | exact AV.le_nil | exact AV.le_list _ _ | exact AV.le_any _ | exact lec_nil | refine AV.le_aggc rfl ?_ | refine AV.le_tupc rfl ?_ | refine lec_cons ?_ ?_))
          · ((try dsimp only); repeat' (first | with_reducible exact .refl _ | exact box_fresh (by assumption) | refine weak_box ?_ ?_))
        · rw [if_neg (fun h => hbb h.2.2)] at heq
          rw [heq]
          have hbF : decide (bodyB ⟨no, ch⟩ = b) = false := by simp [hbb]
          rw [hbF] at hQ
          ((repeat' (first | (refine awp_seq_k (fun K hK => ?_)) | (refine awp_reg _ rfl ?_; (try simp only [go_sem, Nat.reduceLT, Nat.reduceEqDiff, Nat.reduceLeDiff, Nat.reduceAdd, Nat.reduceMul, Int.reduceToNat, Nat.reducePow, ↓reduceIte, reduceCtorEq, heT, decide_true, decide_false, not_true_eq_false, not_false_eq_true, Bool.not_true, Bool.not_false, Bool.true_or, Bool.false_or, Bool.or_true, Bool.or_false, Bool.false_and, Bool.and_false, bne_self_eq_false, beq_self_eq_true, true_implies])) | (refine awp_cond _ rfl (fun hc => ?_) (fun hc => ?_) <;> (try (simp only [decide_eq_true_eq, decide_eq_false_iff_not, Bool.or_eq_true, Bool.and_eq_true, Bool.not_eq_true', Bool.not_eq_false', Bool.or_eq_false_iff, Bool.and_eq_false_imp, Bool.not_eq_false, Bool.not_eq_true, Bool.not_true, Bool.not_false, Bool.true_eq_false, Bool.false_eq_true, not_true_eq_false, Decidable.not_not, ite_or, ite_and] at hc))) | (refine awp_ret ?_; (try simp only [sq, bk, ↓reduceIte, Nat.reduceEqDiff, reduceCtorEq])) | (refine ⟨_, hEF _, ?_⟩ <;> (try simp only [go_sem, Nat.reduceLT, Nat.reduceEqDiff, Nat.reduceLeDiff, Nat.reduceAdd, Nat.reduceMul, Int.reduceToNat, Nat.reducePow, ↓reduceIte, reduceCtorEq, heT, decide_true, decide_false, not_true_eq_false, not_false_eq_true, Bool.not_true, Bool.not_false, Bool.true_or, Bool.false_or, Bool.or_true, Bool.or_false, Bool.false_and, Bool.and_false, bne_self_eq_false, beq_self_eq_true, true_implies])) | (refine ⟨_, hBd _, ?_⟩) | (refine ⟨_, hQ _, ?_⟩ <;> (try simp only [go_sem, Nat.reduceLT, Nat.reduceEqDiff, Nat.reduceLeDiff, Nat.reduceAdd, Nat.reduceMul, Int.reduceToNat, Nat.reducePow, ↓reduceIte, reduceCtorEq, heT, decide_true, decide_false, not_true_eq_false, not_false_eq_true, Bool.not_true, Bool.not_false, Bool.true_or, Bool.false_or, Bool.or_true, Bool.or_false, Bool.false_and, Bool.and_false, bne_self_eq_false, beq_self_eq_true, true_implies])) | (refine hK _ ?_; clear hK; (try clear K)))))
          refine fin_le (.tup [cE ⟨0, []⟩, .con (.int .i64 3)]) H ?_ ?_ ?_ ⟨rfl, rfl⟩
          · simp only [List.mem_cons, List.not_mem_nil, or_false, forall_eq_or_imp, forall_eq, resOk]
            simp only [go_sem, Nat.reduceLT, Nat.reduceEqDiff, Nat.reduceLeDiff, Nat.reduceAdd, Nat.reduceMul, Int.reduceToNat, Nat.reducePow, ↓reduceIte, reduceCtorEq]
          · simp only [go_sem, Nat.reduceLT, Nat.reduceEqDiff, Nat.reduceLeDiff, Nat.reduceAdd, Nat.reduceMul, Int.reduceToNat, Nat.reducePow, ↓reduceIte, reduceCtorEq]
            exact AV.le_tupc rfl (lec_cons hZ (lec_cons (.refl _) lec_nil))
          · ((try dsimp only); repeat' (first | with_reducible exact .refl _ | exact box_fresh (by assumption) | refine weak_box ?_ ?_))
      · have heF : (entE ⟨no, ch⟩ = 0) = False := eq_false he
        rw [if_neg (fun h => he h.2.1)] at heq
        rw [heq]
        ((repeat' (first | (refine awp_seq_k (fun K hK => ?_)) | (refine awp_reg _ rfl ?_; (try simp only [go_sem, Nat.reduceLT, Nat.reduceEqDiff, Nat.reduceLeDiff, Nat.reduceAdd, Nat.reduceMul, Int.reduceToNat, Nat.reducePow, ↓reduceIte, reduceCtorEq, heF, decide_true, decide_false, not_true_eq_false, not_false_eq_true, Bool.not_true, Bool.not_false, Bool.true_or, Bool.false_or, Bool.or_true, Bool.or_false, Bool.false_and, Bool.and_false, bne_self_eq_false, beq_self_eq_true, true_implies])) | (refine awp_cond _ rfl (fun hc => ?_) (fun hc => ?_) <;> (try (simp only [decide_eq_true_eq, decide_eq_false_iff_not, Bool.or_eq_true, Bool.and_eq_true, Bool.not_eq_true', Bool.not_eq_false', Bool.or_eq_false_iff, Bool.and_eq_false_imp, Bool.not_eq_false, Bool.not_eq_true, Bool.not_true, Bool.not_false, Bool.true_eq_false, Bool.false_eq_true, not_true_eq_false, Decidable.not_not, ite_or, ite_and] at hc))) | (refine awp_ret ?_; (try simp only [sq, bk, ↓reduceIte, Nat.reduceEqDiff, reduceCtorEq])) | (refine ⟨_, fun hg => ⟨?_, hBd _⟩, ?_⟩) | (refine ⟨_, fun hg => ⟨?_, hQ _⟩, ?_⟩ <;> (try simp only [go_sem, Nat.reduceLT, Nat.reduceEqDiff, Nat.reduceLeDiff, Nat.reduceAdd, Nat.reduceMul, Int.reduceToNat, Nat.reducePow, ↓reduceIte, reduceCtorEq, heF, decide_true, decide_false, not_true_eq_false, not_false_eq_true, Bool.not_true, Bool.not_false, Bool.true_or, Bool.false_or, Bool.or_true, Bool.or_false, Bool.false_and, Bool.and_false, bne_self_eq_false, beq_self_eq_true, true_implies])) | (refine ⟨_, hEF _, ?_⟩ <;> (try simp only [go_sem, Nat.reduceLT, Nat.reduceEqDiff, Nat.reduceLeDiff, Nat.reduceAdd, Nat.reduceMul, Int.reduceToNat, Nat.reducePow, ↓reduceIte, reduceCtorEq, heF, decide_true, decide_false, not_true_eq_false, not_false_eq_true, Bool.not_true, Bool.not_false, Bool.true_or, Bool.false_or, Bool.or_true, Bool.or_false, Bool.false_and, Bool.and_false, bne_self_eq_false, beq_self_eq_true, true_implies])) | (refine hK _ ?_; clear hK; (try clear K)))); (all_goals (try ((omega)))))
        refine fin_le (.tup [cE ⟨0, []⟩, .con (.int .i64 3)]) H ?_ ?_ ?_ ⟨rfl, rfl⟩
        · simp only [List.mem_cons, List.not_mem_nil, or_false, forall_eq_or_imp, forall_eq, resOk]
          simp only [go_sem, Nat.reduceLT, Nat.reduceEqDiff, Nat.reduceLeDiff, Nat.reduceAdd, Nat.reduceMul, Int.reduceToNat, Nat.reducePow, ↓reduceIte, reduceCtorEq]
        · simp only [go_sem, Nat.reduceLT, Nat.reduceEqDiff, Nat.reduceLeDiff, Nat.reduceAdd, Nat.reduceMul, Int.reduceToNat, Nat.reducePow, ↓reduceIte, reduceCtorEq]
          exact AV.le_tupc rfl (lec_cons hZ (lec_cons (.refl _) lec_nil))
        · ((try dsimp only); repeat' (first | with_reducible exact .refl _ | exact box_fresh (by assumption) | refine weak_box ?_ ?_))
  clear hK
  refine awp_loop (ι := List Chg × Nat × Rd) (fun i => ⟨125, [(0, .list (encB b) none), (2, .ptr b2 0), (4, .ptr rd 0), (5, .ptr x 0), (6, .con (.int .u64 (i.2.1 : Nat)))],
    ⟨(x, [.con (.int .i64 no), .list (encCs i.1) (some tx)]) :: (rd, rdA i.2.2) :: (b2, ZB) :: H.bx, (tx, i.1.length, 71, 3) :: H.tk⟩⟩)
    (fun i => i.1.length ≤ 51 ∧ i.2.1 < 18446744073709551616 ∧ i.2.2.1.length ≤ b.length ∧ tChs 51 m.1 m.2 = (i.1 ++ (tChs (51 - i.1.length) i.2.1 i.2.2).1, (tChs (51 - i.1.length) i.2.1 i.2.2).2)) (fun i => 51 - i.1.length) ([], m.1, m.2) ⟨by simp, hml, by simp only; omega, by simp⟩ ?_ ?_
  · (refine st_le rfl ?_ (by ((try dsimp only); (try simp only [encCs, List.map_nil,  List.length_append, List.length_cons, List.length_nil, Nat.zero_add]); repeat' (((refine weak_tokeq (by (rfl))))))); (try simp only [go_sem, Nat.reduceLT, Nat.reduceEqDiff, Nat.reduceLeDiff, Nat.reduceAdd, Nat.reduceMul, Int.reduceToNat, Nat.reducePow, ↓reduceIte, reduceCtorEq, encCs, List.map_nil]))
  intro ⟨acc, n, s⟩ ⟨hal, hnl, hsl, hr⟩
  simp only at hal hnl hsl hr
  have done : tChs (51 - acc.length) n s = ([], s) → tChs 51 m.1 m.2 = (acc, s) := fun h => by rw [hr, h]; simp
  rcases Nat.eq_zero_or_pos n with hn0 | hn0
  · subst hn0
    have hd := done (by cases 51 - acc.length <;> rfl)
    have hz : ((0 : Int) < ((0 : Nat) : Int)) = False := eq_false (by omega)
    ((repeat' (first | (refine awp_seq_k (fun K hK => ?_)) | (refine awp_reg _ rfl ?_; (try simp only [go_sem, Nat.reduceLT, Nat.reduceEqDiff, Nat.reduceLeDiff, Nat.reduceAdd, Nat.reduceMul, Int.reduceToNat, Nat.reducePow, ↓reduceIte, reduceCtorEq, hz, decide_true, decide_false, not_true_eq_false, not_false_eq_true, Bool.not_true, Bool.not_false, Bool.true_or, Bool.false_or, Bool.or_true, Bool.or_false, Bool.false_and, Bool.and_false, bne_self_eq_false, beq_self_eq_true, true_implies])) | (refine awp_cond _ rfl (fun hc => ?_) (fun hc => ?_) <;> (try (simp only [decide_eq_true_eq, decide_eq_false_iff_not, Bool.or_eq_true, Bool.and_eq_true, Bool.not_eq_true', Bool.not_eq_false', Bool.or_eq_false_iff, Bool.and_eq_false_imp, Bool.not_eq_false, Bool.not_eq_true, Bool.not_true, Bool.not_false, Bool.true_eq_false, Bool.false_eq_true, not_true_eq_false, Decidable.not_not, ite_or, ite_and] at hc)) <;> (try (exfalso; omega))) | (refine awp_exit ?_; (try simp only [sq, bk, ↓reduceIte, Nat.reduceEqDiff, reduceCtorEq])) | (refine hK _ ?_; clear hK; (try clear K)))))
    refine hK2 _ ?_
    rw [hd]
    (refine st_le rfl ?_ (by ((try dsimp only); repeat' (first | with_reducible exact .refl _ | exact tok_fr (by assumption) | refine weak_boxle (by (repeat' (first | exact lec_nil | exact .refl _ | exact AV.le_list _ _ | refine lec_cons ?_ ?_))) ?_ | refine weak_tok ?_ ?_))); (try simp only [go_sem, Nat.reduceLT, Nat.reduceEqDiff, Nat.reduceLeDiff, Nat.reduceAdd, Nat.reduceMul, Int.reduceToNat, Nat.reducePow, ↓reduceIte, reduceCtorEq]))
  have hz : ((0 : Int) < (n : Int)) = True := eq_true (by omega)
  obtain ⟨sb_, bad⟩ := s
  simp only at hsl
  cases bad with
  | true =>
    have hd := done (by
      cases hq : 51 - acc.length with
      | zero => rfl
      | succ k => cases n with
        | zero => rfl
        | succ n => rw [tChs, if_pos rfl])
    ((repeat' (first | (refine awp_seq_k (fun K hK => ?_)) | (refine awp_reg _ rfl ?_; (try simp only [go_sem, Nat.reduceLT, Nat.reduceEqDiff, Nat.reduceLeDiff, Nat.reduceAdd, Nat.reduceMul, Int.reduceToNat, Nat.reducePow, ↓reduceIte, reduceCtorEq, hz, decide_true, decide_false, not_true_eq_false, not_false_eq_true, Bool.not_true, Bool.not_false, Bool.true_or, Bool.false_or, Bool.or_true, Bool.or_false, Bool.false_and, Bool.and_false, bne_self_eq_false, beq_self_eq_true, true_implies])) | (refine awp_cond _ rfl (fun hc => ?_) (fun hc => ?_) <;> (try (simp only [decide_eq_true_eq, decide_eq_false_iff_not, Bool.or_eq_true, Bool.and_eq_true, Bool.not_eq_true', Bool.not_eq_false', Bool.or_eq_false_iff, Bool.and_eq_false_imp, Bool.not_eq_false, Bool.not_eq_true, Bool.not_true, Bool.not_false, Bool.true_eq_false, Bool.false_eq_true, not_true_eq_false, Decidable.not_not, ite_or, ite_and] at hc))) | (refine awp_exit ?_; (try simp only [sq, bk, ↓reduceIte, Nat.reduceEqDiff, reduceCtorEq])) | (refine hK _ ?_; clear hK; (try clear K)))))
    refine hK2 _ ?_
    rw [hd]
    (refine st_le rfl ?_ (by ((try dsimp only); repeat' (first | with_reducible exact .refl _ | exact tok_fr (by assumption) | refine weak_boxle (by (repeat' (first | exact lec_nil | exact .refl _ | exact AV.le_list _ _ | refine lec_cons ?_ ?_))) ?_ | refine weak_tok ?_ ?_))); (try simp only [go_sem, Nat.reduceLT, Nat.reduceEqDiff, Nat.reduceLeDiff, Nat.reduceAdd, Nat.reduceMul, Int.reduceToNat, Nat.reducePow, ↓reduceIte, reduceCtorEq]))
  | false =>
    rcases Nat.lt_or_ge acc.length 51 with ha | ha
    · have hac : (((encCs acc).length : Int) ≤ 50) = True := eq_true (by simp only [encCs, List.length_map]; omega)
      obtain ⟨n, rfl⟩ : ∃ k, n = k + 1 := ⟨n - 1, by omega⟩
      have hst : tChs (51 - acc.length) (n + 1) (sb_, false) = ((tChg (sb_, false)).1 :: (tChs (51 - (acc.length + 1)) n (tChg (sb_, false)).2).1, (tChs (51 - (acc.length + 1)) n (tChg (sb_, false)).2).2) := by
        rw [show 51 - acc.length = (51 - (acc.length + 1)) + 1 by omega, tChs, if_neg (by simp)]
      rw [hst] at hr
      have q0 := (tChg_bd (sb_, false)).1
      have q1 := tNum_len (sb_, false)
      have q2 := tNum_len (tNum (sb_, false)).2
      have q3 := tSome_len (tNum (tNum (sb_, false)).2).1 (tNum (tNum (sb_, false)).2).2
      have q4 := tNum_len (tSome (tNum (tNum (sb_, false)).2).1 (tNum (tNum (sb_, false)).2).2).2
      have r4 := tNum_lt (tSome (tNum (tNum (sb_, false)).2).1 (tNum (tNum (sb_, false)).2).2).2
      have r2 := tNum_lt (tNum (sb_, false)).2
      have hcg : tChg (sb_, false) = (⟨bs (tSome (tNum (tNum (sb_, false)).2).1 (tNum (tNum (sb_, false)).2).2).1, decide ((tNum (sb_, false)).1 = 1), (tRow 13 (tNum (tSome (tNum (tNum (sb_, false)).2).1 (tNum (tNum (sb_, false)).2).2).2).1 (tNum (tSome (tNum (tNum (sb_, false)).2).1 (tNum (tNum (sb_, false)).2).2).2).2).1⟩, (tRow 13 (tNum (tSome (tNum (tNum (sb_, false)).2).1 (tNum (tNum (sb_, false)).2).2).2).1 (tNum (tSome (tNum (tNum (sb_, false)).2).1 (tNum (tNum (sb_, false)).2).2).2).2).2) := rfl
      have k1 := fun H h => c_tnumber (sb_, false) rd H h (by simp only; omega)
      have k2 := fun H h => c_tnumber (tNum (sb_, false)).2 rd H h (by simp only at q1; omega)
      have k3 := fun H h => c_tsome (tNum (tNum (sb_, false)).2).1 (tNum (tNum (sb_, false)).2).2 rd H h (by simp only at q1; omega) r2
      have k4 := fun H h => c_tnumber (tSome (tNum (tNum (sb_, false)).2).1 (tNum (tNum (sb_, false)).2).2).2 rd H h (by simp only at q1; omega)
      generalize tNum (sb_, false) = o at *
      generalize tNum o.2 = l at *
      generalize tSome l.1 l.2 = tx2 at *
      generalize tNum tx2.2 = m3 at *
      have hz1 : decide (((o.1 : Nat) : Int) = 1) = decide (o.1 = 1) := by rw [decide_eq_decide]; omega
      ((repeat' (first | (refine awp_seq_k (fun K hK => ?_)) | (refine awp_block ?_) | (refine awp_reg _ rfl ?_; (try simp only [go_sem, Nat.reduceLT, Nat.reduceEqDiff, Nat.reduceLeDiff, Nat.reduceAdd, Nat.reduceMul, Int.reduceToNat, Nat.reducePow, ↓reduceIte, reduceCtorEq, hz, hac, hz1, decide_true, decide_false, not_true_eq_false, not_false_eq_true, Bool.not_true, Bool.not_false, Bool.true_or, Bool.false_or, Bool.or_true, Bool.or_false, Bool.false_and, Bool.and_false, bne_self_eq_false, beq_self_eq_true, true_implies])) | (refine awp_condT rfl (by (first | rfl | (simp only [decide_eq_true_eq, decide_eq_false_iff_not, Bool.or_eq_true, Bool.and_eq_true, Bool.not_eq_true', Bool.not_eq_false', Bool.or_eq_false_iff, Bool.and_eq_false_imp, Bool.not_true, Bool.not_false, Bool.true_eq_false, Bool.false_eq_true, not_true_eq_false, Decidable.not_not, ite_or, ite_and, hz, hac, hz1, decide_true, decide_false, not_true_eq_false, not_false_eq_true, Bool.not_true, Bool.not_false, Bool.true_or, Bool.false_or, Bool.or_true, Bool.or_false, Bool.false_and, Bool.and_false, bne_self_eq_false, beq_self_eq_true, true_implies]; omega))) ?_) | (refine awp_skip ?_; (try simp only [sq, bk, ↓reduceIte, Nat.reduceEqDiff, reduceCtorEq])) | (refine ACalls.det (k1 _ ?_) ?_; (focus ((simp only [go_sem, Nat.reduceLT, Nat.reduceEqDiff, Nat.reduceLeDiff, Nat.reduceAdd, Nat.reduceMul, Int.reduceToNat, Nat.reducePow, ↓reduceIte, reduceCtorEq]); done)); (try simp only [go_sem, Nat.reduceLT, Nat.reduceEqDiff, Nat.reduceLeDiff, Nat.reduceAdd, Nat.reduceMul, Int.reduceToNat, Nat.reducePow, ↓reduceIte, reduceCtorEq, hz, hac, hz1, decide_true, decide_false, not_true_eq_false, not_false_eq_true, Bool.not_true, Bool.not_false, Bool.true_or, Bool.false_or, Bool.or_true, Bool.or_false, Bool.false_and, Bool.and_false, bne_self_eq_false, beq_self_eq_true, true_implies])) | (refine ACalls.det (k2 _ ?_) ?_; (focus ((simp only [go_sem, Nat.reduceLT, Nat.reduceEqDiff, Nat.reduceLeDiff, Nat.reduceAdd, Nat.reduceMul, Int.reduceToNat, Nat.reducePow, ↓reduceIte, reduceCtorEq]); done)); (try simp only [go_sem, Nat.reduceLT, Nat.reduceEqDiff, Nat.reduceLeDiff, Nat.reduceAdd, Nat.reduceMul, Int.reduceToNat, Nat.reducePow, ↓reduceIte, reduceCtorEq, hz, hac, hz1, decide_true, decide_false, not_true_eq_false, not_false_eq_true, Bool.not_true, Bool.not_false, Bool.true_or, Bool.false_or, Bool.or_true, Bool.or_false, Bool.false_and, Bool.and_false, bne_self_eq_false, beq_self_eq_true, true_implies])) | (refine ACalls.det (k3 _ ?_) ?_; (focus ((simp only [go_sem, Nat.reduceLT, Nat.reduceEqDiff, Nat.reduceLeDiff, Nat.reduceAdd, Nat.reduceMul, Int.reduceToNat, Nat.reducePow, ↓reduceIte, reduceCtorEq]); done)); (try simp only [go_sem, Nat.reduceLT, Nat.reduceEqDiff, Nat.reduceLeDiff, Nat.reduceAdd, Nat.reduceMul, Int.reduceToNat, Nat.reducePow, ↓reduceIte, reduceCtorEq, hz, hac, hz1, decide_true, decide_false, not_true_eq_false, not_false_eq_true, Bool.not_true, Bool.not_false, Bool.true_or, Bool.false_or, Bool.or_true, Bool.or_false, Bool.false_and, Bool.and_false, bne_self_eq_false, beq_self_eq_true, true_implies])) | (refine ACalls.det (k4 _ ?_) ?_; (focus ((simp only [go_sem, Nat.reduceLT, Nat.reduceEqDiff, Nat.reduceLeDiff, Nat.reduceAdd, Nat.reduceMul, Int.reduceToNat, Nat.reducePow, ↓reduceIte, reduceCtorEq]); done)); (try simp only [go_sem, Nat.reduceLT, Nat.reduceEqDiff, Nat.reduceLeDiff, Nat.reduceAdd, Nat.reduceMul, Int.reduceToNat, Nat.reducePow, ↓reduceIte, reduceCtorEq, hz, hac, hz1, decide_true, decide_false, not_true_eq_false, not_false_eq_true, Bool.not_true, Bool.not_false, Bool.true_or, Bool.false_or, Bool.or_true, Bool.or_false, Bool.false_and, Bool.and_false, bne_self_eq_false, beq_self_eq_true, true_implies])) | (refine orAt_l ?_) | (refine all_fresh fun id fr => ?_; (try have := NeI.of_fr fr); (try have := NeI.of_frt fr); (try have := NeI.of_fr (fr_drop fr)); (try have := NeI.of_frt (fr_drop fr)); (try have := NeI.of_fr (fr_drop (fr_drop fr))); (try have := NeI.of_frt (fr_drop (fr_drop fr))); (try have := NeI.of_frt (fr_drop (fr_drop (fr_drop fr)))); (try have := NeI.of_fr (fr_dropt fr)); (try have := NeI.of_fr (fr_drop (fr_dropt fr))); (try have := NeI.of_fr (fr_drop (fr_drop (fr_dropt fr))))) | (refine hK _ ?_; clear hK; (try clear K)))))
      rename Nat => c
      rename fresh _ _ => frc
      generalize hrel : bs tx2.1 = rel at *
      generalize hdel : decide (o.1 = 1) = del at *
      refine awp_nil 50 4 (fun t => ⟨125, [(0, .list (encB b) none), (2, .ptr b2 0), (4, .ptr rd 0), (5, .ptr x 0), (6, .con (.int .u64 ((n + 1 : Nat) : Int))), (7, .ptr c 0), (8, .con (.int .u64 (m3.1 : Nat)))],
        ⟨(c, [.con (.string rel), .con (.bool del), .list [] (some t)]) :: (x, [.con (.int .i64 no), .list (encCs acc) (some tx)]) :: (rd, rdA m3.2) :: (b2, ZB) :: H.bx, (t, 0, 50, 4) :: (tx, acc.length, 71, 3) :: H.tk⟩⟩) (fun t => rfl) (fun t => by simp only [go_sem, Nat.reduceLT, Nat.reduceEqDiff, Nat.reduceLeDiff, Nat.reduceAdd, Nat.reduceMul, Int.reduceToNat, Nat.reducePow, ↓reduceIte, reduceCtorEq]) (fun t => by simp only [go_sem, Nat.reduceLT, Nat.reduceEqDiff, Nat.reduceLeDiff, Nat.reduceAdd, Nat.reduceMul, Int.reduceToNat, Nat.reducePow, ↓reduceIte, reduceCtorEq]) (fun t => rfl) (fun tc frtc => ?_)
      have ntc := NeI.of_frt frtc
      have hK3 : ∀ s : St, St.le s ⟨125, [(0, .list (encB b) none), (2, .ptr b2 0), (4, .ptr rd 0), (5, .ptr x 0), (6, .con (.int .u64 ((n + 1 : Nat) : Int))), (7, .ptr c 0)],
          ⟨(c, [.con (.string rel), .con (.bool del), .list (encVs (tRow 13 m3.1 m3.2).1) none]) :: (x, [.con (.int .i64 no), .list (encCs acc) (some tx)]) :: (rd, rdA (tRow 13 m3.1 m3.2).2) :: (b2, ZB) :: H.bx, (tx, acc.length, 71, 3) :: H.tk⟩⟩ → K s := by
        intro s hs
        refine hK _ (awp_weak _ hs ?_)
        clear hs hK
        have hsub : IntKind.u64.wrap (((n + 1 : Nat) : Int) - 1) = (n : Int) := by rw [show ((n + 1 : Nat) : Int) - 1 = (n : Int) by omega]; exact u64_nat (by omega)
        generalize tRow 13 m3.1 m3.2 = w at *
        ((repeat' (first | (refine awp_reg _ rfl ?_; (try simp only [go_sem, Nat.reduceLT, Nat.reduceEqDiff, Nat.reduceLeDiff, Nat.reduceAdd, Nat.reduceMul, Int.reduceToNat, Nat.reducePow, ↓reduceIte, reduceCtorEq, hsub])) | (refine orAt_l ?_) | (with_reducible apply And.intro) | (refine hK _ ?_; clear hK; (try clear K)))); (all_goals (try (first | omega | decide | (simp only [List.mem_singleton, List.mem_cons, List.not_mem_nil, or_false, forall_eq_or_imp, forall_eq, AV.cells, List.length_cons, List.length_nil, and_self, Nat.reduceAdd]; done)))))
        refine ⟨(acc ++ [⟨rel, del, w.1⟩], n, w.2), by simp only [List.length_append, List.length_singleton]; omega, ⟨by simp only [List.length_append, List.length_singleton]; omega, by simp only; omega, by rw [hcg] at q0; simp only at q0 ⊢; omega, ?_⟩, ?_⟩
        · rw [hr, hcg]
          simp only [List.length_append, List.length_singleton, List.append_assoc, List.cons_append, List.nil_append]
        · (refine st_le rfl ?_ (by ((try dsimp only); (try simp only [encCs_append, encCs_one,  List.length_append, List.length_cons, List.length_nil, Nat.zero_add]); repeat' (first | (refine weak_tokc (by (rfl)) ?_) | with_reducible exact .refl _ | ((simp only [box_cons, ne_inst, ne_inst', ↓reduceIte, if_false]); ((exact box_fr (fr_drop (fr_drop (fr_drop (by assumption))))))) | refine weak_box ?_ ?_))); (try simp only [go_sem, Nat.reduceLT, Nat.reduceEqDiff, Nat.reduceLeDiff, Nat.reduceAdd, Nat.reduceMul, Int.reduceToNat, Nat.reducePow, ↓reduceIte, reduceCtorEq, encCs_append, encCs_one]))
      clear hK
      refine awp_loop (ι := List Val × Nat × Rd) (fun i => ⟨125, [(0, .list (encB b) none), (2, .ptr b2 0), (4, .ptr rd 0), (5, .ptr x 0), (6, .con (.int .u64 ((n + 1 : Nat) : Int))), (7, .ptr c 0), (8, .con (.int .u64 (i.2.1 : Nat)))],
        ⟨(c, [.con (.string rel), .con (.bool del), .list (encVs i.1) (some tc)]) :: (x, [.con (.int .i64 no), .list (encCs acc) (some tx)]) :: (rd, rdA i.2.2) :: (b2, ZB) :: H.bx, (tc, i.1.length, 50, 4) :: (tx, acc.length, 71, 3) :: H.tk⟩⟩)
        (fun i => i.1.length ≤ 13 ∧ i.2.1 < 18446744073709551616 ∧ i.2.2.1.length ≤ b.length ∧ tRow 13 m3.1 m3.2 = (i.1 ++ (tRow (13 - i.1.length) i.2.1 i.2.2).1, (tRow (13 - i.1.length) i.2.1 i.2.2).2)) (fun i => 13 - i.1.length) ([], m3.1, m3.2) ⟨by simp, r4, by simp only at q1 ⊢; omega, by simp⟩ ?_ ?_
      · (refine st_le rfl ?_ (by ((try dsimp only); (try simp only [encVs, List.map_nil,  List.length_append, List.length_cons, List.length_nil, Nat.zero_add]); repeat' (((refine weak_tokeq (by (rfl))))))); (try simp only [go_sem, Nat.reduceLT, Nat.reduceEqDiff, Nat.reduceLeDiff, Nat.reduceAdd, Nat.reduceMul, Int.reduceToNat, Nat.reducePow, ↓reduceIte, reduceCtorEq, encVs, List.map_nil]))
      intro ⟨row, k, u⟩ ⟨hrl, hkl, hul, hrr⟩
      simp only at hrl hkl hul hrr
      have doneR : tRow (13 - row.length) k u = ([], u) → tRow 13 m3.1 m3.2 = (row, u) := fun h => by rw [hrr, h]; simp
      rcases Nat.eq_zero_or_pos k with hk0 | hk0
      · subst hk0
        have hd := doneR (by cases 13 - row.length <;> rfl)
        have hz : ((0 : Int) < ((0 : Nat) : Int)) = False := eq_false (by omega)
        ((repeat' (first | (refine awp_seq_k (fun K hK => ?_)) | (refine awp_reg _ rfl ?_; (try simp only [go_sem, Nat.reduceLT, Nat.reduceEqDiff, Nat.reduceLeDiff, Nat.reduceAdd, Nat.reduceMul, Int.reduceToNat, Nat.reducePow, ↓reduceIte, reduceCtorEq, hz, decide_true, decide_false, not_true_eq_false, not_false_eq_true, Bool.not_true, Bool.not_false, Bool.true_or, Bool.false_or, Bool.or_true, Bool.or_false, Bool.false_and, Bool.and_false, bne_self_eq_false, beq_self_eq_true, true_implies])) | (refine awp_cond _ rfl (fun hc => ?_) (fun hc => ?_) <;> (try (simp only [decide_eq_true_eq, decide_eq_false_iff_not, Bool.or_eq_true, Bool.and_eq_true, Bool.not_eq_true', Bool.not_eq_false', Bool.or_eq_false_iff, Bool.and_eq_false_imp, Bool.not_eq_false, Bool.not_eq_true, Bool.not_true, Bool.not_false, Bool.true_eq_false, Bool.false_eq_true, not_true_eq_false, Decidable.not_not, ite_or, ite_and] at hc)) <;> (try (exfalso; omega))) | (refine awp_exit ?_; (try simp only [sq, bk, ↓reduceIte, Nat.reduceEqDiff, reduceCtorEq])) | (refine hK _ ?_; clear hK; (try clear K)))))
        refine hK3 _ ?_
        rw [hd]
        (refine st_le rfl ?_ (by ((try dsimp only); repeat' (first | (refine weak_tokeq (by (rfl))) | exact tok_fr (by assumption) | refine weak_boxle (by (repeat' (first | exact lec_nil | exact .refl _ | exact AV.le_list _ _ | refine lec_cons ?_ ?_))) ?_ | refine weak_tok ?_ ?_))); (try simp only [go_sem, Nat.reduceLT, Nat.reduceEqDiff, Nat.reduceLeDiff, Nat.reduceAdd, Nat.reduceMul, Int.reduceToNat, Nat.reducePow, ↓reduceIte, reduceCtorEq]))
      have hzk : ((0 : Int) < (k : Int)) = True := eq_true (by omega)
      obtain ⟨ub, badu⟩ := u
      simp only at hul
      cases badu with
      | true =>
        have hd := doneR (by
          cases hq : 13 - row.length with
          | zero => rfl
          | succ j => cases k with
            | zero => rfl
            | succ k => rw [tRow, if_pos rfl])
        ((repeat' (first | (refine awp_seq_k (fun K hK => ?_)) | (refine awp_reg _ rfl ?_; (try simp only [go_sem, Nat.reduceLT, Nat.reduceEqDiff, Nat.reduceLeDiff, Nat.reduceAdd, Nat.reduceMul, Int.reduceToNat, Nat.reducePow, ↓reduceIte, reduceCtorEq, hzk, decide_true, decide_false, not_true_eq_false, not_false_eq_true, Bool.not_true, Bool.not_false, Bool.true_or, Bool.false_or, Bool.or_true, Bool.or_false, Bool.false_and, Bool.and_false, bne_self_eq_false, beq_self_eq_true, true_implies])) | (refine awp_cond _ rfl (fun hc => ?_) (fun hc => ?_) <;> (try (simp only [decide_eq_true_eq, decide_eq_false_iff_not, Bool.or_eq_true, Bool.and_eq_true, Bool.not_eq_true', Bool.not_eq_false', Bool.or_eq_false_iff, Bool.and_eq_false_imp, Bool.not_eq_false, Bool.not_eq_true, Bool.not_true, Bool.not_false, Bool.true_eq_false, Bool.false_eq_true, not_true_eq_false, Decidable.not_not, ite_or, ite_and] at hc))) | (refine awp_exit ?_; (try simp only [sq, bk, ↓reduceIte, Nat.reduceEqDiff, reduceCtorEq])) | (refine hK _ ?_; clear hK; (try clear K)))))
        refine hK3 _ ?_
        rw [hd]
        (refine st_le rfl ?_ (by ((try dsimp only); repeat' (first | (refine weak_tokeq (by (rfl))) | exact tok_fr (by assumption) | refine weak_boxle (by (repeat' (first | exact lec_nil | exact .refl _ | exact AV.le_list _ _ | refine lec_cons ?_ ?_))) ?_ | refine weak_tok ?_ ?_))); (try simp only [go_sem, Nat.reduceLT, Nat.reduceEqDiff, Nat.reduceLeDiff, Nat.reduceAdd, Nat.reduceMul, Int.reduceToNat, Nat.reducePow, ↓reduceIte, reduceCtorEq]))
      | false =>
        rcases Nat.lt_or_ge row.length 13 with hrw | hrw
        · have hrc : (((encVs row).length : Int) ≤ 12) = True := eq_true (by simp only [encVs, List.length_map]; omega)
          obtain ⟨k, rfl⟩ : ∃ j, k = j + 1 := ⟨k - 1, by omega⟩
          have hst2 : tRow (13 - row.length) (k + 1) (ub, false) = ((tVal (ub, false)).1 :: (tRow (13 - (row.length + 1)) k (tVal (ub, false)).2).1, (tRow (13 - (row.length + 1)) k (tVal (ub, false)).2).2) := by
            rw [show 13 - row.length = (13 - (row.length + 1)) + 1 by omega, tRow, if_neg (by simp)]
          rw [hst2] at hrr
          have v0 := (tVal_len (ub, false)).1
          have p1 := tNum_len (ub, false)
          have p2 := tNum_len (tNum (ub, false)).2
          have p3 := tNum_lt (ub, false)
          have p4 := tNum_lt (tNum (ub, false)).2
          have hVd : tVal (ub, false) = if (tNum (ub, false)).1 % 1000 = 5 then (.mk 5 0 (bs (tSome (tNum (tNum (ub, false)).2).1 (tNum (tNum (ub, false)).2).2).1) [], (tSome (tNum (tNum (ub, false)).2).1 (tNum (tNum (ub, false)).2).2).2) else
            (.mk ((tNum (ub, false)).1 % 1000 : Nat) (if (tNum (tNum (ub, false)).2).1 % 2 = 0 then (((tNum (tNum (ub, false)).2).1 / 2 : Nat) : Int) else -(((tNum (tNum (ub, false)).2).1 / 2 : Nat) : Int) - 1) ⟨#[]⟩ [], (tNum (tNum (ub, false)).2).2) := rfl
          have j1 := fun H h => c_tnumber (ub, false) rd H h (by simp only; omega)
          have j2 := fun H h => c_tnumber (tNum (ub, false)).2 rd H h (by simp only at p1; omega)
          have j3 := fun H h => c_tsome (tNum (tNum (ub, false)).2).1 (tNum (tNum (ub, false)).2).2 rd H h (by simp only at p1; omega) p4
          simp only at v0
          generalize tVal (ub, false) = V at *
          generalize tNum (ub, false) = p at *
          generalize tNum p.2 = q at *
          have hr1 : ((p.1 : Nat) : Int).tmod 1000 = ((p.1 % 1000 : Nat) : Int) := by rw [Int.tmod_eq_emod_of_nonneg (by omega)]; omega
          have hr2 : IntKind.i64.wrap ((p.1 % 1000 : Nat) : Int) = ((p.1 % 1000 : Nat) : Int) := wrap_id (by omega) (by omega)
          have hsub : IntKind.u64.wrap (((k + 1 : Nat) : Int) - 1) = (k : Int) := by rw [show ((k + 1 : Nat) : Int) - 1 = (k : Int) by omega]; exact u64_nat (by omega)
          ((repeat' (first | (refine awp_seq_k (fun K hK => ?_)) | (refine awp_block ?_) | (refine awp_reg _ rfl ?_; (try simp only [go_sem, Nat.reduceLT, Nat.reduceEqDiff, Nat.reduceLeDiff, Nat.reduceAdd, Nat.reduceMul, Int.reduceToNat, Nat.reducePow, ↓reduceIte, reduceCtorEq, hzk, hrc, hr1, hr2, decide_true, decide_false, not_true_eq_false, not_false_eq_true, Bool.not_true, Bool.not_false, Bool.true_or, Bool.false_or, Bool.or_true, Bool.or_false, Bool.false_and, Bool.and_false, bne_self_eq_false, beq_self_eq_true, true_implies])) | (refine awp_condT rfl (by (first | rfl | (simp only [decide_eq_true_eq, decide_eq_false_iff_not, Bool.or_eq_true, Bool.and_eq_true, Bool.not_eq_true', Bool.not_eq_false', Bool.or_eq_false_iff, Bool.and_eq_false_imp, Bool.not_true, Bool.not_false, Bool.true_eq_false, Bool.false_eq_true, not_true_eq_false, Decidable.not_not, ite_or, ite_and, hzk, hrc, hr1, hr2, decide_true, decide_false, not_true_eq_false, not_false_eq_true, Bool.not_true, Bool.not_false, Bool.true_or, Bool.false_or, Bool.or_true, Bool.or_false, Bool.false_and, Bool.and_false, bne_self_eq_false, beq_self_eq_true, true_implies]; omega))) ?_) | (refine awp_skip ?_; (try simp only [sq, bk, ↓reduceIte, Nat.reduceEqDiff, reduceCtorEq])) | (refine ACalls.det (j1 _ ?_) ?_; (focus ((simp only [go_sem, Nat.reduceLT, Nat.reduceEqDiff, Nat.reduceLeDiff, Nat.reduceAdd, Nat.reduceMul, Int.reduceToNat, Nat.reducePow, ↓reduceIte, reduceCtorEq]); done)); (try simp only [go_sem, Nat.reduceLT, Nat.reduceEqDiff, Nat.reduceLeDiff, Nat.reduceAdd, Nat.reduceMul, Int.reduceToNat, Nat.reducePow, ↓reduceIte, reduceCtorEq, hzk, hrc, hr1, hr2, decide_true, decide_false, not_true_eq_false, not_false_eq_true, Bool.not_true, Bool.not_false, Bool.true_or, Bool.false_or, Bool.or_true, Bool.or_false, Bool.false_and, Bool.and_false, bne_self_eq_false, beq_self_eq_true, true_implies])) | (refine orAt_l ?_) | (with_reducible apply And.intro) | (refine all_fresh fun id fr => ?_; (try have := NeI.of_fr fr); (try have := NeI.of_frt fr); (try have := NeI.of_fr (fr_drop fr)); (try have := NeI.of_frt (fr_drop fr)); (try have := NeI.of_fr (fr_drop (fr_drop fr))); (try have := NeI.of_frt (fr_drop (fr_drop fr))); (try have := NeI.of_fr (fr_drop (fr_drop (fr_drop fr)))); (try have := NeI.of_frt (fr_drop (fr_drop (fr_drop fr)))); (try have := NeI.of_fr (fr_dropt fr)); (try have := NeI.of_frt (fr_dropt fr)); (try have := NeI.of_fr (fr_drop (fr_dropt fr))); (try have := NeI.of_frt (fr_drop (fr_dropt fr))); (try have := NeI.of_fr (fr_drop (fr_drop (fr_dropt fr)))); (try have := NeI.of_frt (fr_drop (fr_drop (fr_dropt fr))))) | (refine hK _ ?_; clear hK; (try clear K)))); (all_goals (try ((omega)))))
          rename Nat => v
          rename fresh _ _ => frv
          refine awp_join hK ⟨125, [(0, .list (encB b) none), (2, .ptr b2 0), (4, .ptr rd 0), (5, .ptr x 0), (6, .con (.int .u64 ((n + 1 : Nat) : Int))), (7, .ptr c 0), (8, .con (.int .u64 ((k + 1 : Nat) : Int))), (9, .ptr v 0)],
            ⟨(v, [.con (.int .i64 V.1.k), .con (.int .i64 V.1.n), .con (.string V.1.s), .list (encFs V.1.fs) none]) :: (c, [.con (.string rel), .con (.bool del), .list (encVs row) (some tc)]) :: (x, [.con (.int .i64 no), .list (encCs acc) (some tx)]) :: (rd, rdA V.2) :: (b2, ZB) :: H.bx, (tc, row.length, 50, 4) :: (tx, acc.length, 71, 3) :: H.tk⟩⟩ rfl (fun hc => ?_) (fun hc => ?_) ?_
          · have h5 : p.1 % 1000 = 5 := by have := of_decide_eq_true hc; omega
            have h5i : ((p.1 % 1000 : Nat) : Int) = 5 := by omega
            rw [if_pos h5] at hVd
            subst hVd
            ((repeat' (first | (refine awp_reg _ rfl ?_; (try simp only [go_sem, Nat.reduceLT, Nat.reduceEqDiff, Nat.reduceLeDiff, Nat.reduceAdd, Nat.reduceMul, Int.reduceToNat, Nat.reducePow, ↓reduceIte, reduceCtorEq])) | (refine ACalls.det (j2 _ ?_) ?_; (focus ((simp only [go_sem, Nat.reduceLT, Nat.reduceEqDiff, Nat.reduceLeDiff, Nat.reduceAdd, Nat.reduceMul, Int.reduceToNat, Nat.reducePow, ↓reduceIte, reduceCtorEq]); done)); (try simp only [go_sem, Nat.reduceLT, Nat.reduceEqDiff, Nat.reduceLeDiff, Nat.reduceAdd, Nat.reduceMul, Int.reduceToNat, Nat.reducePow, ↓reduceIte, reduceCtorEq])) | (refine ACalls.det (j3 _ ?_) ?_; (focus ((simp only [go_sem, Nat.reduceLT, Nat.reduceEqDiff, Nat.reduceLeDiff, Nat.reduceAdd, Nat.reduceMul, Int.reduceToNat, Nat.reducePow, ↓reduceIte, reduceCtorEq]); done)); (try simp only [go_sem, Nat.reduceLT, Nat.reduceEqDiff, Nat.reduceLeDiff, Nat.reduceAdd, Nat.reduceMul, Int.reduceToNat, Nat.reducePow, ↓reduceIte, reduceCtorEq])))))
            (refine st_le rfl ?_ (by ((try dsimp only); (try simp only [h5i, encFs,  List.length_append, List.length_cons, List.length_nil, Nat.zero_add]); repeat' (first | (refine weak_tokc (by (rfl)) ?_) | with_reducible exact .refl _ | refine weak_boxle (by (repeat' (first | exact lec_nil | exact .refl _ | exact AV.le_nil | refine lec_cons ?_ ?_))) ?_))); (try simp only [go_sem, Nat.reduceLT, Nat.reduceEqDiff, Nat.reduceLeDiff, Nat.reduceAdd, Nat.reduceMul, Int.reduceToNat, Nat.reducePow, ↓reduceIte, reduceCtorEq, h5i, encFs]))
          · have h5 : ¬ p.1 % 1000 = 5 := by have := of_decide_eq_false hc; omega
            rw [if_neg h5] at hVd
            have hm2 : ((q.1 : Nat) : Int).tmod 2 = ((q.1 % 2 : Nat) : Int) := by rw [Int.tmod_eq_emod_of_nonneg (by omega)]; omega
            have hm3 : IntKind.u64.wrap (((q.1 : Nat) : Int).tdiv 2) = ((q.1 / 2 : Nat) : Int) := by rw [Int.tdiv_eq_ediv_of_nonneg (by omega), show ((q.1 : Nat) : Int) / 2 = ((q.1 / 2 : Nat) : Int) by omega]; exact u64_nat (by omega)
            have hm4 : IntKind.i64.wrap ((q.1 / 2 : Nat) : Int) = ((q.1 / 2 : Nat) : Int) := wrap_id (by omega) (by omega)
            have hm5 : IntKind.i64.wrap (0 - ((q.1 / 2 : Nat) : Int)) = -((q.1 / 2 : Nat) : Int) := by rw [wrap_id (by omega) (by omega)]; omega
            have hm6 : IntKind.i64.wrap (-((q.1 / 2 : Nat) : Int) - 1) = -((q.1 / 2 : Nat) : Int) - 1 := wrap_id (by omega) (by omega)
            by_cases hq : q.1 % 2 = 0
            · rw [if_pos hq] at hVd
              subst hVd
              have hq1 : (((q.1 % 2 : Nat) : Int) = 0) = True := eq_true (by omega)
              ((repeat' (first | (refine awp_seq_k (fun K hK => ?_)) | (refine awp_reg _ rfl ?_; (try simp only [go_sem, Nat.reduceLT, Nat.reduceEqDiff, Nat.reduceLeDiff, Nat.reduceAdd, Nat.reduceMul, Int.reduceToNat, Nat.reducePow, ↓reduceIte, reduceCtorEq, hm2, hm3, hm4, hm5, hm6, hq1, decide_true, decide_false, not_true_eq_false, not_false_eq_true, Bool.not_true, Bool.not_false, Bool.true_or, Bool.false_or, Bool.or_true, Bool.or_false, Bool.false_and, Bool.and_false, bne_self_eq_false, beq_self_eq_true, true_implies])) | (refine awp_condT rfl (by ((rfl))) ?_) | (refine ACalls.det (j2 _ ?_) ?_; (focus ((simp only [go_sem, Nat.reduceLT, Nat.reduceEqDiff, Nat.reduceLeDiff, Nat.reduceAdd, Nat.reduceMul, Int.reduceToNat, Nat.reducePow, ↓reduceIte, reduceCtorEq]); done)); (try simp only [go_sem, Nat.reduceLT, Nat.reduceEqDiff, Nat.reduceLeDiff, Nat.reduceAdd, Nat.reduceMul, Int.reduceToNat, Nat.reducePow, ↓reduceIte, reduceCtorEq, hm2, hm3, hm4, hm5, hm6, hq1, decide_true, decide_false, not_true_eq_false, not_false_eq_true, Bool.not_true, Bool.not_false, Bool.true_or, Bool.false_or, Bool.or_true, Bool.or_false, Bool.false_and, Bool.and_false, bne_self_eq_false, beq_self_eq_true, true_implies])) | (with_reducible apply And.intro) | (refine hK _ ?_; clear hK; (try clear K)))); (all_goals (try ((omega)))))
              (refine st_le rfl ?_ (by ((try dsimp only); (try simp only [encFs,  List.length_append, List.length_cons, List.length_nil, Nat.zero_add]); repeat' (first | (refine weak_tokc (by (rfl)) ?_) | with_reducible exact .refl _ | refine weak_boxle (by (repeat' (first | exact lec_nil | exact .refl _ | exact AV.le_nil | refine lec_cons ?_ ?_))) ?_))); (try simp only [go_sem, Nat.reduceLT, Nat.reduceEqDiff, Nat.reduceLeDiff, Nat.reduceAdd, Nat.reduceMul, Int.reduceToNat, Nat.reducePow, ↓reduceIte, reduceCtorEq, encFs]))
            · rw [if_neg hq] at hVd
              subst hVd
              have hq1 : (((q.1 % 2 : Nat) : Int) = 0) = False := eq_false (by omega)
              ((repeat' (first | (refine awp_seq_k (fun K hK => ?_)) | (refine awp_reg _ rfl ?_; (try simp only [go_sem, Nat.reduceLT, Nat.reduceEqDiff, Nat.reduceLeDiff, Nat.reduceAdd, Nat.reduceMul, Int.reduceToNat, Nat.reducePow, ↓reduceIte, reduceCtorEq, hm2, hm3, hm4, hm5, hm6, hq1, decide_true, decide_false, not_true_eq_false, not_false_eq_true, Bool.not_true, Bool.not_false, Bool.true_or, Bool.false_or, Bool.or_true, Bool.or_false, Bool.false_and, Bool.and_false, bne_self_eq_false, beq_self_eq_true, true_implies])) | (refine awp_condF rfl (by ((rfl))) ?_) | (refine ACalls.det (j2 _ ?_) ?_; (focus ((simp only [go_sem, Nat.reduceLT, Nat.reduceEqDiff, Nat.reduceLeDiff, Nat.reduceAdd, Nat.reduceMul, Int.reduceToNat, Nat.reducePow, ↓reduceIte, reduceCtorEq]); done)); (try simp only [go_sem, Nat.reduceLT, Nat.reduceEqDiff, Nat.reduceLeDiff, Nat.reduceAdd, Nat.reduceMul, Int.reduceToNat, Nat.reducePow, ↓reduceIte, reduceCtorEq, hm2, hm3, hm4, hm5, hm6, hq1, decide_true, decide_false, not_true_eq_false, not_false_eq_true, Bool.not_true, Bool.not_false, Bool.true_or, Bool.false_or, Bool.or_true, Bool.or_false, Bool.false_and, Bool.and_false, bne_self_eq_false, beq_self_eq_true, true_implies])) | (with_reducible apply And.intro) | (refine hK _ ?_; clear hK; (try clear K)))); (all_goals (try ((omega)))))
              (refine st_le rfl ?_ (by ((try dsimp only); (try simp only [encFs,  List.length_append, List.length_cons, List.length_nil, Nat.zero_add]); repeat' (first | (refine weak_tokc (by (rfl)) ?_) | with_reducible exact .refl _ | refine weak_boxle (by (repeat' (first | exact lec_nil | exact .refl _ | exact AV.le_nil | refine lec_cons ?_ ?_))) ?_))); (try simp only [go_sem, Nat.reduceLT, Nat.reduceEqDiff, Nat.reduceLeDiff, Nat.reduceAdd, Nat.reduceMul, Int.reduceToNat, Nat.reducePow, ↓reduceIte, reduceCtorEq, encFs]))
          · ((repeat' (first | (refine awp_reg _ rfl ?_; (try simp only [go_sem, Nat.reduceLT, Nat.reduceEqDiff, Nat.reduceLeDiff, Nat.reduceAdd, Nat.reduceMul, Int.reduceToNat, Nat.reducePow, ↓reduceIte, reduceCtorEq, hsub])) | (refine orAt_l ?_) | (with_reducible apply And.intro) | (refine kk (by assumption) ?_))); (all_goals (try (first | omega | decide | (simp only [List.mem_singleton, List.mem_cons, List.not_mem_nil, or_false, forall_eq_or_imp, forall_eq, AV.cells, List.length_cons, List.length_nil, and_self, Nat.reduceAdd]; done)))))
            refine ⟨(row ++ [V.1], k, V.2), by simp only [List.length_append, List.length_singleton]; omega, ⟨by simp only [List.length_append, List.length_singleton]; omega, by simp only; omega, by simp only; omega, ?_⟩, ?_⟩
            · rw [hrr]
              simp only [List.length_append, List.length_singleton, List.append_assoc, List.cons_append, List.nil_append]
            · (refine st_le rfl ?_ (by ((try dsimp only); (try simp only [encVs_append, encVs_one,  List.length_append, List.length_cons, List.length_nil, Nat.zero_add]); repeat' (first | (refine weak_tokc (by (rfl)) ?_) | with_reducible exact .refl _ | ((simp only [box_cons, ne_inst, ne_inst', ↓reduceIte, if_false]); ((exact box_fr (fr_drop (fr_drop (fr_drop (fr_drop (by assumption)))))))) | refine weak_box ?_ ?_))); (try simp only [go_sem, Nat.reduceLT, Nat.reduceEqDiff, Nat.reduceLeDiff, Nat.reduceAdd, Nat.reduceMul, Int.reduceToNat, Nat.reducePow, ↓reduceIte, reduceCtorEq, encVs_append, encVs_one]))
        · have hd := doneR (by rw [show 13 - row.length = 0 by omega]; rfl)
          have hrc : ((row.length : Int) ≤ 12) = False := eq_false (by omega)
          ((repeat' (first | (refine awp_seq_k (fun K hK => ?_)) | (refine awp_reg _ rfl ?_; (try simp only [go_sem, Nat.reduceLT, Nat.reduceEqDiff, Nat.reduceLeDiff, Nat.reduceAdd, Nat.reduceMul, Int.reduceToNat, Nat.reducePow, ↓reduceIte, reduceCtorEq, hzk, hrc, encVs_length, decide_true, decide_false, not_true_eq_false, not_false_eq_true, Bool.not_true, Bool.not_false, Bool.true_or, Bool.false_or, Bool.or_true, Bool.or_false, Bool.false_and, Bool.and_false, bne_self_eq_false, beq_self_eq_true, true_implies])) | (refine awp_cond _ rfl (fun hc => ?_) (fun hc => ?_) <;> (try (simp only [decide_eq_true_eq, decide_eq_false_iff_not, Bool.or_eq_true, Bool.and_eq_true, Bool.not_eq_true', Bool.not_eq_false', Bool.or_eq_false_iff, Bool.and_eq_false_imp, Bool.not_eq_false, Bool.not_eq_true, Bool.not_true, Bool.not_false, Bool.true_eq_false, Bool.false_eq_true, not_true_eq_false, Decidable.not_not, ite_or, ite_and] at hc))) | (refine awp_exit ?_; (try simp only [sq, bk, ↓reduceIte, Nat.reduceEqDiff, reduceCtorEq])) | (refine hK _ ?_; clear hK; (try clear K)))))
          refine hK3 _ ?_
          rw [hd]
          (refine st_le rfl ?_ (by ((try dsimp only); repeat' (first | (refine weak_tokeq (by (rfl))) | exact tok_fr (by assumption) | refine weak_boxle (by (repeat' (first | exact lec_nil | exact .refl _ | exact AV.le_list _ _ | refine lec_cons ?_ ?_))) ?_ | refine weak_tok ?_ ?_))); (try simp only [go_sem, Nat.reduceLT, Nat.reduceEqDiff, Nat.reduceLeDiff, Nat.reduceAdd, Nat.reduceMul, Int.reduceToNat, Nat.reducePow, ↓reduceIte, reduceCtorEq]))
    · have hd := done (by rw [show 51 - acc.length = 0 by omega]; rfl)
      have hac : ((acc.length : Int) ≤ 50) = False := eq_false (by omega)
      ((repeat' (first | (refine awp_seq_k (fun K hK => ?_)) | (refine awp_reg _ rfl ?_; (try simp only [go_sem, Nat.reduceLT, Nat.reduceEqDiff, Nat.reduceLeDiff, Nat.reduceAdd, Nat.reduceMul, Int.reduceToNat, Nat.reducePow, ↓reduceIte, reduceCtorEq, hz, hac, encCs_length, decide_true, decide_false, not_true_eq_false, not_false_eq_true, Bool.not_true, Bool.not_false, Bool.true_or, Bool.false_or, Bool.or_true, Bool.or_false, Bool.false_and, Bool.and_false, bne_self_eq_false, beq_self_eq_true, true_implies])) | (refine awp_cond _ rfl (fun hc => ?_) (fun hc => ?_) <;> (try (simp only [decide_eq_true_eq, decide_eq_false_iff_not, Bool.or_eq_true, Bool.and_eq_true, Bool.not_eq_true', Bool.not_eq_false', Bool.or_eq_false_iff, Bool.and_eq_false_imp, Bool.not_eq_false, Bool.not_eq_true, Bool.not_true, Bool.not_false, Bool.true_eq_false, Bool.false_eq_true, not_true_eq_false, Decidable.not_not, ite_or, ite_and] at hc))) | (refine awp_exit ?_; (try simp only [sq, bk, ↓reduceIte, Nat.reduceEqDiff, reduceCtorEq])) | (refine hK _ ?_; clear hK; (try clear K)))))
      refine hK2 _ ?_
      rw [hd]
      (refine st_le rfl ?_ (by ((try dsimp only); repeat' (first | with_reducible exact .refl _ | exact tok_fr (by assumption) | refine weak_boxle (by (repeat' (first | exact lec_nil | exact .refl _ | exact AV.le_list _ _ | refine lec_cons ?_ ?_))) ?_ | refine weak_tok ?_ ?_))); (try simp only [go_sem, Nat.reduceLT, Nat.reduceEqDiff, Nat.reduceLeDiff, Nat.reduceAdd, Nat.reduceMul, Int.reduceToNat, Nat.reducePow, ↓reduceIte, reduceCtorEq]))
end Go.Proofs.Ytdlbbcjacjockaa
