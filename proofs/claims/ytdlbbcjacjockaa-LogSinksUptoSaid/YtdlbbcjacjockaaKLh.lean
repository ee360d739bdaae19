/-
  A part of the proof: its theorems say what each gives.
-/
import Derived.Test.YtdlbbcjacjockaaKLg
import Derived.Test.YtdlbbcjacjockaaKPh
set_option maxRecDepth 100000
set_option maxHeartbeats 8000000
set_option linter.unusedSimpArgs false
set_option linter.unusedVariables false
namespace Go.Proofs.Ytdlbbcjacjockaa
open Go Fw
/-! Reading an entry. -/
theorem c_bodyP (x : Ent) (H : Hp) (hw : WfE x) (hs : SmallE x) : PureAt Try.prog 43 [cE x] H (.list (encB (bodyB x)) none) :=
  acalls_weak (c_body x H hw hs) fun r H' ⟨t, fr, h1, h2⟩ => ⟨_, H, by rw [h1]; exact AV.le_list _ _, by rw [h2]; exact weak_tok fr.2 (weak_eta H), rfl, rfl⟩
theorem mem_flatMap_len {α : Type} (f : α → Byt) {l : List α} {a : α} (h : a ∈ l) : (f a).length ≤ (l.flatMap f).length := by
  obtain ⟨i, hi, rfl⟩ := List.getElem_of_mem h
  have h1 := flatMap_snoc f hi
  have h2 := flatMap_take_le f l (i + 1)
  rw [h1, List.length_append] at h2
  omega
/-- An entry whose bytes are few. -/
theorem small_of_body {x : Ent} (h : (bodyB x).length ≤ 1000000) (hf : ∀ c ∈ x.ch, ∀ v ∈ c.row, v.fs = [] ∧ (v.k ≠ 5 → v.s.size ≤ 1000000)) : SmallE x ∧ RangeE x := by
  have h1 := chsB_len (l := x.ch)
  have h2 : (chsB x.ch).length ≤ 1000000 := by unfold bodyB at h; simp only [List.length_append] at h; omega
  have h3 : ∀ c ∈ x.ch, (chgB c).length ≤ 1000000 := fun c hc => by have := mem_flatMap_len chgB hc; unfold chsB at h2; omega
  have h4 : ∀ c ∈ x.ch, c.row.length ≤ 1000000 ∧ c.rel.size ≤ 1000000 ∧ (rowB c.row).length ≤ 1000000 := fun c hc => by
    have h5 := h3 c hc
    have h6 := rowB_len (l := c.row)
    unfold chgB txtB at h5
    simp only [List.length_append, sb_length] at h5
    omega
  refine ⟨⟨by omega, fun c hc => ⟨(h4 c hc).1, by have := (h4 c hc).2.1; omega, fun v hv => ?_⟩, by omega⟩, ⟨by omega, fun c hc => ⟨by have := (h4 c hc).1; omega, fun v hv => ?_⟩⟩⟩
  · by_cases hk : v.k = 5
    · have h5 := mem_flatMap_len valB hv
      have h6 := (h4 c hc).2.2
      unfold rowB at h6
      have h7 : (valB v).length ≤ 1000000 := by omega
      unfold valB txtB at h7
      rw [if_pos hk] at h7
      simp only [List.length_append, sb_length] at h7
      omega
    · have := (hf c hc v hv).2 hk; omega
  · have := (hf c hc v hv).1
    obtain ⟨k, n, s, fs⟩ := v
    simp only [Val.fs] at this
    subst this
    simp [sizeV, sizeFs]
abbrev chA (c : Chg) : AV := .agg [.con (.string c.rel), .con (.bool c.del), .list (encVs c.row) none]
theorem encVs_append (a b : List Val) : encVs (a ++ b) = encVs a ++ encVs b := by simp [encVs]
theorem encCs_append (a b : List Chg) : encCs (a ++ b) = encCs a ++ encCs b := by simp [encCs]
theorem encVs_one (v : Val) : encVs [v] = [cV v] := rfl
theorem encCs_one (c : Chg) : encCs [c] = [.agg [.con (.string c.rel), .con (.bool c.del), .list (encVs c.row) none]] := rfl
theorem rRow_len : ∀ n s, (rRow n s).2.1.length ≤ s.1.length
  | 0, s => Nat.le_refl _
  | n + 1, s => by
    rw [rRow]
    simp only
    have h1 := rRow_len n (rVal s).2
    have h2 : (rVal s).2.1.length ≤ s.1.length := by
      have a1 := rNum_len s
      have a2 := rNum_len (rNum s).2
      have a3 := rText_len (rNum s).2
      unfold rVal
      simp only
      split
      · exact a1
      · split
        · simp only; omega
        · simp only; omega
    omega
theorem c_entry (b : Byt) (H : Hp) (hl : b.length ≤ 1000000) : ACalls Try.prog 39 [.list (encB b) none] H fun r H' => H' = H ∧ ∃ x ok, r = .tup [cE x, .con (.bool ok)] ∧ entM b = if ok then some x else none := by
  obtain ⟨hm1, hm2⟩ := rMany_le (rNum (b, false)).2
  have hn1 := rNum_len (b, false)
  simp only at hn1
  generalize hmm : rMany (rNum (b, false)).2 = m at *
  generalize hno : IntKind.i64.wrap (((rNum (b, false)).1 : Nat) : Int) = no at *
  have hent : rEnt b = (rChs m.1 m.2).map fun q => (⟨no, q.1⟩, q.2) := by unfold rEnt; simp only [hmm, hno]
  refine acalls_of (by kernel_rfl) Try.func39 rfl 86 Try.ntmps39 (by simp) [.cell 2 27, .tmp 3] rfl ?_
  ((repeat' (first | (refine awp_seq_k (fun K hK => ?_)) | (refine awp_block ?_) | (refine awp_reg _ rfl ?_; (try simp only [go_sem, Nat.reduceLT, Nat.reduceEqDiff, Nat.reduceLeDiff, Nat.reduceAdd, Nat.reduceMul, Int.reduceToNat, Nat.reducePow, ↓reduceIte, reduceCtorEq, hno, hmm])) | (refine ACalls.det (c_rdnumber (b, false) _ _ ?_ (by simp only; omega)) ?_; (focus ((simp only [go_sem, Nat.reduceLT, Nat.reduceEqDiff, Nat.reduceLeDiff, Nat.reduceAdd, Nat.reduceMul, Int.reduceToNat, Nat.reducePow, ↓reduceIte, reduceCtorEq]); done)); (try simp only [go_sem, Nat.reduceLT, Nat.reduceEqDiff, Nat.reduceLeDiff, Nat.reduceAdd, Nat.reduceMul, Int.reduceToNat, Nat.reducePow, ↓reduceIte, reduceCtorEq, hno, hmm])) | (refine ACalls.det (c_rdmany (rNum (b, false)).2 _ _ ?_ (by omega)) ?_; (focus ((simp only [go_sem, Nat.reduceLT, Nat.reduceEqDiff, Nat.reduceLeDiff, Nat.reduceAdd, Nat.reduceMul, Int.reduceToNat, Nat.reducePow, ↓reduceIte, reduceCtorEq]); done)); (try simp only [go_sem, Nat.reduceLT, Nat.reduceEqDiff, Nat.reduceLeDiff, Nat.reduceAdd, Nat.reduceMul, Int.reduceToNat, Nat.reducePow, ↓reduceIte, reduceCtorEq, hno, hmm])) | (refine orAt_l ?_) | (refine all_fresh fun id fr => ?_; (try have := NeI.of_fr fr); (try have := NeI.of_fr (fr_drop fr))) | (refine hK _ ?_; clear hK; (try clear K)))))
  rename_i r2 fr2 rd frd ne1 ne2
  rename Nat => x
  rename fresh _ _ => frx
  refine awp_nil 71 3 (fun t => ⟨86, [(0, .list (encB b) none), (2, .ptr r2 0), (4, .ptr rd 0), (5, .ptr x 0), (16, .con (.int .i64 (m.1 : Nat))), (17, .con (.int .i64 (0 : Int)))],
    ⟨(x, [.con (.int .i64 no), .list [] (some t)]) :: (rd, rdA m.2) :: (r2, [.con (.int .i64 0), .con (.slice none 0 0)]) :: H.bx, (t, 0, 71, 3) :: H.tk⟩⟩) (fun t => rfl) (fun t => by simp only [go_sem, Nat.reduceLT, Nat.reduceEqDiff, Nat.reduceLeDiff, Nat.reduceAdd, Nat.reduceMul, Int.reduceToNat, Nat.reducePow, ↓reduceIte, reduceCtorEq]) (fun t => by simp only [go_sem, Nat.reduceLT, Nat.reduceEqDiff, Nat.reduceLeDiff, Nat.reduceAdd, Nat.reduceMul, Int.reduceToNat, Nat.reducePow, ↓reduceIte, reduceCtorEq]) (fun t => rfl) (fun tx frt => ?_)
  refine awp_loop (ι := Nat × List Chg × Rd) (fun i => ⟨86, [(0, .list (encB b) none), (2, .ptr r2 0), (4, .ptr rd 0), (5, .ptr x 0), (16, .con (.int .i64 (m.1 : Nat))), (17, .con (.int .i64 (i.1 : Int)))],
    ⟨(x, [.con (.int .i64 no), .list (encCs i.2.1) (some tx)]) :: (rd, rdA i.2.2) :: (r2, [.con (.int .i64 0), .con (.slice none 0 0)]) :: H.bx, (tx, i.2.1.length, 71, 3) :: H.tk⟩⟩)
    (fun i => i.1 ≤ m.1 ∧ rChs m.1 m.2 = (rChs (m.1 - i.1) i.2.2).map (fun q => (i.2.1 ++ q.1, q.2)) ∧ i.2.2.1.length ≤ b.length ∧ i.2.1.length = i.1) (fun i => m.1 - i.1) (0, [], m.2) ⟨by omega, by simp, by simp only; omega, rfl⟩ ?_ ?_
  · (refine st_le rfl ?_ (by ((try dsimp only); (try simp only [encCs, List.map_nil,  List.length_append, List.length_cons, List.length_nil, Nat.zero_add]); repeat' (((refine weak_tokeq (by (rfl))))))); (try simp only [go_sem, Nat.reduceLT, Nat.reduceEqDiff, Nat.reduceLeDiff, Nat.reduceAdd, Nat.reduceMul, Int.reduceToNat, Nat.reducePow, ↓reduceIte, reduceCtorEq, encCs, List.map_nil]))
  intro ⟨i, acc, s⟩ ⟨hi, hr, hsl, hal⟩
  simp only at hi hr hsl hal
  rcases Nat.lt_or_ge i m.1 with hlt | hge
  · obtain ⟨q1, q2⟩ := rMany_le (rText (rNum s).2).2
    have q3 := rText_len (rNum s).2
    have q4 := rNum_len s
    have hcg : rChg s = (⟨bs (rText (rNum s).2).1, decide ((rNum s).1 = 1), (rRow (rMany (rText (rNum s).2).2).1 (rMany (rText (rNum s).2).2).2).1⟩, ((rRow (rMany (rText (rNum s).2).2).1 (rMany (rText (rNum s).2).2).2).2.1, (rRow (rMany (rText (rNum s).2).2).1 (rMany (rText (rNum s).2).2).2).2.2 || decide (1 < (rNum s).1))) := rfl
    generalize hm3 : rMany (rText (rNum s).2).2 = m3 at *
    have hz1 : decide ((((rNum s).1 : Nat) : Int) = 1) = decide ((rNum s).1 = 1) := by rw [decide_eq_decide]; omega
    have hz2 : decide ((1 : Int) < (((rNum s).1 : Nat) : Int)) = decide (1 < (rNum s).1) := by rw [decide_eq_decide]; omega
    ((repeat' (first | (refine awp_seq_k (fun K hK => ?_)) | (refine awp_block ?_) | (refine awp_reg _ rfl ?_; (try simp only [go_sem, Nat.reduceLT, Nat.reduceEqDiff, Nat.reduceLeDiff, Nat.reduceAdd, Nat.reduceMul, Int.reduceToNat, Nat.reducePow, ↓reduceIte, reduceCtorEq, hm3, hz1, hz2])) | (refine awp_condT rfl (by (first | rfl | (simp only [decide_eq_true_eq, decide_eq_false_iff_not, Bool.or_eq_true, Bool.and_eq_true, Bool.not_eq_true', Bool.not_eq_false', Bool.or_eq_false_iff, Bool.and_eq_false_imp, Bool.not_true, Bool.not_false, Bool.true_eq_false, Bool.false_eq_true, not_true_eq_false, Decidable.not_not, ite_or, ite_and, hm3, hz1, hz2]; omega))) ?_) | (refine awp_skip ?_; (try simp only [sq, bk, ↓reduceIte, Nat.reduceEqDiff, reduceCtorEq])) | (refine ACalls.det (c_rdnumber s rd _ ?_ (by omega)) ?_; (focus ((simp only [go_sem, Nat.reduceLT, Nat.reduceEqDiff, Nat.reduceLeDiff, Nat.reduceAdd, Nat.reduceMul, Int.reduceToNat, Nat.reducePow, ↓reduceIte, reduceCtorEq]); done)); (try simp only [go_sem, Nat.reduceLT, Nat.reduceEqDiff, Nat.reduceLeDiff, Nat.reduceAdd, Nat.reduceMul, Int.reduceToNat, Nat.reducePow, ↓reduceIte, reduceCtorEq, hm3, hz1, hz2])) | (refine ACalls.det (c_rdtext (rNum s).2 rd _ ?_ (by omega)) ?_; (focus ((simp only [go_sem, Nat.reduceLT, Nat.reduceEqDiff, Nat.reduceLeDiff, Nat.reduceAdd, Nat.reduceMul, Int.reduceToNat, Nat.reducePow, ↓reduceIte, reduceCtorEq]); done)); (try simp only [go_sem, Nat.reduceLT, Nat.reduceEqDiff, Nat.reduceLeDiff, Nat.reduceAdd, Nat.reduceMul, Int.reduceToNat, Nat.reducePow, ↓reduceIte, reduceCtorEq, hm3, hz1, hz2])) | (refine ACalls.det (c_rdmany (rText (rNum s).2).2 rd _ ?_ (by omega)) ?_; (focus ((simp only [go_sem, Nat.reduceLT, Nat.reduceEqDiff, Nat.reduceLeDiff, Nat.reduceAdd, Nat.reduceMul, Int.reduceToNat, Nat.reducePow, ↓reduceIte, reduceCtorEq]); done)); (try simp only [go_sem, Nat.reduceLT, Nat.reduceEqDiff, Nat.reduceLeDiff, Nat.reduceAdd, Nat.reduceMul, Int.reduceToNat, Nat.reducePow, ↓reduceIte, reduceCtorEq, hm3, hz1, hz2])) | (refine orAt_l ?_) | (refine all_fresh fun id fr => ?_; (try have := NeI.of_fr fr); (try have := NeI.of_frt fr); (try have := NeI.of_fr (fr_drop fr)); (try have := NeI.of_frt (fr_drop fr)); (try have := NeI.of_fr (fr_drop (fr_drop fr))); (try have := NeI.of_frt (fr_drop (fr_drop fr))); (try have := NeI.of_frt (fr_drop (fr_drop (fr_drop fr)))); (try have := NeI.of_fr (fr_dropt fr)); (try have := NeI.of_fr (fr_drop (fr_dropt fr))); (try have := NeI.of_fr (fr_drop (fr_drop (fr_dropt fr))))) | (refine hK _ ?_; clear hK; (try clear K)))))
    rename Nat => c
    rename fresh _ _ => frc
    refine awp_nil 50 4 (fun t => ⟨86, [(0, .list (encB b) none), (2, .ptr r2 0), (4, .ptr rd 0), (5, .ptr x 0), (6, .con (.int .u64 ((rNum s).1 : Nat))), (7, .ptr c 0), (16, .con (.int .i64 (m.1 : Nat))), (17, .con (.int .i64 (i : Int))), (27, .con (.int .i64 (m3.1 : Nat))), (28, .con (.int .i64 (0 : Int)))],
      ⟨(c, [.con (.string (bs (rText (rNum s).2).1)), .con (.bool (decide ((rNum s).1 = 1))), .list [] (some t)]) :: (x, [.con (.int .i64 no), .list (encCs acc) (some tx)]) :: (rd, rdA m3.2) :: (r2, [.con (.int .i64 0), .con (.slice none 0 0)]) :: H.bx, (t, 0, 50, 4) :: (tx, acc.length, 71, 3) :: H.tk⟩⟩) (fun t => rfl) (fun t => by simp only [go_sem, Nat.reduceLT, Nat.reduceEqDiff, Nat.reduceLeDiff, Nat.reduceAdd, Nat.reduceMul, Int.reduceToNat, Nat.reducePow, ↓reduceIte, reduceCtorEq]) (fun t => by simp only [go_sem, Nat.reduceLT, Nat.reduceEqDiff, Nat.reduceLeDiff, Nat.reduceAdd, Nat.reduceMul, Int.reduceToNat, Nat.reducePow, ↓reduceIte, reduceCtorEq]) (fun t => rfl) (fun tc frtc => ?_)
    refine awp_loop (ι := Nat × List Val × Rd) (fun j => ⟨86, [(0, .list (encB b) none), (2, .ptr r2 0), (4, .ptr rd 0), (5, .ptr x 0), (6, .con (.int .u64 ((rNum s).1 : Nat))), (7, .ptr c 0), (16, .con (.int .i64 (m.1 : Nat))), (17, .con (.int .i64 (i : Int))), (27, .con (.int .i64 (m3.1 : Nat))), (28, .con (.int .i64 (j.1 : Int)))],
      ⟨(c, [.con (.string (bs (rText (rNum s).2).1)), .con (.bool (decide ((rNum s).1 = 1))), .list (encVs j.2.1) (some tc)]) :: (x, [.con (.int .i64 no), .list (encCs acc) (some tx)]) :: (rd, rdA j.2.2) :: (r2, [.con (.int .i64 0), .con (.slice none 0 0)]) :: H.bx, (tc, j.2.1.length, 50, 4) :: (tx, acc.length, 71, 3) :: H.tk⟩⟩)
      (fun j => j.1 ≤ m3.1 ∧ rRow m3.1 m3.2 = (j.2.1 ++ (rRow (m3.1 - j.1) j.2.2).1, (rRow (m3.1 - j.1) j.2.2).2) ∧ j.2.2.1.length ≤ b.length ∧ j.2.1.length = j.1) (fun j => m3.1 - j.1) (0, [], m3.2) ⟨by omega, by simp, by simp only; omega, rfl⟩ ?_ ?_
    · (refine st_le rfl ?_ (by ((try dsimp only); (try simp only [encVs, List.map_nil,  List.length_append, List.length_cons, List.length_nil, Nat.zero_add]); repeat' (((refine weak_tokeq (by (rfl))))))); (try simp only [go_sem, Nat.reduceLT, Nat.reduceEqDiff, Nat.reduceLeDiff, Nat.reduceAdd, Nat.reduceMul, Int.reduceToNat, Nat.reducePow, ↓reduceIte, reduceCtorEq, encVs, List.map_nil]))
    · intro ⟨j, row, u⟩ ⟨hj, hrj, hul, hrl⟩
      simp only at hj hrj hul hrl
      rcases Nat.lt_or_ge j m3.1 with hlj | hgj
      · ((repeat' (first | (refine awp_mixed (id := 9) [0, 1, 2, 3, 4, 5, 6, 7] [3, 5, 7] [(3, [1]), (5, []), (7, [])] (by kernel_rfl) (by kernel_rfl) ?_; (try simp only [go_sem, Nat.reduceLT, Nat.reduceEqDiff, Nat.reduceLeDiff, Nat.reduceAdd, Nat.reduceMul, Int.reduceToNat, Nat.reducePow, ↓reduceIte, reduceCtorEq])) | (refine awp_seq_k (fun K hK => ?_)) | (refine awp_block ?_) | (refine awp_reg _ rfl ?_; (try simp only [go_sem, Nat.reduceLT, Nat.reduceEqDiff, Nat.reduceLeDiff, Nat.reduceAdd, Nat.reduceMul, Int.reduceToNat, Nat.reducePow, ↓reduceIte, reduceCtorEq])) | (refine awp_cond _ rfl (fun hc => ?_) (fun hc => ?_) <;> (try (simp only [decide_eq_true_eq, decide_eq_false_iff_not, Bool.or_eq_true, Bool.and_eq_true, Bool.not_eq_true', Bool.not_eq_false', Bool.or_eq_false_iff, Bool.and_eq_false_imp, Bool.not_eq_false, Bool.not_eq_true, Bool.not_true, Bool.not_false, Bool.true_eq_false, Bool.false_eq_true, not_true_eq_false, Decidable.not_not, ite_or, ite_and] at hc)) <;> (try (exfalso; omega))) | (refine awp_skip ?_; (try simp only [sq, bk, ↓reduceIte, Nat.reduceEqDiff, reduceCtorEq])) | (refine ACalls.det (c_rdvalue u rd _ ?_ (by omega)) ?_; (focus ((simp only [go_sem, Nat.reduceLT, Nat.reduceEqDiff, Nat.reduceLeDiff, Nat.reduceAdd, Nat.reduceMul, Int.reduceToNat, Nat.reducePow, ↓reduceIte, reduceCtorEq]); done)); (try simp only [go_sem, Nat.reduceLT, Nat.reduceEqDiff, Nat.reduceLeDiff, Nat.reduceAdd, Nat.reduceMul, Int.reduceToNat, Nat.reducePow, ↓reduceIte, reduceCtorEq])) | (with_reducible apply And.intro) | (refine hK _ ?_; clear hK; (try clear K)))); (all_goals (try (first | omega | decide | (simp only [List.mem_singleton, List.mem_cons, List.not_mem_nil, or_false, forall_eq_or_imp, forall_eq, AV.cells, List.length_cons, List.length_nil, and_self, Nat.reduceAdd]; done)))))
        have hst : rRow (m3.1 - j) u = ((rVal u).1 :: (rRow (m3.1 - (j + 1)) (rVal u).2).1, (rRow (m3.1 - (j + 1)) (rVal u).2).2) := by rw [show m3.1 - j = (m3.1 - (j + 1)) + 1 by omega, rRow]
        refine ⟨(j + 1, row ++ [(rVal u).1], (rVal u).2), by simp only; omega, ⟨by simp only; omega, ?_, ?_, by simp [hrl]⟩, ?_⟩
        · rw [hrj, hst]; simp
        · have := rRow_len 1 u
          simp only [rRow] at this ⊢; omega
        · (refine st_le rfl ?_ (by ((try dsimp only); (try simp only [encVs_append, encVs_one, wrap_succ j (by omega),  List.length_append, List.length_cons, List.length_nil, Nat.zero_add]); repeat' (((refine weak_tokeq (by (rfl))))))); (try simp only [go_sem, Nat.reduceLT, Nat.reduceEqDiff, Nat.reduceLeDiff, Nat.reduceAdd, Nat.reduceMul, Int.reduceToNat, Nat.reducePow, ↓reduceIte, reduceCtorEq, encVs_append, encVs_one, wrap_succ j (by omega)]))
      · obtain rfl : j = m3.1 := by omega
        have hrr : rRow m3.1 m3.2 = (row, u) := by rw [hrj, Nat.sub_self, rRow]; simp
        rw [hrr] at hcg
        refine awp_weak ⟨86, [(0, .list (encB b) none), (2, .ptr r2 0), (4, .ptr rd 0), (5, .ptr x 0), (6, .con (.int .u64 ((rNum s).1 : Nat))), (7, .ptr c 0), (16, .con (.int .i64 (m.1 : Nat))), (17, .con (.int .i64 (i : Int))), (27, .con (.int .i64 (m3.1 : Nat))), (28, .con (.int .i64 (m3.1 : Int)))],
          ⟨(c, [.con (.string (bs (rText (rNum s).2).1)), .con (.bool (decide ((rNum s).1 = 1))), .list (encVs row) none]) :: (x, [.con (.int .i64 no), .list (encCs acc) (some tx)]) :: (rd, rdA u) :: (r2, [.con (.int .i64 0), .con (.slice none 0 0)]) :: H.bx, (tx, acc.length, 71, 3) :: H.tk⟩⟩ ?_ ?_
        · (refine st_le rfl ?_ (by ((try dsimp only); repeat' (first | (refine weak_tokeq (by (rfl))) | exact tok_fr (by assumption) | refine weak_boxle (by (repeat' (first | exact lec_nil | exact .refl _ | exact AV.le_list _ _ | refine lec_cons ?_ ?_))) ?_ | refine weak_tok ?_ ?_))); (try simp only [go_sem, Nat.reduceLT, Nat.reduceEqDiff, Nat.reduceLeDiff, Nat.reduceAdd, Nat.reduceMul, Int.reduceToNat, Nat.reducePow, ↓reduceIte, reduceCtorEq]))
        have hst : rChs (m.1 - i) s = if (rChg s).2.2 = true then none else (rChs (m.1 - (i + 1)) (rChg s).2).map fun q => ((rChg s).1 :: q.1, q.2) := by rw [show m.1 - i = (m.1 - (i + 1)) + 1 by omega, rChs]
        ((repeat' (first | (refine awp_seq_k (fun K hK => ?_)) | (refine awp_reg _ rfl ?_; (try simp only [go_sem, Nat.reduceLT, Nat.reduceEqDiff, Nat.reduceLeDiff, Nat.reduceAdd, Nat.reduceMul, Int.reduceToNat, Nat.reducePow, ↓reduceIte, reduceCtorEq, hz2])) | (refine awp_cond _ rfl (fun hc => ?_) (fun hc => ?_) <;> (try (simp only [decide_eq_true_eq, decide_eq_false_iff_not, Bool.or_eq_true, Bool.and_eq_true, Bool.not_eq_true', Bool.not_eq_false', Bool.or_eq_false_iff, Bool.and_eq_false_imp, Bool.not_eq_false, Bool.not_eq_true, Bool.not_true, Bool.not_false, Bool.true_eq_false, Bool.false_eq_true, not_true_eq_false, Decidable.not_not, ite_or, ite_and] at hc)) <;> (try (exfalso; omega))) | (refine awp_skip ?_; (try simp only [sq, bk, ↓reduceIte, Nat.reduceEqDiff, reduceCtorEq])) | (refine awp_exit ?_; (try simp only [sq, bk, ↓reduceIte, Nat.reduceEqDiff, reduceCtorEq])) | (refine awp_ret ?_; (try simp only [sq, bk, ↓reduceIte, Nat.reduceEqDiff, reduceCtorEq])) | (refine orAt_l ?_) | (with_reducible apply And.intro) | (refine hK _ ?_; clear hK; (try clear K)) | (refine kk (by assumption) ?_))); (all_goals (try (first | omega | decide | (simp only [List.mem_singleton, List.mem_cons, List.not_mem_nil, or_false, forall_eq_or_imp, forall_eq, AV.cells, List.length_cons, List.length_nil, and_self, Nat.reduceAdd]; done) | (intro hh; simp only [Bool.or_eq_true, Bool.and_eq_true, Bool.not_eq_true', Bool.or_eq_false_iff, Bool.and_eq_false_iff, decide_eq_true_eq, decide_eq_false_iff_not, Bool.not_eq_false', bw, Bool.not_true, Bool.not_false, Bool.true_eq_false, Bool.false_eq_true, not_true_eq_false] at hh ⊢; (omega))))))
        · have hbad : (rChg s).2.2 = true := by rw [hcg]; simpa using hc
          rw [if_pos hbad] at hst
          rw [hst] at hr
          have hN : entM b = none := by unfold entM; rw [hent, hr]; rfl
          exact fin_le (.tup [cE ⟨0, []⟩, .con (.bool false)]) H (by (try simp only [List.mem_singleton, forall_eq, List.mem_cons, List.not_mem_nil, or_false, forall_eq_or_imp, and_self, resOk]); (try simp only [go_sem, Nat.reduceLT, Nat.reduceEqDiff, Nat.reduceLeDiff, Nat.reduceAdd, Nat.reduceMul, Int.reduceToNat, Nat.reducePow, ↓reduceIte, reduceCtorEq])) (by simp only [go_sem, Nat.reduceLT, Nat.reduceEqDiff, Nat.reduceLeDiff, Nat.reduceAdd, Nat.reduceMul, Int.reduceToNat, Nat.reducePow, ↓reduceIte, reduceCtorEq]; (repeat' (first | exact .refl _ | exact AV.le_nil | refine AV.le_aggc rfl ?_ | refine AV.le_tupc rfl ?_ | refine lec_cons ?_ ?_))) (by ((try dsimp only); repeat' (first | with_reducible exact .refl _ | exact box_fresh (by assumption) | exact tok_fr (by assumption) | exact box_fr (fr_drop (by assumption)) | exact box_fr (fr_drop (fr_drop (by assumption))) | exact box_fr (fr_drop (fr_drop (fr_drop (by assumption)))) | refine weak_box ?_ ?_ | refine weak_tok ?_ ?_))) ⟨rfl, ⟨0, []⟩, false, rfl, hN⟩
        · have hok : (rChg s).2.2 = false := by rw [hcg]; simpa using hc
          rw [if_neg (by rw [hok]; simp), hcg] at hst
          refine ⟨(i + 1, acc ++ [⟨bs (rText (rNum s).2).1, decide ((rNum s).1 = 1), row⟩], (u.1, u.2 || decide (1 < (rNum s).1))), by simp only; omega, ⟨by simp only; omega, ?_, by simp only; exact hul, by simp [hal]⟩, ?_⟩
          · rw [hr, hst, Option.map_map]
            congr 1
            funext q
            simp
          · (refine st_le rfl ?_ (by ((try dsimp only); (try simp only [encCs_append, encCs_one, wrap_succ i (by omega),  List.length_append, List.length_cons, List.length_nil, Nat.zero_add]); repeat' (first | (refine weak_tokeq (by (rfl))) | ((simp only [box_cons, ne_inst, ne_inst', ↓reduceIte, if_false]); ((exact box_fr (fr_drop (fr_drop (fr_drop (by assumption))))))) | refine weak_box ?_ ?_))); (try simp only [go_sem, Nat.reduceLT, Nat.reduceEqDiff, Nat.reduceLeDiff, Nat.reduceAdd, Nat.reduceMul, Int.reduceToNat, Nat.reducePow, ↓reduceIte, reduceCtorEq, encCs_append, encCs_one, wrap_succ i (by omega)]))
  · obtain rfl : i = m.1 := by omega
    have hre : rEnt b = some (⟨no, acc⟩, s) := by rw [hent, hr, Nat.sub_self, rChs]; simp
    have hw := rEnt_wf hre
    refine awp_weak ⟨86, [(0, .list (encB b) none), (2, .ptr r2 0), (4, .ptr rd 0), (5, .ptr x 0), (16, .con (.int .i64 (m.1 : Nat))), (17, .con (.int .i64 (m.1 : Int)))],
      ⟨(x, [.con (.int .i64 no), .list (encCs acc) none]) :: (rd, rdA s) :: (r2, [.con (.int .i64 0), .con (.slice none 0 0)]) :: H.bx, H.tk⟩⟩ ?_ ?_
    · (refine st_le rfl ?_ (by ((try dsimp only); repeat' (first | with_reducible exact .refl _ | exact tok_fr (by assumption) | refine weak_boxle (by (repeat' (first | exact lec_nil | exact .refl _ | exact AV.le_list _ _ | refine lec_cons ?_ ?_))) ?_ | refine weak_tok ?_ ?_))); (try simp only [go_sem, Nat.reduceLT, Nat.reduceEqDiff, Nat.reduceLeDiff, Nat.reduceAdd, Nat.reduceMul, Int.reduceToNat, Nat.reducePow, ↓reduceIte, reduceCtorEq]))
    refine awp_freezeTop rfl (by simp only [go_sem, Nat.reduceLT, Nat.reduceEqDiff, Nat.reduceLeDiff, Nat.reduceAdd, Nat.reduceMul, Int.reduceToNat, Nat.reducePow, ↓reduceIte, reduceCtorEq]; exact (fr_drop (fr_drop frx)).1) ⟨86, [(0, .list (encB b) none), (2, .ptr r2 0), (4, .ptr rd 0), (5, .ro [.con (.int .i64 no), .list (encCs acc) none]), (16, .con (.int .i64 (m.1 : Nat))), (17, .con (.int .i64 (m.1 : Int)))],
      ⟨(rd, rdA s) :: (r2, [.con (.int .i64 0), .con (.slice none 0 0)]) :: H.bx, H.tk⟩⟩ rfl rfl (by simp only [go_sem, Nat.reduceLT, Nat.reduceEqDiff, Nat.reduceLeDiff, Nat.reduceAdd, Nat.reduceMul, Int.reduceToNat, Nat.reducePow, ↓reduceIte, reduceCtorEq]) ?_
    refine awp_freezeTop rfl (by simp only [go_sem, Nat.reduceLT, Nat.reduceEqDiff, Nat.reduceLeDiff, Nat.reduceAdd, Nat.reduceMul, Int.reduceToNat, Nat.reducePow, ↓reduceIte, reduceCtorEq]; exact (fr_drop frd).1) ⟨86, [(0, .list (encB b) none), (2, .ptr r2 0), (4, .ro (rdA s)), (5, .ro [.con (.int .i64 no), .list (encCs acc) none]), (16, .con (.int .i64 (m.1 : Nat))), (17, .con (.int .i64 (m.1 : Int)))],
      ⟨(r2, [.con (.int .i64 0), .con (.slice none 0 0)]) :: H.bx, H.tk⟩⟩ rfl rfl (by simp only [go_sem, Nat.reduceLT, Nat.reduceEqDiff, Nat.reduceLeDiff, Nat.reduceAdd, Nat.reduceMul, Int.reduceToNat, Nat.reducePow, ↓reduceIte, reduceCtorEq]) ?_
    cases hs2 : s.2 with
    | false =>
      have hre2 : rEnt b = some (⟨no, acc⟩, (s.1, false)) := by rw [hre, ← hs2]
      obtain ⟨hsd, hfs⟩ := rEnt_sound hre2
      have hbl : (bodyB ⟨no, acc⟩).length ≤ 1000000 := by have := congrArg List.length hsd; simp only [List.length_append] at this; omega
      have hfs2 : ∀ c ∈ acc, ∀ v ∈ c.row, v.fs = [] ∧ (v.k ≠ 5 → v.s.size ≤ 1000000) := fun c hc v hv => ⟨(hfs c hc v hv).1, fun h => by rw [(hfs c hc v hv).2 h]; omega⟩
      obtain ⟨hsm, hrg⟩ := small_of_body hbl hfs2
      ((repeat' (first | (refine awp_mixed (id := 16) [0, 1, 2, 3, 4, 5, 6, 7, 8, 9, 10, 11, 12, 13, 14, 15, 16, 17, 18, 19, 20, 21, 22, 23, 24, 25, 26] [25] [(25, [])] (by kernel_rfl) (by kernel_rfl) ?_; (try simp only [go_sem, Nat.reduceLT, Nat.reduceEqDiff, Nat.reduceLeDiff, Nat.reduceAdd, Nat.reduceMul, Int.reduceToNat, Nat.reducePow, ↓reduceIte, reduceCtorEq, hs2, Bool.not_false, Bool.true_and])) | (refine awp_seq_k (fun K hK => ?_)) | (refine awp_reg _ rfl ?_; (try simp only [go_sem, Nat.reduceLT, Nat.reduceEqDiff, Nat.reduceLeDiff, Nat.reduceAdd, Nat.reduceMul, Int.reduceToNat, Nat.reducePow, ↓reduceIte, reduceCtorEq, hs2, Bool.not_false, Bool.true_and])) | (refine awp_cond _ rfl (fun hc => ?_) (fun hc => ?_) <;> (try (simp only [decide_eq_true_eq, decide_eq_false_iff_not, Bool.or_eq_true, Bool.and_eq_true, Bool.not_eq_true', Bool.not_eq_false', Bool.or_eq_false_iff, Bool.and_eq_false_imp, Bool.not_eq_false, Bool.not_eq_true, Bool.not_true, Bool.not_false, Bool.true_eq_false, Bool.false_eq_true, not_true_eq_false, Decidable.not_not, ite_or, ite_and] at hc)) <;> (try (exfalso; omega))) | (refine awp_exit ?_; (try simp only [sq, bk, ↓reduceIte, Nat.reduceEqDiff, reduceCtorEq])) | (refine awp_ret ?_) | (refine ⟨_, fun hg => ⟨?_, fun H => c_logCheck ⟨no, acc⟩ _ hw hsm hrg⟩, ?_⟩ <;> (try simp only [go_sem, Nat.reduceLT, Nat.reduceEqDiff, Nat.reduceLeDiff, Nat.reduceAdd, Nat.reduceMul, Int.reduceToNat, Nat.reducePow, ↓reduceIte, reduceCtorEq, hs2, Bool.not_false, Bool.true_and])) | (refine ⟨_, fun hg => ⟨?_, fun H => c_bodyP ⟨no, acc⟩ _ hw hsm⟩, ?_⟩) | (refine ⟨_, fun hg => ⟨?_, fun H => c_EqualB (bodyB ⟨no, acc⟩) b _ (by omega) (by omega)⟩, ?_⟩ <;> (try simp only [go_sem, Nat.reduceLT, Nat.reduceEqDiff, Nat.reduceLeDiff, Nat.reduceAdd, Nat.reduceMul, Int.reduceToNat, Nat.reducePow, ↓reduceIte, reduceCtorEq, hs2, Bool.not_false, Bool.true_and])) | (refine hK _ ?_; clear hK; (try clear K)) | (refine kk (by assumption) ?_))); (all_goals (try ((omega)))))
      have hok : entM b = if (decide (s.1.length = 0) && decide (entE ⟨no, acc⟩ = 0) && decide (bodyB ⟨no, acc⟩ = b)) = true then some ⟨no, acc⟩ else none := by
        unfold entM
        rw [hre2]
        by_cases h1 : s.1 = [] <;> by_cases h2 : entE ⟨no, acc⟩ = 0 <;> by_cases h3 : bodyB ⟨no, acc⟩ = b <;> simp [h1, h2, h3]
      have hz : decide ((s.1.length : Int) = 0) = decide (s.1.length = 0) := by rw [decide_eq_decide]; omega
      exact fin_le (.tup [cE ⟨no, acc⟩, .con (.bool (decide (s.1.length = 0) && decide (entE ⟨no, acc⟩ = 0) && decide (bodyB ⟨no, acc⟩ = b)))]) H (by (try simp only [List.mem_singleton, forall_eq, List.mem_cons, List.not_mem_nil, or_false, forall_eq_or_imp, and_self, resOk]); (try simp only [go_sem, Nat.reduceLT, Nat.reduceEqDiff, Nat.reduceLeDiff, Nat.reduceAdd, Nat.reduceMul, Int.reduceToNat, Nat.reducePow, ↓reduceIte, reduceCtorEq])) (by simp only [go_sem, Nat.reduceLT, Nat.reduceEqDiff, Nat.reduceLeDiff, Nat.reduceAdd, Nat.reduceMul, Int.reduceToNat, Nat.reducePow, ↓reduceIte, reduceCtorEq]; rw [hz]; (repeat' ((exact .refl _)))) (by ((try dsimp only); repeat' (first | with_reducible exact .refl _ | exact box_fresh (by assumption) | refine weak_box ?_ ?_))) ⟨rfl, ⟨no, acc⟩, _, rfl, hok⟩
    | true =>
      have hN : entM b = none := by
        unfold entM
        rw [hre]
        simp [hs2]
      ((repeat' (first | (refine awp_mixed (id := 16) [0, 1, 2, 3, 4, 5, 6, 7, 8, 9, 10, 11, 12, 13, 14, 15, 16, 17, 18, 19, 20, 21, 22, 23, 24, 25, 26] [25] [(25, [])] (by kernel_rfl) (by kernel_rfl) ?_; (try simp only [go_sem, Nat.reduceLT, Nat.reduceEqDiff, Nat.reduceLeDiff, Nat.reduceAdd, Nat.reduceMul, Int.reduceToNat, Nat.reducePow, ↓reduceIte, reduceCtorEq, hs2, Bool.not_true, Bool.false_and])) | (refine awp_seq_k (fun K hK => ?_)) | (refine awp_reg _ rfl ?_; (try simp only [go_sem, Nat.reduceLT, Nat.reduceEqDiff, Nat.reduceLeDiff, Nat.reduceAdd, Nat.reduceMul, Int.reduceToNat, Nat.reducePow, ↓reduceIte, reduceCtorEq, hs2, Bool.not_true, Bool.false_and])) | (refine awp_cond _ rfl (fun hc => ?_) (fun hc => ?_) <;> (try (simp only [decide_eq_true_eq, decide_eq_false_iff_not, Bool.or_eq_true, Bool.and_eq_true, Bool.not_eq_true', Bool.not_eq_false', Bool.or_eq_false_iff, Bool.and_eq_false_imp, Bool.not_eq_false, Bool.not_eq_true, Bool.not_true, Bool.not_false, Bool.true_eq_false, Bool.false_eq_true, not_true_eq_false, Decidable.not_not, ite_or, ite_and] at hc)) <;> (try (exfalso; omega))) | (refine awp_exit ?_; (try simp only [sq, bk, ↓reduceIte, Nat.reduceEqDiff, reduceCtorEq])) | (refine awp_ret ?_) | (refine ⟨AV.any, fun hg => False.elim hg, ?_⟩; (try simp only [go_sem, Nat.reduceLT, Nat.reduceEqDiff, Nat.reduceLeDiff, Nat.reduceAdd, Nat.reduceMul, Int.reduceToNat, Nat.reducePow, ↓reduceIte, reduceCtorEq, hs2, Bool.not_true, Bool.false_and])) | (refine hK _ ?_; clear hK; (try clear K)) | (refine kk (by assumption) ?_))))
      exact fin_le (.tup [cE ⟨no, acc⟩, .con (.bool false)]) H (by (try simp only [List.mem_singleton, forall_eq, List.mem_cons, List.not_mem_nil, or_false, forall_eq_or_imp, and_self, resOk]); (try simp only [go_sem, Nat.reduceLT, Nat.reduceEqDiff, Nat.reduceLeDiff, Nat.reduceAdd, Nat.reduceMul, Int.reduceToNat, Nat.reducePow, ↓reduceIte, reduceCtorEq])) (by simp only [go_sem, Nat.reduceLT, Nat.reduceEqDiff, Nat.reduceLeDiff, Nat.reduceAdd, Nat.reduceMul, Int.reduceToNat, Nat.reducePow, ↓reduceIte, reduceCtorEq]; (repeat' (first | exact .refl _ | exact AV.le_nil | exact AV.le_list _ _ | exact AV.le_any _ | exact lec_nil | refine AV.le_aggc rfl ?_ | refine AV.le_tupc rfl ?_ | refine lec_cons ?_ ?_))) (by ((try dsimp only); repeat' (first | with_reducible exact .refl _ | exact box_fresh (by assumption) | refine weak_box ?_ ?_))) ⟨rfl, ⟨no, acc⟩, false, rfl, hN⟩
end Go.Proofs.Ytdlbbcjacjockaa
