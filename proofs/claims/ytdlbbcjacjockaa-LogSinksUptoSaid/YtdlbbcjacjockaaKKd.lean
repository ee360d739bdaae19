/-
  A part of the proof: its theorems say what each gives.
-/
import Derived.Test.YtdlbbcjacjockaaKKc
import Derived.Test.YtdlbbcjacjockaaKRj
set_option maxRecDepth 100000
set_option maxHeartbeats 8000000
set_option linter.unusedSimpArgs false
set_option linter.unusedVariables false
namespace Go.Proofs.Ytdlbbcjacjockaa
open Go Fw
/-! LogSinks. -/
structure SInv (s : Int × PM × Nat) : Prop where
  ok : okP s.2.1
  n : 1 ≤ s.1 ∧ s.1 ≤ 9007199254740993
  len : s.2.1.length ≤ 32
theorem dlv_inv : ∀ (f : Nat) (n : Int) (Q : PM), okP Q → 1 ≤ n → n ≤ 9007199254740993 → okP (dlv f n Q).2.2 ∧ (1 ≤ (dlv f n Q).2.1 ∧ (dlv f n Q).2.1 ≤ 9007199254740993) ∧ (dlv f n Q).1.length + (dlv f n Q).2.2.length ≤ Q.length ∧ (∀ y ∈ (dlv f n Q).1, ∃ p ∈ Q, p.2.1 = y)
  | 0, n, Q, h, h1, h2 => ⟨h, ⟨h1, h2⟩, by simp [dlv], by simp [dlv]⟩
  | f + 1, n, Q, h, h1, h2 => by
    rw [dlv]
    cases hg : pget n Q with
    | none => exact ⟨h, ⟨h1, h2⟩, by simp, by simp⟩
    | some y =>
      obtain ⟨b0, hb0⟩ := pget_mem hg
      obtain ⟨e1, e2, _, _⟩ := h _ hb0
      have hr2 := entE_no e2
      simp only at e1 hr2
      obtain ⟨q1, q2, q3, q4⟩ := dlv_inv f (n + 1) (pdel n Q) (okP_del h) (by omega) (by omega)
      have := pdel_lt hg
      refine ⟨q1, q2, by simp only [List.length_cons]; omega, fun z hz => ?_⟩
      rcases List.mem_cons.1 hz with rfl | hz
      · exact ⟨_, hb0, rfl⟩
      · obtain ⟨p, hp, e⟩ := q4 z hz; exact ⟨p, pdel_sub p hp, e⟩
theorem take_inv {s : Int × PM × Nat} (h : SInv s) {x : Ent} (hw : WfE x) (hs : SmallE x) : SInv (takeS s.1 s.2.1 s.2.2 x).2.2 := by
  obtain ⟨n, P, c⟩ := s
  obtain ⟨h1, h2, h3⟩ := h
  simp only at h1 h2 h3
  simp only [takeS]
  split
  · exact ⟨h1, h2, h3⟩
  · rename_i he
    cases hg : pget x.no P with
    | some y => simp only; split <;> exact ⟨h1, h2, h3⟩
    | none =>
      simp only
      split
      · exact ⟨h1, h2, h3⟩
      · split
        · exact ⟨h1, h2, h3⟩
        · rename_i hq hf
          have hok : okP (P ++ [(x.no, x, c)]) := fun p hp => by
            rcases List.mem_append.1 hp with hp | hp
            · exact h1 p hp
            · rw [List.mem_singleton.1 hp]; exact ⟨rfl, by simpa using he, hw, hs⟩
          obtain ⟨q1, q2, q3, _⟩ := dlv_inv (P.length + 2) n _ hok h2.1 h2.2
          refine ⟨q1, q2, ?_⟩
          rw [List.length_append, List.length_singleton] at q3
          by_cases hl : P.length = 32
          · have hx : x.no = n := by
              by_cases e : x.no = n
              · exact e
              · exact absurd ⟨e, hl⟩ hf
            have hgn : pget n (P ++ [(x.no, x, c)]) = some x := by
              rw [← hx]
              unfold pget at hg ⊢
              rw [List.find?_append]
              rw [Option.map_eq_none_iff] at hg
              rw [hg]; simp
            have hd : dlv (P.length + 2) n (P ++ [(x.no, x, c)]) = (x :: (dlv (P.length + 1) (n + 1) (pdel n (P ++ [(x.no, x, c)]))).1, (dlv (P.length + 1) (n + 1) (pdel n (P ++ [(x.no, x, c)]))).2) := by rw [dlv, hgn]
            rw [hd] at q3
            simp only [List.length_cons] at q3
            simp only [hd]
            omega
          · simp only; omega
def sinkN (d : Int) (l : List Ent) : Int × PM × Nat := l.foldl (fun s x => (takeS s.1 s.2.1 s.2.2 x).2.2) (newN d, [], 0)
theorem sinkN_snoc (d : Int) (l : List Ent) (x : Ent) : sinkN d (l ++ [x]) = (takeS (sinkN d l).1 (sinkN d l).2.1 (sinkN d l).2.2 x).2.2 := by simp [sinkN]
theorem newN_eq (d : Int) : newN d = max 0 (min d 9007199254740991) + 1 := by
  unfold newN; rw [wrap_id (by omega) (by omega)]
theorem sinkN_inv (d : Int) : ∀ (l : List Ent), (∀ x ∈ l, WfE x ∧ SmallE x) → SInv (sinkN d l) := by
  intro l
  have key : ∀ (l : List Ent) (s : Int × PM × Nat), SInv s → (∀ x ∈ l, WfE x ∧ SmallE x) → SInv (l.foldl (fun s x => (takeS s.1 s.2.1 s.2.2 x).2.2) s) := by
    intro l
    induction l with
    | nil => intro s h _; exact h
    | cons x l ih => intro s h hl; exact ih _ (take_inv h (hl x (by simp)).1 (hl x (by simp)).2) fun y hy => hl y (by simp [hy])
  refine key l _ ⟨(fun p hp => by cases hp), ?_, by simp⟩
  simp only [newN_eq]; omega
structure GoodX (x : Ent) : Prop where
  w : WfE x
  s : SmallE x
  r : RangeE x
  c : x.ch.length ≤ 1000000 ∧ ∀ c ∈ x.ch, c.row.length ≤ 1000000 ∧ ∀ v ∈ c.row, sizeV v ≤ 100000000
theorem two_s (W : List AV) (w sk m : Nat) (bx : List (Nat × List AV)) (h1 : w ≠ sk) (h2 : w ≠ m) (h3 : sk ≠ m) : TwoB (fun a b => (w, W) :: (sk, a) :: (m, b) :: bx) sk m where
  b1 a b tk := by rw [box_cons, if_neg h1, box_cons, if_pos rfl]
  b2 a b tk := by rw [box_cons, if_neg h2, box_cons, if_neg h3, box_cons, if_pos rfl]
  u1 a b f := by simp [updB, h1]
  u2 a b f := by simp [updB, h2, h3]
  no a b a' b' j tk tk' h := by
    rw [box_cons] at h ⊢
    split
    · rename_i e; rw [if_pos e] at h; cases h
    · rename_i e; rw [if_neg e] at h
      rw [box_cons] at h ⊢
      split
      · rename_i e; rw [if_pos e] at h; cases h
      · rename_i e; rw [if_neg e] at h
        rw [box_cons] at h ⊢
        split
        · rename_i e; rw [if_pos e] at h; cases h
        · rename_i e; rw [if_neg e] at h; exact h
def contA : Option Ent → List AV
  | some y => [.con (.int .i64 y.no), .list (encCs y.ch) none]
  | none => [.con (.int .i64 0), .con (.slice none 0 0)]
theorem plain_range {x : Ent} (h : PlainE x) (hs : SmallE x) : RangeE x := by
  refine ⟨Nat.le_trans hs.ch (by omega), fun c hc => ⟨Nat.le_trans (hs.row c hc).1 (by omega), fun v hv => ?_⟩⟩
  have hp := (h.ch c hc).row v hv
  obtain ⟨k, n, s, fs⟩ := v
  have h1 : fs = [] := hp.fs
  rw [sizeV, h1, sizeFs]; omega
theorem take_out {s : Int × PM × Nat} (h : SInv s) {x : Ent} (hw : WfE x) (hs : SmallE x) : (takeS s.1 s.2.1 s.2.2 x).1.length ≤ 33 ∧ ∀ y ∈ (takeS s.1 s.2.1 s.2.2 x).1, RangeE y := by
  obtain ⟨n, P, c⟩ := s
  obtain ⟨h1, h2, h3⟩ := h
  simp only at h1 h2 h3
  simp only [takeS]
  split
  · simp
  · rename_i he
    cases hg : pget x.no P with
    | some y => simp only; split <;> simp
    | none =>
      simp only
      split
      · simp
      · split
        · simp
        · have hok : okP (P ++ [(x.no, x, c)]) := fun p hp => by
            rcases List.mem_append.1 hp with hp | hp
            · exact h1 p hp
            · rw [List.mem_singleton.1 hp]; exact ⟨rfl, by simpa using he, hw, hs⟩
          obtain ⟨q1, q2, q3, q4⟩ := dlv_inv (P.length + 2) n _ hok h2.1 h2.2
          rw [List.length_append, List.length_singleton] at q3
          refine ⟨by simp only; omega, fun y hy => ?_⟩
          obtain ⟨p, hp, rfl⟩ := q4 y hy
          obtain ⟨_, a2, a3, a4⟩ := hok p hp
          exact plain_range (entE_plain a2 a3) a4
theorem c_LogSinks (l : List Ent) (d : Int) (H : Hp) (hg : ∀ x ∈ l, GoodX x) (hl : l.length ≤ 1000000) : PureAt Try.prog 7 [.con (.int .i64 d), .list (encEs l) none] H (.con (.bool true)) := by
  refine acalls_of (by kernel_rfl) Try.func7 rfl 152 Try.ntmps7 (by simp) [.tmp 4] rfl ?_
  ((repeat' (first | (refine awp_seq_k (fun K hK => ?_)) | (refine awp_reg _ rfl ?_; (try simp only [go_sem, Nat.reduceLT, Nat.reduceEqDiff, Nat.reduceLeDiff, Nat.reduceAdd, Nat.reduceMul, Int.reduceToNat, Nat.reducePow, ↓reduceIte, reduceCtorEq, decide_true, decide_false, not_true_eq_false, not_false_eq_true, Bool.not_true, Bool.not_false, Bool.true_or, Bool.false_or, Bool.or_true, Bool.or_false, Bool.false_and, Bool.and_false, Bool.true_and, Bool.and_true, true_implies, if_true, if_false])) | (refine hK _ ?_; clear hK; (try clear K)))))
  refine ACalls.mono (c_NewS d H) (fun r H' hx => ?_)
  obtain ⟨sm, sk, fm, fs, rfl, rfl⟩ := hx
  have n1 := NeI.of_fr fs
  have hnn := newN_eq d
  have hw1 : IntKind.i64.wrap (max 0 (min d 9007199254740991) + 1) = newN d := rfl
  have hw2 : IntKind.i64.wrap (newN d - 1) = newN d - 1 := wrap_id (by omega) (by omega)
  (try simp only [go_sem, Nat.reduceLT, Nat.reduceEqDiff, Nat.reduceLeDiff, Nat.reduceAdd, Nat.reduceMul, Int.reduceToNat, Nat.reducePow, ↓reduceIte, reduceCtorEq])
  have hDn : ∀ (w : Nat) [NeI w sk] (W : List AV), PureAt Try.prog 30 [.ptr sk 0] ⟨(w, W) :: (sk, [.con (.int .i64 (newN d)), .mp sm]) :: (sm, [.mc [] 0]) :: H.bx, H.tk⟩ (.con (.int .i64 (newN d - 1))) := fun w hw W => by
    have := c_Done (newN d) sm sk ⟨(w, W) :: (sk, [.con (.int .i64 (newN d)), .mp sm]) :: (sm, [.mc [] 0]) :: H.bx, H.tk⟩ (by rw [box_cons, if_neg hw.ne, box_cons, if_pos rfl])
    rwa [hw2] at this
  ((repeat' (first | (refine awp_seq_k (fun K hK => ?_)) | (refine awp_block ?_) | (refine awp_reg _ rfl ?_; (try simp only [go_sem, Nat.reduceLT, Nat.reduceEqDiff, Nat.reduceLeDiff, Nat.reduceAdd, Nat.reduceMul, Int.reduceToNat, Nat.reducePow, ↓reduceIte, reduceCtorEq, hw1, hw2, decide_true, decide_false, not_true_eq_false, not_false_eq_true, Bool.not_true, Bool.not_false, Bool.true_or, Bool.false_or, Bool.or_true, Bool.or_false, Bool.false_and, Bool.and_false, Bool.true_and, Bool.and_true, true_implies, if_true, if_false])) | (refine awp_condF rfl (by ((rfl))) ?_) | (refine awp_skip ?_; (try simp only [sq, bk, ↓reduceIte, Nat.reduceEqDiff, reduceCtorEq])) | (refine PureAt.use (c_logged _) ?_ <;> (try simp only [go_sem, Nat.reduceLT, Nat.reduceEqDiff, Nat.reduceLeDiff, Nat.reduceAdd, Nat.reduceMul, Int.reduceToNat, Nat.reducePow, ↓reduceIte, reduceCtorEq, hw1, hw2, decide_true, decide_false, not_true_eq_false, not_false_eq_true, Bool.not_true, Bool.not_false, Bool.true_or, Bool.false_or, Bool.or_true, Bool.or_false, Bool.false_and, Bool.and_false, Bool.true_and, Bool.and_true, true_implies, if_true, if_false])) | (refine ⟨_, hDn _ _, ?_⟩ <;> (try simp only [go_sem, Nat.reduceLT, Nat.reduceEqDiff, Nat.reduceLeDiff, Nat.reduceAdd, Nat.reduceMul, Int.reduceToNat, Nat.reducePow, ↓reduceIte, reduceCtorEq, hw1, hw2, decide_true, decide_false, not_true_eq_false, not_false_eq_true, Bool.not_true, Bool.not_false, Bool.true_or, Bool.false_or, Bool.or_true, Bool.or_false, Bool.false_and, Bool.and_false, Bool.true_and, Bool.and_true, true_implies, if_true, if_false])) | (refine all_fresh fun id fr => ?_; (try have := NeI.of_fr fr); (try have := NeI.of_fr (fr_drop fr))) | (refine hK _ ?_; clear hK; (try clear K)))))
  obtain ⟨wm, hwm⟩ : ∃ x, x = id := ⟨_, rfl⟩
  subst hwm
  have nw1 : NeI wm sk := by assumption
  have nw2 : NeI wm sm := by assumption
  have frw := fr
  clear fr
  refine awp_loop (ι := Nat) (fun i => ⟨152, [(5, .ptr sk 0), (6, .con (.int .i64 (sinkN d (l.take i)).1)), (7, .mp wm), (41, .list (encEs l) none), (42, .con (.int .i64 l.length)), (43, .con (.int .i64 (i : Int)))],
      ⟨(wm, [.mc (encP (sinkN d (l.take i)).2.1) (sinkN d (l.take i)).2.2]) :: (sk, [.con (.int .i64 (sinkN d (l.take i)).1), .mp sm]) :: (sm, [.mc (encP (sinkN d (l.take i)).2.1) (sinkN d (l.take i)).2.2]) :: H.bx, H.tk⟩⟩)
    (fun i => i ≤ l.length) (fun i => l.length - i) 0 (by omega) ?_ ?_
  · (refine st_le rfl ?_ (by ((try dsimp only); (try simp only [List.take_zero, sinkN, List.foldl_nil, encP, List.map_nil,  List.length_append, List.length_cons, List.length_nil, Nat.zero_add]); repeat' ((with_reducible exact .refl _)))); (try simp only [go_sem, Nat.reduceLT, Nat.reduceEqDiff, Nat.reduceLeDiff, Nat.reduceAdd, Nat.reduceMul, Int.reduceToNat, Nat.reducePow, ↓reduceIte, reduceCtorEq, List.take_zero, sinkN, List.foldl_nil, encP, List.map_nil]))
  intro i hi
  rcases Nat.lt_or_ge i l.length with hlt | hge
  · have hinv := sinkN_inv d (l.take i) fun x hx => ⟨(hg x (List.mem_of_mem_take hx)).w, (hg x (List.mem_of_mem_take hx)).s⟩
    have hnext : sinkN d (l.take (i + 1)) = (takeS (sinkN d (l.take i)).1 (sinkN d (l.take i)).2.1 (sinkN d (l.take i)).2.2 l[i]).2.2 := by
      rw [List.take_succ_eq_append_getElem hlt, sinkN_snoc]
    have hgx := hg _ (List.getElem_mem hlt)
    have hgl : (encEs l).getD i .any = .agg [.con (.int .i64 l[i].no), .list (encCs l[i].ch) none] := by
      unfold encEs; rw [List.getD_eq_getElem?_getD, List.getElem?_map, List.getElem?_eq_getElem hlt]; rfl
    generalize hs : sinkN d (l.take i) = s at hinv hnext
    obtain ⟨n, P, c⟩ := s
    obtain ⟨hP, hn, hPl⟩ := hinv
    simp only at hP hn hPl hnext
    have hgx0 := hgx
    clear hgx
    generalize l[i] = x at hnext hgx0 hgl
    have hmk : ∀ j, mOk Try.prog 3 (.i j) (encP P) = True := fun j => eq_true (mOk_i ty_int3 (encP_allI P) j)
    have hget : ∀ j, mget (.i j) (encP P) = (pget j P).map cE := fun j => mget_enc j P
    have hwi := wrap_succ i (by omega)
    refine awp_cut 2 (fun K hK => ?_)
    simp only [dropN] at hK
    have hK1 : ∀ s : St, St.le s ⟨152, [(5, .ptr sk 0), (6, .con (.int .i64 n)), (7, .mp wm), (41, .list (encEs l) none), (42, .con (.int .i64 l.length)), (43, .con (.int .i64 (i : Int)))],
        ⟨(wm, [.mc (encP P) c]) :: (sk, [.con (.int .i64 n), .mp sm]) :: (sm, [.mc (encP P) c]) :: H.bx, H.tk⟩⟩ → K s := by
      intro s hs
      refine hK _ (awp_weak _ hs ?_)
      clear hs hK
      refine awp_seq_k (fun K hK => ?_)
      refine awp_block ?_
      refine awp_cut 7 (fun K4 hK4 => ?_)
      simp only [dropN] at hK4
      have hK5 : ∀ (s : St) (e : Int) (b : Bool) (Pm : PM) (cm : Nat), okP Pm → Pm.length ≤ 33 → (b = false ∧ takeS n P c x = ([], e, n, Pm, cm) ∨ b = true ∧ e = 0 ∧ ∃ f0, Pm.length < f0 ∧ takeS n P c x = ((dlv f0 n Pm).1, 0, (dlv f0 n Pm).2.1, (dlv f0 n Pm).2.2, cm)) →
          St.le s ⟨152, [(5, .ptr sk 0), (6, .con (.int .i64 n)), (7, .mp wm), (9, .ro [.con (.int .i64 x.no), .list (encCs x.ch) none]), (10, .con (.int .i64 e)), (13, .con (.bool b)), (14, .con (.slice none 0 0)), (41, .list (encEs l) none), (42, .con (.int .i64 l.length)), (43, .con (.int .i64 (i : Int)))],
          ⟨(wm, [.mc (encP Pm) cm]) :: (sk, [.con (.int .i64 n), .mp sm]) :: (sm, [.mc (encP P) c]) :: H.bx, H.tk⟩⟩ → K4 s := by
        intro s e b Pm cm hPm hPml hor hs
        refine hK4 _ (awp_weak _ hs ?_)
        clear hs hK4
        refine awp_cut 1 (fun K2 hK2 => ?_)
        simp only [dropN] at hK2
        have hK3 : ∀ s : St, St.le s ⟨152, [(5, .ptr sk 0), (6, .con (.int .i64 (takeS n P c x).2.2.1)), (7, .mp wm), (9, .ro [.con (.int .i64 x.no), .list (encCs x.ch) none]), (10, .con (.int .i64 (takeS n P c x).2.1)), (14, .list (encEs (takeS n P c x).1) none), (41, .list (encEs l) none), (42, .con (.int .i64 l.length)), (43, .con (.int .i64 (i : Int)))],
            ⟨(wm, [.mc (encP (takeS n P c x).2.2.2.1) (takeS n P c x).2.2.2.2]) :: (sk, [.con (.int .i64 n), .mp sm]) :: (sm, [.mc (encP P) c]) :: H.bx, H.tk⟩⟩ → K2 s := by
          intro s hs
          refine hK2 _ (awp_weak _ hs ?_)
          clear hs hK2
          have hti := take_inv (s := (n, P, c)) ⟨hP, hn, hPl⟩ hgx0.w hgx0.s
          have hto := take_out (s := (n, P, c)) ⟨hP, hn, hPl⟩ hgx0.w hgx0.s
          have hTk := c_Take (two_s [.mc (encP (takeS n P c x).2.2.2.1) (takeS n P c x).2.2.2.2] wm sk sm H.bx nw1.ne nw2.ne n1.ne) n P c x H.tk hP hn hPl hgx0.w hgx0.s hgx0.r hgx0.c.1 hgx0.c.2
          generalize takeS n P c x = T at hnext hti hTk hto
          obtain ⟨out, err, n2, P2, c2⟩ := T
          obtain ⟨hP2, hn2, hPl2⟩ := hti
          simp only at hnext hP2 hn2 hPl2 hTk hto
          have hSm : ∀ H, PureAt Try.prog 12 [.list (encEs out) none, .list (encEs out) none] H (.con (.bool true)) := fun H => by
            have := c_SameEs out out H (Nat.le_trans hto.1 (by omega)) hto.2 hto.2
            rwa [sameEs_self] at this
          have hDn2 := c_Done n2 sm sk ⟨(wm, [.mc (encP P2) c2]) :: (sk, [.con (.int .i64 n2), .mp sm]) :: (sm, [.mc (encP P2) c2]) :: H.bx, H.tk⟩ (by rw [box_cons, if_neg nw1.ne, box_cons, if_pos rfl])
          rw [wrap_id (by omega) (by omega)] at hDn2
          have hw3 : IntKind.i64.wrap (n2 - 1) = n2 - 1 := wrap_id (by omega) (by omega)
          ((repeat' (first | (refine awp_seq_k (fun K hK => ?_)) | (refine awp_block ?_) | (refine awp_reg _ rfl ?_; (try simp only [go_sem, Nat.reduceLT, Nat.reduceEqDiff, Nat.reduceLeDiff, Nat.reduceAdd, Nat.reduceMul, Int.reduceToNat, Nat.reducePow, ↓reduceIte, reduceCtorEq, hw3, decide_true, decide_false, not_true_eq_false, not_false_eq_true, Bool.not_true, Bool.not_false, Bool.true_or, Bool.false_or, Bool.or_true, Bool.or_false, Bool.false_and, Bool.and_false, Bool.true_and, Bool.and_true, true_implies, if_true, if_false])) | (refine awp_condF rfl (by ((rfl))) ?_) | (refine awp_skip ?_; (try simp only [sq, bk, ↓reduceIte, Nat.reduceEqDiff, reduceCtorEq])) | (refine ACalls.det (hTk) ?_ <;> (try simp only [go_sem, Nat.reduceLT, Nat.reduceEqDiff, Nat.reduceLeDiff, Nat.reduceAdd, Nat.reduceMul, Int.reduceToNat, Nat.reducePow, ↓reduceIte, reduceCtorEq, hw3, decide_true, decide_false, not_true_eq_false, not_false_eq_true, Bool.not_true, Bool.not_false, Bool.true_or, Bool.false_or, Bool.or_true, Bool.or_false, Bool.false_and, Bool.and_false, Bool.true_and, Bool.and_true, true_implies, if_true, if_false])) | (refine ⟨_, hSm _, ?_⟩ <;> (try simp only [go_sem, Nat.reduceLT, Nat.reduceEqDiff, Nat.reduceLeDiff, Nat.reduceAdd, Nat.reduceMul, Int.reduceToNat, Nat.reducePow, ↓reduceIte, reduceCtorEq, hw3, decide_true, decide_false, not_true_eq_false, not_false_eq_true, Bool.not_true, Bool.not_false, Bool.true_or, Bool.false_or, Bool.or_true, Bool.or_false, Bool.false_and, Bool.and_false, Bool.true_and, Bool.and_true, true_implies, if_true, if_false])) | (refine ⟨_, hDn2, ?_⟩ <;> (try simp only [go_sem, Nat.reduceLT, Nat.reduceEqDiff, Nat.reduceLeDiff, Nat.reduceAdd, Nat.reduceMul, Int.reduceToNat, Nat.reducePow, ↓reduceIte, reduceCtorEq, hw3, decide_true, decide_false, not_true_eq_false, not_false_eq_true, Bool.not_true, Bool.not_false, Bool.true_or, Bool.false_or, Bool.or_true, Bool.or_false, Bool.false_and, Bool.and_false, Bool.true_and, Bool.and_true, true_implies, if_true, if_false])) | (refine all_fresh fun id fr => ?_; (try have := NeI.of_fr fr); (try have := NeI.of_fr (fr_drop fr)); (try have := NeI.of_fr (fr_drop (fr_drop fr)))) | (refine all_stm fun hstm => ?_) | (refine hK _ ?_; clear hK; (try clear K)))))
          have frI := fr
          clear fr
          obtain ⟨it, hit⟩ : ∃ x, x = id := ⟨_, rfl⟩
          subst hit
          obtain ⟨hs1, hs2, hs3⟩ := hstm
          rw [encP_stamps] at hs2
          have ni1 : NeI it wm := by assumption
          have ni2 : NeI it sk := by assumption
          have ni3 : NeI it sm := by assumption
          refine awp_loop (ι := PM × Nat) (fun q => ⟨152, [(5, .ptr sk 0), (6, .con (.int .i64 n2)), (7, .mp wm), (19, .sl q.2 q.1.length 3 1), (41, .list (encEs l) none), (42, .con (.int .i64 l.length)), (43, .con (.int .i64 (i : Int))), (135, .it it)],
              ⟨hold q.2 (cKs (q.1.map (·.1))) ((it, [.mp wm, .nl (q.1.map (·.2.2)), .con (.int .i64 (c2 : Int))]) :: (wm, [.mc (encP P2) c2]) :: (sk, [.con (.int .i64 n2), .mp sm]) :: (sm, [.mc (encP P2) c2]) :: H.bx), H.tk⟩⟩)
            (fun q => (∀ p ∈ q.1, p ∈ P2) ∧ (q.1.map (·.2.2)).Nodup ∧ (q.1 = [] ∨ (q.2 ≠ it ∧ q.2 ≠ wm ∧ q.2 ≠ sk ∧ q.2 ≠ sm ∧ H.box q.2 = none))) (fun q => P2.length - q.1.length) ([], 0) ⟨by simp, by simp, .inl rfl⟩ ?_ ?_
          · (refine st_le rfl ?_ (by ((try dsimp only); (try simp only [cKs, List.map_nil, List.length_nil,  List.length_append, List.length_cons, List.length_nil, Nat.zero_add]); repeat' (first | with_reducible exact .refl _ | refine weak_boxle (by (repeat' ((exact .refl _)))) ?_))); (try simp only [go_sem, Nat.reduceLT, Nat.reduceEqDiff, Nat.reduceLeDiff, Nat.reduceAdd, Nat.reduceMul, Int.reduceToNat, Nat.reducePow, ↓reduceIte, reduceCtorEq, cKs, List.map_nil, List.length_nil]))
          rintro ⟨m, ix⟩ ⟨hl1, hl2, hl3⟩
          simp only at hl1 hl2 hl3
          have hne : ∀ j, (j = it ∨ j = wm ∨ j = sk ∨ j = sm) → (cKs (m.map (·.1)) = [] ∨ ix ≠ j) := fun j hj => by
            rcases hl3 with rfl | ⟨a1, a2, a3, a4, _⟩
            · exact .inl rfl
            · rcases hj with rfl | rfl | rfl | rfl
              · exact .inr a1
              · exact .inr a2
              · exact .inr a3
              · exact .inr a4
          have hB1 := fun X tk => box_hold (bx := (it, X) :: (wm, [.mc (encP P2) c2]) :: (sk, [.con (.int .i64 n2), .mp sm]) :: (sm, [.mc (encP P2) c2]) :: H.bx) (tk := tk) (hne it (.inl rfl))
          have hB2 := fun X tk => box_hold (bx := (it, X) :: (wm, [.mc (encP P2) c2]) :: (sk, [.con (.int .i64 n2), .mp sm]) :: (sm, [.mc (encP P2) c2]) :: H.bx) (tk := tk) (hne wm (.inr (.inl rfl)))
          have hU := fun X tk f => upd_hold_ne (bx := (it, X) :: (wm, [.mc (encP P2) c2]) :: (sk, [.con (.int .i64 n2), .mp sm]) :: (sm, [.mc (encP P2) c2]) :: H.bx) (tk := tk) (hne it (.inl rfl)) f
          ((repeat' (first | (refine awp_seq_k (fun K hK => ?_)) | (refine awp_reg _ rfl ?_; (try simp only [go_sem, Nat.reduceLT, Nat.reduceEqDiff, Nat.reduceLeDiff, Nat.reduceAdd, Nat.reduceMul, Int.reduceToNat, Nat.reducePow, ↓reduceIte, reduceCtorEq, hB1, hB2, hU, decide_true, decide_false, not_true_eq_false, not_false_eq_true, Bool.not_true, Bool.not_false, Bool.true_or, Bool.false_or, Bool.or_true, Bool.or_false, Bool.false_and, Bool.and_false, Bool.true_and, Bool.and_true, true_implies, if_true, if_false])) | (with_reducible apply And.intro))))
          · intro hall
            have hp := met_all hl1 hl2 hs2 (fun p hp => hall (.i p.1, cE p.2.1, p.2.2) (List.mem_map.2 ⟨p, hp, rfl⟩))
            have hlen := hp.length_eq
            have hsort : (m.map (·.1)).mergeSort (fun x y => decide (x ≤ y)) = sortK P2 := merge_perm (hp.map _)
            have hcs := c_SortI (m.map (·.1)) ix 3 ((it, [.mp wm, .nl (m.map (·.2.2)), .con (.int .i64 (c2 : Int))]) :: (wm, [.mc (encP P2) c2]) :: (sk, [.con (.int .i64 n2), .mp sm]) :: (sm, [.mc (encP P2) c2]) :: H.bx) H.tk (by rw [List.length_map]; omega)
            rw [List.length_map, hsort] at hcs
            have hsl : (sortK P2).length = m.length := by rw [← hsort, List.length_mergeSort, List.length_map]
            have hne' : ∀ j, (j = it ∨ j = wm ∨ j = sk ∨ j = sm) → (cKs (sortK P2) = [] ∨ ix ≠ j) := fun j hj => by
              rcases hne j hj with h | h
              · left
                have := congrArg List.length h
                rw [cKs_len, List.length_map] at this
                exact List.eq_nil_of_length_eq_zero (by rw [cKs_len, hsl]; exact this)
              · exact .inr h
            have hWt := c_Waiting n2 sm sk c2 P2 ⟨hold ix (cKs (sortK P2)) ((it, [.mp wm, .nl (m.map (·.2.2)), .con (.int .i64 (c2 : Int))]) :: (wm, [.mc (encP P2) c2]) :: (sk, [.con (.int .i64 n2), .mp sm]) :: (sm, [.mc (encP P2) c2]) :: H.bx), H.tk⟩
              (by rw [box_hold (hne' sk (.inr (.inr (.inl rfl)))), box_cons, if_neg ni2.ne, box_cons, if_neg nw1.ne, box_cons, if_pos rfl])
              (by rw [box_hold (hne' sm (.inr (.inr (.inr rfl)))), box_cons, if_neg ni3.ne, box_cons, if_neg nw2.ne, box_cons, if_neg n1.ne, box_cons, if_pos rfl]) (by omega)
            have hEq := c_EqualII (sortK P2) ix ⟨hold ix (cKs (sortK P2)) ((it, [.mp wm, .nl (m.map (·.2.2)), .con (.int .i64 (c2 : Int))]) :: (wm, [.mc (encP P2) c2]) :: (sk, [.con (.int .i64 n2), .mp sm]) :: (sm, [.mc (encP P2) c2]) :: H.bx), H.tk⟩ (by
              by_cases h : sortK P2 = []
              · exact .inl h
              · exact .inr (lookup_hold fun e => h (List.eq_nil_of_length_eq_zero (by have := congrArg List.length e; rwa [cKs_len] at this)))) (by omega)
            rw [hsl] at hEq
            ((repeat' (first | (refine awp_seq_k (fun K hK => ?_)) | (refine awp_reg _ rfl ?_; (try simp only [go_sem, Nat.reduceLT, Nat.reduceEqDiff, Nat.reduceLeDiff, Nat.reduceAdd, Nat.reduceMul, Int.reduceToNat, Nat.reducePow, ↓reduceIte, reduceCtorEq, decide_true, decide_false, not_true_eq_false, not_false_eq_true, Bool.not_true, Bool.not_false, Bool.true_or, Bool.false_or, Bool.or_true, Bool.or_false, Bool.false_and, Bool.and_false, Bool.true_and, Bool.and_true, true_implies, if_true, if_false])) | (refine awp_condF rfl (by ((rfl))) ?_) | (refine awp_skip ?_; (try simp only [sq, bk, ↓reduceIte, Nat.reduceEqDiff, reduceCtorEq])) | (refine awp_exit ?_; (try simp only [sq, bk, ↓reduceIte, Nat.reduceEqDiff, reduceCtorEq])) | (refine ACalls.det (hcs) ?_) | (refine PureAt.use (hWt) ?_) | (refine PureAt.use (hEq) ?_ <;> (try simp only [go_sem, Nat.reduceLT, Nat.reduceEqDiff, Nat.reduceLeDiff, Nat.reduceAdd, Nat.reduceMul, Int.reduceToNat, Nat.reducePow, ↓reduceIte, reduceCtorEq, decide_true, decide_false, not_true_eq_false, not_false_eq_true, Bool.not_true, Bool.not_false, Bool.true_or, Bool.false_or, Bool.or_true, Bool.or_false, Bool.false_and, Bool.and_false, Bool.true_and, Bool.and_true, true_implies, if_true, if_false])) | (refine hK _ ?_; clear hK; (try clear K)) | (refine kk (by assumption) ?_))))
            refine ⟨i + 1, by omega, by omega, ?_⟩
            have hix : cKs (sortK P2) = [] ∨ Hp.box ⟨(wm, [.mc (encP P2) c2]) :: (sk, [.con (.int .i64 n2), .mp sm]) :: (sm, [.mc (encP P2) c2]) :: H.bx, H.tk⟩ ix = none := by
              rcases hl3 with h0 | ⟨a1, a2, a3, a4, a5⟩
              · left
                rw [h0] at hsl
                exact List.eq_nil_of_length_eq_zero (by rw [cKs_len, hsl]; rfl)
              · right
                rw [box_cons, if_neg (Ne.symm a2), box_cons, if_neg (Ne.symm a3), box_cons, if_neg (Ne.symm a4)]
                exact a5
            refine st_le rfl ?_ ?_
            · simp only [go_sem, Nat.reduceLT, Nat.reduceEqDiff, Nat.reduceLeDiff, Nat.reduceAdd, Nat.reduceMul, Int.reduceToNat, Nat.reducePow, ↓reduceIte, reduceCtorEq, hnext, hwi]
            · simp only [hnext]
              exact weak_hold hix (weak_box frI.1 (.refl _))
          · intro e he hns hfe
            obtain ⟨p, hp, rfl⟩ := List.mem_map.1 he
            have hlen : (cKs (m.map (·.1))).length = m.length * 1 := by rw [cKs_len, List.length_map, Nat.mul_one]
            have hz : m.length = 0 ↔ cKs (m.map (·.1)) = [] := by
              rw [← List.length_eq_zero_iff (l := cKs _), hlen, Nat.mul_one]
            have hsl := fun X tk => slC_hold (id := ix) (bx := (it, X) :: (wm, [.mc (encP P2) c2]) :: (sk, [.con (.int .i64 n2), .mp sm]) :: (sm, [.mc (encP P2) c2]) :: H.bx) (tk := tk) hz
            have hok := fun X tk => eq_true (slOk_hold (id := ix) (k := 1) (bx := (it, X) :: (wm, [.mc (encP P2) c2]) :: (sk, [.con (.int .i64 n2), .mp sm]) :: (sm, [.mc (encP P2) c2]) :: H.bx) (tk := tk) hz hlen)
            have hdz : ∀ X, delZ m.length ix (hold ix (cKs (m.map (·.1))) ((it, X) :: (wm, [.mc (encP P2) c2]) :: (sk, [.con (.int .i64 n2), .mp sm]) :: (sm, [.mc (encP P2) c2]) :: H.bx)) = (it, X) :: (wm, [.mc (encP P2) c2]) :: (sk, [.con (.int .i64 n2), .mp sm]) :: (sm, [.mc (encP P2) c2]) :: H.bx := fun X => by
              rcases hl3 with h0 | ⟨a1, a2, a3, a4, a5⟩
              · subst h0; rfl
              · refine delZ_hold ?_ hz
                rw [List.lookup_cons, show (ix == it) = false by simpa using a1, List.lookup_cons, show (ix == wm) = false by simpa using a2, List.lookup_cons, show (ix == sk) = false by simpa using a3, List.lookup_cons, show (ix == sm) = false by simpa using a4]
                exact a5
            have hlP : (m ++ [p]).length ≤ P2.length := by
              have := nodup_len (l := (m ++ [p]).map (·.2.2)) (m := P2.map (·.2.2)) (by
                rw [List.map_append, List.nodup_append]
                refine ⟨hl2, by simp, fun a ha b hb => ?_⟩
                simp only [List.map_cons, List.map_nil, List.mem_singleton] at hb
                rw [hb]; exact fun e => hns (by rw [← e]; exact ha)) (fun x hx => by
                obtain ⟨q, hq, rfl⟩ := List.mem_map.1 hx
                refine List.mem_map.2 ⟨q, ?_, rfl⟩
                rcases List.mem_append.1 hq with hq | hq
                · exact hl1 q hq
                · rw [List.mem_singleton.1 hq]; exact hp)
              simpa using this
            rw [List.length_append, List.length_singleton] at hlP
            ((repeat' (first | (refine awp_seq_k (fun K hK => ?_)) | (refine awp_block ?_) | (refine awp_reg _ rfl ?_; (try simp only [go_sem, Nat.reduceLT, Nat.reduceEqDiff, Nat.reduceLeDiff, Nat.reduceAdd, Nat.reduceMul, Int.reduceToNat, Nat.reducePow, ↓reduceIte, reduceCtorEq, hB1, hB2, hU, hfe, hsl, hok, hdz, flat_one, decide_true, decide_false, not_true_eq_false, not_false_eq_true, Bool.not_true, Bool.not_false, Bool.true_or, Bool.false_or, Bool.or_true, Bool.or_false, Bool.false_and, Bool.and_false, Bool.true_and, Bool.and_true, true_implies, if_true, if_false])) | (refine awp_condT rfl (by ((rfl))) ?_) | (refine awp_skip ?_; (try simp only [sq, bk, ↓reduceIte, Nat.reduceEqDiff, reduceCtorEq])) | (refine orAt_l ?_) | (with_reducible apply And.intro) | (refine all_fresh fun id fr => ?_) | (refine hK _ ?_; clear hK; (try clear K)))); (all_goals (try (first | omega | decide | (simp only [List.mem_singleton, List.mem_cons, List.not_mem_nil, or_false, forall_eq_or_imp, forall_eq, AV.cells, List.length_cons, List.length_nil, and_self, Nat.reduceAdd]; done)))))
            have fH := (fresh_hold fr).1
            refine ⟨(m ++ [p], id), by simp only [List.length_append, List.length_singleton]; omega, ⟨fun q hq => ?_, ?_, .inr ⟨fun e => (NeI.of_fr fH).ne e, fun e => (NeI.of_fr (fr_drop fH)).ne e, fun e => (NeI.of_fr (fr_drop (fr_drop fH))).ne e, fun e => (NeI.of_fr (fr_drop (fr_drop (fr_drop fH)))).ne e, (fr_drop (fr_drop (fr_drop (fr_drop fH)))).1⟩⟩, ?_⟩
            · rcases List.mem_append.1 hq with hq | hq
              · exact hl1 q hq
              · rw [List.mem_singleton.1 hq]; exact hp
            · rw [List.map_append, List.nodup_append]
              refine ⟨hl2, by simp, fun a ha b hb => ?_⟩
              simp only [List.map_cons, List.map_nil, List.mem_singleton] at hb
              rw [hb]; exact fun e => hns (by rw [← e]; exact ha)
            · have hh : hold id (cKs ((m ++ [p]).map (·.1))) ((it, [.mp wm, .nl ((m ++ [p]).map (·.2.2)), .con (.int .i64 (c2 : Int))]) :: (wm, [.mc (encP P2) c2]) :: (sk, [.con (.int .i64 n2), .mp sm]) :: (sm, [.mc (encP P2) c2]) :: H.bx) = (id, cKs (m.map (·.1)) ++ [.con (.int .i64 p.1)]) :: (it, [.mp wm, .nl (m.map (·.2.2) ++ [p.2.2]), .con (.int .i64 (c2 : Int))]) :: (wm, [.mc (encP P2) c2]) :: (sk, [.con (.int .i64 n2), .mp sm]) :: (sm, [.mc (encP P2) c2]) :: H.bx := by
                rw [List.map_append, cKs_append, List.map_append]; exact hold_ne (by simp [cKs])
              (refine st_le rfl ?_ (by ((try dsimp only); (try simp only [hh, List.length_append, List.length_singleton,  List.length_append, List.length_cons, List.length_nil, Nat.zero_add]); repeat' ((with_reducible exact .refl _)))); (try simp only [go_sem, Nat.reduceLT, Nat.reduceEqDiff, Nat.reduceLeDiff, Nat.reduceAdd, Nat.reduceMul, Int.reduceToNat, Nat.reducePow, ↓reduceIte, reduceCtorEq, hh, List.length_append, List.length_singleton]))
        clear hK2 hK
        have hmkm : ∀ j, mOk Try.prog 3 (.i j) (encP Pm) = True := fun j => eq_true (mOk_i ty_int3 (encP_allI Pm) j)
        have hgetm : ∀ j, mget (.i j) (encP Pm) = (pget j Pm).map cE := fun j => mget_enc j Pm
        rcases hor with ⟨rfl, hT⟩ | ⟨rfl, rfl, f0, hf0, hT⟩
        · rw [hT] at hK3
          simp only at hK3
          cases hgm : pget n Pm with
          | none => 
            ((repeat' (first | (refine awp_seq_k (fun K hK => ?_)) | (refine awp_block ?_) | (refine awp_reg _ rfl ?_; (try simp only [go_sem, Nat.reduceLT, Nat.reduceEqDiff, Nat.reduceLeDiff, Nat.reduceAdd, Nat.reduceMul, Int.reduceToNat, Nat.reducePow, ↓reduceIte, reduceCtorEq, hmkm, hgetm, hgm, Option.map_none, decide_true, decide_false, not_true_eq_false, not_false_eq_true, Bool.not_true, Bool.not_false, Bool.true_or, Bool.false_or, Bool.or_true, Bool.or_false, Bool.false_and, Bool.and_false, Bool.true_and, Bool.and_true, true_implies, if_true, if_false])) | (refine orAt_l ?_) | (refine all_fresh fun id fr => ?_; (try have := NeI.of_fr fr); (try have := NeI.of_fr (fr_drop fr)); (try have := NeI.of_fr (fr_drop (fr_drop fr)))) | (refine hK _ ?_; clear hK; (try clear K)))))
            refine awp_loop (ι := Unit) (fun _ => ⟨152, [(5, .ptr sk 0), (6, .con (.int .i64 n)), (7, .mp wm), (9, .ro [.con (.int .i64 x.no), .list (encCs x.ch) none]), (10, .con (.int .i64 e)), (13, .con (.bool false)), (14, .con (.slice none 0 0)), (16, .con (.bool false)), (41, .list (encEs l) none), (42, .con (.int .i64 l.length)), (43, .con (.int .i64 (i : Int)))],
              ⟨(wm, [.mc (encP Pm) cm]) :: (sk, [.con (.int .i64 n), .mp sm]) :: (sm, [.mc (encP P) c]) :: H.bx, H.tk⟩⟩) (fun _ => True) (fun _ => 0) () trivial (by (refine st_le rfl ?_ (by ((try dsimp only); repeat' (first | with_reducible exact .refl _ | exact box_fresh (by assumption) | refine weak_box ?_ ?_))); (try simp only [go_sem, Nat.reduceLT, Nat.reduceEqDiff, Nat.reduceLeDiff, Nat.reduceAdd, Nat.reduceMul, Int.reduceToNat, Nat.reducePow, ↓reduceIte, reduceCtorEq]))) (fun _ _ => ?_)
            ((repeat' (first | (refine awp_seq_k (fun K hK => ?_)) | (refine awp_reg _ rfl ?_; (try simp only [go_sem, Nat.reduceLT, Nat.reduceEqDiff, Nat.reduceLeDiff, Nat.reduceAdd, Nat.reduceMul, Int.reduceToNat, Nat.reducePow, ↓reduceIte, reduceCtorEq, decide_true, decide_false, not_true_eq_false, not_false_eq_true, Bool.not_true, Bool.not_false, Bool.true_or, Bool.false_or, Bool.or_true, Bool.or_false, Bool.false_and, Bool.and_false, Bool.true_and, Bool.and_true, true_implies, if_true, if_false])) | (refine awp_condF rfl (by ((rfl))) ?_) | (refine awp_exit ?_; (try simp only [sq, bk, ↓reduceIte, Nat.reduceEqDiff, reduceCtorEq])) | (refine awpN_zero ?_) | (refine hK _ ?_; clear hK; (try clear K)))))
            exact hK3 _ (by (refine st_le rfl ?_ (by ((try dsimp only); repeat' ((with_reducible exact .refl _)))); (try simp only [go_sem, Nat.reduceLT, Nat.reduceEqDiff, Nat.reduceLeDiff, Nat.reduceAdd, Nat.reduceMul, Int.reduceToNat, Nat.reducePow, ↓reduceIte, reduceCtorEq, encEs, List.map_nil])))
          | some y =>
            ((repeat' (first | (refine awp_seq_k (fun K hK => ?_)) | (refine awp_block ?_) | (refine awp_reg _ rfl ?_; (try simp only [go_sem, Nat.reduceLT, Nat.reduceEqDiff, Nat.reduceLeDiff, Nat.reduceAdd, Nat.reduceMul, Int.reduceToNat, Nat.reducePow, ↓reduceIte, reduceCtorEq, hmkm, hgetm, hgm, Option.map_some, decide_true, decide_false, not_true_eq_false, not_false_eq_true, Bool.not_true, Bool.not_false, Bool.true_or, Bool.false_or, Bool.or_true, Bool.or_false, Bool.false_and, Bool.and_false, Bool.true_and, Bool.and_true, true_implies, if_true, if_false])) | (refine orAt_l ?_) | (refine all_fresh fun id fr => ?_; (try have := NeI.of_fr fr); (try have := NeI.of_fr (fr_drop fr)); (try have := NeI.of_fr (fr_drop (fr_drop fr)))) | (refine hK _ ?_; clear hK; (try clear K)))))
            refine awp_loop (ι := Unit) (fun _ => ⟨152, [(5, .ptr sk 0), (6, .con (.int .i64 n)), (7, .mp wm), (9, .ro [.con (.int .i64 x.no), .list (encCs x.ch) none]), (10, .con (.int .i64 e)), (13, .con (.bool false)), (14, .con (.slice none 0 0)), (16, .con (.bool true)), (41, .list (encEs l) none), (42, .con (.int .i64 l.length)), (43, .con (.int .i64 (i : Int)))],
              ⟨(wm, [.mc (encP Pm) cm]) :: (sk, [.con (.int .i64 n), .mp sm]) :: (sm, [.mc (encP P) c]) :: H.bx, H.tk⟩⟩) (fun _ => True) (fun _ => 0) () trivial (by (refine st_le rfl ?_ (by ((try dsimp only); repeat' (first | with_reducible exact .refl _ | exact box_fresh (by assumption) | refine weak_box ?_ ?_))); (try simp only [go_sem, Nat.reduceLT, Nat.reduceEqDiff, Nat.reduceLeDiff, Nat.reduceAdd, Nat.reduceMul, Int.reduceToNat, Nat.reducePow, ↓reduceIte, reduceCtorEq]))) (fun _ _ => ?_)
            ((repeat' (first | (refine awp_seq_k (fun K hK => ?_)) | (refine awp_reg _ rfl ?_; (try simp only [go_sem, Nat.reduceLT, Nat.reduceEqDiff, Nat.reduceLeDiff, Nat.reduceAdd, Nat.reduceMul, Int.reduceToNat, Nat.reducePow, ↓reduceIte, reduceCtorEq, decide_true, decide_false, not_true_eq_false, not_false_eq_true, Bool.not_true, Bool.not_false, Bool.true_or, Bool.false_or, Bool.or_true, Bool.or_false, Bool.false_and, Bool.and_false, Bool.true_and, Bool.and_true, true_implies, if_true, if_false])) | (refine awp_condF rfl (by ((rfl))) ?_) | (refine awp_exit ?_; (try simp only [sq, bk, ↓reduceIte, Nat.reduceEqDiff, reduceCtorEq])) | (refine awpN_zero ?_) | (refine hK _ ?_; clear hK; (try clear K)))))
            exact hK3 _ (by (refine st_le rfl ?_ (by ((try dsimp only); repeat' ((with_reducible exact .refl _)))); (try simp only [go_sem, Nat.reduceLT, Nat.reduceEqDiff, Nat.reduceLeDiff, Nat.reduceAdd, Nat.reduceMul, Int.reduceToNat, Nat.reducePow, ↓reduceIte, reduceCtorEq, encEs, List.map_nil])))
        · rw [hT] at hK3
          simp only at hK3
          refine awpN_step ?_
          refine awp_seq_k (fun K6 hK6 => ?_)
          have hK7 : ∀ (s : St) (ib : Nat), fresh ⟨(wm, [.mc (encP Pm) cm]) :: (sk, [.con (.int .i64 n), .mp sm]) :: (sm, [.mc (encP P) c]) :: H.bx, H.tk⟩ ib →
              St.le s ⟨152, [(5, .ptr sk 0), (6, .con (.int .i64 n)), (7, .mp wm), (9, .ro [.con (.int .i64 x.no), .list (encCs x.ch) none]), (10, .con (.int .i64 0)), (13, .con (.bool true)), (14, .con (.slice none 0 0)), (15, .ptr ib 0), (16, .con (.bool (pget n Pm).isSome)), (41, .list (encEs l) none), (42, .con (.int .i64 l.length)), (43, .con (.int .i64 (i : Int)))],
              ⟨(ib, contA (pget n Pm)) :: (wm, [.mc (encP Pm) cm]) :: (sk, [.con (.int .i64 n), .mp sm]) :: (sm, [.mc (encP P) c]) :: H.bx, H.tk⟩⟩ → K6 s := by
            intro s ib fib hs
            refine hK6 _ (awp_weak _ hs ?_)
            clear hs hK6
            refine awp_block ?_
            refine awp_nil 27 2 (fun t => ⟨152, [(5, .ptr sk 0), (6, .con (.int .i64 n)), (7, .mp wm), (9, .ro [.con (.int .i64 x.no), .list (encCs x.ch) none]), (10, .con (.int .i64 0)), (13, .con (.bool true)), (14, .list [] (some t)), (15, .ptr ib 0), (16, .con (.bool (pget n Pm).isSome)), (41, .list (encEs l) none), (42, .con (.int .i64 l.length)), (43, .con (.int .i64 (i : Int)))],
              ⟨(ib, contA (pget n Pm)) :: (wm, [.mc (encP Pm) cm]) :: (sk, [.con (.int .i64 n), .mp sm]) :: (sm, [.mc (encP P) c]) :: H.bx, (t, 0, 27, 2) :: H.tk⟩⟩) (fun t => rfl) (fun t => by simp only [go_sem, Nat.reduceLT, Nat.reduceEqDiff, Nat.reduceLeDiff, Nat.reduceAdd, Nat.reduceMul, Int.reduceToNat, Nat.reducePow, ↓reduceIte, reduceCtorEq]) (fun t => by simp only [go_sem, Nat.reduceLT, Nat.reduceEqDiff, Nat.reduceLeDiff, Nat.reduceAdd, Nat.reduceMul, Int.reduceToNat, Nat.reducePow, ↓reduceIte, reduceCtorEq]) (fun t => rfl) (fun tc frc => ?_)
            refine awp_loop (ι := List Ent × Int × PM × Nat) (fun q => ⟨152, [(5, .ptr sk 0), (6, .con (.int .i64 q.2.1)), (7, .mp wm), (9, .ro [.con (.int .i64 x.no), .list (encCs x.ch) none]), (10, .con (.int .i64 0)), (13, .con (.bool true)), (14, .list (encEs q.1) (some tc)), (15, .ptr q.2.2.2 0), (16, .con (.bool (pget q.2.1 q.2.2.1).isSome)), (41, .list (encEs l) none), (42, .con (.int .i64 l.length)), (43, .con (.int .i64 (i : Int)))],
              ⟨(q.2.2.2, contA (pget q.2.1 q.2.2.1)) :: (wm, [.mc (encP q.2.2.1) cm]) :: (sk, [.con (.int .i64 n), .mp sm]) :: (sm, [.mc (encP P) c]) :: H.bx, (tc, q.1.length, 27, 2) :: H.tk⟩⟩)
              (fun q => okP q.2.2.1 ∧ (1 ≤ q.2.1 ∧ q.2.1 ≤ 9007199254740993) ∧ q.1.length + q.2.2.1.length ≤ 33 ∧ (NeI q.2.2.2 wm ∧ NeI q.2.2.2 sk ∧ NeI q.2.2.2 sm ∧ fresh H q.2.2.2) ∧ ∃ f, q.2.2.1.length < f ∧ dlv f0 n Pm = (q.1 ++ (dlv f q.2.1 q.2.2.1).1, (dlv f q.2.1 q.2.2.1).2)) (fun q => q.2.2.1.length) ([], n, Pm, ib)
              ⟨hPm, hn, by simp only [List.length_nil]; omega, ⟨.of_fr fib, .of_fr (fr_drop fib), .of_fr (fr_drop (fr_drop fib)), fr_drop (fr_drop (fr_drop fib))⟩, f0, by simp only; omega, rfl⟩ ?_ ?_
            · (refine st_le rfl ?_ (by ((try dsimp only); (try simp only [encEs, List.map_nil, List.length_nil,  List.length_append, List.length_cons, List.length_nil, Nat.zero_add]); repeat' (((refine weak_tokeq (by (rfl))))))); (try simp only [go_sem, Nat.reduceLT, Nat.reduceEqDiff, Nat.reduceLeDiff, Nat.reduceAdd, Nat.reduceMul, Int.reduceToNat, Nat.reducePow, ↓reduceIte, reduceCtorEq, encEs, List.map_nil, List.length_nil]))
            rintro ⟨out, k, Q, iq⟩ ⟨hQ1, hQ2, hQ3, ⟨nq1, nq2, nq3, fq⟩, f, hf1, hf2⟩
            simp only at hQ1 hQ2 hQ3 hf1 hf2 nq1 nq2 nq3 fq
            have hmkQ : ∀ j, mOk Try.prog 3 (.i j) (encP Q) = True := fun j => eq_true (mOk_i ty_int3 (encP_allI Q) j)
            have hgetQ : ∀ j, mget (.i j) (encP Q) = (pget j Q).map cE := fun j => mget_enc j Q
            have hdelQ : ∀ j, mdel (.i j) (encP Q) = encP (pdel j Q) := fun j => mdel_enc j Q
            have hel : (encEs out).length = out.length := by simp [encEs]
            obtain ⟨f, rfl⟩ : ∃ g, f = g + 1 := ⟨f - 1, by omega⟩
            cases hgk : pget k Q with
            | some y =>
              have hd : dlv (f + 1) k Q = (y :: (dlv f (k + 1) (pdel k Q)).1, (dlv f (k + 1) (pdel k Q)).2) := by rw [dlv, hgk]
              rw [hd] at hf2
              have hlt := pdel_lt hgk
              obtain ⟨b0, hb0⟩ := pget_mem hgk
              obtain ⟨e1, e2, _, _⟩ := hQ1 _ hb0
              have hr2 := entE_no e2
              simp only at e1 hr2
              have hwk : IntKind.i64.wrap (k + 1) = k + 1 := wrap_id (by omega) (by omega)
              have hst : encEs (out ++ [y]) = encEs out ++ [.agg [.con (.int .i64 y.no), .list (encCs y.ch) none]] := by simp [encEs, cE]
              have hmkD : ∀ j, mOk Try.prog 3 (.i j) (encP (pdel k Q)) = True := fun j => eq_true (mOk_i ty_int3 (encP_allI _) j)
              have hgetD : ∀ j, mget (.i j) (encP (pdel k Q)) = (pget j (pdel k Q)).map cE := fun j => mget_enc j _
              cases hgn : pget (k + 1) (pdel k Q) with
              | some z =>
                ((repeat' (first | (refine awp_seq_k (fun K hK => ?_)) | (refine awp_block ?_) | (refine awp_reg _ rfl ?_; (try simp only [go_sem, Nat.reduceLT, Nat.reduceEqDiff, Nat.reduceLeDiff, Nat.reduceAdd, Nat.reduceMul, Int.reduceToNat, Nat.reducePow, ↓reduceIte, reduceCtorEq, hmkQ, hgetQ, hdelQ, hgk, Option.map_some, Option.isSome_some, contA, hel, hwk, hmkD, hgetD, hgn, decide_true, decide_false, not_true_eq_false, not_false_eq_true, Bool.not_true, Bool.not_false, Bool.true_or, Bool.false_or, Bool.or_true, Bool.or_false, Bool.false_and, Bool.and_false, Bool.true_and, Bool.and_true, true_implies, if_true, if_false])) | (refine awp_condT rfl (by ((rfl))) ?_) | (refine awp_skip ?_; (try simp only [sq, bk, ↓reduceIte, Nat.reduceEqDiff, reduceCtorEq])) | (refine orAt_l ?_) | (with_reducible apply And.intro) | (refine all_fresh fun id fr => ?_; (try have := NeI.of_fr fr); (try have := NeI.of_frt fr); (try have := NeI.of_fr (fr_drop fr)); (try have := NeI.of_frt (fr_drop fr)); (try have := NeI.of_fr (fr_drop (fr_drop fr))); (try have := NeI.of_frt (fr_drop (fr_drop fr))); (try have := NeI.of_fr (fr_drop (fr_drop (fr_drop fr)))); (try have := NeI.of_frt (fr_drop (fr_drop (fr_drop fr)))); (try have := NeI.of_fr (fr_dropt fr)); (try have := NeI.of_fr (fr_drop (fr_dropt fr))); (try have := NeI.of_fr (fr_drop (fr_drop (fr_dropt fr))))) | (refine hK _ ?_; clear hK; (try clear K)))); (all_goals (try (first | omega | decide | (simp only [List.mem_singleton, List.mem_cons, List.not_mem_nil, or_false, forall_eq_or_imp, forall_eq, AV.cells, List.length_cons, List.length_nil, and_self, Nat.reduceAdd]; done)))))
                refine ⟨(out ++ [y], k + 1, pdel k Q, id), hlt, ⟨okP_del hQ1, ⟨by simp only; omega, by simp only; omega⟩, by simp only [List.length_append, List.length_singleton]; omega, ⟨by assumption, by assumption, by assumption, fr_drop (fr_drop (fr_drop (fr_drop (fr_dropt fr))))⟩, f, by simp only; omega, by simp only [hf2, List.append_assoc, List.singleton_append]⟩, ?_⟩
                (refine st_le rfl ?_ (by ((try dsimp only); (try simp only [hst, hgn, contA, Option.isSome_some, Option.isSome_none, List.length_append, List.length_singleton,  List.length_append, List.length_cons, List.length_nil, Nat.zero_add]); repeat' (first | (refine weak_tokc (by (rfl)) ?_) | with_reducible exact .refl _ | ((simp only [box_cons, ne_inst, ne_inst', ↓reduceIte, if_false]); ((exact fresh.box (by assumption)))) | refine weak_boxle (by (repeat' (first | exact lec_nil | exact .refl _))) ?_ | refine weak_box ?_ ?_))); (try simp only [go_sem, Nat.reduceLT, Nat.reduceEqDiff, Nat.reduceLeDiff, Nat.reduceAdd, Nat.reduceMul, Int.reduceToNat, Nat.reducePow, ↓reduceIte, reduceCtorEq, hst, hgn, contA, Option.isSome_some, Option.isSome_none, List.length_append, List.length_singleton]))
              | none =>
                ((repeat' (first | (refine awp_seq_k (fun K hK => ?_)) | (refine awp_block ?_) | (refine awp_reg _ rfl ?_; (try simp only [go_sem, Nat.reduceLT, Nat.reduceEqDiff, Nat.reduceLeDiff, Nat.reduceAdd, Nat.reduceMul, Int.reduceToNat, Nat.reducePow, ↓reduceIte, reduceCtorEq, hmkQ, hgetQ, hdelQ, hgk, Option.map_some, Option.map_none, Option.isSome_some, contA, hel, hwk, hmkD, hgetD, hgn, decide_true, decide_false, not_true_eq_false, not_false_eq_true, Bool.not_true, Bool.not_false, Bool.true_or, Bool.false_or, Bool.or_true, Bool.or_false, Bool.false_and, Bool.and_false, Bool.true_and, Bool.and_true, true_implies, if_true, if_false])) | (refine awp_condT rfl (by ((rfl))) ?_) | (refine awp_skip ?_; (try simp only [sq, bk, ↓reduceIte, Nat.reduceEqDiff, reduceCtorEq])) | (refine orAt_l ?_) | (with_reducible apply And.intro) | (refine all_fresh fun id fr => ?_; (try have := NeI.of_fr fr); (try have := NeI.of_frt fr); (try have := NeI.of_fr (fr_drop fr)); (try have := NeI.of_frt (fr_drop fr)); (try have := NeI.of_fr (fr_drop (fr_drop fr))); (try have := NeI.of_frt (fr_drop (fr_drop fr))); (try have := NeI.of_fr (fr_drop (fr_drop (fr_drop fr)))); (try have := NeI.of_frt (fr_drop (fr_drop (fr_drop fr)))); (try have := NeI.of_fr (fr_dropt fr)); (try have := NeI.of_fr (fr_drop (fr_dropt fr))); (try have := NeI.of_fr (fr_drop (fr_drop (fr_dropt fr))))) | (refine hK _ ?_; clear hK; (try clear K)))); (all_goals (try (first | omega | decide | (simp only [List.mem_singleton, List.mem_cons, List.not_mem_nil, or_false, forall_eq_or_imp, forall_eq, AV.cells, List.length_cons, List.length_nil, and_self, Nat.reduceAdd]; done)))))
                refine ⟨(out ++ [y], k + 1, pdel k Q, id), hlt, ⟨okP_del hQ1, ⟨by simp only; omega, by simp only; omega⟩, by simp only [List.length_append, List.length_singleton]; omega, ⟨by assumption, by assumption, by assumption, fr_drop (fr_drop (fr_drop (fr_drop (fr_dropt fr))))⟩, f, by simp only; omega, by simp only [hf2, List.append_assoc, List.singleton_append]⟩, ?_⟩
                (refine st_le rfl ?_ (by ((try dsimp only); (try simp only [hst, hgn, contA, Option.isSome_some, Option.isSome_none, List.length_append, List.length_singleton,  List.length_append, List.length_cons, List.length_nil, Nat.zero_add]); repeat' (first | (refine weak_tokc (by (rfl)) ?_) | with_reducible exact .refl _ | ((simp only [box_cons, ne_inst, ne_inst', ↓reduceIte, if_false]); ((exact fresh.box (by assumption)))) | refine weak_boxle (by (repeat' (first | exact lec_nil | exact .refl _))) ?_ | refine weak_box ?_ ?_))); (try simp only [go_sem, Nat.reduceLT, Nat.reduceEqDiff, Nat.reduceLeDiff, Nat.reduceAdd, Nat.reduceMul, Int.reduceToNat, Nat.reducePow, ↓reduceIte, reduceCtorEq, hst, hgn, contA, Option.isSome_some, Option.isSome_none, List.length_append, List.length_singleton]))
            | none =>
              have hd : dlv (f + 1) k Q = ([], k, Q) := by rw [dlv, hgk]
              rw [hd, List.append_nil] at hf2
              rw [hf2] at hK3
              ((repeat' (first | (refine awp_seq_k (fun K hK => ?_)) | (refine awp_reg _ rfl ?_; (try simp only [go_sem, Nat.reduceLT, Nat.reduceEqDiff, Nat.reduceLeDiff, Nat.reduceAdd, Nat.reduceMul, Int.reduceToNat, Nat.reducePow, ↓reduceIte, reduceCtorEq, hmkQ, hgetQ, hgk, Option.map_none, Option.isSome_none, hel, decide_true, decide_false, not_true_eq_false, not_false_eq_true, Bool.not_true, Bool.not_false, Bool.true_or, Bool.false_or, Bool.or_true, Bool.or_false, Bool.false_and, Bool.and_false, Bool.true_and, Bool.and_true, true_implies, if_true, if_false])) | (refine awp_condF rfl (by ((rfl))) ?_) | (refine awp_exit ?_; (try simp only [sq, bk, ↓reduceIte, Nat.reduceEqDiff, reduceCtorEq])) | (refine awpN_zero ?_) | (refine hK _ ?_; clear hK; (try clear K)))))
              exact hK3 _ (by (refine st_le rfl ?_ (by ((try dsimp only); repeat' (first | with_reducible exact .refl _ | exact tok_fr (by assumption) | ((simp only [box_cons, ne_inst, ne_inst', ↓reduceIte, if_false]); ((exact fresh.box (by assumption)))) | refine weak_boxle (by (repeat' (first | exact lec_nil | exact .refl _))) ?_ | refine weak_box ?_ ?_ | refine weak_tok ?_ ?_))); (try simp only [go_sem, Nat.reduceLT, Nat.reduceEqDiff, Nat.reduceLeDiff, Nat.reduceAdd, Nat.reduceMul, Int.reduceToNat, Nat.reducePow, ↓reduceIte, reduceCtorEq])))
          clear hK6
          cases hgm : pget n Pm with
          | none =>
            ((repeat' (first | (refine awp_reg _ rfl ?_; (try simp only [go_sem, Nat.reduceLT, Nat.reduceEqDiff, Nat.reduceLeDiff, Nat.reduceAdd, Nat.reduceMul, Int.reduceToNat, Nat.reducePow, ↓reduceIte, reduceCtorEq, hmkm, hgetm, hgm, Option.map_none, decide_true, decide_false, not_true_eq_false, not_false_eq_true, Bool.not_true, Bool.not_false, Bool.true_or, Bool.false_or, Bool.or_true, Bool.or_false, Bool.false_and, Bool.and_false, Bool.true_and, Bool.and_true, true_implies, if_true, if_false])) | (refine orAt_l ?_) | (refine all_fresh fun id fr => ?_; (try have := NeI.of_fr fr); (try have := NeI.of_fr (fr_drop fr)); (try have := NeI.of_fr (fr_drop (fr_drop fr)))))))
            exact hK7 _ id fr (by (refine st_le rfl ?_ (by ((try dsimp only); (try simp only [hgm, contA, Option.isSome_none,  List.length_append, List.length_cons, List.length_nil, Nat.zero_add]); repeat' ((with_reducible exact .refl _)))); (try simp only [go_sem, Nat.reduceLT, Nat.reduceEqDiff, Nat.reduceLeDiff, Nat.reduceAdd, Nat.reduceMul, Int.reduceToNat, Nat.reducePow, ↓reduceIte, reduceCtorEq, hgm, contA, Option.isSome_none])))
          | some y =>
            ((repeat' (first | (refine awp_reg _ rfl ?_; (try simp only [go_sem, Nat.reduceLT, Nat.reduceEqDiff, Nat.reduceLeDiff, Nat.reduceAdd, Nat.reduceMul, Int.reduceToNat, Nat.reducePow, ↓reduceIte, reduceCtorEq, hmkm, hgetm, hgm, Option.map_some, decide_true, decide_false, not_true_eq_false, not_false_eq_true, Bool.not_true, Bool.not_false, Bool.true_or, Bool.false_or, Bool.or_true, Bool.or_false, Bool.false_and, Bool.and_false, Bool.true_and, Bool.and_true, true_implies, if_true, if_false])) | (refine orAt_l ?_) | (refine all_fresh fun id fr => ?_; (try have := NeI.of_fr fr); (try have := NeI.of_fr (fr_drop fr)); (try have := NeI.of_fr (fr_drop (fr_drop fr)))))))
            exact hK7 _ id fr (by (refine st_le rfl ?_ (by ((try dsimp only); (try simp only [hgm, contA, Option.isSome_some,  List.length_append, List.length_cons, List.length_nil, Nat.zero_add]); repeat' ((with_reducible exact .refl _)))); (try simp only [go_sem, Nat.reduceLT, Nat.reduceEqDiff, Nat.reduceLeDiff, Nat.reduceAdd, Nat.reduceMul, Int.reduceToNat, Nat.reducePow, ↓reduceIte, reduceCtorEq, hgm, contA, Option.isSome_some])))
      clear hK4 hK
      by_cases he : entE x = 0
      · have hE : (entE x = 0) = True := eq_true he
        cases hgx : pget x.no P with
        | some y =>
          obtain ⟨b0, hb0⟩ := pget_mem hgx
          obtain ⟨_, hye, hyw, hys⟩ := hP _ hb0
          have hl1 := hgx0.s.all
          have hl2 := hys.all
          have hsb := same_body he hye hgx0.w hyw (Nat.lt_of_le_of_lt hl1 (by omega)) (Nat.lt_of_le_of_lt hl2 (by omega))
          have hSm : ∀ H, PureAt Try.prog 12 [.list [cE x] none, .list [cE y] none] H (.con (.bool (decide (bodyB y = bodyB x)))) := fun H => by
            have := c_SameEs [x] [y] H (by simp) (fun c hc => by rw [List.mem_singleton.1 hc]; exact hgx0.r) (fun c hc => by rw [List.mem_singleton.1 hc]; exact plain_range (entE_plain hye hyw) hys)
            rw [show sameEs [x] [y] = sameE x y by simp [sameEs, eqN], hsb] at this
            exact this
          by_cases hq : bodyB y = bodyB x
          · have hQ : (bodyB y = bodyB x) = True := eq_true hq
            have hT : takeS n P c x = ([], 0, n, P, c) := by unfold takeS; rw [if_neg (by omega), hgx]; simp only; rw [if_pos hq]
            ((repeat' (first | (refine awp_seq_k (fun K hK => ?_)) | (refine awp_block ?_) | (refine awp_reg _ rfl ?_; (try simp only [go_sem, Nat.reduceLT, Nat.reduceEqDiff, Nat.reduceLeDiff, Nat.reduceAdd, Nat.reduceMul, Int.reduceToNat, Nat.reducePow, ↓reduceIte, reduceCtorEq, hgl, hE, hmk, hget, hgx, Option.map_some, hQ, decide_true, decide_false, not_true_eq_false, not_false_eq_true, Bool.not_true, Bool.not_false, Bool.true_or, Bool.false_or, Bool.or_true, Bool.or_false, Bool.false_and, Bool.and_false, Bool.true_and, Bool.and_true, true_implies, if_true, if_false])) | (refine awp_condT rfl (by ((rfl))) ?_) | (refine awp_condF rfl (by ((rfl))) ?_) | (refine awp_skip ?_; (try simp only [sq, bk, ↓reduceIte, Nat.reduceEqDiff, reduceCtorEq])) | (refine PureAt.use (c_EntryFault x _ hgx0.w hgx0.s hgx0.r) ?_ <;> (try simp only [go_sem, Nat.reduceLT, Nat.reduceEqDiff, Nat.reduceLeDiff, Nat.reduceAdd, Nat.reduceMul, Int.reduceToNat, Nat.reducePow, ↓reduceIte, reduceCtorEq, hgl, hE, hmk, hget, hgx, Option.map_some, hQ, decide_true, decide_false, not_true_eq_false, not_false_eq_true, Bool.not_true, Bool.not_false, Bool.true_or, Bool.false_or, Bool.or_true, Bool.or_false, Bool.false_and, Bool.and_false, Bool.true_and, Bool.and_true, true_implies, if_true, if_false])) | (refine PureAt.use (hSm _) ?_ <;> (try simp only [go_sem, Nat.reduceLT, Nat.reduceEqDiff, Nat.reduceLeDiff, Nat.reduceAdd, Nat.reduceMul, Int.reduceToNat, Nat.reducePow, ↓reduceIte, reduceCtorEq, hgl, hE, hmk, hget, hgx, Option.map_some, hQ, decide_true, decide_false, not_true_eq_false, not_false_eq_true, Bool.not_true, Bool.not_false, Bool.true_or, Bool.false_or, Bool.or_true, Bool.or_false, Bool.false_and, Bool.and_false, Bool.true_and, Bool.and_true, true_implies, if_true, if_false])) | (refine orAt_r 9 ?_; (try simp only [go_sem, Nat.reduceLT, Nat.reduceEqDiff, Nat.reduceLeDiff, Nat.reduceAdd, Nat.reduceMul, Int.reduceToNat, Nat.reducePow, ↓reduceIte, reduceCtorEq, hgl, hE, hmk, hget, hgx, Option.map_some, hQ, decide_true, decide_false, not_true_eq_false, not_false_eq_true, Bool.not_true, Bool.not_false, Bool.true_or, Bool.false_or, Bool.or_true, Bool.or_false, Bool.false_and, Bool.and_false, Bool.true_and, Bool.and_true, true_implies, if_true, if_false])) | (refine orAt_r 11 ?_; (try simp only [go_sem, Nat.reduceLT, Nat.reduceEqDiff, Nat.reduceLeDiff, Nat.reduceAdd, Nat.reduceMul, Int.reduceToNat, Nat.reducePow, ↓reduceIte, reduceCtorEq, hgl, hE, hmk, hget, hgx, Option.map_some, hQ, decide_true, decide_false, not_true_eq_false, not_false_eq_true, Bool.not_true, Bool.not_false, Bool.true_or, Bool.false_or, Bool.or_true, Bool.or_false, Bool.false_and, Bool.and_false, Bool.true_and, Bool.and_true, true_implies, if_true, if_false])) | (refine orAt_l ?_) | (with_reducible apply And.intro) | (refine awpN_zero ?_) | (refine hK _ ?_; clear hK; (try clear K)))); (all_goals (try (first | omega | decide))))
            exact hK5 _ 0 false P c hP (by omega) (.inl ⟨rfl, hT⟩) (by (refine st_le rfl ?_ (by ((try dsimp only); repeat' ((with_reducible exact .refl _)))); (try simp only [go_sem, Nat.reduceLT, Nat.reduceEqDiff, Nat.reduceLeDiff, Nat.reduceAdd, Nat.reduceMul, Int.reduceToNat, Nat.reducePow, ↓reduceIte, reduceCtorEq, he])))
          · have hQ : (bodyB y = bodyB x) = False := eq_false hq
            have hT : takeS n P c x = ([], 17, n, P, c) := by unfold takeS; rw [if_neg (by omega), hgx]; simp only; rw [if_neg hq]
            ((repeat' (first | (refine awp_seq_k (fun K hK => ?_)) | (refine awp_block ?_) | (refine awp_reg _ rfl ?_; (try simp only [go_sem, Nat.reduceLT, Nat.reduceEqDiff, Nat.reduceLeDiff, Nat.reduceAdd, Nat.reduceMul, Int.reduceToNat, Nat.reducePow, ↓reduceIte, reduceCtorEq, hgl, hE, hmk, hget, hgx, Option.map_some, hQ, decide_true, decide_false, not_true_eq_false, not_false_eq_true, Bool.not_true, Bool.not_false, Bool.true_or, Bool.false_or, Bool.or_true, Bool.or_false, Bool.false_and, Bool.and_false, Bool.true_and, Bool.and_true, true_implies, if_true, if_false])) | (refine awp_condT rfl (by ((rfl))) ?_) | (refine awp_condF rfl (by ((rfl))) ?_) | (refine awp_skip ?_; (try simp only [sq, bk, ↓reduceIte, Nat.reduceEqDiff, reduceCtorEq])) | (refine PureAt.use (c_EntryFault x _ hgx0.w hgx0.s hgx0.r) ?_ <;> (try simp only [go_sem, Nat.reduceLT, Nat.reduceEqDiff, Nat.reduceLeDiff, Nat.reduceAdd, Nat.reduceMul, Int.reduceToNat, Nat.reducePow, ↓reduceIte, reduceCtorEq, hgl, hE, hmk, hget, hgx, Option.map_some, hQ, decide_true, decide_false, not_true_eq_false, not_false_eq_true, Bool.not_true, Bool.not_false, Bool.true_or, Bool.false_or, Bool.or_true, Bool.or_false, Bool.false_and, Bool.and_false, Bool.true_and, Bool.and_true, true_implies, if_true, if_false])) | (refine PureAt.use (hSm _) ?_ <;> (try simp only [go_sem, Nat.reduceLT, Nat.reduceEqDiff, Nat.reduceLeDiff, Nat.reduceAdd, Nat.reduceMul, Int.reduceToNat, Nat.reducePow, ↓reduceIte, reduceCtorEq, hgl, hE, hmk, hget, hgx, Option.map_some, hQ, decide_true, decide_false, not_true_eq_false, not_false_eq_true, Bool.not_true, Bool.not_false, Bool.true_or, Bool.false_or, Bool.or_true, Bool.or_false, Bool.false_and, Bool.and_false, Bool.true_and, Bool.and_true, true_implies, if_true, if_false])) | (refine orAt_r 9 ?_; (try simp only [go_sem, Nat.reduceLT, Nat.reduceEqDiff, Nat.reduceLeDiff, Nat.reduceAdd, Nat.reduceMul, Int.reduceToNat, Nat.reducePow, ↓reduceIte, reduceCtorEq, hgl, hE, hmk, hget, hgx, Option.map_some, hQ, decide_true, decide_false, not_true_eq_false, not_false_eq_true, Bool.not_true, Bool.not_false, Bool.true_or, Bool.false_or, Bool.or_true, Bool.or_false, Bool.false_and, Bool.and_false, Bool.true_and, Bool.and_true, true_implies, if_true, if_false])) | (refine orAt_r 11 ?_; (try simp only [go_sem, Nat.reduceLT, Nat.reduceEqDiff, Nat.reduceLeDiff, Nat.reduceAdd, Nat.reduceMul, Int.reduceToNat, Nat.reducePow, ↓reduceIte, reduceCtorEq, hgl, hE, hmk, hget, hgx, Option.map_some, hQ, decide_true, decide_false, not_true_eq_false, not_false_eq_true, Bool.not_true, Bool.not_false, Bool.true_or, Bool.false_or, Bool.or_true, Bool.or_false, Bool.false_and, Bool.and_false, Bool.true_and, Bool.and_true, true_implies, if_true, if_false])) | (refine orAt_l ?_) | (with_reducible apply And.intro) | (refine awpN_zero ?_) | (refine hK _ ?_; clear hK; (try clear K)))); (all_goals (try (first | omega | decide))))
            exact hK5 _ 17 false P c hP (by omega) (.inl ⟨rfl, hT⟩) (by (refine st_le rfl ?_ (by ((try dsimp only); repeat' ((with_reducible exact .refl _)))); (try simp only [go_sem, Nat.reduceLT, Nat.reduceEqDiff, Nat.reduceLeDiff, Nat.reduceAdd, Nat.reduceMul, Int.reduceToNat, Nat.reducePow, ↓reduceIte, reduceCtorEq])))
        | none =>
          by_cases hq : x.no < n
          · have hQ : (x.no < n) = True := eq_true hq
            have hT : takeS n P c x = ([], 0, n, P, c) := by unfold takeS; rw [if_neg (by omega), hgx]; simp only; rw [if_pos hq]
            ((repeat' (first | (refine awp_seq_k (fun K hK => ?_)) | (refine awp_block ?_) | (refine awp_reg _ rfl ?_; (try simp only [go_sem, Nat.reduceLT, Nat.reduceEqDiff, Nat.reduceLeDiff, Nat.reduceAdd, Nat.reduceMul, Int.reduceToNat, Nat.reducePow, ↓reduceIte, reduceCtorEq, hgl, hE, hmk, hget, hgx, Option.map_none, hQ, decide_true, decide_false, not_true_eq_false, not_false_eq_true, Bool.not_true, Bool.not_false, Bool.true_or, Bool.false_or, Bool.or_true, Bool.or_false, Bool.false_and, Bool.and_false, Bool.true_and, Bool.and_true, true_implies, if_true, if_false])) | (refine awp_condT rfl (by ((rfl))) ?_) | (refine awp_condF rfl (by ((rfl))) ?_) | (refine awp_skip ?_; (try simp only [sq, bk, ↓reduceIte, Nat.reduceEqDiff, reduceCtorEq])) | (refine PureAt.use (c_EntryFault x _ hgx0.w hgx0.s hgx0.r) ?_ <;> (try simp only [go_sem, Nat.reduceLT, Nat.reduceEqDiff, Nat.reduceLeDiff, Nat.reduceAdd, Nat.reduceMul, Int.reduceToNat, Nat.reducePow, ↓reduceIte, reduceCtorEq, hgl, hE, hmk, hget, hgx, Option.map_none, hQ, decide_true, decide_false, not_true_eq_false, not_false_eq_true, Bool.not_true, Bool.not_false, Bool.true_or, Bool.false_or, Bool.or_true, Bool.or_false, Bool.false_and, Bool.and_false, Bool.true_and, Bool.and_true, true_implies, if_true, if_false])) | (refine orAt_r 9 ?_; (try simp only [go_sem, Nat.reduceLT, Nat.reduceEqDiff, Nat.reduceLeDiff, Nat.reduceAdd, Nat.reduceMul, Int.reduceToNat, Nat.reducePow, ↓reduceIte, reduceCtorEq, hgl, hE, hmk, hget, hgx, Option.map_none, hQ, decide_true, decide_false, not_true_eq_false, not_false_eq_true, Bool.not_true, Bool.not_false, Bool.true_or, Bool.false_or, Bool.or_true, Bool.or_false, Bool.false_and, Bool.and_false, Bool.true_and, Bool.and_true, true_implies, if_true, if_false])) | (refine orAt_r 11 ?_; (try simp only [go_sem, Nat.reduceLT, Nat.reduceEqDiff, Nat.reduceLeDiff, Nat.reduceAdd, Nat.reduceMul, Int.reduceToNat, Nat.reducePow, ↓reduceIte, reduceCtorEq, hgl, hE, hmk, hget, hgx, Option.map_none, hQ, decide_true, decide_false, not_true_eq_false, not_false_eq_true, Bool.not_true, Bool.not_false, Bool.true_or, Bool.false_or, Bool.or_true, Bool.or_false, Bool.false_and, Bool.and_false, Bool.true_and, Bool.and_true, true_implies, if_true, if_false])) | (with_reducible apply And.intro) | (refine awpN_zero ?_) | (refine hK _ ?_; clear hK; (try clear K)))); (all_goals (try ((omega)))))
            exact hK5 _ 0 false P c hP (by omega) (.inl ⟨rfl, hT⟩) (by (refine st_le rfl ?_ (by ((try dsimp only); repeat' ((with_reducible exact .refl _)))); (try simp only [go_sem, Nat.reduceLT, Nat.reduceEqDiff, Nat.reduceLeDiff, Nat.reduceAdd, Nat.reduceMul, Int.reduceToNat, Nat.reducePow, ↓reduceIte, reduceCtorEq, he])))
          · have hQ : (x.no < n) = False := eq_false hq
            have hlE := encP_len P
            by_cases hf : x.no ≠ n ∧ P.length = 32
            · have hF1 : (n < x.no) = True := eq_true (by have := hf.1; omega)
              have hF2 : ((P.length : Int) = 32) = True := eq_true (by omega)
              have hT : takeS n P c x = ([], 6, n, P, c) := by unfold takeS; rw [if_neg (by omega), hgx]; simp only; rw [if_neg hq, if_pos hf]
              ((repeat' (first | (refine awp_seq_k (fun K hK => ?_)) | (refine awp_block ?_) | (refine awp_reg _ rfl ?_; (try simp only [go_sem, Nat.reduceLT, Nat.reduceEqDiff, Nat.reduceLeDiff, Nat.reduceAdd, Nat.reduceMul, Int.reduceToNat, Nat.reducePow, ↓reduceIte, reduceCtorEq, hgl, hE, hmk, hget, hgx, Option.map_none, hQ, hF1, hF2, hlE, decide_true, decide_false, not_true_eq_false, not_false_eq_true, Bool.not_true, Bool.not_false, Bool.true_or, Bool.false_or, Bool.or_true, Bool.or_false, Bool.false_and, Bool.and_false, Bool.true_and, Bool.and_true, true_implies, if_true, if_false])) | (refine awp_condT rfl (by ((rfl))) ?_) | (refine awp_condF rfl (by ((rfl))) ?_) | (refine awp_skip ?_; (try simp only [sq, bk, ↓reduceIte, Nat.reduceEqDiff, reduceCtorEq])) | (refine PureAt.use (c_EntryFault x _ hgx0.w hgx0.s hgx0.r) ?_ <;> (try simp only [go_sem, Nat.reduceLT, Nat.reduceEqDiff, Nat.reduceLeDiff, Nat.reduceAdd, Nat.reduceMul, Int.reduceToNat, Nat.reducePow, ↓reduceIte, reduceCtorEq, hgl, hE, hmk, hget, hgx, Option.map_none, hQ, hF1, hF2, hlE, decide_true, decide_false, not_true_eq_false, not_false_eq_true, Bool.not_true, Bool.not_false, Bool.true_or, Bool.false_or, Bool.or_true, Bool.or_false, Bool.false_and, Bool.and_false, Bool.true_and, Bool.and_true, true_implies, if_true, if_false])) | (refine orAt_r 9 ?_; (try simp only [go_sem, Nat.reduceLT, Nat.reduceEqDiff, Nat.reduceLeDiff, Nat.reduceAdd, Nat.reduceMul, Int.reduceToNat, Nat.reducePow, ↓reduceIte, reduceCtorEq, hgl, hE, hmk, hget, hgx, Option.map_none, hQ, hF1, hF2, hlE, decide_true, decide_false, not_true_eq_false, not_false_eq_true, Bool.not_true, Bool.not_false, Bool.true_or, Bool.false_or, Bool.or_true, Bool.or_false, Bool.false_and, Bool.and_false, Bool.true_and, Bool.and_true, true_implies, if_true, if_false])) | (refine orAt_r 11 ?_; (try simp only [go_sem, Nat.reduceLT, Nat.reduceEqDiff, Nat.reduceLeDiff, Nat.reduceAdd, Nat.reduceMul, Int.reduceToNat, Nat.reducePow, ↓reduceIte, reduceCtorEq, hgl, hE, hmk, hget, hgx, Option.map_none, hQ, hF1, hF2, hlE, decide_true, decide_false, not_true_eq_false, not_false_eq_true, Bool.not_true, Bool.not_false, Bool.true_or, Bool.false_or, Bool.or_true, Bool.or_false, Bool.false_and, Bool.and_false, Bool.true_and, Bool.and_true, true_implies, if_true, if_false])) | (with_reducible apply And.intro) | (refine awpN_zero ?_) | (refine hK _ ?_; clear hK; (try clear K)))); (all_goals (try ((omega)))))
              exact hK5 _ 6 false P c hP (by omega) (.inl ⟨rfl, hT⟩) (by (refine st_le rfl ?_ (by ((try dsimp only); repeat' ((with_reducible exact .refl _)))); (try simp only [go_sem, Nat.reduceLT, Nat.reduceEqDiff, Nat.reduceLeDiff, Nat.reduceAdd, Nat.reduceMul, Int.reduceToNat, Nat.reducePow, ↓reduceIte, reduceCtorEq])))
            · have hT : takeS n P c x = ((dlv (P.length + 2) n (P ++ [(x.no, x, c)])).1, 0, (dlv (P.length + 2) n (P ++ [(x.no, x, c)])).2.1, (dlv (P.length + 2) n (P ++ [(x.no, x, c)])).2.2, c + 1) := by
                unfold takeS; rw [if_neg (by omega), hgx]; simp only; rw [if_neg hq, if_neg hf]
              have hF : (decide (n < x.no) && decide ((P.length : Int) = 32)) = false := by
                simp only [Bool.and_eq_false_iff, decide_eq_false_iff_not]
                by_cases h : x.no = n
                · exact .inl (by omega)
                · exact .inr fun e => hf ⟨h, by omega⟩
              have hms := mset_enc hgx x c
              have hmc := mclk_enc hgx c
              have hP1 : okP (P ++ [(x.no, x, c)]) := fun p hp => by
                rcases List.mem_append.1 hp with hp | hp
                · exact hP p hp
                · rw [List.mem_singleton.1 hp]; exact ⟨rfl, he, hgx0.w, hgx0.s⟩
              ((repeat' (first | (refine awp_seq_k (fun K hK => ?_)) | (refine awp_block ?_) | (refine awp_reg _ rfl ?_; (try simp only [go_sem, Nat.reduceLT, Nat.reduceEqDiff, Nat.reduceLeDiff, Nat.reduceAdd, Nat.reduceMul, Int.reduceToNat, Nat.reducePow, ↓reduceIte, reduceCtorEq, hgl, hE, hmk, hget, hgx, Option.map_none, hQ, hF, hlE, hms, hmc, decide_true, decide_false, not_true_eq_false, not_false_eq_true, Bool.not_true, Bool.not_false, Bool.true_or, Bool.false_or, Bool.or_true, Bool.or_false, Bool.false_and, Bool.and_false, Bool.true_and, Bool.and_true, true_implies, if_true, if_false])) | (refine awp_condT rfl (by ((rfl))) ?_) | (refine awp_condF rfl (by ((rfl))) ?_) | (refine PureAt.use (c_EntryFault x _ hgx0.w hgx0.s hgx0.r) ?_ <;> (try simp only [go_sem, Nat.reduceLT, Nat.reduceEqDiff, Nat.reduceLeDiff, Nat.reduceAdd, Nat.reduceMul, Int.reduceToNat, Nat.reducePow, ↓reduceIte, reduceCtorEq, hgl, hE, hmk, hget, hgx, Option.map_none, hQ, hF, hlE, hms, hmc, decide_true, decide_false, not_true_eq_false, not_false_eq_true, Bool.not_true, Bool.not_false, Bool.true_or, Bool.false_or, Bool.or_true, Bool.or_false, Bool.false_and, Bool.and_false, Bool.true_and, Bool.and_true, true_implies, if_true, if_false])) | (refine orAt_r 9 ?_; (try simp only [go_sem, Nat.reduceLT, Nat.reduceEqDiff, Nat.reduceLeDiff, Nat.reduceAdd, Nat.reduceMul, Int.reduceToNat, Nat.reducePow, ↓reduceIte, reduceCtorEq, hgl, hE, hmk, hget, hgx, Option.map_none, hQ, hF, hlE, hms, hmc, decide_true, decide_false, not_true_eq_false, not_false_eq_true, Bool.not_true, Bool.not_false, Bool.true_or, Bool.false_or, Bool.or_true, Bool.or_false, Bool.false_and, Bool.and_false, Bool.true_and, Bool.and_true, true_implies, if_true, if_false])) | (refine orAt_r 11 ?_; (try simp only [go_sem, Nat.reduceLT, Nat.reduceEqDiff, Nat.reduceLeDiff, Nat.reduceAdd, Nat.reduceMul, Int.reduceToNat, Nat.reducePow, ↓reduceIte, reduceCtorEq, hgl, hE, hmk, hget, hgx, Option.map_none, hQ, hF, hlE, hms, hmc, decide_true, decide_false, not_true_eq_false, not_false_eq_true, Bool.not_true, Bool.not_false, Bool.true_or, Bool.false_or, Bool.or_true, Bool.or_false, Bool.false_and, Bool.and_false, Bool.true_and, Bool.and_true, true_implies, if_true, if_false])) | (with_reducible apply And.intro) | (refine awpN_zero ?_) | (refine hK _ ?_; clear hK; (try clear K)))); (all_goals (try ((omega)))))
              exact hK5 _ 0 true _ (c + 1) hP1 (by simp; omega) (.inr ⟨rfl, rfl, P.length + 2, by simp, hT⟩) (by (refine st_le rfl ?_ (by ((try dsimp only); repeat' ((with_reducible exact .refl _)))); (try simp only [go_sem, Nat.reduceLT, Nat.reduceEqDiff, Nat.reduceLeDiff, Nat.reduceAdd, Nat.reduceMul, Int.reduceToNat, Nat.reducePow, ↓reduceIte, reduceCtorEq, he])))
      · have hE : (entE x = 0) = False := eq_false he
        have hT : takeS n P c x = ([], entE x, n, P, c) := by unfold takeS; rw [if_pos he]
        cases hgx : pget x.no P with
        | some y =>
          ((repeat' (first | (refine awp_seq_k (fun K hK => ?_)) | (refine awp_block ?_) | (refine awp_reg _ rfl ?_; (try simp only [go_sem, Nat.reduceLT, Nat.reduceEqDiff, Nat.reduceLeDiff, Nat.reduceAdd, Nat.reduceMul, Int.reduceToNat, Nat.reducePow, ↓reduceIte, reduceCtorEq, hgl, hE, hmk, hget, hgx, Option.map_some, decide_true, decide_false, not_true_eq_false, not_false_eq_true, Bool.not_true, Bool.not_false, Bool.true_or, Bool.false_or, Bool.or_true, Bool.or_false, Bool.false_and, Bool.and_false, Bool.true_and, Bool.and_true, true_implies, if_true, if_false])) | (refine awp_condT rfl (by ((rfl))) ?_) | (refine awp_condF rfl (by ((rfl))) ?_) | (refine awp_skip ?_; (try simp only [sq, bk, ↓reduceIte, Nat.reduceEqDiff, reduceCtorEq])) | (refine PureAt.use (c_EntryFault x _ hgx0.w hgx0.s hgx0.r) ?_ <;> (try simp only [go_sem, Nat.reduceLT, Nat.reduceEqDiff, Nat.reduceLeDiff, Nat.reduceAdd, Nat.reduceMul, Int.reduceToNat, Nat.reducePow, ↓reduceIte, reduceCtorEq, hgl, hE, hmk, hget, hgx, Option.map_some, decide_true, decide_false, not_true_eq_false, not_false_eq_true, Bool.not_true, Bool.not_false, Bool.true_or, Bool.false_or, Bool.or_true, Bool.or_false, Bool.false_and, Bool.and_false, Bool.true_and, Bool.and_true, true_implies, if_true, if_false])) | (refine orAt_r 9 ?_; (try simp only [go_sem, Nat.reduceLT, Nat.reduceEqDiff, Nat.reduceLeDiff, Nat.reduceAdd, Nat.reduceMul, Int.reduceToNat, Nat.reducePow, ↓reduceIte, reduceCtorEq, hgl, hE, hmk, hget, hgx, Option.map_some, decide_true, decide_false, not_true_eq_false, not_false_eq_true, Bool.not_true, Bool.not_false, Bool.true_or, Bool.false_or, Bool.or_true, Bool.or_false, Bool.false_and, Bool.and_false, Bool.true_and, Bool.and_true, true_implies, if_true, if_false])) | (refine orAt_r 11 ?_; (try simp only [go_sem, Nat.reduceLT, Nat.reduceEqDiff, Nat.reduceLeDiff, Nat.reduceAdd, Nat.reduceMul, Int.reduceToNat, Nat.reducePow, ↓reduceIte, reduceCtorEq, hgl, hE, hmk, hget, hgx, Option.map_some, decide_true, decide_false, not_true_eq_false, not_false_eq_true, Bool.not_true, Bool.not_false, Bool.true_or, Bool.false_or, Bool.or_true, Bool.or_false, Bool.false_and, Bool.and_false, Bool.true_and, Bool.and_true, true_implies, if_true, if_false])) | (with_reducible apply And.intro) | (refine awpN_zero ?_) | (refine hK _ ?_; clear hK; (try clear K)))); (all_goals (try ((omega)))))
          exact hK5 _ (entE x) false P c hP (by omega) (.inl ⟨rfl, hT⟩) (by (refine st_le rfl ?_ (by ((try dsimp only); repeat' ((with_reducible exact .refl _)))); (try simp only [go_sem, Nat.reduceLT, Nat.reduceEqDiff, Nat.reduceLeDiff, Nat.reduceAdd, Nat.reduceMul, Int.reduceToNat, Nat.reducePow, ↓reduceIte, reduceCtorEq])))
        | none =>
          ((repeat' (first | (refine awp_seq_k (fun K hK => ?_)) | (refine awp_block ?_) | (refine awp_reg _ rfl ?_; (try simp only [go_sem, Nat.reduceLT, Nat.reduceEqDiff, Nat.reduceLeDiff, Nat.reduceAdd, Nat.reduceMul, Int.reduceToNat, Nat.reducePow, ↓reduceIte, reduceCtorEq, hgl, hE, hmk, hget, hgx, Option.map_none, decide_true, decide_false, not_true_eq_false, not_false_eq_true, Bool.not_true, Bool.not_false, Bool.true_or, Bool.false_or, Bool.or_true, Bool.or_false, Bool.false_and, Bool.and_false, Bool.true_and, Bool.and_true, true_implies, if_true, if_false])) | (refine awp_condT rfl (by ((rfl))) ?_) | (refine awp_condF rfl (by ((rfl))) ?_) | (refine awp_skip ?_; (try simp only [sq, bk, ↓reduceIte, Nat.reduceEqDiff, reduceCtorEq])) | (refine PureAt.use (c_EntryFault x _ hgx0.w hgx0.s hgx0.r) ?_ <;> (try simp only [go_sem, Nat.reduceLT, Nat.reduceEqDiff, Nat.reduceLeDiff, Nat.reduceAdd, Nat.reduceMul, Int.reduceToNat, Nat.reducePow, ↓reduceIte, reduceCtorEq, hgl, hE, hmk, hget, hgx, Option.map_none, decide_true, decide_false, not_true_eq_false, not_false_eq_true, Bool.not_true, Bool.not_false, Bool.true_or, Bool.false_or, Bool.or_true, Bool.or_false, Bool.false_and, Bool.and_false, Bool.true_and, Bool.and_true, true_implies, if_true, if_false])) | (refine orAt_r 9 ?_; (try simp only [go_sem, Nat.reduceLT, Nat.reduceEqDiff, Nat.reduceLeDiff, Nat.reduceAdd, Nat.reduceMul, Int.reduceToNat, Nat.reducePow, ↓reduceIte, reduceCtorEq, hgl, hE, hmk, hget, hgx, Option.map_none, decide_true, decide_false, not_true_eq_false, not_false_eq_true, Bool.not_true, Bool.not_false, Bool.true_or, Bool.false_or, Bool.or_true, Bool.or_false, Bool.false_and, Bool.and_false, Bool.true_and, Bool.and_true, true_implies, if_true, if_false])) | (refine orAt_r 11 ?_; (try simp only [go_sem, Nat.reduceLT, Nat.reduceEqDiff, Nat.reduceLeDiff, Nat.reduceAdd, Nat.reduceMul, Int.reduceToNat, Nat.reducePow, ↓reduceIte, reduceCtorEq, hgl, hE, hmk, hget, hgx, Option.map_none, decide_true, decide_false, not_true_eq_false, not_false_eq_true, Bool.not_true, Bool.not_false, Bool.true_or, Bool.false_or, Bool.or_true, Bool.or_false, Bool.false_and, Bool.and_false, Bool.true_and, Bool.and_true, true_implies, if_true, if_false])) | (with_reducible apply And.intro) | (refine awpN_zero ?_) | (refine hK _ ?_; clear hK; (try clear K)))); (all_goals (try ((omega)))))
          exact hK5 _ (entE x) false P c hP (by omega) (.inl ⟨rfl, hT⟩) (by (refine st_le rfl ?_ (by ((try dsimp only); repeat' ((with_reducible exact .refl _)))); (try simp only [go_sem, Nat.reduceLT, Nat.reduceEqDiff, Nat.reduceLeDiff, Nat.reduceAdd, Nat.reduceMul, Int.reduceToNat, Nat.reducePow, ↓reduceIte, reduceCtorEq])))
    clear hK
    ((repeat' (first | (refine awp_reg _ rfl ?_; (try simp only [go_sem, Nat.reduceLT, Nat.reduceEqDiff, Nat.reduceLeDiff, Nat.reduceAdd, Nat.reduceMul, Int.reduceToNat, Nat.reducePow, ↓reduceIte, reduceCtorEq, hgl, decide_true, decide_false, not_true_eq_false, not_false_eq_true, Bool.not_true, Bool.not_false, Bool.true_or, Bool.false_or, Bool.or_true, Bool.or_false, Bool.false_and, Bool.and_false, Bool.true_and, Bool.and_true, true_implies, if_true, if_false])) | (refine awp_condT rfl (by (first | rfl | (simp only [decide_eq_true_eq, decide_eq_false_iff_not, Bool.or_eq_true, Bool.and_eq_true, Bool.not_eq_true', Bool.not_eq_false', Bool.or_eq_false_iff, Bool.and_eq_false_imp, Bool.not_true, Bool.not_false, Bool.true_eq_false, Bool.false_eq_true, not_true_eq_false, Decidable.not_not, ite_or, ite_and, hgl, decide_true, decide_false, not_true_eq_false, not_false_eq_true, Bool.not_true, Bool.not_false, Bool.true_or, Bool.false_or, Bool.or_true, Bool.or_false, Bool.false_and, Bool.and_false, Bool.true_and, Bool.and_true, true_implies, if_true, if_false]; omega))) ?_) | (refine awp_skip ?_; (try simp only [sq, bk, ↓reduceIte, Nat.reduceEqDiff, reduceCtorEq])) | (refine awpN_zero ?_))))
    exact hK1 _ (by (refine st_le rfl ?_ (by ((try dsimp only); repeat' ((with_reducible exact .refl _)))); (try simp only [go_sem, Nat.reduceLT, Nat.reduceEqDiff, Nat.reduceLeDiff, Nat.reduceAdd, Nat.reduceMul, Int.reduceToNat, Nat.reducePow, ↓reduceIte, reduceCtorEq])))
  · obtain rfl : i = l.length := by omega
    ((repeat' (first | (refine awp_seq_k (fun K hK => ?_)) | (refine awp_reg _ rfl ?_; (try simp only [go_sem, Nat.reduceLT, Nat.reduceEqDiff, Nat.reduceLeDiff, Nat.reduceAdd, Nat.reduceMul, Int.reduceToNat, Nat.reducePow, ↓reduceIte, reduceCtorEq, decide_true, decide_false, not_true_eq_false, not_false_eq_true, Bool.not_true, Bool.not_false, Bool.true_or, Bool.false_or, Bool.or_true, Bool.or_false, Bool.false_and, Bool.and_false, Bool.true_and, Bool.and_true, true_implies, if_true, if_false])) | (refine awp_condF rfl (by (first | rfl | (simp only [decide_eq_true_eq, decide_eq_false_iff_not, Bool.or_eq_true, Bool.and_eq_true, Bool.not_eq_true', Bool.not_eq_false', Bool.or_eq_false_iff, Bool.and_eq_false_imp, Bool.not_true, Bool.not_false, Bool.true_eq_false, Bool.false_eq_true, not_true_eq_false, Decidable.not_not, ite_or, ite_and, decide_true, decide_false, not_true_eq_false, not_false_eq_true, Bool.not_true, Bool.not_false, Bool.true_or, Bool.false_or, Bool.or_true, Bool.or_false, Bool.false_and, Bool.and_false, Bool.true_and, Bool.and_true, true_implies, if_true, if_false]; omega))) ?_) | (refine awp_exit ?_; (try simp only [sq, bk, ↓reduceIte, Nat.reduceEqDiff, reduceCtorEq])) | (refine awp_ret ?_) | (refine hK _ ?_; clear hK; (try clear K)) | (refine kk (by assumption) ?_))))
    ((all_goals (try refine fin_pure (by (try simp only [List.mem_singleton, forall_eq, resOk, List.mem_cons, List.not_mem_nil, or_false, forall_eq_or_imp, and_self])) ?_ (by ((try dsimp only); repeat' (first | with_reducible exact .refl _ | exact box_fresh (by assumption) | exact box_fr (fr_drop (by assumption)) | exact box_fr (fr_drop (fr_drop (by assumption))) | refine weak_box ?_ ?_))))); (all_goals (try simp only [go_sem, Nat.reduceLT, Nat.reduceEqDiff, Nat.reduceLeDiff, Nat.reduceAdd, Nat.reduceMul, Int.reduceToNat, Nat.reducePow, ↓reduceIte, reduceCtorEq])))
end Go.Proofs.Ytdlbbcjacjockaa
