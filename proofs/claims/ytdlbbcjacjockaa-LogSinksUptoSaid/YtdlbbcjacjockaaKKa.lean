/-
  A part of the proof: its theorems say what each gives.
-/
import Derived.Test.YtdlbbcjacjockaaKSb
import Derived.Test.YtdlbbcjacjockaaKCa
import Derived.Test.YtdlbbcjacjockaaKRh
import Derived.Test.YtdlbbcjacjockaaKLh
set_option maxRecDepth 100000
set_option maxHeartbeats 8000000
set_option linter.unusedSimpArgs false
set_option linter.unusedVariables false
namespace Go.Proofs.Ytdlbbcjacjockaa
open Go Fw
/-! A sink: entries that wait, by their numbers. -/
abbrev PM := List (Int × Ent × Nat)
def encP (P : PM) : MEs := P.map fun p => (.i p.1, cE p.2.1, p.2.2)
def pget (n : Int) (P : PM) : Option Ent := (P.find? fun p => decide (p.1 = n)).map (·.2.1)
def pdel (n : Int) (P : PM) : PM := P.filter fun p => decide (p.1 ≠ n)
def cKs (l : List Int) : List AV := l.map fun z => .con (.int .i64 z)
theorem encP_len (P : PM) : (encP P).length = P.length := by simp [encP]
theorem encP_allI (P : PM) : allI (encP P) := fun e he => by
  obtain ⟨p, _, rfl⟩ := List.mem_map.1 he
  exact ⟨p.1, rfl⟩
theorem mget_enc (n : Int) (P : PM) : mget (.i n) (encP P) = (pget n P).map cE := by
  unfold mget pget encP
  rw [List.find?_map]
  have : ((fun e : MK × AV × Nat => decide (e.1 = MK.i n)) ∘ fun p : Int × Ent × Nat => (MK.i p.1, cE p.2.1, p.2.2)) = fun p => decide (p.1 = n) := by
    funext p; simp [Function.comp]
  rw [this]
  cases P.find? fun p => decide (p.1 = n) <;> rfl
theorem mdel_enc (n : Int) (P : PM) : mdel (.i n) (encP P) = encP (pdel n P) := by
  unfold mdel pdel encP
  rw [List.filter_map]
  congr 1
  refine List.filter_congr fun p _ => ?_
  simp [Function.comp]
theorem mhas_enc {n : Int} {P : PM} (h : pget n P = none) : mhas (.i n) (encP P) = false := by
  rw [mhas_get, mget_enc, h]; rfl
theorem mset_enc {n : Int} {P : PM} (h : pget n P = none) (x : Ent) (c : Nat) : mset (.i n) (cE x) c (encP P) = encP (P ++ [(n, x, c)]) := by
  unfold mset
  rw [mhas_enc h]
  simp [encP]
theorem mclk_enc {n : Int} {P : PM} (h : pget n P = none) (c : Nat) : mclk (.i n) c (encP P) = c + 1 := by
  unfold mclk
  rw [mhas_enc h]; rfl
def sortK (P : PM) : List Int := (P.map (·.1)).mergeSort fun x y => decide (x ≤ y)
theorem sorted_unique : ∀ {l m : List Int}, l.Perm m → l.Pairwise (· ≤ ·) → m.Pairwise (· ≤ ·) → l = m
  | [], m, h, _, _ => by rw [List.nil_perm.1 h]
  | a :: l, [], h, _, _ => by have := h.length_eq; simp at this
  | a :: l, b :: m, h, h1, h2 => by
    obtain ⟨p1, p2⟩ := List.pairwise_cons.1 h1
    obtain ⟨q1, q2⟩ := List.pairwise_cons.1 h2
    have hab : a = b := by
      have ha : a ∈ b :: m := h.mem_iff.1 (by simp)
      have hb : b ∈ a :: l := h.mem_iff.2 (by simp)
      rcases List.mem_cons.1 ha with rfl | ha
      · rfl
      · rcases List.mem_cons.1 hb with rfl | hb
        · rfl
        · have := p1 b hb; have := q1 a ha; omega
    subst hab
    rw [sorted_unique (List.perm_cons a |>.1 h) p2 q2]
theorem merge_perm {l m : List Int} (h : l.Perm m) : (l.mergeSort fun x y => decide (x ≤ y)) = m.mergeSort fun x y => decide (x ≤ y) := by
  have hs : ∀ l : List Int, (l.mergeSort fun x y => decide (x ≤ y)).Pairwise (· ≤ ·) := fun l => by
    have := List.pairwise_mergeSort (le := fun x y : Int => decide (x ≤ y)) (fun a b c h1 h2 => by simp at *; omega) (fun a b => by simp; omega) l
    exact this.imp fun {a b} h => by simpa using h
  exact sorted_unique (((List.mergeSort_perm l _).trans h).trans (List.mergeSort_perm m _).symm) (hs l) (hs m)
theorem c_Done (n : Int) (m id : Nat) (H : Hp) (hb : H.box id = some [.con (.int .i64 n), .mp m]) : PureAt Try.prog 30 [.ptr id 0] H (.con (.int .i64 (IntKind.i64.wrap (n - 1)))) := by
  refine acalls_of (by kernel_rfl) Try.func30 rfl 8 Try.ntmps30 (by simp) [.tmp 2] rfl ?_
  ((repeat' (first | (refine awp_seq_k (fun K hK => ?_)) | (refine awp_reg _ rfl ?_; (try simp only [go_sem, Nat.reduceLT, Nat.reduceEqDiff, Nat.reduceLeDiff, Nat.reduceAdd, Nat.reduceMul, Int.reduceToNat, Nat.reducePow, ↓reduceIte, reduceCtorEq, hb])) | (refine awp_ret ?_) | (refine hK _ ?_; clear hK; (try clear K)))))
  ((all_goals (try refine fin_pure (by (try simp only [List.mem_singleton, forall_eq, resOk, List.mem_cons, List.not_mem_nil, or_false, forall_eq_or_imp, and_self])) ?_ (by ((try dsimp only); repeat' ((with_reducible exact .refl _)))))); (all_goals (try simp only [go_sem, Nat.reduceLT, Nat.reduceEqDiff, Nat.reduceLeDiff, Nat.reduceAdd, Nat.reduceMul, Int.reduceToNat, Nat.reducePow, ↓reduceIte, reduceCtorEq])))
/-- The entries that a walk has met are all: another order of the same. -/
theorem met_all {l P : PM} (hl : ∀ p ∈ l, p ∈ P) (hn : (l.map (·.2.2)).Nodup) (hP : (P.map (·.2.2)).Nodup) (hall : ∀ p ∈ P, p.2.2 ∈ l.map (·.2.2)) : l.Perm P := by
  have hnl : l.Nodup := by
    rw [List.Nodup, List.pairwise_map] at hn
    exact hn.imp fun {a b} h e => h (by rw [e])
  have hnP : P.Nodup := by
    rw [List.Nodup, List.pairwise_map] at hP
    exact hP.imp fun {a b} h e => h (by rw [e])
  refine (List.perm_ext_iff_of_nodup hnl hnP).2 fun p => ⟨hl p, fun hp => ?_⟩
  obtain ⟨q, hq, hqe⟩ := List.mem_map.1 (hall p hp)
  have hpq : q = p := by
    have h1 := hl q hq
    obtain ⟨i, hi⟩ := List.getElem?_of_mem h1
    obtain ⟨j, hj⟩ := List.getElem?_of_mem hp
    have e1 : (P.map (·.2.2))[i]? = some q.2.2 := by rw [List.getElem?_map, hi]; rfl
    have e2 : (P.map (·.2.2))[j]? = some q.2.2 := by rw [List.getElem?_map, hj, hqe]; rfl
    have hij := (List.getElem?_inj (List.getElem?_eq_some_iff.1 e1).1 hP).1 (e1.trans e2.symm)
    rw [hij, hj] at hi
    injection hi with hi; exact hi.symm
  rw [← hpq]; exact hq
theorem encP_stamps (P : PM) : (encP P).map (·.2.2) = P.map (·.2.2) := by simp [encP]
theorem cKs_append (a b : List Int) : cKs (a ++ b) = cKs a ++ cKs b := by simp [cKs]
theorem cKs_len (a : List Int) : (cKs a).length = a.length := by simp [cKs]
theorem flat_one (n : Int) : flat [.con (.int .i64 n)] = [.con (.int .i64 n)] := rfl
theorem nodup_len : ∀ {l m : List Nat}, l.Nodup → (∀ x ∈ l, x ∈ m) → l.length ≤ m.length
  | [], _, _, _ => Nat.zero_le _
  | a :: l, m, hn, hs => by
    obtain ⟨h1, h2⟩ := List.nodup_cons.1 hn
    have hm := hs a (by simp)
    have h3 := nodup_len (l := l) (m := m.erase a) h2 fun x hx => (List.mem_erase_of_ne (fun e => h1 (by rw [← e]; exact hx))).2 (hs x (by simp [hx]))
    rw [List.length_erase_of_mem hm] at h3
    have := List.length_pos_of_mem hm
    simp; omega
theorem c_Waiting (n : Int) (m sk c : Nat) (P : PM) (H : Hp) (hb : H.box sk = some [.con (.int .i64 n), .mp m]) (hm : H.box m = some [.mc (encP P) c]) (hP : P.length ≤ 1000000) :
    PureAt Try.prog 34 [.ptr sk 0] H (.list (cKs (sortK P)) none) := by
  refine ACalls.frzNZ ?_
  refine acalls_of (by kernel_rfl) Try.func34 rfl 21 Try.ntmps34 (by simp) [.tmp 2] rfl ?_
  ((repeat' (first | (refine awp_seq_k (fun K hK => ?_)) | (refine awp_block ?_) | (refine awp_reg _ rfl ?_; (try simp only [go_sem, Nat.reduceLT, Nat.reduceEqDiff, Nat.reduceLeDiff, Nat.reduceAdd, Nat.reduceMul, Int.reduceToNat, Nat.reducePow, ↓reduceIte, reduceCtorEq, hb, hm])) | (refine all_fresh fun id fr => ?_; (try have := NeI.of_box fr (by assumption))) | (refine all_stm fun hstm => ?_) | (refine hK _ ?_; clear hK; (try clear K)))))
  have frI := fr
  clear fr
  obtain ⟨it, hit⟩ : ∃ x, x = id := ⟨_, rfl⟩
  subst hit
  have hmi : it ≠ m := fun e => by have := frI.1; rw [e, hm] at this; cases this
  obtain ⟨hs1, hs2, hs3⟩ := hstm
  rw [encP_stamps] at hs2
  refine awp_loop (ι := PM × Nat) (fun q => ⟨21, [(3, .sl q.2 q.1.length 3 1), (9, .it it)], ⟨hold q.2 (cKs (q.1.map (·.1))) ((it, [.mp m, .nl (q.1.map (·.2.2)), .con (.int .i64 (c : Int))]) :: H.bx), H.tk⟩⟩)
    (fun q => (∀ p ∈ q.1, p ∈ P) ∧ (q.1.map (·.2.2)).Nodup ∧ (q.1 = [] ∨ (q.2 ≠ it ∧ H.box q.2 = none))) (fun q => P.length - q.1.length) ([], 0) ⟨by simp, by simp, .inl rfl⟩ ?_ ?_
  · (refine st_le rfl ?_ (by ((try dsimp only); (try simp only [cKs, List.map_nil, List.length_nil,  List.length_append, List.length_cons, List.length_nil, Nat.zero_add]); repeat' (first | with_reducible exact .refl _ | refine weak_boxle (by (repeat' ((exact .refl _)))) ?_))); (try simp only [go_sem, Nat.reduceLT, Nat.reduceEqDiff, Nat.reduceLeDiff, Nat.reduceAdd, Nat.reduceMul, Int.reduceToNat, Nat.reducePow, ↓reduceIte, reduceCtorEq, cKs, List.map_nil, List.length_nil]))
  rintro ⟨l, ix⟩ ⟨hl1, hl2, hl3⟩
  simp only at hl1 hl2 hl3
  have hne : cKs (l.map (·.1)) = [] ∨ ix ≠ it := by
    rcases hl3 with rfl | h
    · exact .inl rfl
    · exact .inr h.1
  have hne2 : cKs (l.map (·.1)) = [] ∨ ix ≠ m := by
    rcases hl3 with rfl | h
    · exact .inl rfl
    · exact .inr fun e => by rw [e, hm] at h; cases h.2
  have hB1 := fun X tk => box_hold (bx := (it, X) :: H.bx) (tk := tk) hne
  have hB2 := fun X tk => box_hold (bx := (it, X) :: H.bx) (tk := tk) hne2
  have hU := fun X tk f => upd_hold_ne (bx := (it, X) :: H.bx) (tk := tk) hne f
  ((repeat' (first | (refine awp_seq_k (fun K hK => ?_)) | (refine awp_reg _ rfl ?_; (try simp only [go_sem, Nat.reduceLT, Nat.reduceEqDiff, Nat.reduceLeDiff, Nat.reduceAdd, Nat.reduceMul, Int.reduceToNat, Nat.reducePow, ↓reduceIte, reduceCtorEq, hB1, hB2, hU, hm, hmi])) | (with_reducible apply And.intro))))
  · intro hall
    have hp := met_all hl1 hl2 hs2 (fun p hp => hall (.i p.1, cE p.2.1, p.2.2) (List.mem_map.2 ⟨p, hp, rfl⟩))
    have hlen := hp.length_eq
    have hsort : (l.map (·.1)).mergeSort (fun x y => decide (x ≤ y)) = sortK P := merge_perm (hp.map _)
    have hcs := c_SortI (l.map (·.1)) ix 3 ((it, [.mp m, .nl (l.map (·.2.2)), .con (.int .i64 (c : Int))]) :: H.bx) H.tk (by rw [List.length_map]; omega)
    rw [List.length_map, hsort] at hcs
    ((repeat' (first | (refine awp_seq_k (fun K hK => ?_)) | (refine awp_reg _ rfl ?_; (try simp only [go_sem, Nat.reduceLT, Nat.reduceEqDiff, Nat.reduceLeDiff, Nat.reduceAdd, Nat.reduceMul, Int.reduceToNat, Nat.reducePow, ↓reduceIte, reduceCtorEq, hB1, hB2, hU, hm, hmi])) | (refine awp_cond _ rfl (fun hc => ?_) (fun hc => ?_) <;> (try (simp only [decide_eq_true_eq, decide_eq_false_iff_not, Bool.or_eq_true, Bool.and_eq_true, Bool.not_eq_true', Bool.not_eq_false', Bool.or_eq_false_iff, Bool.and_eq_false_imp, Bool.not_eq_false, Bool.not_eq_true, Bool.not_true, Bool.not_false, Bool.true_eq_false, Bool.false_eq_true, not_true_eq_false, Decidable.not_not, ite_or, ite_and] at hc))) | (refine awp_exit ?_; (try simp only [sq, bk, ↓reduceIte, Nat.reduceEqDiff, reduceCtorEq])) | (refine awp_ret ?_) | (refine ACalls.det (hcs) ?_) | (refine hK _ ?_; clear hK; (try clear K)) | (refine kk (by assumption) ?_))))
    have hsl : (sortK P).length = l.length := by rw [← hsort, List.length_mergeSort, List.length_map]
    have hflat : ∀ zs : List Int, flat (cKs zs) = cKs zs := fun zs => by
      induction zs with
      | nil => rfl
      | cons a r ih => show flat (_ :: cKs r) = _; unfold flat at ih ⊢; rw [List.map_cons, List.flatten_cons, ih]; rfl
    have hlk : (cKs (sortK P)).length = l.length := by rw [cKs_len, hsl]
    have hne3 : cKs (sortK P) = [] ∨ (cKs (sortK P) ≠ [] ∧ H.box ix = none) := by
      rcases hl3 with h0 | h0
      · exact .inl (List.eq_nil_of_length_eq_zero (by rw [hlk, h0]; rfl))
      · by_cases h : cKs (sortK P) = []
        · exact .inl h
        · exact .inr ⟨h, h0.2⟩
    refine fin_any (x := .sl ix l.length 3 1) (H := ⟨hold ix (cKs (sortK P)) H.bx, H.tk⟩) (by simp [resOk]) (by simp only [go_sem, Nat.reduceLT, Nat.reduceEqDiff, Nat.reduceLeDiff, Nat.reduceAdd, Nat.reduceMul, Int.reduceToNat, Nat.reducePow, ↓reduceIte, reduceCtorEq]) (weak_holdc (weak_box frI.1 (weak_eta H))) ?_
    exact ⟨ix, 3, 1, by rw [hlk], fun x hx => by obtain ⟨z, _, rfl⟩ := List.mem_map.1 hx; exact ⟨rfl, fun y hy => by rw [List.mem_singleton.1 hy]; rfl⟩, by rw [hflat], by rw [hflat]; exact hne3⟩
  · intro e he hns hfe
    obtain ⟨p, hp, rfl⟩ := List.mem_map.1 he
    have hlen : (cKs (l.map (·.1))).length = l.length * 1 := by rw [cKs_len, List.length_map, Nat.mul_one]
    have hz : l.length = 0 ↔ cKs (l.map (·.1)) = [] := by
      rw [← List.length_eq_zero_iff (l := cKs _), hlen, Nat.mul_one]
    have hsl := fun X tk => slC_hold (id := ix) (bx := (it, X) :: H.bx) (tk := tk) hz
    have hok := fun X tk => eq_true (slOk_hold (id := ix) (k := 1) (bx := (it, X) :: H.bx) (tk := tk) hz hlen)
    have hdz : ∀ X, delZ l.length ix (hold ix (cKs (l.map (·.1))) ((it, X) :: H.bx)) = (it, X) :: H.bx := fun X => by
      rcases hl3 with h0 | h0
      · subst h0; rfl
      · exact delZ_hold (by rw [List.lookup_cons, show (ix == it) = false by simpa using h0.1]; exact h0.2) hz
    have hlP : (l ++ [p]).length ≤ P.length := by
      have := nodup_len (l := (l ++ [p]).map (·.2.2)) (m := P.map (·.2.2)) (by
        rw [List.map_append, List.nodup_append]
        refine ⟨hl2, by simp, fun a ha b hb => ?_⟩
        simp only [List.map_cons, List.map_nil, List.mem_singleton] at hb
        rw [hb]; exact fun e => hns (by rw [← e]; exact ha)) (fun x hx => by
        obtain ⟨q, hq, rfl⟩ := List.mem_map.1 hx
        refine List.mem_map.2 ⟨q, ?_, rfl⟩
        rcases List.mem_append.1 hq with hq | hq
        · exact hl1 q hq
        · rw [List.mem_singleton.1 hq]; exact hp)
      simpa using this
    rw [List.length_append, List.length_singleton] at hlP
    ((repeat' (first | (refine awp_seq_k (fun K hK => ?_)) | (refine awp_block ?_) | (refine awp_reg _ rfl ?_; (try simp only [go_sem, Nat.reduceLT, Nat.reduceEqDiff, Nat.reduceLeDiff, Nat.reduceAdd, Nat.reduceMul, Int.reduceToNat, Nat.reducePow, ↓reduceIte, reduceCtorEq, hB1, hB2, hU, hm, hmi, hfe, hsl, hok, hdz, flat_one])) | (refine awp_cond _ rfl (fun hc => ?_) (fun hc => ?_) <;> (try (simp only [decide_eq_true_eq, decide_eq_false_iff_not, Bool.or_eq_true, Bool.and_eq_true, Bool.not_eq_true', Bool.not_eq_false', Bool.or_eq_false_iff, Bool.and_eq_false_imp, Bool.not_eq_false, Bool.not_eq_true, Bool.not_true, Bool.not_false, Bool.true_eq_false, Bool.false_eq_true, not_true_eq_false, Decidable.not_not, ite_or, ite_and] at hc))) | (refine awp_skip ?_; (try simp only [sq, bk, ↓reduceIte, Nat.reduceEqDiff, reduceCtorEq])) | (refine orAt_l ?_) | (with_reducible apply And.intro) | (refine all_fresh fun id fr => ?_) | (refine hK _ ?_; clear hK; (try clear K)))); (all_goals (try (first | omega | decide | (simp only [List.mem_singleton, List.mem_cons, List.not_mem_nil, or_false, forall_eq_or_imp, forall_eq, AV.cells, List.length_cons, List.length_nil, and_self, Nat.reduceAdd]; done)))))
    refine ⟨(l ++ [p], id), by simp only [List.length_append, List.length_singleton]; omega, ⟨fun q hq => ?_, ?_, .inr ⟨?_, ?_⟩⟩, ?_⟩
    · rcases List.mem_append.1 hq with hq | hq
      · exact hl1 q hq
      · rw [List.mem_singleton.1 hq]; exact hp
    · rw [List.map_append, List.nodup_append]
      refine ⟨hl2, by simp, fun a ha b hb => ?_⟩
      simp only [List.map_cons, List.map_nil, List.mem_singleton] at hb
      rw [hb]; exact fun e => hns (by rw [← e]; exact ha)
    · exact fun e => (fresh_box (fresh_hold fr).1).1 e.symm
    · exact (fresh_box (fresh_hold fr).1).2.1
    · have hh : hold id (cKs ((l ++ [p]).map (·.1))) ((it, [.mp m, .nl ((l ++ [p]).map (·.2.2)), .con (.int .i64 (c : Int))]) :: H.bx) = (id, cKs (l.map (·.1)) ++ [.con (.int .i64 p.1)]) :: (it, [.mp m, .nl (l.map (·.2.2) ++ [p.2.2]), .con (.int .i64 (c : Int))]) :: H.bx := by
        rw [List.map_append, cKs_append, List.map_append]; exact hold_ne (by simp [cKs])
      (refine st_le rfl ?_ (by ((try dsimp only); (try simp only [hh, List.length_append, List.length_singleton,  List.length_append, List.length_cons, List.length_nil, Nat.zero_add]); repeat' ((with_reducible exact .refl _)))); (try simp only [go_sem, Nat.reduceLT, Nat.reduceEqDiff, Nat.reduceLeDiff, Nat.reduceAdd, Nat.reduceMul, Int.reduceToNat, Nat.reducePow, ↓reduceIte, reduceCtorEq, hh, List.length_append, List.length_singleton]))
end Go.Proofs.Ytdlbbcjacjockaa
