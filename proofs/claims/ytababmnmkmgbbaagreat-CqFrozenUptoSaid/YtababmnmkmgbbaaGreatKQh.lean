/-
  A part of the proof: its theorems say what each gives.
-/
import Derived.Test.YtababmnmkmgbbaaGreatKM23
set_option maxRecDepth 100000
set_option maxHeartbeats 4000000
set_option linter.unusedSimpArgs false
set_option linter.unusedVariables false
namespace Go.Proofs.YtababmnmkmgbbaaGreat
open Go Fw
/-! Lists of rows of 24 values that are still written: the newest row first. -/
abbrev Rws := List (Nat × List Val)
def bxP (p : Rws) : List (Nat × List AV) := p.map fun q => (q.1, flat (encVs q.2))
def slP (p : Rws) : List AV := p.reverse.map fun q => .sl q.1 24 92 4
def vlP (p : Rws) : List (List Val) := p.reverse.map (·.2)
def okP24 (bx : List (Nat × List AV)) : Rws → Prop
  | [] => True
  | q :: p => (bxP p ++ bx).lookup q.1 = none ∧ (q.2.length = 24 ∧ gRow q.2) ∧ okP24 bx p
@[go_sem] theorem slP_length (p : Rws) : (slP p).length = p.length := by simp [slP]
@[go_sem] theorem vlP_length (p : Rws) : (vlP p).length = p.length := by simp [vlP]
theorem slP_cons (q : Nat × List Val) (p : Rws) : slP (q :: p) = slP p ++ [.sl q.1 24 92 4] := by simp [slP]
theorem vlP_cons (q : Nat × List Val) (p : Rws) : vlP (q :: p) = vlP p ++ [q.2] := by simp [vlP]
theorem vlP_mem {bx : List (Nat × List AV)} : ∀ {p : Rws}, okP24 bx p → ∀ x ∈ vlP p, x.length = 24 ∧ gRow x
  | [], _, x, hx => by simp [vlP] at hx
  | q :: p, h, x, hx => by
    rw [vlP_cons] at hx
    rcases List.mem_append.1 hx with hx | hx
    · exact vlP_mem h.2.2 x hx
    · rw [List.mem_singleton.1 hx]; exact h.2.1
theorem okP_look {bx : List (Nat × List AV)} : ∀ {p : Rws}, okP24 bx p → ∀ q ∈ p, (bxP p ++ bx).lookup q.1 = some (flat (encVs q.2))
  | [], _, q, hq => by cases hq
  | r :: p, h, q, hq => by
    show ((r.1, flat (encVs r.2)) :: (bxP p ++ bx)).lookup q.1 = _
    rw [List.lookup_cons]
    rcases List.mem_cons.1 hq with rfl | hq
    · simp
    · have h1 := okP_look h.2.2 q hq
      by_cases e : q.1 = r.1
      · rw [e] at h1; rw [h.1] at h1; cases h1
      · rw [show (q.1 == r.1) = false by simpa using e]; exact h1
theorem bxP_drop {bx : List (Nat × List AV)} : ∀ {p : Rws}, okP24 bx p → ∀ i c, bx.lookup i = some c → (bxP p ++ bx).lookup i = some c
  | [], _, i, c, hi => hi
  | r :: p, h, i, c, hi => by
    show ((r.1, flat (encVs r.2)) :: (bxP p ++ bx)).lookup i = _
    rw [List.lookup_cons]
    have h1 := bxP_drop h.2.2 i c hi
    by_cases e : i = r.1
    · rw [e] at h1; rw [h.1] at h1; cases h1
    · rw [show (i == r.1) = false by simpa using e]; exact h1
theorem weak_bxP {bx bx' : List (Nat × List AV)} {tk tk' : List (Nat × Nat × Nat × Nat)} {p : Rws} (h : okP24 bx p) (w : Weak ⟨bx, tk⟩ ⟨bx', tk'⟩) : Weak ⟨bxP p ++ bx, tk⟩ ⟨bx', tk'⟩ := by
  refine ⟨fun j d hj => ?_, w.2⟩
  obtain ⟨c, h1, h2⟩ := w.1 j d hj
  exact ⟨c, bxP_drop h j c h1, h2⟩
theorem AV.fle_listc {id : Nat} {cs xs ys : List AV} (hl : xs.length = ys.length) (hx : ∀ x ∈ xs, x.cells = [x]) (hy : ∀ y ∈ ys, y.cells = [y] ∧ y.one = true) (h : ∀ i, i < xs.length → AV.fle id cs (xs.getD i .any) (ys.getD i .any)) : AV.fle id cs (.list xs none) (.list ys none) := by
  intro σ w v hF hv
  cases hv with
  | nil => obtain rfl := List.eq_nil_of_length_eq_zero hl.symm; exact .nil
  | odd a => obtain rfl := List.eq_nil_of_length_eq_zero hl.symm; exact .odd a
  | list _ b o c k vs hc hm hk hcell hvs =>
    rw [hl] at hc hcell ⊢
    rcases Nat.eq_zero_or_pos ys.length with h0 | h0
    · obtain rfl := List.eq_nil_of_length_eq_zero h0
      exact .list [] b o c k vs (by simp) hm (by simp) (by simp) (by simp)
    · have hk1 : k = 1 := by
        have h1 := List.getElem_mem (l := xs) (n := 0) (by omega)
        rw [← (hk _ h1).1, hx _ h1]; rfl
      subst hk1
      refine .list ys b o c 1 vs hc hm (fun y hy2 => ?_) hcell fun i j hi hj => ?_
      · obtain ⟨g1, g2⟩ := hy y hy2
        exact ⟨by rw [g1]; rfl, fun z hz => by rw [g1, List.mem_singleton] at hz; rw [hz]; exact g2⟩
      · have hj0 : j = 0 := by omega
        subst hj0
        have hxi : xs.getD i .any ∈ xs := by rw [List.getD_eq_getElem?_getD, List.getElem?_eq_getElem (by omega)]; exact List.getElem_mem _
        have hyi : ys.getD i .any ∈ ys := by rw [List.getD_eq_getElem?_getD, List.getElem?_eq_getElem (by omega)]; exact List.getElem_mem _
        have h1 := hvs i 0 (by omega) (by omega)
        rw [hx _ hxi] at h1
        rw [(hy _ hyi).1]
        exact h i (by omega) σ w _ hF h1
def oneC (x : AV) : Prop := x.cells = [x] ∧ x.one = true
theorem AV.fle_mid {id : Nat} {cs pre post : List AV} {a b : AV} (h : AV.fle id cs a b) (h1 : ∀ x ∈ pre, oneC x) (h2 : ∀ x ∈ post, oneC x) (ha : oneC a) (hb : oneC b) : AV.fle id cs (.list (pre ++ a :: post) none) (.list (pre ++ b :: post) none) := by
  refine AV.fle_listc (by simp) (fun x hx => ?_) (fun x hx => ?_) fun i hi => ?_
  · simp only [List.mem_append, List.mem_cons] at hx
    rcases hx with hx | rfl | hx
    · exact (h1 _ hx).1
    · exact ha.1
    · exact (h2 _ hx).1
  · simp only [List.mem_append, List.mem_cons] at hx
    rcases hx with hx | rfl | hx
    · exact h1 _ hx
    · exact hb
    · exact h2 _ hx
  · simp only [List.getD_eq_getElem?_getD, List.getElem?_append]
    split
    · exact .refl _
    · cases hh : i - pre.length with
      | zero => simpa using h
      | succ n => simp only [List.getElem?_cons_succ]; exact .refl _
theorem slP_one (p : Rws) : ∀ x ∈ slP p, oneC x := by
  intro x hx
  obtain ⟨y, _, rfl⟩ := List.mem_map.1 hx
  exact ⟨rfl, rfl⟩
/-- A list that is frozen with one more of its rows. -/
theorem fle_slP {q : Nat × List Val} {p : Rws} {post : List AV} (hp : ∀ x ∈ post, oneC x) (h24 : q.2.length = 24) : AV.fle q.1 (flat (encVs q.2)) (.list (slP (q :: p) ++ post) none) (.list (slP p ++ cRw q.2 :: post) none) := by
  rw [slP_cons, List.append_assoc, List.singleton_append]
  exact AV.fle_mid (fle_slL (encVs_fits q.2) (by rw [encVs_length, h24])) (slP_one p) hp ⟨rfl, rfl⟩ ⟨rfl, rfl⟩
theorem lk_keepT {t : List (Nat × AV)} {d : Nat} : ∀ {ks : List Nat}, d ∈ ks → lk (keepT ks t) d = lk t d
  | [], h => by cases h
  | e :: ks, h => by
    rw [keepT_cons, lk]
    by_cases he : e = d
    · rw [if_pos he, he]
    · rw [if_neg he]
      exact lk_keepT (by rcases List.mem_cons.1 h with h | h; exact absurd h.symm he; exact h)
theorem keepT_idem {t : List (Nat × AV)} {d : Nat} {x : AV} {ks : List Nat} (hd : d ∉ ks) : keepT ks ((d, x) :: keepT ks t) = keepT ks t := by
  unfold keepT
  refine List.map_congr_left fun e he => ?_
  rw [lk, if_neg (by rintro rfl; exact hd he)]
  rw [show (List.map (fun d => (d, lk t d)) ks) = keepT ks t from rfl, lk_keepT he]
theorem fleL_keep {id : Nat} {cs : List AV} {t : List (Nat × AV)} : ∀ {ks : List Nat}, fleL id cs t (keepT ks t)
  | [] => trivial
  | e :: ks => ⟨AV.fle.refl _, fleL_keep⟩
/-- All rows of a list are frozen. -/
theorem awp_freezeRows {P : Program} {Q : Exit → St → Prop} {c : Code} (d : Nat) (ks : List Nat) (hd : d ∉ ks) {bx : List (Nat × List AV)} {tk : List (Nat × Nat × Nat × Nat)} : ∀ (p : Rws) (post : List AV) {s : St} {T : List (Nat × AV)}, keepT ks s.t = T → (∀ x ∈ post, oneC x) → okP24 bx p →
    lk s.t d = .list (slP p ++ post) none → s.h = ⟨bxP p ++ bx, tk⟩ → awp P c Q ⟨s.n, (d, .list (encRws (vlP p) ++ post) none) :: T, ⟨bx, tk⟩⟩ → awp P c Q s
  | [], post, s, T, hT, _, _, hl, hh, step => by
    refine awp_weak ⟨s.n, (d, .list (encRws (vlP []) ++ post) none) :: T, ⟨bx, tk⟩⟩ (St.le.mk' rfl (leL_mem ⟨?_, ?_⟩) ?_) step
    · rw [hl]; exact .refl _
    · rw [← hT]; exact leL_keep _ _
    · rw [hh]; exact .refl _
  | q :: p, post, s, T, hT, hp, hk, hl, hh, step => by
    refine awp_freezeX q.1 (cs := flat (encVs q.2)) ?_ ⟨s.n, (d, .list (slP p ++ cRw q.2 :: post) none) :: T, ⟨bxP p ++ bx, tk⟩⟩ rfl ⟨?_, ?_⟩ (by rw [hh]) ?_ ?_
    · rw [hh]; show ((q.1, _) :: (bxP p ++ bx)).lookup q.1 = _; simp
    · rw [hl]; exact fle_slP hp hk.2.1.1
    · rw [← hT]; exact fleL_keep
    · rw [hh]; exact fleX_skip (fleX_refl hk.1)
    · refine awp_freezeRows d ks hd p (cRw q.2 :: post) (T := T) ?_ ?_ hk.2.2 ?_ rfl ?_
      · rw [← hT]; exact keepT_idem hd
      · intro x hx
        rcases List.mem_cons.1 hx with rfl | hx
        · exact ⟨rfl, rfl⟩
        · exact hp x hx
      · rw [lk, if_pos rfl]
      · rw [vlP_cons, encRws_append, List.append_assoc] at step
        exact step
end Go.Proofs.YtababmnmkmgbbaaGreat
