/-
  A part of the proof: its theorems say what each gives.
-/
import Derived.Test.YtababmnmkmgbbaaGreatKQxc
import Derived.Test.YtababmnmkmgbbaaGreatKM40
import Derived.Test.YtababmnmkmgbbaaGreatKM48
import Derived.Test.YtababmnmkmgbbaaGreatKM28
import Derived.Test.YtababmnmkmgbbaaGreatKQj
import Derived.Test.YtababmnmkmgbbaaGreatKFw1
import Derived.Test.YtababmnmkmgbbaaGreatKFw2
import Derived.Test.YtababmnmkmgbbaaGreatKFw3
set_option maxRecDepth 100000
set_option maxHeartbeats 4000000
set_option linter.unusedSimpArgs false
set_option linter.unusedVariables false
namespace Go.Proofs.YtababmnmkmgbbaaGreat
open Go Fw
/-! The reference: Ran. -/
theorem c_AllM (b : List Rel) (l : List Atm) (id : Nat) (H : Hp) (fr : fresh H id) (hb : gBase b) (hl : gAs l) (ho : okAtoms b 24 l) (h12 : l.length ≤ 12) :
    ACalls Tryz.prog 47 [.list (encRels b) none, .list (encAs l) none, .mp id] ⟨(id, [.mc [] 0]) :: H.bx, H.tk⟩ fun r H' => H' = H ∧
      ((extL b l [none24] = none ∧ r = .tup [.con (.slice none 0 0), .con (.int .i64 6)]) ∨ ∃ ys ps, extL b l [none24] = some ys ∧ Reps RepB ps ys ∧ r = .tup [.list (encPs ps) none, .con (.int .i64 0)]) := by
  refine ACalls.frzArg (cs := [.mc [] 0]) (args' := [.list (encRels b) none, .list (encAs l) none, .mv [] 0]) fr.1 (c_AllR b l none24 [] 0 ⟨H.bx, H.tk⟩ hb hl ho h12 (by simp [none24]) gRow_none (by rw [envB_none]; exact repM_nil)) rfl fun i hi => ?_
  match i, hi with
  | 0, _ => exact AV.fle.refl _
  | 1, _ => exact AV.fle.refl _
  | 2, _ => exact AV.fle_mp
end Go.Proofs.YtababmnmkmgbbaaGreat
/-
  A part of the proof: its theorems say what each gives.
-/
set_option maxRecDepth 100000
set_option linter.unusedSimpArgs false
set_option linter.unusedVariables false
namespace Go.Proofs.YtababmnmkmgbbaaGreat
open Go Fw
/-! The bindings of an environment that was found are the binding itself. -/
def bndE (E : Env) : List Val := (List.range 24).map fun (i : Nat) => (E (i : Int)).getD zV
end Go.Proofs.YtababmnmkmgbbaaGreat
/-
  A part of the proof: its theorems say what each gives.
-/
set_option maxRecDepth 100000
set_option maxHeartbeats 4000000
set_option linter.unusedSimpArgs false
set_option linter.unusedVariables false
namespace Go.Proofs.YtababmnmkmgbbaaGreat
open Go Fw
/-! The law's bindings of an environment. -/
structure Bnd (es l : MEs) (E : Env) (cur : List Val) : Prop where
  sub : ∀ e ∈ l, e ∈ es
  nd : (l.map (·.2.2)).Nodup
  len : cur.length = 24
  a : ∀ n : Nat, n < 24 → (∃ e ∈ l, e.1 = .i (n : Int)) → cur.getD n zV = (E n).getD zV
  b : ∀ n : Nat, n < 24 → (¬ ∃ e ∈ l, e.1 = .i (n : Int)) → cur.getD n zV = zV
theorem Bnd.nil (es : MEs) (E : Env) : Bnd es [] E none24 := ⟨by simp, by simp, by simp [none24], by simp, fun n _ _ => by
  unfold none24; rw [List.getD_eq_getElem?_getD, List.getElem?_replicate]; split <;> rfl⟩
theorem Bnd.nd_step {es l : MEs} {E : Env} {cur : List Val} (h : Bnd es l E cur) {e : MK × AV × Nat} (hn : e.2.2 ∉ l.map (·.2.2)) : ((l ++ [e]).map (·.2.2)).Nodup := by
  rw [List.map_append, List.nodup_append]
  refine ⟨h.nd, by simp, fun a ha b hb => ?_⟩
  simp only [List.map_cons, List.map_nil, List.mem_singleton] at hb
  rw [hb]; exact fun e => hn (by rw [← e]; exact ha)
theorem Bnd.sub_step {es l : MEs} {E : Env} {cur : List Val} (h : Bnd es l E cur) {e : MK × AV × Nat} (he : e ∈ es) : ∀ q ∈ l ++ [e], q ∈ es := fun q hq => by
  rcases List.mem_append.1 hq with hq | hq
  · exact h.sub q hq
  · rw [List.mem_singleton.1 hq]; exact he
theorem Bnd.out {es l : MEs} {E : Env} {cur : List Val} (h : Bnd es l E cur) {n : Int} {v : AV} {st : Nat} (he : (.i n, v, st) ∈ es) (hn : st ∉ l.map (·.2.2)) (hr : ¬ (0 ≤ n ∧ n < 24)) : Bnd es (l ++ [(.i n, v, st)]) E cur where
  sub := h.sub_step he
  nd := h.nd_step hn
  len := h.len
  a m hm hx := h.a m hm (by
    obtain ⟨e, h1, h2⟩ := hx
    rcases List.mem_append.1 h1 with h1 | h1
    · exact ⟨e, h1, h2⟩
    · rw [List.mem_singleton.1 h1] at h2
      injection h2 with h2
      omega)
  b m hm hx := h.b m hm (fun ⟨e, h1, h2⟩ => hx ⟨e, List.mem_append_left _ h1, h2⟩)
theorem Bnd.step {es l : MEs} {E : Env} {cur : List Val} (h : Bnd es l E cur) {n : Nat} {w : Val} {v : AV} {st : Nat} (he : (.i (n : Int), v, st) ∈ es) (hn : st ∉ l.map (·.2.2)) (hr : n < 24) (hw : E n = some w) : Bnd es (l ++ [(.i (n : Int), v, st)]) E (cur.set n w) where
  sub := h.sub_step he
  nd := h.nd_step hn
  len := by rw [List.length_set]; exact h.len
  a m hm hx := by
    rw [getD_set]
    by_cases e : n = m
    · subst e
      rw [if_pos ⟨rfl, by rw [h.len]; exact hr⟩, hw]; rfl
    · rw [if_neg (fun h => e h.1)]
      refine h.a m hm ?_
      obtain ⟨e', h1, h2⟩ := hx
      rcases List.mem_append.1 h1 with h1 | h1
      · exact ⟨e', h1, h2⟩
      · rw [List.mem_singleton.1 h1] at h2
        injection h2 with h2
        omega
  b m hm hx := by
    have hne : ¬ n = m := fun e => hx ⟨_, List.mem_append_right _ (List.mem_singleton.2 rfl), by rw [e]⟩
    rw [getD_set, if_neg (fun h => hne h.1)]
    exact h.b m hm (fun ⟨e, h1, h2⟩ => hx ⟨e, List.mem_append_left _ h1, h2⟩)
theorem Bnd.done {es l : MEs} {E : Env} {cur : List Val} {c : Nat} (h : Bnd es l E cur) (hs : Stm es c) (hall : ∀ e ∈ es, e.2.2 ∈ l.map (·.2.2)) (hE : repM es E) : cur = bndE E := by
  unfold bndE
  refine List.ext_getElem (by simp [h.len]) fun i h1 h2 => ?_
  rw [List.getElem_map, List.getElem_range]
  have hi : i < 24 := by rw [← h.len]; exact h1
  have e0 : cur[i] = cur.getD i zV := by rw [List.getD_eq_getElem?_getD, List.getElem?_eq_getElem h1]; rfl
  rw [e0]
  by_cases hx : ∃ e ∈ l, e.1 = .i (i : Int)
  · exact h.a i hi hx
  · rw [h.b i hi hx]
    cases hEi : E (i : Int) with
    | none => rfl
    | some w =>
      have hm : mget (.i (i : Int)) es = some (cV w) := by rw [hE.2, hEi]; rfl
      obtain ⟨e, he, h3, _⟩ := mget_some hm
      obtain ⟨q, hq, h4⟩ := List.mem_map.1 (hall e he)
      have := pw_inj hs.2.1 q (h.sub q hq) e he h4
      subst this
      exact absurd ⟨q, hq, h3⟩ hx
end Go.Proofs.YtababmnmkmgbbaaGreat
/-
  A part of the proof: its theorems say what each gives.
-/
set_option maxRecDepth 100000
set_option maxHeartbeats 4000000
set_option linter.unusedSimpArgs false
set_option linter.unusedVariables false
namespace Go.Proofs.YtababmnmkmgbbaaGreat
open Go Fw
/-! The law of runs. -/
theorem c_SameRows1 (x y : List Val) (H : Hp) (hx : gRow x) (hy : gRow y) : PureAt Tryz.prog 147 [cRw x, cRw y] H (.con (.bool (decide (cmpR x y = 0)))) := by
  refine acalls_of (by kernel_rfl) Tryz.func147 rfl 9 Tryz.ntmps147 (by simp) [.tmp 4] rfl ?_
  ((repeat' (first | (refine awp_seq_k (fun K hK => ?_)) | (refine awp_reg _ rfl ?_; (try simp only [go_sem, Nat.reduceLT, Nat.reduceEqDiff, Nat.reduceAdd, ↓reduceIte, reduceCtorEq])) | (refine awp_ret ?_) | (refine PureAt.use (c_relCmp x y _ hx hy) ?_ <;> (try simp only [go_sem, Nat.reduceLT, ↓reduceIte])) | (refine orAt_l ?_) | (refine hK _ ?_; clear hK; (try clear K)))))
  ((all_goals (try refine fin_pure (by (try simp only [forall_eq, resOk, List.mem_cons, List.not_mem_nil, or_false])) ?_ (by ((try dsimp only); repeat' ((with_reducible exact .refl _)))))); (all_goals (try simp only [go_sem, ↓reduceIte])))
theorem c_SameRows (a b : List (List Val)) (H : Hp) (ha : gRws a) (hb : gRws b) : PureAt Tryz.prog 44 [.list (encRws a) none, .list (encRws b) none] H (.con (.bool (eqL (fun x y => decide (cmpR x y = 0)) a b))) := by
  have h1 := ha.1
  have h2 := hb.1
  refine acalls_of (by kernel_rfl) Tryz.func44 rfl 8 Tryz.ntmps44 (by simp) [.tmp 4] rfl ?_
  ((repeat' (first | (refine awp_seq_k (fun K hK => ?_)) | (refine awp_reg _ rfl ?_; (try simp only [go_sem, Nat.reduceLT, Nat.reduceEqDiff, Nat.reduceAdd, ↓reduceIte, reduceCtorEq])) | (refine awp_ret ?_) | (refine PureAt.use (c_EqfRow a b _ _ (fun x y => decide (cmpR x y = 0)) _ (by omega) (by omega) (fun x hx y hy => c_SameRows1 x y _ (ha.2 x hx) (hb.2 y hy))) ?_ <;> (try simp only [go_sem])) | (refine orAt_l ?_) | (refine hK _ ?_; clear hK; (try clear K)))))
  ((all_goals (try refine fin_pure (by (try simp only [forall_eq, resOk, List.mem_cons, List.not_mem_nil, or_false])) ?_ (by ((try dsimp only); repeat' ((with_reducible exact .refl _)))))); (all_goals (try simp only [go_sem, ↓reduceIte])))
theorem sameRows_self (a : List (List Val)) : eqL (fun x y => decide (cmpR x y = 0)) a a = true := eqL_self fun x _ => by simp [to_cmpR.self]
end Go.Proofs.YtababmnmkmgbbaaGreat
