/-
  A part of the proof: its theorems say what each gives.
-/
import Derived.Test.YtababmnmkmgbbaaGreatKM7
import Derived.Test.YtababmnmkmgbbaaGreatKM5
set_option maxRecDepth 100000
set_option linter.unusedSimpArgs false
set_option linter.unusedVariables false
namespace Go.Proofs.YtababmnmkmgbbaaGreat
open Go Fw
/-! Comparisons are total orders. -/
/-- A comparison that is a total order on what D admits. -/
structure TO {α : Type} (c : α → α → Int) (D : α → Prop) : Prop where
  self : ∀ a, c a a = 0
  eq : ∀ {a b}, D a → D b → c a b = 0 → a = b
  neg : ∀ a b, c b a = - c a b
  tr : ∀ {x y z}, D x → D y → D z → c x y < 0 → c y z < 0 → c x z < 0
def lex (a b : Int) : Int := if a = 0 then b else a
theorem lex_zero {a b : Int} : lex a b = 0 ↔ a = 0 ∧ b = 0 := by unfold lex; split <;> simp_all
theorem lex_neg {a b : Int} : lex (-a) (-b) = - lex a b := by unfold lex; split <;> split <;> omega
theorem lex_lt {a b : Int} : lex a b < 0 ↔ a < 0 ∨ a = 0 ∧ b < 0 := by unfold lex; split <;> omega
theorem firstL_lex (x : Int) (l : List Int) : firstL (fun x => x) (x :: l) = lex x (firstL (fun x => x) l) := by
  simp only [firstL, lex]
theorem cmpI_neg (a b : Int) : cmpI b a = - cmpI a b := by unfold cmpI; split <;> split <;> omega
theorem cmpI_lt {a b : Int} : cmpI a b < 0 ↔ a < b := by unfold cmpI; split <;> (try split) <;> omega
theorem cmpI_tr {x y z : Int} (h : cmpI x y < 0) (k : cmpI y z < 0) : cmpI x z < 0 := by rw [cmpI_lt] at *; omega
theorem cmpB_neg : ∀ a b : List UInt8, Lib.compareBytes b a = - Lib.compareBytes a b
  | [], [] => by simp [Lib.compareBytes]
  | [], _ :: _ => by simp [Lib.compareBytes]
  | _ :: _, [] => by simp [Lib.compareBytes]
  | a :: l, b :: m => by
    have ih := cmpB_neg l m
    unfold Lib.compareBytes
    simp only [UInt8.lt_iff_toNat_lt]
    split <;> split <;> (try omega)
theorem cmpB_tr : ∀ {x y z : List UInt8}, Lib.compareBytes x y < 0 → Lib.compareBytes y z < 0 → Lib.compareBytes x z < 0
  | [], [], _, h, _ => by simp [Lib.compareBytes] at h
  | _ :: _, [], _, h, _ => by simp [Lib.compareBytes] at h
  | _, _ :: _, [], _, h => by simp [Lib.compareBytes] at h
  | [], _ :: _, _ :: _, _, _ => by simp [Lib.compareBytes]
  | a :: l, b :: m, c :: n, h, k => by
    have ih := @cmpB_tr l m n
    unfold Lib.compareBytes at h k ⊢
    simp only [UInt8.lt_iff_toNat_lt] at h k ⊢
    split at h
    · split at k
      · rw [if_pos (by omega)]; omega
      · split at k
        · omega
        · rw [if_pos (by omega)]; omega
    · split at h
      · omega
      · split at k
        · rw [if_pos (by omega)]; omega
        · split at k
          · omega
          · rw [if_neg (by omega), if_neg (by omega)]; exact ih h k
theorem cmpS_neg (a b : ByteArray) : cmpS b a = - cmpS a b := cmpB_neg _ _
theorem cmpS_tr {x y z : ByteArray} (h : cmpS x y < 0) (k : cmpS y z < 0) : cmpS x z < 0 := cmpB_tr h k
theorem cmpV_lex (k n : Int) (s : ByteArray) (fs : List Fld) (k' n' : Int) (s' : ByteArray) (fs' : List Fld) : cmpV (.mk k n s fs) (.mk k' n' s' fs') =
    lex (cmpI k k') (lex (cmpI (if k = 3 then ordI n else n) (if k = 3 then ordI n' else n')) (lex (cmpS s s') (cmpFs fs fs'))) := by
  rw [cmpV, firstL_lex, firstL_lex, firstL_lex]
  simp only [firstL, lex]
  (repeat' split) <;> simp_all
theorem cmpFs_lex (f : Fld) (r : List Fld) (g : Fld) (q : List Fld) : cmpFs (f :: r) (g :: q) = lex (cmpF f g) (cmpFs r q) := by rw [cmpFs]; rfl
theorem cmpF_lex (nm : ByteArray) (v : Val) (nm' : ByteArray) (v' : Val) : cmpF (.mk nm v) (.mk nm' v') = lex (cmpS nm nm') (cmpV v v') := by
  rw [cmpF, firstL_lex, firstL_lex]; simp only [firstL, lex]; (repeat' split) <;> simp_all
mutual
theorem cmpV_neg : ∀ v w : Val, cmpV w v = - cmpV v w
  | .mk k n s fs, .mk k' n' s' fs' => by
    rw [cmpV_lex, cmpV_lex, cmpI_neg k k', cmpS_neg s s', cmpFs_neg fs fs']
    by_cases h : k = k'
    · subst h
      rw [cmpI_neg (if k = 3 then ordI n else n), lex_neg, lex_neg, lex_neg]
    · have h1 : cmpI k k' ≠ 0 := fun e => h (cmpI_eq e)
      unfold lex
      rw [if_neg (by omega), if_neg h1]
theorem cmpFs_neg : ∀ a b : List Fld, cmpFs b a = - cmpFs a b
  | [], [] => by rw [cmpFs]; rfl
  | [], _ :: _ => by rw [cmpFs, cmpFs]; rfl
  | _ :: _, [] => by rw [cmpFs, cmpFs]
  | f :: r, g :: q => by rw [cmpFs_lex, cmpFs_lex, cmpF_neg f g, cmpFs_neg r q, lex_neg]
theorem cmpF_neg : ∀ a b : Fld, cmpF b a = - cmpF a b
  | .mk nm v, .mk nm' v' => by rw [cmpF_lex, cmpF_lex, cmpS_neg nm nm', cmpV_neg v v', lex_neg]
end
mutual
theorem cmpV_tr : ∀ {x y z : Val}, numV x → numV y → numV z → cmpV x y < 0 → cmpV y z < 0 → cmpV x z < 0
  | .mk k n s fs, .mk k' n' s' fs', .mk k2 n2 s2 fs2, hx, hy, hz, h, g => by
    rw [numV] at hx hy hz
    rw [cmpV_lex, lex_lt, lex_lt, lex_lt] at h g ⊢
    rcases h with h | ⟨h1, h⟩
    · rcases g with g | ⟨g1, g⟩
      · exact .inl (cmpI_tr h g)
      · rw [cmpI_eq g1] at h; exact .inl h
    · obtain rfl := cmpI_eq h1
      rcases g with g | ⟨g1, g⟩
      · exact .inl g
      · obtain rfl := cmpI_eq g1
        refine .inr ⟨cmpI_self _, ?_⟩
        rcases h with h | ⟨h2, h⟩
        · rcases g with g | ⟨g2, g⟩
          · exact .inl (cmpI_tr h g)
          · rw [cmpI_eq g2] at h; exact .inl h
        · rw [cmpI_eq h2]
          rcases g with g | ⟨g2, g⟩
          · exact .inl g
          · rw [cmpI_eq g2]
            refine .inr ⟨cmpI_self _, ?_⟩
            rcases h with h | ⟨h3, h⟩
            · rcases g with g | ⟨g3, g⟩
              · exact .inl (cmpS_tr h g)
              · rw [cmpS_eq g3] at h; exact .inl h
            · obtain rfl := cmpS_eq h3
              rcases g with g | ⟨g3, g⟩
              · exact .inl g
              · obtain rfl := cmpS_eq g3
                exact .inr ⟨cmpS_self _, cmpFs_tr hx.2 hy.2 hz.2 h g⟩
theorem cmpFs_tr : ∀ {x y z : List Fld}, numFs x → numFs y → numFs z → cmpFs x y < 0 → cmpFs y z < 0 → cmpFs x z < 0
  | [], [], _, _, _, _, h, _ => by rw [cmpFs] at h; omega
  | _ :: _, [], _, _, _, _, h, _ => by rw [cmpFs] at h; omega
  | _, _ :: _, [], _, _, _, _, h => by rw [cmpFs] at h; omega
  | [], _ :: _, _ :: _, _, _, _, _, _ => by rw [cmpFs]; omega
  | f :: r, f1 :: r1, f2 :: r2, hx, hy, hz, h, g => by
    rw [numFs] at hx hy hz
    rw [cmpFs_lex, lex_lt] at h g ⊢
    rcases h with h | ⟨h1, h⟩
    · rcases g with g | ⟨g1, g⟩
      · exact .inl (cmpF_tr hx.1 hy.1 hz.1 h g)
      · rw [cmpF_zero hy.1 hz.1 g1] at h; exact .inl h
    · obtain rfl := cmpF_zero hx.1 hy.1 h1
      rcases g with g | ⟨g1, g⟩
      · exact .inl g
      · obtain rfl := cmpF_zero hy.1 hz.1 g1
        exact .inr ⟨cmpF_self _, cmpFs_tr hx.2 hy.2 hz.2 h g⟩
theorem cmpF_tr : ∀ {x y z : Fld}, numF x → numF y → numF z → cmpF x y < 0 → cmpF y z < 0 → cmpF x z < 0
  | .mk a v, .mk b w, .mk c u, hx, hy, hz, h, g => by
    rw [numF] at hx hy hz
    rw [cmpF_lex, lex_lt] at h g ⊢
    rcases h with h | ⟨h1, h⟩
    · rcases g with g | ⟨g1, g⟩
      · exact .inl (cmpS_tr h g)
      · rw [cmpS_eq g1] at h; exact .inl h
    · obtain rfl := cmpS_eq h1
      rcases g with g | ⟨g1, g⟩
      · exact .inl g
      · obtain rfl := cmpS_eq g1
        exact .inr ⟨cmpS_self _, cmpV_tr hx hy hz h g⟩
end
theorem to_cmpV : TO cmpV numV := ⟨cmpV_self, cmpV_zero, cmpV_neg, cmpV_tr⟩
theorem cmpL_cons {α : Type} (c : α → α → Int) (a : α) (l : List α) (b : α) (m : List α) : cmpL c (a :: l) (b :: m) = lex (c a b) (cmpL c l m) := by rw [cmpL]; rfl
/-- Lists of what is ordered. -/
theorem TO.list {α : Type} {c : α → α → Int} {D : α → Prop} (h : TO c D) : TO (cmpL c) (fun l => ∀ x ∈ l, D x) where
  self := fun l => by
    induction l with
    | nil => rfl
    | cons a l ih => rw [cmpL_cons, h.self, ih]; rfl
  eq := fun {a} => by
    induction a with
    | nil => intro b _ _ e; cases b with
      | nil => rfl
      | cons => cases e
    | cons x l ih =>
      intro b ha hb e
      cases b with
      | nil => cases e
      | cons y m =>
        rw [cmpL_cons, lex_zero] at e
        rw [h.eq (ha _ (by simp)) (hb _ (by simp)) e.1, ih (fun z hz => ha z (by simp [hz])) (fun z hz => hb z (by simp [hz])) e.2]
  neg := fun a => by
    induction a with
    | nil => intro b; cases b <;> rfl
    | cons x l ih =>
      intro b
      cases b with
      | nil => rfl
      | cons y m => rw [cmpL_cons, cmpL_cons, h.neg, ih, lex_neg]
  tr := fun {x} => by
    induction x with
    | nil =>
      intro y z _ _ _ h1 h2
      cases y with
      | nil => simp [cmpL] at h1
      | cons b m => cases z with
        | nil => simp [cmpL] at h2
        | cons => simp [cmpL]
    | cons a l ih =>
      intro y z hx hy hz h1 h2
      cases y with
      | nil => simp [cmpL] at h1
      | cons b m => cases z with
        | nil => simp [cmpL] at h2
        | cons d n =>
          rw [cmpL_cons, lex_lt] at h1 h2 ⊢
          have xa := hx a (by simp); have yb := hy b (by simp); have zd := hz d (by simp)
          rcases h1 with h1 | ⟨e1, h1⟩
          · rcases h2 with h2 | ⟨e2, h2⟩
            · exact .inl (h.tr xa yb zd h1 h2)
            · obtain rfl := h.eq yb zd e2; exact .inl h1
          · obtain rfl := h.eq xa yb e1
            rcases h2 with h2 | ⟨e2, h2⟩
            · exact .inl h2
            · exact .inr ⟨e2, ih (fun z hz => hx z (by simp [hz])) (fun z hz => hy z (by simp [hz])) (fun q hq => hz q (by simp [hq])) h1 h2⟩
namespace TO
variable {α : Type} {c : α → α → Int} {D : α → Prop}
theorem nt (h : TO c D) {x y z : α} (dx : D x) (dy : D y) (dz : D z) (h1 : ¬ c x y < 0) (h2 : ¬ c y z < 0) : ¬ c x z < 0 := by
  intro h3
  have n1 := h.neg x y; have n2 := h.neg y z; have n3 := h.neg x z
  by_cases e1 : c x y = 0
  · obtain rfl := h.eq dx dy e1; exact h2 h3
  · by_cases e2 : c y z = 0
    · obtain rfl := h.eq dy dz e2; exact h1 h3
    · have := h.tr (x := z) (y := y) (z := x) dz dy dx (by omega) (by omega)
      omega
/-- Strictly rising. -/
def up (c : α → α → Int) (l : List α) : Prop := l.Pairwise fun a b => c a b < 0
theorem up_uniq (h : TO c D) : ∀ {l m : List α}, (∀ x ∈ l, D x) → (∀ x ∈ m, D x) → up c l → up c m → (∀ x, x ∈ l ↔ x ∈ m) → l = m
  | [], [], _, _, _, _, _ => rfl
  | [], b :: m, _, _, _, _, e => by have := (e b).2 (by simp); simp at this
  | a :: l, [], _, _, _, _, e => by have := (e a).1 (by simp); simp at this
  | a :: l, b :: m, dl, dm, hl, hm, e => by
    have hl' := List.pairwise_cons.1 hl
    have hm' := List.pairwise_cons.1 hm
    have hab : a = b := by
      rcases List.mem_cons.1 ((e a).1 (by simp)) with h1 | h1
      · exact h1
      · rcases List.mem_cons.1 ((e b).2 (by simp)) with h2 | h2
        · exact h2.symm
        · have q1 := hm'.1 a h1
          have q2 := hl'.1 b h2
          have := h.neg a b
          omega
    subst hab
    congr 1
    refine h.up_uniq (fun x hx => dl x (by simp [hx])) (fun x hx => dm x (by simp [hx])) hl'.2 hm'.2 fun x => ?_
    have ha1 : a ∉ l := fun ha => by have := hl'.1 a ha; rw [h.self] at this; omega
    have ha2 : a ∉ m := fun ha => by have := hm'.1 a ha; rw [h.self] at this; omega
    have := e x
    simp only [List.mem_cons] at this
    by_cases hx : x = a
    · subst hx; simp [ha1, ha2]
    · simpa [hx] using this
end TO
/-- One is put into a rising list, at its place, if it is not there. -/
def insU {α : Type} (c : α → α → Int) (x : α) : List α → List α
  | [] => [x]
  | y :: l => if c y x < 0 then y :: insU c x l else if c y x = 0 then y :: l else x :: y :: l
theorem mem_insU {α : Type} {c : α → α → Int} {D : α → Prop} (h : TO c D) {x : α} (dx : D x) : ∀ {l : List α}, (∀ y ∈ l, D y) → ∀ z, z ∈ insU c x l ↔ z = x ∨ z ∈ l
  | [], _, z => by simp [insU]
  | y :: l, dl, z => by
    rw [insU]
    split
    · rw [List.mem_cons, mem_insU h dx (fun w hw => dl w (by simp [hw])), List.mem_cons]; constructor <;> (intro hh; rcases hh with hh | hh | hh <;> simp [hh])
    · split
      · rename_i e
        obtain rfl := h.eq (dl y (by simp)) dx e
        simp
      · simp
theorem up_insU {α : Type} {c : α → α → Int} {D : α → Prop} (h : TO c D) {x : α} (dx : D x) : ∀ {l : List α}, (∀ y ∈ l, D y) → TO.up c l → TO.up c (insU c x l)
  | [], _, _ => by simp [insU, TO.up]
  | y :: l, dl, hu => by
    have hu' := List.pairwise_cons.1 hu
    have dl' : ∀ w ∈ l, D w := fun w hw => dl w (by simp [hw])
    rw [insU]
    split
    · rename_i h1
      refine List.pairwise_cons.2 ⟨fun z hz => ?_, up_insU h dx dl' hu'.2⟩
      rcases (mem_insU h dx dl' z).1 hz with rfl | hz
      · exact h1
      · exact hu'.1 z hz
    · split
      · exact hu
      · rename_i h1 h2
        have hxy : c x y < 0 := by rw [h.neg y x]; omega
        refine List.pairwise_cons.2 ⟨fun z hz => ?_, hu⟩
        rcases List.mem_cons.1 hz with rfl | hz
        · exact hxy
        · exact h.tr dx (dl y (by simp)) (dl' z hz) hxy (hu'.1 z hz)
/-- The elements of a list, in order, each once. -/
def setU {α : Type} (c : α → α → Int) (l : List α) : List α := l.foldl (fun s x => insU c x s) []
theorem foldU_D {α : Type} {c : α → α → Int} {D : α → Prop} (h : TO c D) : ∀ (l s : List α), (∀ x ∈ l, D x) → (∀ x ∈ s, D x) → TO.up c s →
    TO.up c (l.foldl (fun s x => insU c x s) s) ∧ ∀ z, z ∈ l.foldl (fun s x => insU c x s) s ↔ z ∈ s ∨ z ∈ l
  | [], s, _, _, hu => ⟨hu, fun z => by simp⟩
  | x :: l, s, dl, ds, hu => by
    have dx := dl x (by simp)
    have hm := mem_insU h dx ds
    have := foldU_D h l (insU c x s) (fun y hy => dl y (by simp [hy])) (fun y hy => by rcases (hm y).1 hy with rfl | hy; exact dx; exact ds y hy) (up_insU h dx ds hu)
    refine ⟨this.1, fun z => ?_⟩
    rw [List.foldl_cons, this.2, hm z, List.mem_cons]
    grind
theorem setU_up {α : Type} {c : α → α → Int} {D : α → Prop} (h : TO c D) {l : List α} (dl : ∀ x ∈ l, D x) : TO.up c (setU c l) := (foldU_D h l [] dl (by simp) (by simp [TO.up])).1
theorem setU_mem {α : Type} {c : α → α → Int} {D : α → Prop} (h : TO c D) {l : List α} (dl : ∀ x ∈ l, D x) (z : α) : z ∈ setU c l ↔ z ∈ l := by
  rw [setU, (foldU_D h l [] dl (by simp) (by simp [TO.up])).2]; simp
end Go.Proofs.YtababmnmkmgbbaaGreat
/-
  A part of the proof: its theorems say what each gives.
-/
set_option linter.unusedSimpArgs false
set_option linter.unusedVariables false
namespace Go.Proofs.YtababmnmkmgbbaaGreat
open Go Fw
/-! Data of a size that is borne, whose whole numbers are in their bounds. -/
def gV (v : Val) : Prop := sizeV v ≤ 2000000 ∧ numV v
def gRow (x : List Val) : Prop := x.length ≤ 2000000 ∧ ∀ v ∈ x, gV v
def gRws (l : List (List Val)) : Prop := l.length ≤ 2000000 ∧ ∀ x ∈ l, gRow x
structure gRel (r : Rel) : Prop where
  cols : r.cols.length ≤ 2000000
  kd : ∀ c ∈ r.cols, okI c.kd
  key : r.key.length ≤ 2000000
  rows : gRws r.rows
def gBase (b : List Rel) : Prop := b.length ≤ 2000000 ∧ ∀ r ∈ b, gRel r
structure gTrm (t : Trm) : Prop where
  n : okI t.n
  v : gV t.v
def gTs (l : List Trm) : Prop := l.length ≤ 2000000 ∧ ∀ t ∈ l, gTrm t
def gAtm (a : Atm) : Prop := gTs a.args
def gAs (l : List Atm) : Prop := l.length ≤ 2000000 ∧ ∀ a ∈ l, gAtm a
structure gCQ (q : CQ) : Prop where
  head : gTs q.head
  body : gAs q.body
theorem gRow.at {x : List Val} (h : gRow x) {i : Nat} {v : Val} (e : x[i]? = some v) : gV v := h.2 v (List.mem_of_getElem? e)
theorem gRow.take {x : List Val} (h : gRow x) (i : Nat) : gRow (x.take i) := ⟨by rw [List.length_take]; have := h.1; omega, fun v hv => h.2 v (List.mem_of_mem_take hv)⟩
theorem gRws.take {x : List (List Val)} (h : gRws x) (i : Nat) : gRws (x.take i) := ⟨by rw [List.length_take]; have := h.1; omega, fun v hv => h.2 v (List.mem_of_mem_take hv)⟩
theorem gV.z {v : Val} (h : gV v) : sizeV v ≤ 4611686018427387904 := by have := h.1; omega
theorem gV.c {v : Val} (h : gV v) : sizeV v ≤ 100000000 := by have := h.1; omega
end Go.Proofs.YtababmnmkmgbbaaGreat
