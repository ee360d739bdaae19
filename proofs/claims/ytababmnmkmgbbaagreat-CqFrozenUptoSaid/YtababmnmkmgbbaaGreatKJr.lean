/-
  A part of the proof: its theorems say what each gives.
-/
import Derived.Test.YtababmnmkmgbbaaGreatRows
import Derived.Test.YtababmnmkmgbbaaGreatKFw1
import Derived.Test.YtababmnmkmgbbaaGreatKFw2
import Derived.Test.YtababmnmkmgbbaaGreatKFw3
import Derived.Test.YtababmnmkmgbbaaGreatKM8
set_option maxRecDepth 100000
set_option linter.unusedSimpArgs false
set_option linter.unusedVariables false
namespace Go.Proofs.YtababmnmkmgbbaaGreat
open Go Fw
/-! Data that come in: values, relations, bases, queries. -/
theorem bulkAll_sum {H : Type} (l : List (DataW H)) : Rows.uptoBulkAll l = (l.map Rows.uptoBulk).sum := by
  induction l with
  | nil => rfl
  | cons d r ih => rw [Rows.uptoBulkAll, ih, List.map_cons, List.sum_cons]
theorem isBulk (H : Type) : IsBulk (Rows.uptoBulk (H := H)) where
  one d := by cases d with
    | lit l => cases l <;> simp [Rows.uptoBulk]
    | _ => simp [Rows.uptoBulk]
  str l := by simp [Rows.uptoBulk]
  slice es sp := by rw [Rows.uptoBulk, ← bulkAll_sum]; omega
  agg ps := by rw [Rows.uptoBulk, ← bulkAll_sum]; omega
theorem bulk_arg {H : Type} {l : List (DataW H)} {d : DataW H} (h : Rows.uptoSmall H l = true) (hd : d ∈ l) : Rows.uptoBulk d ≤ 1048576 := by
  have h1 : Rows.uptoBulkAll l ≤ 1048576 := of_decide_eq_true h
  rw [bulkAll_sum] at h1
  have : ∀ m : List (DataW H), d ∈ m → Rows.uptoBulk d ≤ (m.map Rows.uptoBulk).sum := by
    intro m hm
    induction m with
    | nil => cases hm
    | cons a m ih =>
      rw [List.map_cons, List.sum_cons]
      rcases List.mem_cons.1 hm with rfl | hm
      · omega
      · have := ih hm; omega
  have := this l hd
  omega
theorem str_Value : tstr Tryz.prog 92 = some [(3, 0, 1), (3, 1, 1), (9, 2, 1), (90, 3, 1)] := by kernel_rfl
theorem str_Field : tstr Tryz.prog 274 = some [(9, 0, 1), (92, 1, 4)] := by kernel_rfl
theorem str_Col : tstr Tryz.prog 106 = some [(9, 0, 1), (3, 1, 1)] := by kernel_rfl
theorem str_Rel : tstr Tryz.prog 103 = some [(9, 0, 1), (100, 1, 1), (101, 2, 1), (70, 3, 1)] := by kernel_rfl
theorem str_Term : tstr Tryz.prog 197 = some [(4, 0, 1), (3, 1, 1), (92, 2, 4)] := by kernel_rfl
theorem str_Atom : tstr Tryz.prog 194 = some [(9, 0, 1), (51, 1, 1)] := by kernel_rfl
theorem str_CQ : tstr Tryz.prog 54 = some [(51, 0, 1), (52, 1, 1)] := by kernel_rfl
theorem i64_mm {n : Int} (h : IntKind.i64.min ≤ n ∧ n ≤ IntKind.i64.max) : okI n := by
  have h1 : IntKind.i64.min = -9223372036854775808 := by decide
  have h2 : IntKind.i64.max = 9223372036854775807 := by decide
  unfold okI; omega
mutual
def wtV : Val → Nat
  | .mk _ _ s fs => s.size + wtFs fs + 5
def wtFs : List Fld → Nat
  | [] => 0
  | f :: r => wtF f + wtFs r
def wtF : Fld → Nat
  | .mk nm v => nm.size + wtV v + 2
end
mutual
def goodV : Val → Prop
  | .mk k n s fs => okI k ∧ okI n ∧ s.size ≤ maxLen ∧ goodFs fs
def goodFs : List Fld → Prop
  | [] => True
  | f :: r => goodF f ∧ goodFs r
def goodF : Fld → Prop
  | .mk nm v => nm.size ≤ maxLen ∧ goodV v
end
theorem wtFs_sum (fs : List Fld) : wtFs fs = (fs.map wtF).sum := by
  induction fs with
  | nil => rfl
  | cons f r ih => rw [wtFs, ih, List.map_cons, List.sum_cons]
theorem goodFs_all (fs : List Fld) : goodFs fs ↔ ∀ f ∈ fs, goodF f := by
  induction fs with
  | nil => simp [goodFs]
  | cons f r ih => rw [goodFs, ih]; simp
section
variable {H : Type} {enc : TypeId × Value → H} {W : World}
theorem opens_val : ∀ n, Opens enc Tryz.prog W Rows.uptoBulk 92 n encV goodV wtV := by
  intro n
  induction n using Nat.strongRecOn with
  | _ n ih =>
    have hb := isBulk H
    have hfld : ∀ m, m < n → Opens enc Tryz.prog W Rows.uptoBulk 274 m encF goodF wtF := fun m hm =>
      Opens.map (opens_struct hb str_Field ty_sz274 fun m' h' => opensFs_cons (opens_string hb ty_kind9) (opensFs_cons (ih m' (by omega)) opensFs_nil)) (fun a => Fld.mk a.1 a.2.1)
        (fun a => by obtain ⟨nm, ⟨k, n, s, fs⟩, u⟩ := a; rw [encF_mk]; simp only [encV_mk, AV.cells]; rfl) (fun a h => ⟨h.1, h.2.1⟩) (fun a => by simp only [wtF]; omega)
    exact Opens.map (opens_struct hb str_Value ty_sz92 fun m h' => opensFs_cons (opens_int hb ty_int3) (opensFs_cons (opens_int hb ty_int3) (opensFs_cons (opens_string hb ty_kind9)
      (opensFs_cons (opens_slice hb ty_elem90 (by omega) encF_cells fun m' h'' => hfld m' (by omega)) opensFs_nil)))) (fun a => Val.mk a.1 a.2.1 a.2.2.1 a.2.2.2.1)
      (fun a => by obtain ⟨k, n, s, fs, u⟩ := a; simp only [encV_mk, encFs_map, AV.cells]; rfl) (fun a h => ⟨i64_mm h.1, i64_mm h.2.1, h.2.2.1, (goodFs_all _).2 h.2.2.2.1⟩) (fun a => by simp only [wtV, wtFs_sum]; omega)
theorem cV_eq : encV = cV := by funext v; obtain ⟨k, n, s, fs⟩ := v; rw [encV_mk]
theorem encV_cells4 (v : Val) : (encV v).cells.length = 4 := by obtain ⟨k, n, s, fs⟩ := v; rw [encV_mk]; rfl
theorem opens_row (n : Nat) : Opens enc Tryz.prog W Rows.uptoBulk 80 n (fun l => .list (encVs l) none) (fun l => ∀ v ∈ l, goodV v) (fun l => (l.map wtV).sum + 1) :=
  Opens.map (opens_slice (isBulk H) ty_elem80 (by omega) encV_cells4 fun m _ => opens_val m) (fun l => l) (fun l => by simp only [encVs, cV_eq]) (fun l h => h) (fun l => Nat.le_refl _)
def goodRw (x : List Val) : Prop := ∀ v ∈ x, goodV v
def wtRw (x : List Val) : Nat := (x.map wtV).sum + 1
def goodCol (c : Col) : Prop := okI c.kd
def wtCol (c : Col) : Nat := c.nm.size + 3
theorem opens_col (n : Nat) : Opens enc Tryz.prog W Rows.uptoBulk 106 n cCol goodCol wtCol :=
  Opens.map (opens_struct (isBulk H) str_Col ty_sz106 fun m _ => opensFs_cons (opens_string (isBulk H) ty_kind9) (opensFs_cons (opens_int (isBulk H) ty_int3) opensFs_nil))
    (fun a => Col.mk a.1 a.2.1) (fun a => rfl) (fun a h => i64_mm h.2.1) (fun a => by simp only [wtCol]; omega)
structure goodRel (r : Rel) : Prop where
  cols : ∀ c ∈ r.cols, goodCol c
  rows : ∀ x ∈ r.rows, goodRw x
def wtRel (r : Rel) : Nat := r.nm.size + (r.cols.map wtCol).sum + (r.key.map fun k => k.size + 1).sum + (r.rows.map wtRw).sum + 5
theorem opens_rel (n : Nat) : Opens enc Tryz.prog W Rows.uptoBulk 103 n cRel goodRel wtRel :=
  Opens.map (opens_struct (isBulk H) str_Rel ty_sz103 fun m _ => opensFs_cons (opens_string (isBulk H) ty_kind9) (opensFs_cons (opens_slice (isBulk H) ty_elem100 (by omega) (fun _ => rfl) fun m' _ => opens_col m')
      (opensFs_cons (opens_slice (isBulk H) ty_elem101 (by omega) (fun _ => rfl) fun m' _ => opens_string (isBulk H) ty_kind9) (opensFs_cons (opens_slice (isBulk H) ty_elem70 (by omega) (fun _ => rfl) fun m' _ => opens_row m') opensFs_nil))))
    (fun a => Rel.mk a.1 a.2.1 a.2.2.1 a.2.2.2.1) (fun a => rfl) (fun a h => ⟨h.2.1, h.2.2.2.1⟩) (fun a => by simp only [wtRel]; unfold wtRw; omega)
theorem opens_base (n : Nat) : Opens enc Tryz.prog W Rows.uptoBulk 23 n (fun l => .list (encRels l) none) (fun l => ∀ x ∈ l, goodRel x) (fun l => (l.map wtRel).sum + 1) :=
  opens_slice (isBulk H) ty_elem23 (by omega) (fun _ => rfl) fun m _ => opens_rel m
structure goodT (t : Trm) : Prop where
  n : okI t.n
  v : goodV t.v
def wtT (t : Trm) : Nat := wtV t.v + 3
theorem opens_trm (n : Nat) : Opens enc Tryz.prog W Rows.uptoBulk 197 n cTrm goodT wtT :=
  Opens.map (opens_struct (isBulk H) str_Term ty_sz197 fun m _ => opensFs_cons (opens_bool (isBulk H) ty_kind4) (opensFs_cons (opens_int (isBulk H) ty_int3) (opensFs_cons (opens_val m) opensFs_nil)))
    (fun a => Trm.mk a.1 a.2.1 a.2.2.1) (fun a => by obtain ⟨b, n, ⟨k, m, s, fs⟩, u⟩ := a; simp only [encV_mk, AV.cells]; rfl) (fun a h => ⟨i64_mm h.2.1, h.2.2.1⟩) (fun a => by simp only [wtT]; omega)
def goodTs (l : List Trm) : Prop := ∀ t ∈ l, goodT t
def wtTs (l : List Trm) : Nat := (l.map wtT).sum + 1
theorem opens_trms (n : Nat) : Opens enc Tryz.prog W Rows.uptoBulk 51 n (fun l => .list (encTs l) none) goodTs wtTs :=
  opens_slice (isBulk H) ty_elem51 (by omega) (fun _ => rfl) fun m _ => opens_trm m
def goodAt (a : Atm) : Prop := goodTs a.args
def wtAt (a : Atm) : Nat := a.rel.size + wtTs a.args + 2
theorem opens_atm (n : Nat) : Opens enc Tryz.prog W Rows.uptoBulk 194 n cAtm goodAt wtAt :=
  Opens.map (opens_struct (isBulk H) str_Atom ty_sz194 fun m _ => opensFs_cons (opens_string (isBulk H) ty_kind9) (opensFs_cons (opens_trms m) opensFs_nil))
    (fun a => Atm.mk a.1 a.2.1) (fun a => rfl) (fun a h => h.2.1) (fun a => by simp only [wtAt]; omega)
theorem opens_atms (n : Nat) : Opens enc Tryz.prog W Rows.uptoBulk 52 n (fun l => .list (encAs l) none) (fun l => ∀ a ∈ l, goodAt a) (fun l => (l.map wtAt).sum + 1) :=
  opens_slice (isBulk H) ty_elem52 (by omega) (fun _ => rfl) fun m _ => opens_atm m
structure goodCQ (q : CQ) : Prop where
  head : goodTs q.head
  body : ∀ a ∈ q.body, goodAt a
def wtCQ (q : CQ) : Nat := wtTs q.head + (q.body.map wtAt).sum + 2
theorem opens_cq (n : Nat) : Opens enc Tryz.prog W Rows.uptoBulk 54 n cCQ goodCQ wtCQ :=
  Opens.map (opens_struct (isBulk H) str_CQ ty_sz54 fun m _ => opensFs_cons (opens_trms m) (opensFs_cons (opens_atms m) opensFs_nil))
    (fun a => CQ.mk a.1 a.2.1) (fun a => rfl) (fun a h => ⟨h.1, h.2.1⟩) (fun a => by simp only [wtCQ]; omega)
end
/-! What the bound says -/
theorem mem_sum {α : Type} (w : α → Nat) {l : List α} {a : α} (h : a ∈ l) : w a ≤ (l.map w).sum := by
  induction l with
  | nil => cases h
  | cons b l ih =>
    rw [List.map_cons, List.sum_cons]
    rcases List.mem_cons.1 h with rfl | h
    · omega
    · have := ih h; omega
theorem len_sum {α : Type} (w : α → Nat) (h : ∀ a, 1 ≤ w a) (l : List α) : l.length ≤ (l.map w).sum := by
  induction l with
  | nil => simp
  | cons b l ih => rw [List.map_cons, List.sum_cons, List.length_cons]; have := h b; omega
theorem wtV_pos (v : Val) : 1 ≤ wtV v := by cases v; simp only [wtV]; omega
mutual
theorem sizeV_wt : ∀ v : Val, sizeV v ≤ wtV v
  | .mk k n s fs => by rw [sizeV, wtV]; have := sizeFs_wt fs; omega
theorem sizeFs_wt : ∀ fs : List Fld, sizeFs fs ≤ wtFs fs
  | [] => by rw [sizeFs]; omega
  | f :: r => by rw [sizeFs, wtFs]; have := sizeF_wt f; have := sizeFs_wt r; omega
theorem sizeF_wt : ∀ f : Fld, sizeF f ≤ wtF f
  | .mk nm v => by rw [sizeF, wtF]; have := sizeV_wt v; omega
end
mutual
theorem numV_good : ∀ v : Val, goodV v → numV v
  | .mk k n s fs, h => by rw [goodV] at h; rw [numV]; exact ⟨h.2.1, numFs_good fs h.2.2.2⟩
theorem numFs_good : ∀ fs : List Fld, goodFs fs → numFs fs
  | [], _ => trivial
  | f :: r, h => by rw [goodFs] at h; rw [numFs]; exact ⟨numF_good f h.1, numFs_good r h.2⟩
theorem numF_good : ∀ f : Fld, goodF f → numF f
  | .mk nm v, h => by rw [goodF] at h; rw [numF]; exact numV_good v h.2
end
theorem gV_of {v : Val} (h : goodV v) (hw : wtV v ≤ 2000000) : gV v := ⟨Nat.le_trans (sizeV_wt v) hw, numV_good v h⟩
theorem gRow_of {x : List Val} (h : goodRw x) (hw : (x.map wtV).sum ≤ 2000000) : gRow x :=
  ⟨Nat.le_trans (len_sum wtV wtV_pos x) hw, fun v hv => gV_of (h v hv) (Nat.le_trans (mem_sum wtV hv) hw)⟩
theorem gRel_of {r : Rel} (h : goodRel r) (hw : wtRel r ≤ 2000000) : gRel r := by
  have e : wtRel r = r.nm.size + (r.cols.map wtCol).sum + (r.key.map fun k => k.size + 1).sum + (r.rows.map wtRw).sum + 5 := rfl
  have h1 := len_sum wtCol (fun a => by simp only [wtCol]; omega) r.cols
  have h2 := len_sum (fun k : ByteArray => k.size + 1) (fun a => by simp) r.key
  have h3 := len_sum wtRw (fun a => by simp only [wtRw]; omega) r.rows
  refine ⟨by omega, h.cols, by omega, by omega, fun x hx => gRow_of (h.rows x hx) ?_⟩
  have := mem_sum wtRw hx
  have e2 : wtRw x = (x.map wtV).sum + 1 := rfl
  omega
theorem gBase_of {b : List Rel} (h : ∀ r ∈ b, goodRel r) (hw : (b.map wtRel).sum + 1 ≤ 2000000) : gBase b := by
  have h1 := len_sum wtRel (fun a => by simp only [wtRel]; omega) b
  refine ⟨by omega, fun r hr => gRel_of (h r hr) ?_⟩
  have := mem_sum wtRel hr
  omega
theorem gTs_of {l : List Trm} (h : goodTs l) (hw : wtTs l ≤ 2000000) : gTs l := by
  have e : wtTs l = (l.map wtT).sum + 1 := rfl
  have h1 := len_sum wtT (fun a => by simp only [wtT]; omega) l
  refine ⟨by omega, fun t ht => ⟨(h t ht).n, gV_of (h t ht).v ?_⟩⟩
  have := mem_sum wtT ht
  have e2 : wtT t = wtV t.v + 3 := rfl
  omega
theorem gAs_of {l : List Atm} (h : ∀ a ∈ l, goodAt a) (hw : (l.map wtAt).sum ≤ 2000000) : gAs l := by
  have h1 := len_sum wtAt (fun a => by simp only [wtAt]; omega) l
  refine ⟨by omega, fun a ha => gTs_of (h a ha) ?_⟩
  have := mem_sum wtAt ha
  have e2 : wtAt a = a.rel.size + wtTs a.args + 2 := rfl
  omega
theorem gCQ_of {q : CQ} (h : goodCQ q) (hw : wtCQ q ≤ 2000000) : gCQ q := by
  have e : wtCQ q = wtTs q.head + (q.body.map wtAt).sum + 2 := rfl
  exact ⟨gTs_of h.head (by omega), gAs_of h.body (by omega)⟩
end Go.Proofs.YtababmnmkmgbbaaGreat
