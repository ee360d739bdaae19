/-
  A part of the proof: its theorems say what each gives.
-/
import Derived.Test.YtdlbbcjacjockaaRows
import Derived.Test.YtdlbbcjacjockaaKFw1
import Derived.Test.YtdlbbcjacjockaaKFw2
import Derived.Test.YtdlbbcjacjockaaKFw3
import Derived.Test.YtdlbbcjacjockaaKPe
import Derived.Test.YtdlbbcjacjockaaKLf
set_option maxRecDepth 100000
set_option linter.unusedSimpArgs false
set_option linter.unusedVariables false
namespace Go.Proofs.Ytdlbbcjacjockaa
open Go Fw
/-! Data that come in: values, changes, entries. -/
theorem bulkAll_sum {H : Type} (l : List (DataW H)) : Rows.uptoBulkAll l = (l.map Rows.uptoBulk).sum := by
  induction l with
  | nil => rfl
  | cons d r ih => rw [Rows.uptoBulkAll, ih, List.map_cons, List.sum_cons]
theorem isBulk (H : Type) : IsBulk (Rows.uptoBulk (H := H)) where
  one d := by cases d with
    | lit l => cases l <;> simp [Rows.uptoBulk]
    | _ => simp [Rows.uptoBulk]
  str l := by simp [Rows.uptoBulk]
  slice es sp := by rw [Rows.uptoBulk, ← bulkAll_sum]; omega
  agg ps := by rw [Rows.uptoBulk, ← bulkAll_sum]; omega
theorem bulk_arg {H : Type} {l : List (DataW H)} {d : DataW H} (h : Rows.uptoSmall H l = true) (hd : d ∈ l) : Rows.uptoBulk d ≤ 1048576 := by
  have h1 : Rows.uptoBulkAll l ≤ 1048576 := of_decide_eq_true h
  rw [bulkAll_sum] at h1
  have : ∀ m : List (DataW H), d ∈ m → Rows.uptoBulk d ≤ (m.map Rows.uptoBulk).sum := by
    intro m hm
    induction m with
    | nil => cases hm
    | cons a m ih =>
      rw [List.map_cons, List.sum_cons]
      rcases List.mem_cons.1 hm with rfl | hm
      · omega
      · have := ih hm; omega
  have := this l hd
  omega
theorem str_Value : tstr Try.prog 50 = some [(3, 0, 1), (3, 1, 1), (9, 2, 1), (48, 3, 1)] := by kernel_rfl
theorem str_Field : tstr Try.prog 128 = some [(9, 0, 1), (50, 1, 4)] := by kernel_rfl
theorem str_Change : tstr Try.prog 71 = some [(9, 0, 1), (4, 1, 1), (69, 2, 1)] := by kernel_rfl
theorem str_Entry : tstr Try.prog 27 = some [(3, 0, 1), (25, 1, 1)] := by kernel_rfl
theorem i64_mm {n : Int} (h : IntKind.i64.min ≤ n ∧ n ≤ IntKind.i64.max) : okI n := by
  have h1 : IntKind.i64.min = -9223372036854775808 := by decide
  have h2 : IntKind.i64.max = 9223372036854775807 := by decide
  unfold okI; omega
mutual
def wtV : Val → Nat
  | .mk _ _ s fs => s.size + wtFs fs + 5
def wtFs : List Fld → Nat
  | [] => 0
  | f :: r => wtF f + wtFs r
def wtF : Fld → Nat
  | .mk nm v => nm.size + wtV v + 2
end
mutual
def goodV : Val → Prop
  | .mk k n s fs => okI k ∧ okI n ∧ s.size ≤ maxLen ∧ goodFs fs
def goodFs : List Fld → Prop
  | [] => True
  | f :: r => goodF f ∧ goodFs r
def goodF : Fld → Prop
  | .mk nm v => nm.size ≤ maxLen ∧ goodV v
end
theorem wtFs_sum (fs : List Fld) : wtFs fs = (fs.map wtF).sum := by
  induction fs with
  | nil => rfl
  | cons f r ih => rw [wtFs, ih, List.map_cons, List.sum_cons]
theorem goodFs_all (fs : List Fld) : goodFs fs ↔ ∀ f ∈ fs, goodF f := by
  induction fs with
  | nil => simp [goodFs]
  | cons f r ih => rw [goodFs, ih]; simp
section
variable {H : Type} {enc : TypeId × Value → H} {W : World}
theorem opens_val : ∀ n, Opens enc Try.prog W Rows.uptoBulk 50 n encV goodV wtV := by
  intro n
  induction n using Nat.strongRecOn with
  | _ n ih =>
    have hb := isBulk H
    have hfld : ∀ m, m < n → Opens enc Try.prog W Rows.uptoBulk 128 m encF goodF wtF := fun m hm =>
      Opens.map (opens_struct hb str_Field ty_sz128 fun m' h' => opensFs_cons (opens_string hb ty_kind9) (opensFs_cons (ih m' (by omega)) opensFs_nil)) (fun a => Fld.mk a.1 a.2.1)
        (fun a => by obtain ⟨nm, ⟨k, n, s, fs⟩, u⟩ := a; rw [encF_mk]; simp only [encV_mk, AV.cells]; rfl) (fun a h => ⟨h.1, h.2.1⟩) (fun a => by simp only [wtF]; omega)
    exact Opens.map (opens_struct hb str_Value ty_sz50 fun m h' => opensFs_cons (opens_int hb ty_int3) (opensFs_cons (opens_int hb ty_int3) (opensFs_cons (opens_string hb ty_kind9)
      (opensFs_cons (opens_slice hb ty_elem48 (by omega) encF_cells fun m' h'' => hfld m' (by omega)) opensFs_nil)))) (fun a => Val.mk a.1 a.2.1 a.2.2.1 a.2.2.2.1)
      (fun a => by obtain ⟨k, n, s, fs, u⟩ := a; simp only [encV_mk, encFs_map, AV.cells]; rfl) (fun a h => ⟨i64_mm h.1, i64_mm h.2.1, h.2.2.1, (goodFs_all _).2 h.2.2.2.1⟩) (fun a => by simp only [wtV, wtFs_sum]; omega)
def goodC (c : Chg) : Prop := c.rel.size ≤ maxLen ∧ ∀ v ∈ c.row, goodV v
def wtC (c : Chg) : Nat := c.rel.size + (c.row.map wtV).sum + 4
abbrev cC (c : Chg) : AV := .agg [.con (.string c.rel), .con (.bool c.del), .list (encVs c.row) none]
theorem cV_eq : encV = cV := by funext v; obtain ⟨k, n, s, fs⟩ := v; rw [encV_mk]
theorem encV_cells4 (v : Val) : (encV v).cells.length = 4 := by obtain ⟨k, n, s, fs⟩ := v; rw [encV_mk]; rfl
theorem opens_row (n : Nat) : Opens enc Try.prog W Rows.uptoBulk 69 n (fun l => .list (encVs l) none) (fun l => ∀ v ∈ l, goodV v) (fun l => (l.map wtV).sum + 1) :=
  Opens.map (opens_slice (isBulk H) ty_elem69 (by omega) encV_cells4 fun m _ => opens_val m) (fun l => l) (fun l => by simp only [encVs, cV_eq]) (fun l h => h) (fun l => Nat.le_refl _)
theorem opens_chg (n : Nat) : Opens enc Try.prog W Rows.uptoBulk 71 n cC goodC wtC :=
  Opens.map (opens_struct (isBulk H) str_Change ty_sz71 fun m _ => opensFs_cons (opens_string (isBulk H) ty_kind9) (opensFs_cons (opens_bool (isBulk H) ty_kind4) (opensFs_cons (opens_row m) opensFs_nil)))
    (fun a => Chg.mk a.1 a.2.1 a.2.2.1) (fun a => rfl) (fun a h => ⟨h.1, h.2.2.1⟩) (fun a => by simp only [wtC]; omega)
def goodE (x : Ent) : Prop := okI x.no ∧ ∀ c ∈ x.ch, goodC c
def wtE (x : Ent) : Nat := (x.ch.map wtC).sum + 3
theorem opens_ent (n : Nat) : Opens enc Try.prog W Rows.uptoBulk 27 n cE goodE wtE :=
  Opens.map (opens_struct (isBulk H) str_Entry ty_sz27 fun m _ => opensFs_cons (opens_int (isBulk H) ty_int3) (opensFs_cons (opens_slice (isBulk H) ty_elem25 (by omega) (fun _ => rfl) fun m' _ => opens_chg m') opensFs_nil))
    (fun a => Ent.mk a.1 a.2.1) (fun a => rfl) (fun a h => ⟨i64_mm h.1, h.2.1⟩) (fun a => by simp only [wtE]; omega)
theorem opens_ents (n : Nat) : Opens enc Try.prog W Rows.uptoBulk 22 n (fun l => .list (encEs l) none) (fun l => ∀ x ∈ l, goodE x) (fun l => (l.map wtE).sum + 1) :=
  opens_slice (isBulk H) ty_elem22 (by omega) (fun _ => rfl) fun m _ => opens_ent m
end
/-! What the bound says -/
theorem mem_sum {α : Type} (w : α → Nat) {l : List α} {a : α} (h : a ∈ l) : w a ≤ (l.map w).sum := by
  induction l with
  | nil => cases h
  | cons b l ih =>
    rw [List.map_cons, List.sum_cons]
    rcases List.mem_cons.1 h with rfl | h
    · omega
    · have := ih h; omega
theorem len_sum {α : Type} (w : α → Nat) (h : ∀ a, 1 ≤ w a) (l : List α) : l.length ≤ (l.map w).sum := by
  induction l with
  | nil => simp
  | cons b l ih => rw [List.map_cons, List.sum_cons, List.length_cons]; have := h b; omega
theorem flat_sum {α : Type} (f : α → Byt) (w : α → Nat) (m : Nat) (l : List α) (h : ∀ a ∈ l, (f a).length ≤ m * w a) : (l.flatMap f).length ≤ m * (l.map w).sum := by
  induction l with
  | nil => simp
  | cons b l ih =>
    rw [List.flatMap_cons, List.length_append, List.map_cons, List.sum_cons, Nat.mul_add]
    have := h b (by simp)
    have := ih fun a ha => h a (by simp [ha])
    omega
theorem wtV_pos (v : Val) : 1 ≤ wtV v := by cases v; simp only [wtV]; omega
mutual
theorem sizeV_wt : ∀ v : Val, sizeV v ≤ wtV v
  | .mk k n s fs => by rw [sizeV, wtV]; have := sizeFs_wt fs; omega
theorem sizeFs_wt : ∀ fs : List Fld, sizeFs fs ≤ wtFs fs
  | [] => by rw [sizeFs]; omega
  | f :: r => by rw [sizeFs, wtFs]; have := sizeF_wt f; have := sizeFs_wt r; omega
theorem sizeF_wt : ∀ f : Fld, sizeF f ≤ wtF f
  | .mk nm v => by rw [sizeF, wtF]; have := sizeV_wt v; omega
end
theorem sev_nat {n : Nat} (h : n < 1000000000000) : (sev n).length ≤ 10 := sev_len 9 (Nat.lt_of_lt_of_le h (by decide))
theorem valB_wt (v : Val) (h : wtV v ≤ 1048576) : (valB v).length ≤ 4 * wtV v := by
  obtain ⟨k, n, s, fs⟩ := v
  have h1 := sev_len10 k
  have e : valB (.mk k n s fs) = sev (u64 k) ++ if k = 5 then txtB s else sev (u64 (zig n)) := rfl
  have hw : wtV (.mk k n s fs) = s.size + wtFs fs + 5 := by rw [wtV]
  rw [e, List.length_append, hw]
  split
  · rw [txtB, List.length_append, sb_length]
    have := sev_nat (n := s.size) (by omega)
    omega
  · have := sev_len10 (zig n)
    omega
theorem chgB_wt (c : Chg) (h : wtC c ≤ 1048576) : (chgB c).length ≤ 6 * wtC c := by
  have hw : wtC c = c.rel.size + (c.row.map wtV).sum + 4 := rfl
  have h1 := flat_sum valB wtV 4 c.row fun v hv => valB_wt v (by have := mem_sum wtV hv; omega)
  have h2 : (sev (if c.del then 1 else 0)).length ≤ 10 := sev_nat (by split <;> omega)
  have h3 := sev_nat (n := c.rel.size) (by omega)
  have h5 := len_sum wtV wtV_pos c.row
  have h4 := sev_nat (n := c.row.length) (by omega)
  have h6 : (sev (if c.del then 1 else 0)).length ≤ 1 := by split <;> (rw [sev_small (by omega)]; simp)
  rw [chgB, List.length_append, List.length_append, List.length_append, txtB, List.length_append, sb_length]
  unfold rowB
  omega
theorem wtC_pos (c : Chg) : 1 ≤ wtC c := by simp only [wtC]; omega
theorem bodyB_wt (x : Ent) (n : Int) (h : wtE x ≤ 1048576) : (bodyB ⟨n, x.ch⟩).length ≤ 7 * wtE x := by
  have hw : wtE x = (x.ch.map wtC).sum + 3 := rfl
  have h1 := flat_sum chgB wtC 6 x.ch fun v hv => chgB_wt v (by have := mem_sum wtC hv; omega)
  have h5 := len_sum wtC wtC_pos x.ch
  have h2 := sev_len10 n
  have h3 := sev_nat (n := x.ch.length) (by omega)
  have e : bodyB ⟨n, x.ch⟩ = sev (u64 n) ++ sev x.ch.length ++ chsB x.ch := rfl
  rw [e, List.length_append, List.length_append]
  unfold chsB
  omega
theorem gat_wt : ∀ (l : List Ent) (k : Nat), (∀ x ∈ l, wtE x ≤ 1048576) → (logB (gat k l)).length ≤ 9 * (l.map wtE).sum
  | [], k, _ => by simp [gat, logB]
  | x :: l, k, h => by
    have h1 := bodyB_wt x (k + 1 : Nat) (h x (by simp))
    have h0 : 3 ≤ wtE x := by simp only [wtE]; omega
    rw [gat, List.map_cons, List.sum_cons]
    split
    · have := gat_wt l (k + 1) fun y hy => h y (by simp [hy])
      rw [logB_cons, List.length_append, frmB_length]; omega
    · have := gat_wt l k fun y hy => h y (by simp [hy])
      omega
theorem goodV_ok {v : Val} (h : goodV v) : okI v.k ∧ okI v.n := by obtain ⟨k, n, s, fs⟩ := v; rw [goodV] at h; exact ⟨h.1, h.2.1⟩
theorem size_wt (v : Val) : v.s.size ≤ wtV v := by obtain ⟨k, n, s, fs⟩ := v; rw [wtV]; simp only [Val.s]; omega
theorem goodE_wf {x : Ent} (h : goodE x) : WfE x := ⟨h.1, fun c hc v hv => goodV_ok ((h.2 c hc).2 v hv)⟩
theorem wtE_small {x : Ent} (n : Int) (h : wtE x ≤ 1048576) : SmallE ⟨n, x.ch⟩ ∧ RangeE x := by
  have hw : wtE x = (x.ch.map wtC).sum + 3 := rfl
  have h4 : x.ch.length * 4 ≤ (x.ch.map wtC).sum := by
    have := len_sum (fun c => wtC c) (fun c => by simp only [wtC]; omega) x.ch
    have h2 : ∀ l : List Chg, l.length * 4 ≤ (l.map wtC).sum := fun l => by
      induction l with
      | nil => simp
      | cons c l ih => rw [List.map_cons, List.sum_cons, List.length_cons]; have : 4 ≤ wtC c := by simp only [wtC]; omega
                       omega
    exact h2 _
  have hc : ∀ c ∈ x.ch, wtC c ≤ 1048576 := fun c hc => by have := mem_sum wtC hc; omega
  have hrow : ∀ c ∈ x.ch, c.row.length * 5 ≤ 1048576 ∧ c.rel.size ≤ 1048576 ∧ ∀ v ∈ c.row, wtV v ≤ 1048576 := fun c hcm => by
    have h1 := hc c hcm
    have hw2 : wtC c = c.rel.size + (c.row.map wtV).sum + 4 := rfl
    have h2 : ∀ l : List Val, l.length * 5 ≤ (l.map wtV).sum := fun l => by
      induction l with
      | nil => simp
      | cons c l ih => rw [List.map_cons, List.sum_cons, List.length_cons]; have : 5 ≤ wtV c := by cases c; simp only [wtV]; omega
                       omega
    have := h2 c.row
    exact ⟨by omega, by omega, fun v hv => by have := mem_sum wtV hv; omega⟩
  refine ⟨⟨by simp only; omega, fun c hcm => ?_, ?_⟩, ⟨by omega, fun c hcm => ?_⟩⟩
  · obtain ⟨h1, h2, h3⟩ := hrow c hcm
    exact ⟨by omega, by omega, fun v hv => by have := h3 v hv; have := size_wt v; omega⟩
  · have := bodyB_wt x n h; omega
  · obtain ⟨h1, h2, h3⟩ := hrow c hcm
    exact ⟨by omega, fun v hv => by have := h3 v hv; have := sizeV_wt v; omega⟩
end Go.Proofs.Ytdlbbcjacjockaa
