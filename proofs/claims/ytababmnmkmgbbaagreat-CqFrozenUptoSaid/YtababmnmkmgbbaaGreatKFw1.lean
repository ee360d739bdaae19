/-
  A way to walk through code by abstract values: its rules, each proved.
-/
import Derived.WalkKit
import Derived.Orders
import Derived.Maps.AppendAt
import Derived.MapKept
import Derived.Lib.ConvBytes
import Derived.Laws.BytesArg
import Derived.Lib.AppendStr
set_option linter.unusedSimpArgs false
set_option linter.unusedVariables false
namespace Go.Proofs.YtababmnmkmgbbaaGreat.Fw
open Go.RowKit

/-- Keys of maps. -/
inductive MK where
  | i (n : Int)
  | s (b : ByteArray)
  deriving DecidableEq, Inhabited
def mkey : MK → Value
  | .i n => .int .i64 n
  | .s b => .string b
/-- Abstract values. -/
inductive AV where
  | any
  | con (v : Value)
  | list (xs : List AV) (t : Option Nat)
  | agg (cs : List AV)
  | tup (cs : List AV)
  | ptr (id off : Nat)
  | ro (cs : List AV)
  | fn (f : Nat) (cap : List AV)
  | opt (b : Bool) (x : AV)
  | emp
  | sl (id n e k : Nat)
  | slc (id off n c e k : Nat)
  | cel
  | mp (id : Nat)
  | it (id : Nat)
  | mv (es : List (MK × AV × Nat)) (clock : Nat)
  | mc (es : List (MK × AV × Nat)) (clock : Nat)
  | nl (l : List Nat)
  deriving Inhabited

def AV.cells : AV → List AV
  | .agg cs => cs
  | x => [x]
/-- one cell, never an aggregate -/
def AV.one : AV → Bool
  | .con v => v.oneCell'
  | .list .. | .ptr .. | .ro .. | .fn .. | .emp | .sl .. | .slc .. | .cel | .mp .. | .it .. | .mv .. => true
  | _ => false
abbrev AV.int (n : Int) : AV := .con (.int .i64 n)
abbrev AV.bool (b : Bool) : AV := .con (.bool b)
abbrev AV.str (s : ByteArray) : AV := .con (.string s)
abbrev AV.nil : AV := .con (.slice none 0 0)
/-- the elements have k cells each -/
def AV.fits (k : Nat) (x : AV) : Prop := x.cells.length = k ∧ ∀ y ∈ x.cells, y.one = true

/-- What a variable is: cells; a map; a walk over a map; a row of c elements of k cells. -/
inductive Kd where
  | var
  | map
  | iter
  | row (e k c : Nat)
def Kd.plain : Kd → Prop
  | .var | .row .. => True
  | _ => False
/-- The ghost state. -/
structure G where
  base : Nat
  fz : Nat → Nat → Prop
  next : Nat
  blk : Nat → Nat
  kd : Nat → Kd
  tok : Nat → Option (Nat × Nat × Nat)
  tv : Nat → Value

/-- Stamps of a map's entries: each once, below the clock. -/
abbrev Stamped := Go.MapKept.Stamped
inductive VR (σ : G) (w : World) : AV → Value → Prop where
  | any (v : Value) : VR σ w .any v
  | con (v : Value) : VR σ w (.con v) v
  | nil : VR σ w (.list [] none) (.slice none 0 0)
  | odd (a : Addr) : VR σ w (.list [] none) (.slice (some a) 0 0)
  | list (xs : List AV) (b o c k : Nat) (vs : Nat → Value) (hc : xs.length ≤ c) (hm : c ≤ maxLen)
      (hk : ∀ x ∈ xs, x.fits k)
      (hcell : ∀ j, j < xs.length * k → σ.fz b (o + j) ∧ w.cell? ⟨b, o + j, none⟩ = some (vs j))
      (hvs : ∀ i j, i < xs.length → j < k → VR σ w ((xs.getD i .any).cells.getD j .any) (vs (i * k + j))) :
      VR σ w (.list xs none) (.slice (some ⟨b, o, none⟩) xs.length c)
  | tok (xs : List AV) (t : Nat) (v : Value) (h : VR σ w (.list xs none) v) (ht : t < σ.next)
      (hm : ∀ m, σ.tok t = some m → xs.length ≤ m.1 ∧ (xs.length = m.1 → v = σ.tv t ∧ ∀ x ∈ xs, x.cells.length = m.2.2)) : VR σ w (.list xs (some t)) v
  | agg (cs : List AV) (vs : Array Value) (hs : vs.size = cs.length) (hv : ∀ i, i < cs.length → VR σ w (cs.getD i .any) (vs.getD i undef)) : VR σ w (.agg cs) (.agg vs)
  | tup (cs : List AV) (vs : Array Value) (hs : vs.size = cs.length) (hv : ∀ i, i < cs.length → VR σ w (cs.getD i .any) (vs.getD i undef)) : VR σ w (.tup cs) (.tuple vs)
  | ptr (id off : Nat) (h : id < σ.next) (hk : (σ.kd id).plain) : VR σ w (.ptr id off) (.pointer (some ⟨σ.blk id, off, none⟩))
  | ro (cs : List AV) (b o : Nat) (vs : Nat → Value) (hcell : ∀ j, j < cs.length → σ.fz b (o + j) ∧ w.cell? ⟨b, o + j, none⟩ = some (vs j))
      (hv : ∀ j, j < cs.length → VR σ w (cs.getD j .any) (vs j)) : VR σ w (.ro cs) (.pointer (some ⟨b, o, none⟩))
  | fn (f : Nat) (cap : List AV) (vs : Array Value) (hs : vs.size = cap.length) (hv : ∀ i, i < cap.length → VR σ w (cap.getD i .any) (vs.getD i undef)) : VR σ w (.fn f cap) (.func (.func f) #[] vs)
  | opt (b : Bool) (x : AV) (v : Value) (h : b = true → VR σ w x v) (h0 : b = false → v = undef) : VR σ w (.opt b x) v
  | emp (b o : Nat) : VR σ w .emp (.slice (some ⟨b, o, none⟩) 0 0)
  | sl (id n e k c : Nat) (h : id < σ.next) (hk : σ.kd id = .row e k c) (h0 : 0 < n) (hn : n ≤ c) (hm : c ≤ maxLen) : VR σ w (.sl id n e k) (.slice (some ⟨σ.blk id, 0, none⟩) n c)
  | sl0 (id e k : Nat) : VR σ w (.sl id 0 e k) (.slice none 0 0)
  | sl1 (id e k b o : Nat) : VR σ w (.sl id 0 e k) (.slice (some ⟨b, o, none⟩) 0 0)
  | slc (id off n c e k : Nat) (h : id < σ.next) (hk : σ.kd id = .row e k (off + c)) (h0 : 0 < c) (hn : n ≤ c) (hm : off + c ≤ maxLen) : VR σ w (.slc id off n c e k) (.slice (some ⟨σ.blk id, off * k, none⟩) n c)
  | slc0 (id off e k : Nat) (A : Option Addr) : VR σ w (.slc id off 0 0 e k) (.slice A 0 0)
  | cel (v : Value) (h : v.oneCell' = true) : VR σ w .cel v
  | mp (id : Nat) (h : id < σ.next) (hk : σ.kd id = .map) : VR σ w (.mp id) (.map (some (σ.blk id)))
  | it (id : Nat) (h : id < σ.next) (hk : σ.kd id = .iter) : VR σ w (.it id) (.pointer (some ⟨σ.blk id, 0, none⟩))
  | mv (es : List (MK × AV × Nat)) (clock b o : Nat) (us : Array MapEntry) (hf : σ.fz b o) (hb : w.heap[b]? = some (.map us clock)) (hst : Stamped us clock) (hs : us.size = es.length)
      (hk : ∀ (i : Nat) (u : MapEntry) (e : MK × AV × Nat), us[i]? = some u → es[i]? = some e → u.key = mkey e.1 ∧ u.born = e.2.2)
      (hv : ∀ (i : Nat) (u : MapEntry) (e : MK × AV × Nat), us[i]? = some u → es[i]? = some e → VR σ w e.2.1 u.val) : VR σ w (.mv es clock) (.map (some b))
  | mc (es : List (MK × AV × Nat)) (clock : Nat) (us : Array MapEntry) (hs : us.size = es.length)
      (hk : ∀ (i : Nat) (u : MapEntry) (e : MK × AV × Nat), us[i]? = some u → es[i]? = some e → u.key = mkey e.1 ∧ u.born = e.2.2)
      (hv : ∀ (i : Nat) (u : MapEntry) (e : MK × AV × Nat), us[i]? = some u → es[i]? = some e → VR σ w e.2.1 u.val) : VR σ w (.mc es clock) (.tuple #[.tuple (us.map fun x => .tuple #[x.key, x.val, .int .i64 (x.born : Int)]), .int .i64 (clock : Int)])
  | nl (l : List Nat) : VR σ w (.nl l) (.tuple (l.toArray.map fun (i : Nat) => Value.int .i64 (i : Int)))

/-- What is frozen stays: a cell, and a map as a whole. -/
def Kept (w w' : World) (b o : Nat) : Prop := w'.cell? ⟨b, o, none⟩ = w.cell? ⟨b, o, none⟩ ∧ ∀ es c, w.heap[b]? = some (.map es c) → w'.heap[b]? = some (.map es c)
theorem Kept.refl (w : World) (b o : Nat) : Kept w w b o := ⟨rfl, fun _ _ h => h⟩
theorem Kept.trans {w w' w'' : World} {b o : Nat} (h : Kept w w' b o) (k : Kept w' w'' b o) : Kept w w'' b o := ⟨k.1.trans h.1, fun es c e => k.2 es c (h.2 es c e)⟩
theorem Kept.block {w w' : World} {b o : Nat} (h : w'.heap[b]? = w.heap[b]?) : Kept w w' b o := ⟨World.cell?_of_block (a := ⟨b, o, none⟩) h, fun _ _ e => h.trans e⟩
theorem Kept.cells {w w' : World} {b o : Nat} (h : w'.cell? ⟨b, o, none⟩ = w.cell? ⟨b, o, none⟩) (hc : ∃ c e f, w.heap[b]? = some (.cells c e f)) : Kept w w' b o :=
  ⟨h, fun es c e => by obtain ⟨c1, e1, f1, h1⟩ := hc; rw [h1] at e; cases e⟩
theorem Kept.some {w w' : World} {b o : Nat} {u : Value} (h : w'.cell? ⟨b, o, none⟩ = w.cell? ⟨b, o, none⟩) (hc : w.cell? ⟨b, o, none⟩ = some u) : Kept w w' b o :=
  ⟨h, fun es c e => by simp [World.cell?, e] at hc⟩
/-- Nothing below has turned; draws are only counted up. -/
structure BelowD (B : Nat) (w w' : World) : Prop extends Below B w w' where
  drawn : w.drawn ≤ w'.drawn
theorem BelowD.refl (B : Nat) (w : World) : BelowD B w w := ⟨Below.refl _ _, Nat.le_refl _⟩
theorem BelowD.trans {B : Nat} {a b c : World} (h : BelowD B a b) (k : BelowD B b c) : BelowD B a c := ⟨h.toBelow.trans k.toBelow, Nat.le_trans h.drawn k.drawn⟩
/-- From one state to a later one. -/
structure Ext (σ : G) (w : World) (σ' : G) (w' : World) : Prop where
  base : σ'.base = σ.base
  below : BelowD σ.base w w'
  next : σ.next ≤ σ'.next
  fz : ∀ b o, σ.fz b o → σ'.fz b o
  cell : ∀ b o, σ.fz b o → Kept w w' b o
  blk : ∀ i, i < σ.next → σ'.blk i = σ.blk i ∧ σ'.kd i = σ.kd i
  tok : ∀ t, t < σ.next → ∀ m', σ'.tok t = some m' → ∃ m, σ.tok t = some m ∧ m.1 ≤ m'.1 ∧ (m.1 = m'.1 → σ'.tv t = σ.tv t ∧ m'.2 = m.2)

theorem Ext.refl (σ : G) (w : World) : Ext σ w σ w :=
  ⟨rfl, .refl _ _, Nat.le_refl _, fun _ _ h => h, fun _ _ _ => .refl _ _ _, fun _ _ => ⟨rfl, rfl⟩, fun t _ m h => ⟨m, h, Nat.le_refl _, fun _ => ⟨rfl, rfl⟩⟩⟩
theorem Ext.trans {σ σ' σ'' : G} {w w' w'' : World} (h : Ext σ w σ' w') (k : Ext σ' w' σ'' w'') : Ext σ w σ'' w'' where
  base := k.base.trans h.base
  below := h.below.trans (h.base ▸ k.below)
  next := Nat.le_trans h.next k.next
  fz := fun b o hf => k.fz b o (h.fz b o hf)
  cell := fun b o hf => (h.cell b o hf).trans (k.cell b o (h.fz b o hf))
  blk := fun i hi => ⟨(k.blk i (Nat.lt_of_lt_of_le hi h.next)).1.trans (h.blk i hi).1, (k.blk i (Nat.lt_of_lt_of_le hi h.next)).2.trans (h.blk i hi).2⟩
  tok := fun t ht m'' hm'' => by
    obtain ⟨m', hm', hle', heq'⟩ := k.tok t (Nat.lt_of_lt_of_le ht h.next) m'' hm''
    obtain ⟨m, hm, hle, heq⟩ := h.tok t ht m' hm'
    refine ⟨m, hm, Nat.le_trans hle hle', fun e => ?_⟩
    have h1 : m'.1 = m''.1 := by omega
    have h2 : m.1 = m'.1 := by omega
    rw [(heq' h1).1, (heq h2).1, (heq' h1).2, (heq h2).2]
    exact ⟨rfl, rfl⟩

/-- What a value asks of a later state. -/
structure VExt (σ : G) (w : World) (σ' : G) (w' : World) : Prop where
  next : σ.next ≤ σ'.next
  fz : ∀ b o, σ.fz b o → σ'.fz b o
  cell : ∀ b o, σ.fz b o → Kept w w' b o
  blk : ∀ i, i < σ.next → σ'.blk i = σ.blk i ∧ σ'.kd i = σ.kd i
  tok : ∀ t, t < σ.next → ∀ m', σ'.tok t = some m' → ∃ m, σ.tok t = some m ∧ m.1 ≤ m'.1 ∧ (m.1 = m'.1 → σ'.tv t = σ.tv t ∧ m'.2 = m.2)
theorem Ext.v {σ σ' : G} {w w' : World} (e : Ext σ w σ' w') : VExt σ w σ' w' := ⟨e.next, e.fz, e.cell, e.blk, e.tok⟩
theorem VR.vmono {σ σ' : G} {w w' : World} {x : AV} {v : Value} (h : VR σ w x v) (e : VExt σ w σ' w') : VR σ' w' x v := by
  induction h with
  | any v => exact .any v
  | con v => exact .con v
  | nil => exact .nil
  | odd a => exact .odd a
  | list xs b o c k vs hc hm hk hcell hvs ih =>
    exact .list xs b o c k vs hc hm hk (fun j hj => ⟨e.fz _ _ (hcell j hj).1, (e.cell _ _ (hcell j hj).1).1.trans (hcell j hj).2⟩) ih
  | tok xs t v h ht hm ih =>
    refine .tok xs t v ih (Nat.lt_of_lt_of_le ht e.next) fun m' hm' => ?_
    obtain ⟨m, h1, h2, h3⟩ := e.tok t ht m' hm'
    have := hm m h1
    refine ⟨Nat.le_trans this.1 h2, fun hx => ?_⟩
    have h4 : m.1 = m'.1 := by omega
    rw [(h3 h4).1, (h3 h4).2]
    exact this.2 (by omega)
  | agg cs vs hs hv ih => exact .agg cs vs hs ih
  | tup cs vs hs hv ih => exact .tup cs vs hs ih
  | ptr id off h hk => rw [← (e.blk id h).1]; exact .ptr id off (Nat.lt_of_lt_of_le h e.next) ((e.blk id h).2 ▸ hk)
  | ro cs b o vs hcell hv ih => exact .ro cs b o vs (fun j hj => ⟨e.fz _ _ (hcell j hj).1, (e.cell _ _ (hcell j hj).1).1.trans (hcell j hj).2⟩) ih
  | fn f cap vs hs hv ih => exact .fn f cap vs hs ih
  | opt b x v h h0 ih => exact .opt b x v ih h0
  | emp b o => exact .emp b o
  | sl id n e' k c h hk h0 hn hm => rw [← (e.blk id h).1]; exact .sl id n e' k c (Nat.lt_of_lt_of_le h e.next) ((e.blk id h).2.trans hk) h0 hn hm
  | sl0 id e' k => exact .sl0 id e' k
  | sl1 id e' k b o => exact .sl1 id e' k b o
  | slc id off n c e' k h hk h0 hn hm => rw [← (e.blk id h).1]; exact .slc id off n c e' k (Nat.lt_of_lt_of_le h e.next) ((e.blk id h).2.trans hk) h0 hn hm
  | slc0 id off e' k A => exact .slc0 id off e' k A
  | cel v h => exact .cel v h
  | mp id h hk => rw [← (e.blk id h).1]; exact .mp id (Nat.lt_of_lt_of_le h e.next) ((e.blk id h).2.trans hk)
  | it id h hk => rw [← (e.blk id h).1]; exact .it id (Nat.lt_of_lt_of_le h e.next) ((e.blk id h).2.trans hk)
  | mv es clock b o us hf hb hst hs hk hv ih => exact .mv es clock b o us (e.fz _ _ hf) ((e.cell _ _ hf).2 _ _ hb) hst hs hk ih
  | mc es clock us hs hk hv ih => exact .mc es clock us hs hk ih
  | nl l => exact .nl l

theorem VR.mono {σ σ' : G} {w w' : World} {x : AV} {v : Value} (h : VR σ w x v) (e : Ext σ w σ' w') : VR σ' w' x v := h.vmono e.v

theorem VR.one {σ : G} {w : World} {x : AV} {v : Value} (h : VR σ w x v) (hx : x.one = true) : v.oneCell' = true := by
  cases h with
  | any => cases hx
  | con => exact hx
  | nil => rfl
  | odd => rfl
  | list => rfl
  | tok xs t v h => cases h <;> rfl
  | agg => cases hx
  | tup => cases hx
  | ptr => rfl
  | ro => rfl
  | fn => rfl
  | opt => cases hx
  | emp => rfl
  | sl => rfl
  | sl0 => rfl
  | sl1 => rfl
  | slc => rfl
  | slc0 => rfl
  | cel v h => exact h
  | mp => rfl
  | it => rfl
  | mv => rfl
  | mc => cases hx
  | nl => cases hx

/-- What stands in an object: a variable's cells , a map's entries and its clock, a walk over a map, a row. -/
def HasObj : Option Obj → Kd → Array Value → Nat → Prop
  | ob, .var, cur, e => ob = some (.cells cur e (0, 0))
  | ob, .row e' k c, cur, e => ob = some (.cells cur e (0, 0)) ∧ e = e' ∧ cur.size = c * k
  | ob, .map, cur, e => ∃ es, ob = some (.map es e) ∧ Stamped es e ∧ cur = #[.tuple #[.tuple (es.map fun x => .tuple #[x.key, x.val, .int .i64 (x.born : Int)]), .int .i64 (e : Int)]]
  | ob, .iter, cur, e => ∃ m seen, ob = some (.mapIter m e seen e) ∧ cur = #[.map m, .tuple (seen.map fun (i : Nat) => Value.int .i64 (i : Int)), .int .i64 (e : Int)]
theorem HasObj.lt {w : World} {b e : Nat} {k : Kd} {cur : Array Value} (h : HasObj w.heap[b]? k cur e) : b < w.heap.size := by
  unfold HasObj at h
  split at h
  · exact (Array.getElem?_eq_some_iff.1 h).1
  · exact (Array.getElem?_eq_some_iff.1 h.1).1
  · obtain ⟨_, h, _⟩ := h; exact (Array.getElem?_eq_some_iff.1 h).1
  · obtain ⟨_, _, h, _⟩ := h; exact (Array.getElem?_eq_some_iff.1 h).1
theorem HasObj.zero {ob : Option Obj} {e : Nat} {k : Kd} {cur : Array Value} (h : HasObj ob k cur e) (hk : k.plain) : ob = some (.cells cur e (0, 0)) := by
  cases k with
  | var => exact h
  | row => exact h.1
  | _ => exact hk.elim
theorem HasObj.turn {ob ob' : Option Obj} {e : Nat} {k : Kd} {cur cur' : Array Value} (h : HasObj ob k cur e) (hk : k.plain) (h1 : ob' = some (.cells cur' e (0, 0))) (h2 : cur'.size = cur.size) : HasObj ob' k cur' e := by
  cases k with
  | var => exact h1
  | row => exact ⟨h1, h.2.1, h2.trans h.2.2⟩
  | _ => exact hk.elim

/-- Memory as the proof sees it: variables in memory, and the right to append. -/
structure Hp where
  bx : List (Nat × List AV)
  tk : List (Nat × Nat × Nat × Nat)
def Hp.box (H : Hp) (id : Nat) : Option (List AV) := H.bx.lookup id
def Hp.tok (H : Hp) (t : Nat) : Option (Nat × Nat × Nat) := H.tk.lookup t

structure Sim (σ : G) (H : Hp) (w : World) : Prop where
  base : σ.base ≤ w.heap.size
  fzlt : ∀ b o, σ.fz b o → b < w.heap.size
  tok : σ.tok = H.tok
  bx : ∀ id cs, H.box id = some cs → id < σ.next ∧ σ.base ≤ σ.blk id ∧ (∀ o, ¬ σ.fz (σ.blk id) o) ∧
    ∃ cur e, HasObj w.heap[σ.blk id]? (σ.kd id) cur e ∧ cs.length ≤ cur.size ∧ ∀ i, i < cs.length → VR σ w (cs.getD i .any) (cur.getD i undef)
  tk : ∀ t n e k, H.tok t = some (n, e, k) → t < σ.next ∧ ∃ xs, w.ownsRow σ.base e k (σ.tv t) n xs ∧ (∀ g, (σ.tv t).ownBlock = some g → ∀ o, n * k ≤ o → ¬ σ.fz g o)
  bxbx : ∀ i j c d, H.box i = some c → H.box j = some d → i ≠ j → σ.blk i ≠ σ.blk j
  bxtk : ∀ i t c n, H.box i = some c → H.tok t = some n → (σ.tv t).ownBlock ≠ some (σ.blk i)
  tktk : ∀ s t m n g, H.tok s = some m → H.tok t = some n → s ≠ t → (σ.tv s).ownBlock = some g → (σ.tv t).ownBlock ≠ some g
end Go.Proofs.YtababmnmkmgbbaaGreat.Fw
set_option linter.unusedVariables false
namespace Go.Proofs.YtababmnmkmgbbaaGreat.Fw
open Go.RowKit

structure St where
  n : Nat
  t : List (Nat × AV)
  h : Hp
def lk : List (Nat × AV) → Nat → AV
  | [], _ => .any
  | (e, x) :: r, d => if e = d then x else lk r d
def St.ev (s : St) : Operand → AV
  | .tmp t => lk s.t t
  | .const v => .con v
  | .global g => .con (.pointer (some ⟨g, 0, none⟩))
  | .func f => .fn f []
def St.put (s : St) (d : Nat) (x : AV) : St := ⟨s.n, (d, x) :: s.t, s.h⟩
def St.puto (s : St) (d : Option Nat) (x : AV) : St := match d with | some d => s.put d x | none => s

structure Sl (σ : G) (w : World) (s : St) (a : Act) : Prop where
  size : a.tmps.size = s.n
  v : ∀ d, VR σ w (lk s.t d) (a.tmps.getD d undef)
  defers : a.defers = []

theorem Sl.mono {σ σ' : G} {w w' : World} {s : St} {a : Act} (h : Sl σ w s a) (e : Ext σ w σ' w') : Sl σ' w' s a :=
  ⟨h.size, fun d => (h.v d).mono e, h.defers⟩
theorem Sl.ev {σ : G} {w : World} {s : St} {a : Act} (h : Sl σ w s a) (x : Operand) : VR σ w (s.ev x) (a.eval x) := by
  cases x with
  | tmp t => exact h.v t
  | const v => exact .con v
  | global g => exact .con _
  | func f => exact .fn f [] #[] rfl (fun i hi => absurd hi (Nat.not_lt_zero _))
theorem Sl.put {σ : G} {w : World} {s : St} {a : Act} (h : Sl σ w s a) {d : Nat} (hd : d < s.n) {x : AV} {v : Value} (hv : VR σ w x v) : Sl σ w (s.put d x) (a.put (some d) v) := by
  refine ⟨by simpa [Act.put, St.put] using h.size, fun e => ?_, h.defers⟩
  simp only [St.put, lk, Act.put]
  by_cases he : d = e
  · subst he
    simp [Array.getD_eq_getD_getElem?, h.size, hd, hv]
  · have := h.v e
    rw [if_neg he]
    simpa [Array.getD_eq_getD_getElem?, Array.getElem?_setIfInBounds_ne he] using this

def lift (σ : G) (w : World) (Q : Exit → St → Prop) : Exit → Act → World → Prop := fun e a' w' =>
  ∃ s' σ', Q e s' ∧ Ext σ w σ' w' ∧ Sim σ' s'.h w' ∧ Sl σ' w' s' a'
theorem lift_trans {σ σ' : G} {w w' : World} {Q : Exit → St → Prop} (e : Ext σ w σ' w') {x : Exit} {a : Act} {w2 : World} (h : lift σ' w' Q x a w2) : lift σ w Q x a w2 := by
  obtain ⟨s2, σ2, h1, h2, h3, h4⟩ := h
  exact ⟨s2, σ2, h1, e.trans h2, h3, h4⟩

/-- The code, from this state. -/
def awp (P : Program) (c : Code) (Q : Exit → St → Prop) (s : St) : Prop :=
  ∀ σ w a, Sim σ s.h w → Sl σ w s a → c.wp P (lift σ w Q) a w
def sq (next : St → Prop) (Q : Exit → St → Prop) : Exit → St → Prop
  | .normal, s => next s
  | e, s => Q e s
def bk (id : Nat) (Q : Exit → St → Prop) : Exit → St → Prop
  | .exit id', s => if id' = id then Q .normal s else Q (.exit id') s
  | e, s => Q e s
section
variable {P : Program} {Q : Exit → St → Prop} {s : St}
theorem awp_mono {c : Code} {Q' : Exit → St → Prop} (h : awp P c Q s) (hq : ∀ e s, Q e s → Q' e s) : awp P c Q' s := fun σ w a hs hl =>
  wp_mono (h σ w a hs hl) fun e a w ⟨s', σ', h1, h2⟩ => ⟨s', σ', hq _ _ h1, h2⟩
theorem awp_seq {x y : Code} (h : awp P x (sq (awp P y Q) Q) s) : awp P (.seq x y) Q s := fun σ w a hs hl =>
  wp_seq (wp_mono (h σ w a hs hl) fun e a' w' hq => by
    obtain ⟨s', σ', h1, h2, h3, h4⟩ := hq
    cases e with
    | normal => exact wp_mono (h1 σ' w' a' h3 h4) fun _ _ _ hh => lift_trans h2 hh
    | _ => exact ⟨s', σ', h1, h2, h3, h4⟩)
theorem awp_seq_k {x y : Code} (h : ∀ K : St → Prop, (∀ s, awp P y Q s → K s) → awp P x (sq K Q) s) : awp P (.seq x y) Q s :=
  awp_seq (h _ fun _ h => h)
theorem awp_skip (h : Q .normal s) : awp P .skip Q s := fun σ w a hs hl => wp_skip ⟨s, σ, h, .refl _ _, hs, hl⟩
theorem awp_ret (h : Q .ret s) : awp P .ret Q s := fun σ w a hs hl => wp_ret ⟨s, σ, h, .refl _ _, hs, hl⟩
theorem awp_exit {id : Nat} (h : Q (.exit id) s) : awp P (.exit id) Q s := fun σ w a hs hl => wp_exit ⟨s, σ, h, .refl _ _, hs, hl⟩
theorem awp_block {id : Nat} {c : Code} (h : awp P c (bk id Q) s) : awp P (.block id c) Q s := fun σ w a hs hl =>
  wp_block (wp_mono (h σ w a hs hl) fun e a' w' hq => by
    obtain ⟨s', σ', h1, h2⟩ := hq
    cases e with
    | exit id' =>
      simp only [bk, Exit.inBlock] at h1 ⊢
      split at h1
      · rename_i hh; rw [if_pos hh]; exact ⟨s', σ', h1, h2⟩
      · rename_i hh; rw [if_neg hh]; exact ⟨s', σ', h1, h2⟩
    | _ => exact ⟨s', σ', h1, h2⟩)
theorem awp_cond {c : Operand} {x y : Code} (b : Bool) (hc : s.ev c = .con (.bool b)) (h1 : b = true → awp P x Q s) (h0 : b = false → awp P y Q s) : awp P (.cond c x y) Q s := fun σ w a hs hl => by
  have he : a.eval c = .bool b := by
    have := hl.ev c
    rw [hc] at this
    generalize a.eval c = u at this
    cases this
    rfl
  cases b
  · exact wp_cond he (h0 rfl σ w a hs hl)
  · exact wp_cond he (h1 rfl σ w a hs hl)

/-- A weaker state. -/
def AV.le (x y : AV) : Prop := ∀ σ w v, VR σ w x v → VR σ w y v
theorem AV.le.refl (x : AV) : x.le x := fun _ _ _ h => h
theorem AV.le.rfl {x : AV} : x.le x := fun _ _ _ h => h
theorem AV.le_any (x : AV) : x.le .any := fun _ _ v _ => .any v
theorem AV.le_list (xs : List AV) (t : Option Nat) : (AV.list xs t).le (.list xs none) := fun _ _ v h => by
  cases t with
  | none => exact h
  | some t => cases h with | tok _ _ _ h => exact h
theorem AV.le_nil : AV.nil.le (.list [] none) := fun _ _ v h => by cases h; exact .nil
theorem AV.le_emp : AV.emp.le (.list [] none) := fun _ _ v h => by cases h; exact .odd _
/-- Cells that say less. -/
def lec (c c' : List AV) : Prop := c'.length ≤ c.length ∧ ∀ j, j < c'.length → (c.getD j .any).le (c'.getD j .any)
theorem lec.refl (c : List AV) : lec c c := ⟨Nat.le_refl _, fun _ _ => .refl _⟩
def Weak (H H' : Hp) : Prop := (∀ i c', H'.box i = some c' → ∃ c, H.box i = some c ∧ lec c c') ∧ (∀ t m, H'.tok t = some m → H.tok t = some m)
theorem Weak.refl (H : Hp) : Weak H H := ⟨fun _ c h => ⟨c, h, .refl c⟩, fun _ _ h => h⟩
theorem Sim.weak {σ : G} {H H' : Hp} {w : World} (h : Sim σ H w) (k : Weak H H') : ∃ σ', Ext σ w σ' w ∧ Sim σ' H' w := by
  have hE : Ext σ w { σ with tok := H'.tok } w := ⟨rfl, .refl _ _, Nat.le_refl _, fun _ _ h => h, fun _ _ _ => .refl _ _ _, fun _ _ => ⟨rfl, rfl⟩, fun t _ m hm => ⟨m, by rw [h.tok]; exact k.2 t m hm, Nat.le_refl _, fun _ => ⟨rfl, rfl⟩⟩⟩
  refine ⟨{ σ with tok := H'.tok }, hE, h.base, h.fzlt, rfl, fun id cs hc => ?_, fun t n e q ht => ?_, ?_, ?_, ?_⟩
  · obtain ⟨c0, hc0, hle⟩ := k.1 _ _ hc
    obtain ⟨h1, h2, h3, cur, e, h4, h5, h6⟩ := h.bx id c0 hc0
    exact ⟨h1, h2, h3, cur, e, h4, Nat.le_trans hle.1 h5, fun i hi => (hle.2 i hi _ _ _ (h6 i (Nat.lt_of_lt_of_le hi hle.1))).mono hE⟩
  · exact h.tk t n e q (k.2 _ _ ht)
  · intro i j c d hi hj hne
    obtain ⟨c0, hc0, _⟩ := k.1 _ _ hi
    obtain ⟨d0, hd0, _⟩ := k.1 _ _ hj
    exact h.bxbx i j c0 d0 hc0 hd0 hne
  · intro i t c n hi hj
    obtain ⟨c0, hc0, _⟩ := k.1 _ _ hi
    exact h.bxtk i t c0 n hc0 (k.2 _ _ hj)
  · exact fun s t m n g hi hj => h.tktk s t m n g (k.2 _ _ hi) (k.2 _ _ hj)
/-- s' says less than s. -/
structure St.le (s s' : St) : Prop where
  n : s'.n = s.n
  t : ∀ p ∈ s'.t, (lk s.t p.1).le p.2
  h : Weak s.h s'.h
theorem lk_mem {t : List (Nat × AV)} (d : Nat) : lk t d = .any ∨ (d, lk t d) ∈ t := by
  induction t with
  | nil => exact .inl rfl
  | cons p r ih =>
    simp only [lk]
    by_cases h : p.1 = d
    · subst h; rw [if_pos rfl]; exact .inr (List.mem_cons_self ..)
    · rw [if_neg h]; exact ih.imp id (List.mem_cons_of_mem _)
theorem St.le.sl {σ : G} {w : World} {s s' : St} {a : Act} (h : Sl σ w s a) (k : s.le s') : Sl σ w s' a :=
  ⟨h.size.trans k.n.symm, fun d => by
    rcases lk_mem (t := s'.t) d with e | e
    · rw [e]; exact .any _
    · exact k.t _ e _ _ _ (h.v d), h.defers⟩
theorem awp_weak {c : Code} (s' : St) (hs : s.le s') (h : awp P c Q s') : awp P c Q s := fun σ w a hsim hl => by
  obtain ⟨σ', e, h'⟩ := hsim.weak hs.h
  exact wp_mono (h σ' w a h' ((St.le.sl hl hs).mono e)) fun _ _ _ hh => lift_trans e hh

theorem awp_loop {ι : Type} (S : ι → St) (Good : ι → Prop) (μ : ι → Nat) {c : Code} (i0 : ι) (hg : Good i0) (h0 : s.le (S i0))
    (step : ∀ i, Good i → awp P c (sq (fun s' => ∃ j, μ j < μ i ∧ Good j ∧ s'.le (S j)) Q) (S i)) : awp P (.loop c) Q s := by
  refine awp_weak (S i0) h0 ?_
  have M : ∀ n σ σ' w w' a2 w2, Ext σ w σ' w' → Code.rounds P c (lift σ' w' Q) n a2 w2 → Code.rounds P c (lift σ w Q) n a2 w2 := by
    intro n
    induction n with
    | zero => intro σ σ' w w' a2 w2 e h; exact h
    | succ n ih => intro σ σ' w w' a2 w2 e h; rw [rounds_succ] at h ⊢; exact wp_mono h fun x _ _ hh => by cases x <;> first | exact ih _ _ _ _ _ _ e hh | exact lift_trans e hh
  have H : ∀ n i, μ i < n → Good i → ∀ σ w a, Sim σ (S i).h w → Sl σ w (S i) a → Code.rounds P c (lift σ w Q) n a w := by
    intro n
    induction n with
    | zero => intro i hi; exact absurd hi (Nat.not_lt_zero _)
    | succ n ih =>
      intro i hi hgi σ w a hsim hl
      rw [rounds_succ]
      refine wp_mono (step i hgi σ w a hsim hl) fun e a' w' hq => ?_
      obtain ⟨s', σ', h1, h2, h3, h4⟩ := hq
      cases e with
      | normal =>
        obtain ⟨j, hj, hgj, hle⟩ := h1
        obtain ⟨σ2, e2, h5⟩ := h3.weak hle.h
        exact M _ _ _ _ _ _ _ (h2.trans e2) (ih j (by omega) hgj σ2 w' a' h5 ((St.le.sl h4 hle).mono e2))
      | _ => exact ⟨s', σ', h1, h2, h3, h4⟩
  exact fun σ w a hsim hl => wp_loop_rounds _ (H _ i0 (Nat.lt_succ_self _) hg σ w a hsim hl)
end
end Go.Proofs.YtababmnmkmgbbaaGreat.Fw
set_option linter.unusedVariables false
namespace Go.Proofs.YtababmnmkmgbbaaGreat.Fw
open Go.RowKit

def VRs (σ : G) (w : World) (xs : List AV) (vs : Array Value) : Prop := vs.size = xs.length ∧ ∀ i, i < xs.length → VR σ w (xs.getD i .any) (vs.getD i undef)
theorem VRs.mono {σ σ' : G} {w w' : World} {xs : List AV} {vs : Array Value} (h : VRs σ w xs vs) (e : Ext σ w σ' w') : VRs σ' w' xs vs := ⟨h.1, fun i hi => (h.2 i hi).mono e⟩
theorem VRs.map {σ : G} {w : World} {s : St} {a : Act} (h : Sl σ w s a) (xs : Array Operand) : VRs σ w (xs.toList.map s.ev) (xs.map a.eval) := by
  refine ⟨by simp, fun i hi => ?_⟩
  have hi' : i < xs.size := by simpa using hi
  simp [List.getD_eq_getElem?_getD, Array.getD_eq_getD_getElem?, hi']
  exact h.ev _
theorem VRs.append {σ : G} {w : World} {xs ys : List AV} {us vs : Array Value} (h : VRs σ w xs us) (k : VRs σ w ys vs) : VRs σ w (xs ++ ys) (us ++ vs) := by
  refine ⟨by simp [h.1, k.1], fun i hi => ?_⟩
  by_cases hlt : i < xs.length
  · have := h.2 i hlt
    simp [List.getD_eq_getElem?_getD, Array.getD_eq_getD_getElem?, List.getElem?_append_left hlt, Array.getElem?_append_left (show i < us.size by rw [h.1]; exact hlt)] at this ⊢
    exact this
  · have hl : i - xs.length < ys.length := by simp at hi; omega
    have := k.2 _ hl
    simp [List.getD_eq_getElem?_getD, Array.getD_eq_getD_getElem?, List.getElem?_append_right (show xs.length ≤ i by omega), Array.getElem?_append_right (show us.size ≤ i by rw [h.1]; omega), h.1] at this ⊢
    exact this

/-- What a call does. -/
def callB (P : Program) (f : Nat) : Bool := match P.funcs[f]? with | some fn => !(fn.name == "runtime.NumGoroutine") && fn.body.isSome | none => false
structure ACalls (P : Program) (f : Nat) (args : List AV) (H : Hp) (R : AV → Hp → Prop) : Prop where
  ok : callB P f = true
  run : ∀ σ w vs, Sim σ H w → VRs σ w args vs → Calls P f vs w fun e w' => ∃ r H' σ' v, e = .returned v ∧ R r H' ∧ Ext σ w σ' w' ∧ Sim σ' H' w' ∧ VR σ' w' r v
theorem ACalls.mono {P : Program} {f : Nat} {args : List AV} {H : Hp} {R R' : AV → Hp → Prop} (h : ACalls P f args H R) (k : ∀ r H', R r H' → R' r H') : ACalls P f args H R' :=
  ⟨h.ok, fun σ w vs hs hv => (h.run σ w vs hs hv).mono fun e w' ⟨r, H', σ', v, h1, h2, h3⟩ => ⟨r, H', σ', v, h1, k _ _ h2, h3⟩⟩
/-- The call returns r and leaves memory as it was. -/
def PureAt (P : Program) (f : Nat) (args : List AV) (H : Hp) (r : AV) : Prop := ACalls P f args H fun r' H' => r' = r ∧ H' = H
theorem PureAt.use {P : Program} {f : Nat} {args : List AV} {H : Hp} {r : AV} (h : PureAt P f args H r) {R : AV → Hp → Prop} (k : R r H) : ACalls P f args H R :=
  ACalls.mono h fun _ _ ⟨h1, h2⟩ => by rw [h1, h2]; exact k
/-- Weaker arguments, a weaker result. -/
theorem ACalls.args {P : Program} {f : Nat} {args args' : List AV} {H : Hp} {R : AV → Hp → Prop} (h : ACalls P f args' H R) (hl : args.length = args'.length)
    (k : ∀ i, i < args.length → (args.getD i .any).le (args'.getD i .any)) : ACalls P f args H R :=
  ⟨h.ok, fun σ w vs hs hv => h.run σ w vs hs ⟨hv.1.trans hl, fun i hi => k i (hl ▸ hi) _ _ _ (hv.2 i (hl ▸ hi))⟩⟩

/-! Types -/
def tsz (P : Program) (t : TypeId) : Option Nat := (P.info? t).map (·.size)
def tagg (P : Program) (t : TypeId) : Option Bool := (P.underlying t).map fun | .struct _ | .array _ _ => true | _ => false

def cellsAt (H : Hp) : AV → Option (List AV)
  | .ro cs => some cs
  | .ptr id off => (H.box id).map (·.drop off)
  | _ => none
def ldOk (P : Program) (H : Hp) (t : TypeId) (x : AV) : Prop :=
  match cellsAt H x, tsz P t, tagg P t with
  | some cs, some k, some true => k ≤ cs.length
  | some cs, some _, some false => 1 ≤ cs.length
  | _, _, _ => False
def ldV (P : Program) (H : Hp) (t : TypeId) (x : AV) : AV :=
  match cellsAt H x, tsz P t, tagg P t with
  | some cs, some k, some true => .agg (cs.take k)
  | some cs, _, _ => cs.getD 0 .any
  | _, _, _ => .any

theorem add_none (b o n : Nat) : (⟨b, o, none⟩ : Addr).add n = ⟨b, o + n, none⟩ := by unfold Addr.add; split <;> simp_all
theorem run_loadCellsFrom {P : Program} {w : World} (b o : Nat) (vs : Nat → Value) : ∀ n i acc, (∀ j, j < n → w.cell? ⟨b, o + (i + j), none⟩ = some (vs (i + j))) →
    (loadCellsFrom ⟨b, o, none⟩ i n acc).run P w = .ok (acc ++ ((List.range n).map fun j => vs (i + j)).toArray) w := by
  intro n
  induction n with
  | zero => intro i acc _; simp [loadCellsFrom]
  | succ n ih =>
    intro i acc h
    have h0 := h 0 (by omega)
    simp only [Nat.add_zero] at h0
    have h1 := ih (i + 1) (acc.push (vs i)) (fun j hj => by have := h (j + 1) (by omega); rwa [show i + (j + 1) = i + 1 + j by omega] at this)
    simp only [loadCellsFrom, Sem.run_bind, add_none, load, Sem.run, h0, Result.andThen_ok, h1]
    congr 1
    rw [List.range_succ_eq_map]
    simp [Function.comp_def, Nat.add_assoc, Nat.add_comm 1]
theorem cells_at {σ : G} {H : Hp} {w : World} {x : AV} {v : Value} {cs : List AV} (hs : Sim σ H w) (hv : VR σ w x v) (hc : cellsAt H x = some cs) :
    ∃ b o, ∃ vs : Nat → Value, v = .pointer (some ⟨b, o, none⟩) ∧ (∀ j, j < cs.length → w.cell? ⟨b, o + j, none⟩ = some (vs j) ∧ VR σ w (cs.getD j .any) (vs j)) := by
  cases x with
  | ro cs' =>
    simp only [cellsAt, Option.some.injEq] at hc
    subst hc
    cases hv with
    | ro _ b o vs h1 h2 => exact ⟨b, o, vs, rfl, fun j hj => ⟨(h1 j hj).2, h2 j hj⟩⟩
  | ptr id off =>
    simp only [cellsAt, Option.map_eq_some_iff] at hc
    obtain ⟨c, hb, rfl⟩ := hc
    cases hv with
    | ptr _ _ h hk =>
      obtain ⟨_, _, _, cur, e, h4, h5, h6⟩ := hs.bx id c hb
      replace h4 := h4.zero hk
      refine ⟨σ.blk id, off, fun j => cur.getD (off + j) undef, rfl, fun j hj => ?_⟩
      have hlt : off + j < c.length := by simp at hj; omega
      refine ⟨?_, ?_⟩
      · simp [World.cell?, h4, Array.getD_eq_getD_getElem?, show off + j < cur.size by omega]
      · have := h6 (off + j) hlt
        rwa [show (c.drop off).getD j AV.any = c.getD (off + j) .any by simp [List.getD_eq_getElem?_getD]]
  | _ => cases hc
theorem run_isAgg {P : Program} {t : TypeId} {g : Bool} (h : tagg P t = some g) (w : World) : (isAgg t).run P w = .ok g w := by
  unfold tagg at h
  obtain ⟨d, hd, hg⟩ := Option.map_eq_some_iff.1 h
  simp only [isAgg, Sem.run_bind, run_underlying hd, Result.andThen_ok]
  subst hg
  cases d <;> simp
theorem run_sizeOf {P : Program} {t : TypeId} {k : Nat} (h : tsz P t = some k) (w : World) : (sizeOf t).run P w = .ok k w := by
  unfold tsz at h
  obtain ⟨d, hd, hg⟩ := Option.map_eq_some_iff.1 h
  simp [sizeOf, typeInfo, hd, hg]
theorem run_load {P : Program} {σ : G} {H : Hp} {w : World} {t : TypeId} {x : AV} {v : Value} (hs : Sim σ H w) (hv : VR σ w x v) (hok : ldOk P H t x) :
    ∃ b o u, v = .pointer (some ⟨b, o, none⟩) ∧ (loadVar t ⟨b, o, none⟩).run P w = .ok u w ∧ VR σ w (ldV P H t x) u := by
  unfold ldOk at hok
  split at hok
  · rename_i cs k h1 h2 h3
    obtain ⟨b, o, vs, rfl, hcs⟩ := cells_at hs hv h1
    refine ⟨b, o, .agg ((List.range k).map vs).toArray, rfl, ?_, ?_⟩
    · have hr := run_loadCellsFrom (P := P) (w := w) b o vs k 0 #[] (fun j hj => by simpa using (hcs j (by omega)).1)
      simp only [Nat.zero_add, Array.empty_append] at hr
      simp [loadVar, run_isAgg h3, run_sizeOf h2, loadCells, hr]
    · simp only [ldV, h1, h2, h3]
      refine .agg _ _ (by simp; omega) fun i hi => ?_
      have hi' : i < k := by simp at hi; omega
      have := (hcs i (by omega)).2
      simp [List.getD_eq_getElem?_getD, hi', Array.getD_eq_getD_getElem?] at this ⊢
      exact this
  · rename_i cs k h1 h2 h3
    obtain ⟨b, o, vs, rfl, hcs⟩ := cells_at hs hv h1
    have h0 := hcs 0 (by omega)
    simp only [Nat.add_zero] at h0
    refine ⟨b, o, vs 0, rfl, ?_, ?_⟩
    · simp [loadVar, run_isAgg h3, load, Sem.run, h0.1]
    · simp only [ldV, h1, h2, h3]; exact h0.2
  · exact hok.elim

/-! Entering a function -/
def t0 (args : List AV) : List (Nat × AV) := args.zipIdx.map fun p => (p.2, p.1)
theorem lk_t0 (args : List AV) : ∀ k d, lk ((args.zipIdx k).map fun p => (p.2, p.1)) d = if k ≤ d then args.getD (d - k) .any else .any := by
  induction args with
  | nil => intro k d; simp [lk]
  | cons x r ih =>
    intro k d
    simp only [List.zipIdx_cons, List.map_cons, lk]
    by_cases h : k = d
    · subst h; simp
    · rw [if_neg h, ih (k + 1) d]
      by_cases h1 : k ≤ d
      · rw [if_pos (by omega), if_pos h1, show d - k = (d - (k + 1)) + 1 by omega]; simp
      · rw [if_neg (by omega), if_neg h1]
def resOk (P : Program) (s : St) : ResultVar → Prop
  | .tmp _ => True
  | .cell a t => ldOk P s.h t (lk s.t a)
def resV (P : Program) (s : St) : ResultVar → AV
  | .tmp t => lk s.t t
  | .cell a t => ldV P s.h t (lk s.t a)
def resAll (P : Program) (s : St) : List ResultVar → AV
  | [r] => resV P s r
  | l => .tup (l.map (resV P s))
def fin (P : Program) (rs : List ResultVar) (R : AV → Hp → Prop) : Exit → St → Prop
  | .normal, s | .ret, s => (∀ r ∈ rs, resOk P s r) ∧ ∃ x H', (resAll P s rs).le x ∧ Weak s.h H' ∧ R x H'
  | _, _ => False
def resM (tmps : Array Value) : ResultVar → Sem Value
  | .tmp t => pure (tmps.getD t undef)
  | .cell p t => do loadVar t (← asAddr (tmps.getD p undef))
theorem run_res {P : Program} {σ : G} {w : World} {s : St} {a : Act} (hs : Sim σ s.h w) (hl : Sl σ w s a) : ∀ rs : List ResultVar, (∀ r ∈ rs, resOk P s r) →
    ∃ us : List Value, (rs.mapM (resM a.tmps)).run P w = .ok us w ∧ us.length = rs.length ∧
      ∀ i, i < rs.length → VR σ w ((rs.map (resV P s)).getD i .any) (us.getD i undef) := by
  intro rs
  induction rs with
  | nil => intro _; exact ⟨[], by simp, rfl, fun i hi => absurd hi (Nat.not_lt_zero _)⟩
  | cons r rs ih =>
    intro h
    obtain ⟨us, h1, h2, h3⟩ := ih fun r hr => h r (List.mem_cons_of_mem _ hr)
    have h0 := h r (List.mem_cons_self ..)
    have key : ∃ u, (resM a.tmps r).run P w = .ok u w ∧ VR σ w (resV P s r) u := by
      cases r with
      | tmp t => exact ⟨_, rfl, hl.v t⟩
      | cell p t =>
        obtain ⟨b, o, u, e1, e2, e3⟩ := run_load (P := P) (t := t) hs (hl.v p) h0
        exact ⟨u, by simp only [resM, e1, asAddr, Sem.run_bind, Sem.run_pure, Result.andThen_ok, e2], e3⟩
    obtain ⟨u, k1, k2⟩ := key
    refine ⟨u :: us, ?_, by simp [h2], fun i hi => ?_⟩
    · rw [List.mapM_cons]
      simp only [Sem.run_bind, k1, Result.andThen_ok, h1, Sem.run_pure]
    · cases i with
      | zero => simpa using k2
      | succ i => simpa using h3 i (by simpa using hi)
theorem results_eq (fn : Func) (tmps : Array Value) : results fn tmps = (do let vs ← fn.results.mapM (resM tmps); pure (if h : vs.size = 1 then vs[0] else .tuple vs)) := by
  unfold results
  congr 1
theorem acalls_of {P : Program} {f : Nat} {fn : Func} {c : Code} {args : List AV} {H : Hp} {R : AV → Hp → Prop} (hcb : callB P f = true) (hf : P.funcs[f]? = some fn) (hb : fn.body = some c) (n : Nat) (hn : fn.ntmps = n) (hle : args.length ≤ n)
    (rs : List ResultVar) (hrs : fn.results = rs.toArray)
    (h : awp P c (fin P rs R) ⟨n, t0 args, H⟩) : ACalls P f args H R := by
  refine ⟨hcb, ?_⟩
  intro σ w vs hs hv
  refine calls_of_wp hf hb (wp_mono (h σ w _ hs ⟨?_, fun d => ?_, rfl⟩) ?_)
  · simp [hn, hv.1]; omega
  · show VR σ w (lk (t0 args) d) _
    rw [t0, lk_t0 args 0 d]
    simp only [Nat.zero_le, if_true, Nat.sub_zero]
    by_cases hd : d < args.length
    · have := hv.2 d hd
      rw [show (vs ++ Array.replicate (fn.ntmps - vs.size) undef).getD d undef = vs.getD d undef by simp [Array.getD_eq_getD_getElem?, Array.getElem?_append_left (show d < vs.size by rw [hv.1]; exact hd)]]
      exact this
    · rw [show args.getD d AV.any = .any by simp [List.getD_eq_getElem?_getD, show args.length ≤ d by omega]]; exact .any _
  · intro e a' w' hq
    obtain ⟨s', σ', h1, h2, h3, h4⟩ := hq
    have key : (∀ r ∈ rs, resOk P s' r) ∧ (∃ x H', (resAll P s' rs).le x ∧ Weak s'.h H' ∧ R x H') → a'.defers = [] ∧ ∃ v, (results fn a'.tmps).run P w' = .ok v w' ∧ ∃ r H' σ' v', Ending.returned v = .returned v' ∧ R r H' ∧ Ext σ w σ' w' ∧ Sim σ' H' w' ∧ VR σ' w' r v' := by
      rintro ⟨hok, x, H', hle, hw, hR⟩
      refine ⟨h4.defers, ?_⟩
      obtain ⟨us, e1, e2, e3⟩ := run_res (P := P) h3 h4 rs hok
      obtain ⟨σ2, x1, x2⟩ := h3.weak hw
      have hrun : (fn.results.mapM (resM a'.tmps)).run P w' = .ok us.toArray w' := by
        rw [hrs, List.mapM_toArray]
        simp only [map_eq_pure_bind, Sem.run_bind, e1, Result.andThen_ok, Sem.run_pure]
      cases us with
      | nil =>
        refine ⟨.tuple #[], by rw [results_eq]; simp only [Sem.run_bind, hrun]; rfl, _, H', σ2, _, rfl, hR, h2.trans x1, x2, ?_⟩
        have : rs = [] := List.eq_nil_of_length_eq_zero (by simpa using e2.symm)
        subst this
        exact hle _ _ _ (.tup [] #[] rfl (fun i hi => absurd hi (Nat.not_lt_zero _)))
      | cons u us =>
        cases us with
        | nil =>
          refine ⟨u, by rw [results_eq]; simp only [Sem.run_bind, hrun]; rfl, _, H', σ2, _, rfl, hR, h2.trans x1, x2, ?_⟩
          match rs, e2, e3 with
          | [r], _, e3 => have := e3 0 (by simp); simp at this; exact hle _ _ _ (this.mono x1)
        | cons u2 us =>
          refine ⟨.tuple (u :: u2 :: us).toArray, by rw [results_eq]; simp only [Sem.run_bind, hrun]; simp, _, H', σ2, _, rfl, hR, h2.trans x1, x2, ?_⟩
          match rs, e2, e3 with
          | r :: r2 :: rs, e2, e3 =>
            refine hle _ _ _ (.tup _ _ (by simpa using e2) fun i hi => ?_)
            have := (e3 i (by simpa using hi)).mono x1
            simpa [Array.getD_eq_getD_getElem?, List.getD_eq_getElem?_getD] using this
    cases e with
    | normal => exact key h1
    | ret => exact key h1
    | _ => exact h1.elim
end Go.Proofs.YtababmnmkmgbbaaGreat.Fw
set_option linter.unusedVariables false
namespace Go.Proofs.YtababmnmkmgbbaaGreat.Fw
open Go.RowKit

/-- An operation that only gives a value; memory as the proof sees it stays as it was. -/
def VOp (P : Program) (H : Hp) (o : Oper) (ρ : Operand → AV) (x : AV) : Prop :=
  ∀ σ w a, Sim σ H w → (∀ y ∈ o.op.operands, VR σ w (ρ y) (a.eval y)) → ∀ (K : Act → World → Prop) (Q : Exit → Act → World → Prop),
    (∀ v w' σ', Ext σ w σ' w' → Sim σ' H w' → VR σ' w' x v → K (a.put o.dst v) w') → o.wp P a w K Q
theorem vop_run {P : Program} {H : Hp} {o : Oper} {ρ : Operand → AV} {x : AV}
    (h : ∀ σ w (ev : Operand → Value), Sim σ H w → (∀ y ∈ o.op.operands, VR σ w (ρ y) (ev y)) →
      ∃ v w' σ', (execOp ev o).run P w = .ok (.value v) w' ∧ Ext σ w σ' w' ∧ Sim σ' H w' ∧ VR σ' w' x v) : VOp P H o ρ x := by
  intro σ w a hs hv K Q hK
  obtain ⟨v, w', σ', h1, h2, h3, h4⟩ := h σ w a.eval hs hv
  unfold Oper.wp
  rw [h1]
  exact hK v w' σ' h2 h3 h4
/-- The same, the world not turned at all. -/
theorem vop_same {P : Program} {H : Hp} {o : Oper} {ρ : Operand → AV} {x : AV}
    (h : ∀ σ w (ev : Operand → Value), Sim σ H w → (∀ y ∈ o.op.operands, VR σ w (ρ y) (ev y)) →
      ∃ v, (execOp ev o).run P w = .ok (.value v) w ∧ VR σ w x v) : VOp P H o ρ x :=
  vop_run fun σ w ev hs hv => let ⟨v, h1, h2⟩ := h σ w ev hs hv; ⟨v, w, σ, h1, .refl _ _, hs, h2⟩

theorem run_call {P : Program} {g : Nat} (hc : callB P g = true) (args : Array Value) (w : World) : (callFunc g args).run P w = .ok (.enter g args) w := by
  unfold callB at hc
  split at hc
  · rename_i fn hf
    simp only [Bool.and_eq_true, Bool.not_eq_true'] at hc
    obtain ⟨h1, h2⟩ := hc
    have h4 : ¬ fn.name = "runtime.NumGoroutine" := by simpa using h1
    have h5 : ¬ fn.body = none := by intro e; rw [e] at h2; cases h2
    simp [callFunc, hf, h4, h5]
  · cases hc
theorem vop_call {P : Program} {H : Hp} {o : Oper} {ρ : Operand → AV} {x : AV} {c : Call} {f : Operand} (ho : o.op = .call c) (hc : c.callee = .value f) {g : Nat} {cap : List AV} (hf : ρ f = .fn g cap)
    (h : PureAt P g (c.args.toList.map ρ ++ cap) H x) : VOp P H o ρ x := by
  intro σ w a hs hv K Q hK
  obtain ⟨hcb, h⟩ := h
  have hops : ∀ y ∈ c.operands, VR σ w (ρ y) (a.eval y) := fun y hy => hv y (by rw [ho]; exact hy)
  have hff := hops f (by simp [Call.operands, hc])
  rw [hf] at hff
  generalize hfv : a.eval f = fv at hff
  cases hff with
  | fn _ _ vs hsz hvs =>
    have hargs : VRs σ w (c.args.toList.map ρ ++ cap) (c.args.map a.eval ++ vs) := by
      refine VRs.append ⟨by simp, fun i hi => ?_⟩ ⟨hsz, hvs⟩
      have hi' : i < c.args.size := by simpa using hi
      simp [List.getD_eq_getElem?_getD, Array.getD_eq_getD_getElem?, hi']
      exact hops _ (by simp [Call.operands, hc])
    have := h σ w _ hs hargs
    unfold Oper.wp execOp
    simp only [ho, resolve, hc, hfv, Deferred.ofValue, Sem.run_bind, Sem.run_pure, Result.andThen_ok, invoke, Array.empty_append, run_call hcb, Oper.upon]
    exact this.mono fun e w' ⟨r, H', σ', v, e1, ⟨e2, e3⟩, e4, e5, e6⟩ => by
      subst e1 e2 e3
      exact hK v w' σ' e4 e5 e6

/-! Sequences of operations -/
def aops (P : Program) (ops : Array Oper) (l : List Oper) (Q : Exit → St → Prop) (s : St) : Prop :=
  ∀ σ w a, Sim σ s.h w → Sl σ w s a → wpList P ops (lift σ w Q) l a w
section
variable {P : Program} {ops : Array Oper} {Q : Exit → St → Prop} {s : St} {o : Oper} {rest : List Oper}
theorem awp_region {id : Nat} (h : aops P ops ops.toList Q s) : awp P (.region id ops false) Q s := fun σ w a hs hl => wp_region_list (h σ w a hs hl)
theorem wpList_lift {σ σ' : G} {w w' : World} (e : Ext σ w σ' w') : ∀ (l : List Oper) (a : Act) (w2 : World), wpList P ops (lift σ' w' Q) l a w2 → wpList P ops (lift σ w Q) l a w2 := by
  have hup : ∀ (o : Oper) (a : Act) (K K' : Act → World → Prop) (r : Result Next), (∀ a w, K a w → K' a w) → o.upon P a K (lift σ' w' Q) r → o.upon P a K' (lift σ w Q) r := by
    intro o a K K' r hK h
    cases r with
    | ok n w3 =>
      cases n with
      | enter f args =>
        simp only [Oper.upon] at h ⊢
        refine h.mono fun e2 w4 h2 => ?_
        cases e2 with
        | returned v => exact hK _ _ h2
        | panicked ch => exact lift_trans e h2
        | outgrown => obtain ⟨a2, w5, h3⟩ := h2; exact ⟨a2, w5, lift_trans e h3⟩
      | row r args =>
        simp only [Oper.upon] at h ⊢
        exact Rows.mono h fun v w4 h2 => hK _ _ h2
      | value v => exact hK _ _ h
      | skip => exact hK _ _ h
      | defer d => exact hK _ _ h
      | _ => exact h
    | halt x w3 => cases x <;> simp only [Oper.upon] at h ⊢ <;> first | exact h | exact lift_trans e h
  intro l
  induction l with
  | nil => intro a w2 h; exact lift_trans e h
  | cons o l ih =>
    intro a w2 h
    unfold wpList at h ⊢
    split
    · rename_i hw
      rw [if_pos hw] at h
      rcases h with h | ⟨h1, a2, w5, h3⟩
      · exact .inl (hup o a _ _ _ ih h)
      · exact .inr ⟨h1, a2, w5, lift_trans e h3⟩
    · rename_i hw
      rw [if_neg hw] at h
      exact ih _ _ h
theorem aops_nil (h : Q .normal s) : aops P ops [] Q s := fun σ w a hs hl => ⟨s, σ, h, .refl _ _, hs, hl⟩
/-- One operation without guard, whatever it does. -/
def SOp (P : Program) (o : Oper) (s : St) (K : St → Prop) : Prop :=
  ∀ σ w a, Sim σ s.h w → Sl σ w s a → ∀ (KK : Act → World → Prop) (Q : Exit → Act → World → Prop),
    (∀ s' σ' w' v, K s' → Ext σ w σ' w' → Sim σ' s'.h w' → Sl σ' w' s' (a.put o.dst v) → KK (a.put o.dst v) w') → o.wp P a w KK Q
theorem aops_cons (hg : o.guard = none) (h : SOp P o s (aops P ops rest Q)) : aops P ops (o :: rest) Q s := fun σ w a hs hl => by
  unfold wpList
  rw [if_pos (by simp [Region.wanted, hg])]
  exact .inl (h σ w a hs hl _ _ fun s' σ' w' v h1 h2 h3 h4 => wpList_lift h2 _ _ _ (h1 σ' w' _ h3 h4))
theorem SOp.of_v {d : Nat} (hd : o.dst = some d) (hn : d < s.n) {x : AV} (hv : VOp P s.h o s.ev x) {K : St → Prop} (h : K (s.put d x)) : SOp P o s K := fun σ w a hs hl KK Q hK =>
  hv σ w a hs (fun y _ => hl.ev y) KK Q fun v w' σ' h1 h2 h3 => hK _ σ' w' _ h h1 h2 (by rw [hd]; exact (hl.mono h1).put hn h3)
theorem SOp.of_v0 (hd : o.dst = none) {x : AV} (hv : VOp P s.h o s.ev x) {K : St → Prop} (h : K s) : SOp P o s K := fun σ w a hs hl KK Q hK =>
  hv σ w a hs (fun y _ => hl.ev y) KK Q fun v w' σ' h1 h2 h3 => hK s σ' w' _ h h1 h2 (by rw [hd]; exact hl.mono h1)
theorem SOp.mono {K K' : St → Prop} (h : SOp P o s K) (k : ∀ s, K s → K' s) : SOp P o s K' := fun σ w a hs hl KK Q hK => h σ w a hs hl KK Q fun s' σ' w' v h1 => hK s' σ' w' v (k _ h1)
/-- Is a guarded operation carried out? -/
def bw : Bool → Bool → Bool
  | true, b => b
  | false, b => !b
def gv (want : Bool) : AV → Option Bool
  | .con (.bool b) => some (bw want b)
  | .opt g (.con (.bool b)) => some (g && bw want b)
  | _ => none
theorem wanted_gv {σ : G} {w : World} {a : Act} {j dj : Nat} {want g : Bool} (hl : Sl σ w s a) (hg : o.guard = some (j, want)) (hj : (ops[j]?).bind (·.dst) = some dj) (hb : gv want (lk s.t dj) = some g) (hdj : dj < s.n) :
    Region.wanted o (yielded ops a.tmps) = g := by
  have hv := hl.v dj
  have hsz : dj < a.tmps.size := by rw [hl.size]; exact hdj
  have hy : yielded ops a.tmps j = match (a.tmps.getD dj undef) with | .bool b => some b | _ => none := by
    unfold yielded
    rw [hj]
    simp only [Array.getD_eq_getD_getElem?, Array.getElem?_eq_getElem hsz, Option.bind_some, Option.getD_some]
    cases a.tmps[dj] <;> rfl
  simp only [Region.wanted, hg, hy]
  generalize lk s.t dj = x at hv hb
  generalize a.tmps.getD dj undef = v at hv
  cases x with
  | con u =>
    cases hv
    cases v with
    | bool b => simp only [gv, Option.some.injEq] at hb; subst hb; cases b <;> cases want <;> rfl
    | _ => simp only [gv, reduceCtorEq] at hb
  | opt g' y =>
    cases y with
    | con u =>
      cases u with
      | bool b =>
        simp only [gv, Option.some.injEq] at hb
        subst hb
        cases hv with
        | opt _ _ _ h h0 =>
          cases g' with
          | true => have := h rfl; cases this; cases b <;> cases want <;> rfl
          | false => have := h0 rfl; subst this; simp [undef]
      | _ => simp only [gv, reduceCtorEq] at hb
    | _ => simp only [gv, reduceCtorEq] at hb
  | _ => simp only [gv, reduceCtorEq] at hb
/-- A guarded operation: its value is there if the guard says so. -/
theorem aops_guard {j dj d : Nat} {want g : Bool} (hg : o.guard = some (j, want)) (hj : (ops[j]?).bind (·.dst) = some dj) (hb : gv want (lk s.t dj) = some g) (hdj : dj < s.n) (hd : o.dst = some d) (hn : d < s.n)
    (x : AV) (hv : g = true → VOp P s.h o s.ev x) (h : aops P ops rest Q (s.put d (.opt g x))) : aops P ops (o :: rest) Q s := fun σ w a hs hl => by
  have hw := wanted_gv hl hg hj hb hdj
  unfold wpList
  rw [hw]
  cases g with
  | true =>
    rw [if_pos rfl]
    refine .inl (hv rfl σ w a hs (fun y _ => hl.ev y) _ _ fun v w' σ' h1 h2 h3 => ?_)
    rw [hd]
    exact wpList_lift h1 _ _ _ (h σ' w' _ h2 ((hl.mono h1).put hn (.opt _ _ _ (fun _ => h3) (fun e => by cases e))))
  | false =>
    rw [if_neg (by simp), hd]
    exact h σ w _ hs (hl.put hn (.opt _ _ _ (fun e => by cases e) (fun _ => rfl)))
end
/-- A call that may turn memory. -/
theorem SOp.of_call {P : Program} {o : Oper} {s : St} {K : St → Prop} {c : Call} {f : Operand} (ho : o.op = .call c) (hc : c.callee = .value f) {g : Nat} {cap : List AV} (hf : s.ev f = .fn g cap)
    (hd : ∀ d, o.dst = some d → d < s.n)
    (h : ACalls P g (c.args.toList.map s.ev ++ cap) s.h fun r H' => K ((⟨s.n, s.t, H'⟩ : St).puto o.dst r)) : SOp P o s K := by
  intro σ w a hs hl KK Q hK
  obtain ⟨hcb, h⟩ := h
  have hff := hl.ev f
  rw [hf] at hff
  generalize hfv : a.eval f = fv at hff
  cases hff with
  | fn _ _ vs hsz hvs =>
    have hargs : VRs σ w (c.args.toList.map s.ev ++ cap) (c.args.map a.eval ++ vs) := (VRs.map hl c.args).append ⟨hsz, hvs⟩
    have := h σ w _ hs hargs
    unfold Oper.wp execOp
    simp only [ho, resolve, hc, hfv, Deferred.ofValue, Sem.run_bind, Sem.run_pure, Result.andThen_ok, invoke, Array.empty_append, run_call hcb, Oper.upon]
    refine this.mono fun e w' ⟨r, H', σ', v, e1, e2, e4, e5, e6⟩ => ?_
    subst e1
    have hl' : Sl σ' w' (⟨s.n, s.t, H'⟩ : St) a := ⟨hl.size, fun d => (hl.v d).mono e4, hl.defers⟩
    cases hdd : o.dst with
    | none => rw [hdd] at e2 hK; exact hK _ σ' w' v e2 e4 e5 hl'
    | some d => rw [hdd] at e2 hK; exact hK _ σ' w' v e2 e4 e5 (hl'.put (hd d hdd) e6)
end Go.Proofs.YtababmnmkmgbbaaGreat.Fw
set_option linter.unusedVariables false
namespace Go.Proofs.YtababmnmkmgbbaaGreat.Fw
open Go.RowKit

/-! New memory that is never written again -/
def G.froze (σ : G) (B m : Nat) : G := { σ with fz := fun b o => σ.fz b o ∨ (b = B ∧ o < m) }
theorem ext_alloc {σ : G} {H : Hp} {w : World} (hs : Sim σ H w) (o : Obj) (m : Nat) : Ext σ w (σ.froze w.heap.size m) (w.alloc o) :=
  ⟨rfl, ⟨(Below.refl _ _).alloc hs.base o, Nat.le_refl _⟩, Nat.le_refl _, fun _ _ h => .inl h, fun b o' h => .block (Below.heap_alloc w o b (hs.fzlt b o' h)), fun _ _ => ⟨rfl, rfl⟩, fun t _ m hm => ⟨m, hm, Nat.le_refl _, fun _ => ⟨rfl, rfl⟩⟩⟩
theorem owned_blk {σ : G} {H : Hp} {w : World} (hs : Sim σ H w) {t n e k g : Nat} (h : H.tok t = some (n, e, k)) (hg : (σ.tv t).ownBlock = some g) : σ.base ≤ g ∧ g < w.heap.size := by
  obtain ⟨_, xs, h1, _⟩ := hs.tk t n e k h
  exact h1.lt g hg
theorem sim_alloc {σ : G} {H : Hp} {w : World} (hs : Sim σ H w) (o : Obj) (m : Nat) : Sim (σ.froze w.heap.size m) H (w.alloc o) := by
  have hE := ext_alloc hs o m
  refine ⟨by have := hs.base; simp [G.froze]; omega, ?_, hs.tok, ?_, ?_, hs.bxbx, hs.bxtk, hs.tktk⟩
  · rintro b o' (h | ⟨rfl, _⟩)
    · have := hs.fzlt b o' h; simp; omega
    · simp
  · intro id cs hc
    obtain ⟨h1, h2, h3, cur, e, h4, h5, h6⟩ := hs.bx id cs hc
    have hlt : σ.blk id < w.heap.size := h4.lt
    refine ⟨h1, h2, ?_, cur, e, ?_, h5, fun i hi => (h6 i hi).mono hE⟩
    · rintro o' (h | ⟨h, _⟩)
      · exact h3 o' h
      · simp only [G.froze] at h; omega
    · simp only [G.froze]; rw [Below.heap_alloc _ _ _ hlt]; exact h4
  · intro t n e k ht
    obtain ⟨h1, xs, h2, h3⟩ := hs.tk t n e k ht
    refine ⟨h1, xs, h2.alloc o, fun g hg o' ho => ?_⟩
    rintro (h | ⟨h, _⟩)
    · exact h3 g hg o' ho h
    · have := (owned_blk hs ht hg).2; omega
/-- Draws. -/
theorem ext_drew {σ : G} {H : Hp} {w : World} (hs : Sim σ H w) : Ext σ w σ w.drew :=
  ⟨rfl, ⟨(Below.refl _ _).drew, Nat.le_succ _⟩, Nat.le_refl _, fun _ _ h => h, fun b o h => .block rfl, fun _ _ => ⟨rfl, rfl⟩, fun t _ m hm => ⟨m, hm, Nat.le_refl _, fun _ => ⟨rfl, rfl⟩⟩⟩
theorem sim_drew {σ : G} {H : Hp} {w : World} (hs : Sim σ H w) : Sim σ H w.drew := by
  have hE := ext_drew hs
  refine ⟨hs.base, hs.fzlt, hs.tok, ?_, ?_, hs.bxbx, hs.bxtk, hs.tktk⟩
  · intro id cs hc
    obtain ⟨h1, h2, h3, cur, e, h4, h5, h6⟩ := hs.bx id cs hc
    exact ⟨h1, h2, h3, cur, e, h4, h5, fun i hi => (h6 i hi).mono hE⟩
  · intro t n e k ht
    obtain ⟨h1, xs, h2, h3⟩ := hs.tk t n e k ht
    exact ⟨h1, xs, ⟨h2.1, h2.2⟩, h3⟩

/-! What operations give -/
def un : AV → AV
  | .opt _ x => x
  | x => x
def okv : AV → Prop
  | .opt b _ => b = true
  | _ => True
theorem VR.un {σ : G} {w : World} {x : AV} {v : Value} (h : VR σ w x v) (ok : okv x) : VR σ w (un x) v := by
  cases h with
  | opt b y v h h0 => exact h ok
  | any => exact .any _
  | con => exact .con _
  | nil => exact .nil
  | odd a => exact .odd a
  | list xs b o c k vs a1 a2 a3 a4 a5 => exact .list xs b o c k vs a1 a2 a3 a4 a5
  | tok xs t v a1 a2 a3 => exact .tok xs t v a1 a2 a3
  | agg cs vs a1 a2 => exact .agg cs vs a1 a2
  | tup cs vs a1 a2 => exact .tup cs vs a1 a2
  | ptr id off a1 a2 => exact .ptr id off a1 a2
  | ro cs b o vs a1 a2 => exact .ro cs b o vs a1 a2
  | fn f cap vs a1 a2 => exact .fn f cap vs a1 a2
  | emp b o => exact .emp b o
  | sl id n e k c h hk h0 hn hm => exact .sl id n e k c h hk h0 hn hm
  | sl0 id e k => exact .sl0 id e k
  | sl1 id e k b o => exact .sl1 id e k b o
  | slc id off n c e k h hk h0 hn hm => exact .slc id off n c e k h hk h0 hn hm
  | slc0 id off e k A => exact .slc0 id off e k A
  | mp id h hk => exact .mp id h hk
  | it id h hk => exact .it id h hk
  | mv es clock b o us a1 a2 a3 a4 a5 a6 => exact .mv es clock b o us a1 a2 a3 a4 a5 a6
  | mc es clock us a4 a5 a6 => exact .mc es clock us a4 a5 a6
  | nl l => exact .nl l
  | cel v h => exact .cel v h

def tfld (P : Program) (t : TypeId) (f : Nat) : Option (Nat × TypeId × Nat) :=
  match P.underlying t with
  | some (.struct fs) => (fs[f]?).bind fun f => (tsz P f.type).map fun k => (f.offset, f.type, k)
  | _ => none
def telem (P : Program) (t : TypeId) : Option (TypeId × Nat × Nat) :=
  match P.underlying t with
  | some (.slice e) => (P.info? e).map fun i => (e, i.size, i.bytes)
  | _ => none
def tarr (P : Program) (t : TypeId) : Option (Nat × Nat) :=
  match P.underlying t with
  | some (.array n e) => (tsz P e).map fun k => (n, k)
  | _ => none
def tkind (P : Program) (t : TypeId) : Nat :=
  match P.underlying t with
  | some .bool => 1
  | some .string => 2
  | some (.int _) => 3
  | some (.slice _) => 4
  | some (.struct _) => 5
  | some (.pointer _) => 6
  | _ => 0
def tint (P : Program) (t : TypeId) : Option IntKind :=
  match P.underlying t with
  | some (.int k) => some k
  | _ => none

/-- A byte of a string. -/
def bt (s : ByteArray) (i : Int) : Int := ((s[i.toNat]?).map fun b => (b.toNat : Int)).getD 0

/-! Binary operations -/
def binInt (op : BinOp) (k : IntKind) (a b : Int) : Prop × AV :=
  match op with
  | .add => (True, .con (.int k (k.wrap (a + b))))
  | .sub => (True, .con (.int k (k.wrap (a - b))))
  | .mul => (True, .con (.int k (k.wrap (a * b))))
  | .quo => (b ≠ 0, .con (.int k (k.wrap (a.tdiv b))))
  | .rem => (b ≠ 0, .con (.int k (a.tmod b)))
  | .and | .or | .xor | .andNot => (True, .con (.int k (Go.bits op k a b)))
  | .eql => (True, .con (.bool (a == b)))
  | .neq => (True, .con (.bool (a != b)))
  | .lss => (True, .con (.bool (decide (a < b))))
  | .leq => (True, .con (.bool (decide (a ≤ b))))
  | .gtr => (True, .con (.bool (decide (b < a))))
  | .geq => (True, .con (.bool (decide (b ≤ a))))
  | _ => (False, .any)
def binStr (op : BinOp) (a b : ByteArray) : Prop × AV :=
  match op with
  | .add => (a.size + b.size ≤ 9223372036854775807, .con (.string (a ++ b)))
  | .eql => (True, .con (.bool (a.toList == b.toList)))
  | .neq => (True, .con (.bool (!(a.toList == b.toList))))
  | .lss => (True, .con (.bool (Op.bytesLess a.toList b.toList)))
  | .leq => (True, .con (.bool (Op.bytesLess a.toList b.toList || a.toList == b.toList)))
  | .gtr => (True, .con (.bool (!(Op.bytesLess a.toList b.toList || a.toList == b.toList))))
  | .geq => (True, .con (.bool (!(Op.bytesLess a.toList b.toList))))
  | _ => (False, .any)
def binV (P : Program) (op : BinOp) (t : TypeId) (x y : AV) : Prop × AV :=
  match x, y with
  | .con (.int k a), .con (.int k' b) =>
    match op with
    | .shl => (0 ≤ b, .con (.int k (k.wrap (a * 2 ^ (min b.toNat k.bits)))))
    | .shr => (0 ≤ b, .con (.int k (a.fdiv (2 ^ (min b.toNat k.bits)))))
    | _ => (k = k' ∧ (binInt op k a b).1, (binInt op k a b).2)
  | .con (.string a), .con (.string b) => binStr op a b
  | .con (.bool a), .con (.bool b) =>
    match op with
    | .eql => (tkind P t = 1, .con (.bool (a == b)))
    | .neq => (tkind P t = 1, .con (.bool (a != b)))
    | _ => (False, .any)
  | .con (.slice none 0 0), .con (.slice none 0 0) =>
    match op with
    | .eql => (tkind P t = 4, .con (.bool true))
    | .neq => (tkind P t = 4, .con (.bool false))
    | _ => (False, .any)
  | .emp, .con (.slice none 0 0) =>
    match op with
    | .eql => (tkind P t = 4, .con (.bool false))
    | .neq => (tkind P t = 4, .con (.bool true))
    | _ => (False, .any)
  | .list xs _, .con (.slice none 0 0) =>
    match op with
    | .eql => (tkind P t = 4 ∧ xs ≠ [], .con (.bool false))
    | .neq => (tkind P t = 4 ∧ xs ≠ [], .con (.bool true))
    | _ => (False, .any)
  | .ro _, .con (.pointer none) =>
    match op with
    | .eql => (tkind P t = 6, .con (.bool false))
    | .neq => (tkind P t = 6, .con (.bool true))
    | _ => (False, .any)
  | .ptr _ _, .con (.pointer none) =>
    match op with
    | .eql => (tkind P t = 6, .con (.bool false))
    | .neq => (tkind P t = 6, .con (.bool true))
    | _ => (False, .any)
  | .con (.pointer none), .con (.pointer none) =>
    match op with
    | .eql => (tkind P t = 6, .con (.bool true))
    | .neq => (tkind P t = 6, .con (.bool false))
    | _ => (False, .any)
  | _, _ => (False, .any)

theorem tkind_bool {P : Program} {t : TypeId} (h : tkind P t = 1) : P.underlying t = some .bool := by
  unfold tkind at h; split at h <;> first | assumption | cases h
theorem tkind_string {P : Program} {t : TypeId} (h : tkind P t = 2) : P.underlying t = some .string := by
  unfold tkind at h; split at h <;> first | assumption | cases h
theorem tkind_slice {P : Program} {t : TypeId} (h : tkind P t = 4) : ∃ e, P.underlying t = some (.slice e) := by
  unfold tkind at h; split at h <;> first | exact ⟨_, by assumption⟩ | cases h

theorem tkind_ptr {P : Program} {t : TypeId} (h : tkind P t = 6) : ∃ e, P.underlying t = some (.pointer e) := by
  unfold tkind at h; split at h <;> first | exact ⟨_, by assumption⟩ | cases h

theorem run_eqGuard {P : Program} {op : BinOp} {t : TypeId} {x y : Operand} {u v : Value} (hu : ∀ cs, u ≠ .agg cs) (hn : u ≠ .nilIface) (w : World) : (eqGuard op t x y u v).run P w = .ok () w := by
  unfold eqGuard
  cases op <;> cases u <;> cases v <;> first | rfl | exact absurd rfl hn | exact absurd rfl (hu _)
theorem run_binInt {P : Program} {op : BinOp} {t : TypeId} {k : IntKind} {a b : Int} (h : (binInt op k a b).1) (w : World) : ∃ v, (binOp op t (.int k a) (.int k b)).run P w = .ok v w ∧ (binInt op k a b).2 = .con v := by
  cases op with
  | quo => exact ⟨_, by simp only [binOp]; simp [Op.intDiv, show ¬ b = 0 from h], rfl⟩
  | rem => exact ⟨_, by simp only [binOp]; simp [Op.intDiv, show ¬ b = 0 from h], rfl⟩
  | shl => exact h.elim
  | shr => exact h.elim
  | _ => first
    | exact ⟨_, by simp [binOp, Op.intArith, Op.intBits, Op.intCmp, Go.bits]; done, rfl⟩
    | exact ⟨_, by simp [binOp, Op.intArith, Op.intBits, Op.intCmp, Go.bits]; rfl, rfl⟩
end Go.Proofs.YtababmnmkmgbbaaGreat.Fw
set_option linter.unusedVariables false
namespace Go.Proofs.YtababmnmkmgbbaaGreat.Fw
open Go.RowKit

theorem run_binStr {P : Program} {op : BinOp} {t : TypeId} {a b : ByteArray} (h : (binStr op a b).1) (w : World) : ∃ v, (binOp op t (.string a) (.string b)).run P w = .ok v w ∧ (binStr op a b).2 = .con v := by
  cases op with
  | add =>
    have h' : ¬ ((a.size + b.size : Nat) : Int) > IntKind.i64.max := by
      simp only [binStr] at h
      have : IntKind.i64.max = 9223372036854775807 := by decide
      omega
    refine ⟨.string (a ++ b), ?_, rfl⟩
    simp only [binOp, Op.stringOp]
    rw [if_neg h']
    rfl
  | _ => first
    | exact h.elim
    | exact ⟨_, by simp [binOp, Op.stringOp]; done, rfl⟩
    | exact ⟨_, by simp [binOp, Op.stringOp]; rfl, rfl⟩
theorem run_shl {P : Program} {t : TypeId} {k k' : IntKind} {a b : Int} (h : 0 ≤ b) (w : World) : (binOp .shl t (.int k a) (.int k' b)).run P w = .ok (.int k (k.wrap (a * 2 ^ (min b.toNat k.bits)))) w := by
  simp [binOp, Op.shift, show ¬ b < 0 by omega]
theorem run_shr {P : Program} {t : TypeId} {k k' : IntKind} {a b : Int} (h : 0 ≤ b) (w : World) : (binOp .shr t (.int k a) (.int k' b)).run P w = .ok (.int k (a.fdiv (2 ^ (min b.toNat k.bits)))) w := by
  simp [binOp, Op.shift, show ¬ b < 0 by omega]
theorem run_equal_bool {P : Program} {t : TypeId} {a b : Bool} (h : tkind P t = 1) (w : World) : (Op.equal t (.bool a) (.bool b)).run P w = .ok (a == b) w := by
  have hu := tkind_bool h
  unfold Op.equal
  obtain ⟨d, hd⟩ : ∃ d, Op.maxDepth = d + 1 := ⟨9999, rfl⟩
  rw [hd]
  simp only [Op.equalIn, Sem.run_bind, run_underlying hu, Result.andThen_ok, Sem.run_pure]
theorem run_equal_slice {P : Program} {t : TypeId} {A : Option Addr} {n c : Nat} (h : tkind P t = 4) (w : World) : (Op.equal t (.slice A n c) (.slice none 0 0)).run P w = .ok A.isNone w := by
  obtain ⟨e, hu⟩ := tkind_slice h
  unfold Op.equal
  obtain ⟨d, hd⟩ : ∃ d, Op.maxDepth = d + 1 := ⟨9999, rfl⟩
  rw [hd]
  cases A <;> simp only [Op.equalIn, Sem.run_bind, run_underlying hu, Result.andThen_ok, Sem.run_pure, Option.isNone_none, Option.isNone_some]
theorem run_eqBool {P : Program} {t : TypeId} {a b : Bool} (h : tkind P t = 1) (w : World) : (binOp .eql t (.bool a) (.bool b)).run P w = .ok (.bool (a == b)) w ∧ (binOp .neq t (.bool a) (.bool b)).run P w = .ok (.bool (a != b)) w := by
  constructor <;> simp only [binOp, Sem.run_bind, run_equal_bool h, Result.andThen_ok, Sem.run_pure] <;> rfl
theorem run_eqSlice {P : Program} {t : TypeId} {A : Option Addr} {n c : Nat} (h : tkind P t = 4) (w : World) :
    (binOp .eql t (.slice A n c) (.slice none 0 0)).run P w = .ok (.bool A.isNone) w ∧ (binOp .neq t (.slice A n c) (.slice none 0 0)).run P w = .ok (.bool (!A.isNone)) w := by
  constructor <;> simp only [binOp, Sem.run_bind, run_equal_slice h, Result.andThen_ok, Sem.run_pure]

theorem run_equal_ptr {P : Program} {t : TypeId} {A : Option Addr} (h : tkind P t = 6) (w : World) : (Op.equal t (.pointer A) (.pointer none)).run P w = .ok A.isNone w := by
  obtain ⟨e, hu⟩ := tkind_ptr h
  unfold Op.equal
  obtain ⟨d, hd⟩ : ∃ d, Op.maxDepth = d + 1 := ⟨9999, rfl⟩
  rw [hd]
  cases A <;> simp only [Op.equalIn, Sem.run_bind, run_underlying hu, Result.andThen_ok, Sem.run_pure, Option.isNone_none, Option.isNone_some]
theorem run_eqPtr {P : Program} {t : TypeId} {A : Option Addr} (h : tkind P t = 6) (w : World) :
    (binOp .eql t (.pointer A) (.pointer none)).run P w = .ok (.bool A.isNone) w ∧ (binOp .neq t (.pointer A) (.pointer none)).run P w = .ok (.bool (!A.isNone)) w := by
  constructor <;> simp only [binOp, Sem.run_bind, run_equal_ptr h, Result.andThen_ok, Sem.run_pure]

theorem vop_bin {P : Program} {H : Hp} {o : Oper} {ρ : Operand → AV} {op : BinOp} {t t2 : TypeId} {x y : Operand} (ho : o.op = .binOp op t x y t2) (hx : okv (ρ x)) (hy : okv (ρ y)) (hc : (binV P op t (un (ρ x)) (un (ρ y))).1) :
    VOp P H o ρ (binV P op t (un (ρ x)) (un (ρ y))).2 := by
  refine vop_same fun σ w ev hs hv => ?_
  have h1 := (hv x (by simp [ho, Op.operands])).un hx
  have h2 := (hv y (by simp [ho, Op.operands])).un hy
  have hrun : ∀ u, (∀ cs, ev x ≠ .agg cs) → ev x ≠ .nilIface → (binOp op t (ev x) (ev y)).run P w = .ok u w → (execOp ev o).run P w = .ok (.value u) w := by
    intro u ha hn hr
    simp only [execOp, ho]
    simp only [Sem.run_bind, run_eqGuard ha hn, Result.andThen_ok, hr, Sem.run_pure]
  generalize un (ρ x) = X at h1 hc
  generalize un (ρ y) = Y at h2 hc
  generalize ev x = U at h1 hrun
  generalize ev y = V at h2 hrun
  unfold binV at hc ⊢
  split at hc
  · cases h1; cases h2
    split at hc
    · exact ⟨_, hrun _ (by simp) (by simp) (run_shl hc w), .con _⟩
    · exact ⟨_, hrun _ (by simp) (by simp) (run_shr hc w), .con _⟩
    · obtain ⟨rfl, hc⟩ := hc
      obtain ⟨v, e1, e2⟩ := run_binInt (P := P) (t := t) hc w
      exact ⟨v, hrun _ (by simp) (by simp) e1, by rw [e2]; exact .con _⟩
  · cases h1; cases h2
    obtain ⟨v, e1, e2⟩ := run_binStr (P := P) (t := t) hc w
    exact ⟨v, hrun _ (by simp) (by simp) e1, by rw [e2]; exact .con _⟩
  · cases h1; cases h2
    split at hc
    · exact ⟨_, hrun _ (by simp) (by simp) (run_eqBool hc w).1, .con _⟩
    · exact ⟨_, hrun _ (by simp) (by simp) (run_eqBool hc w).2, .con _⟩
    · exact hc.elim
  · cases h1; cases h2
    split at hc
    · exact ⟨_, hrun _ (by simp) (by simp) (run_eqSlice hc w).1, .con _⟩
    · exact ⟨_, hrun _ (by simp) (by simp) (run_eqSlice hc w).2, .con _⟩
    · exact hc.elim
  · cases h1; cases h2
    split at hc
    · exact ⟨_, hrun _ (by simp) (by simp) (run_eqSlice hc w).1, .con _⟩
    · exact ⟨_, hrun _ (by simp) (by simp) (run_eqSlice hc w).2, .con _⟩
    · exact hc.elim
  · rename_i xs t'
    have hsl : xs ≠ [] → ∃ a n c, U = .slice (some a) n c := by
      intro hne
      cases h1 with
      | nil => exact absurd rfl hne
      | odd => exact absurd rfl hne
      | list => exact ⟨_, _, _, rfl⟩
      | tok _ _ _ h => cases h with
        | nil => exact absurd rfl hne
        | odd => exact absurd rfl hne
        | list => exact ⟨_, _, _, rfl⟩
    cases h2
    split at hc
    · obtain ⟨a, n, c, rfl⟩ := hsl hc.2
      exact ⟨_, hrun _ (by simp) (by simp) (run_eqSlice hc.1 w).1, .con _⟩
    · obtain ⟨a, n, c, rfl⟩ := hsl hc.2
      exact ⟨_, hrun _ (by simp) (by simp) (run_eqSlice hc.1 w).2, .con _⟩
    · exact hc.elim
  · cases h1; cases h2
    split at hc
    · exact ⟨_, hrun _ (by simp) (by simp) (run_eqPtr hc w).1, .con _⟩
    · exact ⟨_, hrun _ (by simp) (by simp) (run_eqPtr hc w).2, .con _⟩
    · exact hc.elim
  · cases h1; cases h2
    split at hc
    · exact ⟨_, hrun _ (by simp) (by simp) (run_eqPtr hc w).1, .con _⟩
    · exact ⟨_, hrun _ (by simp) (by simp) (run_eqPtr hc w).2, .con _⟩
    · exact hc.elim
  · cases h1; cases h2
    split at hc
    · exact ⟨_, hrun _ (by simp) (by simp) (run_eqPtr hc w).1, .con _⟩
    · exact ⟨_, hrun _ (by simp) (by simp) (run_eqPtr hc w).2, .con _⟩
    · exact hc.elim
  · exact hc.elim
end Go.Proofs.YtababmnmkmgbbaaGreat.Fw
set_option linter.unusedVariables false
namespace Go.Proofs.YtababmnmkmgbbaaGreat.Fw
open Go.RowKit
variable {P : Program} {H : Hp} {o : Oper} {ρ : Operand → AV}

theorem vop_move {x : Operand} (ho : o.op = .move x) (hx : okv (ρ x)) : VOp P H o ρ (un (ρ x)) := vop_same fun σ w ev hs hv =>
  ⟨ev x, by simp [execOp, ho], (hv x (by simp [ho, Op.operands])).un hx⟩
theorem vop_assign {x : Operand} (ho : o.op = .assign x) (hx : okv (ρ x)) : VOp P H o ρ (un (ρ x)) := vop_same fun σ w ev hs hv =>
  ⟨ev x, by simp [execOp, ho], (hv x (by simp [ho, Op.operands])).un hx⟩
def pickV (c : Bool) (x y : AV) : AV :=
  match x, y with
  | .con (.bool a), .con (.bool b) => .con (.bool (if c then a else b))
  | x, y => if c then x else y
theorem pickV_t (x y : AV) : pickV true x y = x := by unfold pickV; split <;> simp
theorem pickV_f (x y : AV) : pickV false x y = y := by unfold pickV; split <;> simp
theorem pkv : (∀ x y : AV, pickV false x y = y) ∧ (∀ x y : AV, pickV true x y = x) := ⟨pickV_f, pickV_t⟩
theorem bls : ((¬True) = False) ∧ ((¬False) = True) ∧ ((!true) = false) ∧ ((!false) = true) ∧ (∀ b, (true || b) = true) ∧ (∀ b, (false || b) = b) ∧ (∀ b, (b || true) = true) ∧ (∀ b, (b || false) = b) ∧ (∀ b, (false && b) = false) ∧ (∀ b, (b && false) = false) ∧ (∀ b, (true && b) = b) ∧ (∀ b, (b && true) = b) ∧ (∀ p : Prop, (True → p) = p) :=
  ⟨not_true_eq_false, not_false_eq_true, rfl, rfl, Bool.true_or, Bool.false_or, Bool.or_true, Bool.or_false, Bool.false_and, Bool.and_false, Bool.true_and, Bool.and_true, true_implies⟩
theorem cds : (∀ a b : Bool, ((a || b) = true) = (a = true ∨ b = true)) ∧ (∀ a b : Bool, ((a && b) = true) = (a = true ∧ b = true)) ∧ (∀ b : Bool, ((!b) = true) = (b = false)) ∧ (∀ b : Bool, ((!b) = false) = (b = true)) ∧ (∀ x y : Bool, ((x || y) = false) ↔ (x = false ∧ y = false)) ∧
    (∀ x y : Bool, ((x && y) = false) ↔ (x = true → y = false)) ∧ (∀ b : Bool, (¬b = false) = (b = true)) ∧ (∀ b : Bool, (¬b = true) = (b = false)) ∧ ((!true) = false) ∧ ((!false) = true) ∧ ((true = false) = False) ∧ ((false = true) = False) ∧ ((¬True) = False) :=
  ⟨Bool.or_eq_true, Bool.and_eq_true, fun b => by cases b <;> simp, fun b => by cases b <;> simp, fun _ _ => Bool.or_eq_false_iff, fun _ _ => Bool.and_eq_false_imp, fun b => by cases b <;> simp, fun b => by cases b <;> simp, rfl, rfl, by simp, by simp, by simp⟩
theorem vop_pick {c x y : Operand} {b : Bool} (ho : o.op = .pick c x y) (hcv : okv (ρ c)) (hc : un (ρ c) = .con (.bool b)) (hx : b = true → okv (ρ x)) (hy : b = false → okv (ρ y)) : VOp P H o ρ (pickV b (un (ρ x)) (un (ρ y))) := vop_same fun σ w ev hs hv => by
  have h0 := (hv c (by simp [ho, Op.operands])).un hcv
  rw [hc] at h0
  have h1 := hv x (by simp [ho, Op.operands])
  have h2 := hv y (by simp [ho, Op.operands])
  generalize hcc : ev c = C at h0
  cases h0
  cases b with
  | true => exact ⟨ev x, by simp [execOp, ho, hcc, asBool], by rw [pickV_t]; exact h1.un (hx rfl)⟩
  | false => exact ⟨ev y, by simp [execOp, ho, hcc, asBool], by rw [pickV_f]; exact h2.un (hy rfl)⟩
theorem vop_load {t : TypeId} {x : Operand} (ho : o.op = .load t x) (hx : okv (ρ x)) (hok : ldOk P H t (un (ρ x))) : VOp P H o ρ (ldV P H t (un (ρ x))) := vop_same fun σ w ev hs hv => by
  have h1 := (hv x (by simp [ho, Op.operands])).un hx
  obtain ⟨b, o', u, e1, e2, e3⟩ := run_load (P := P) (t := t) hs h1 hok
  exact ⟨u, by simp [execOp, ho, Instr.loadAt, Instr.sureAddr, e1, e2], e3⟩
/-- An address further on. -/
def adv (x : AV) (n : Nat) : AV :=
  match x with
  | .ro cs => .ro (cs.drop n)
  | .ptr id off => .ptr id (off + n)
  | _ => .any
def isP : AV → Prop
  | .ro _ | .ptr _ _ => True
  | _ => False
theorem VR.adv {σ : G} {w : World} {x : AV} {v : Value} (h : VR σ w x v) (hp : isP x) (n : Nat) : ∃ b o, v = .pointer (some ⟨b, o, none⟩) ∧ VR σ w (adv x n) (.pointer (some ⟨b, o + n, none⟩)) := by
  cases h with
  | ptr id off h => exact ⟨_, _, rfl, .ptr id _ h (by assumption)⟩
  | ro cs b o vs h1 h2 =>
    refine ⟨b, o, rfl, .ro _ b (o + n) (fun j => vs (n + j)) (fun j hj => ?_) (fun j hj => ?_)⟩
    · have := h1 (n + j) (by simp at hj; omega)
      rwa [← Nat.add_assoc] at this
    · have := h2 (n + j) (by simp at hj; omega)
      rwa [show (cs.drop n).getD j AV.any = cs.getD (n + j) .any by simp [List.getD_eq_getElem?_getD]]
  | _ => exact hp.elim
theorem vop_fieldAddr {t : TypeId} {x : Operand} {f off ft k : Nat} (ho : o.op = .fieldAddr t x f) (hx : okv (ρ x)) (hf : tfld P t f = some (off, ft, k)) (hk : k ≠ 0) (hp : isP (un (ρ x))) : VOp P H o ρ (adv (un (ρ x)) off) := vop_same fun σ w ev hs hv => by
  have h1 := (hv x (by simp [ho, Op.operands])).un hx
  obtain ⟨b, o', e1, e2⟩ := h1.adv hp off
  refine ⟨_, ?_, e2⟩
  unfold tfld at hf
  split at hf
  · rename_i fs hu
    obtain ⟨fd, hfd, hf⟩ := Option.bind_eq_some_iff.1 hf
    obtain ⟨k', hk', hf⟩ := Option.map_eq_some_iff.1 hf
    simp only [Prod.mk.injEq] at hf
    obtain ⟨rfl, rfl, rfl⟩ := hf
    simp only [execOp, ho, Instr.fieldAt, Sem.run_bind, run_underlying hu, Result.andThen_ok, hfd, e1, Instr.sureAddr, Sem.run_pure, fieldPlace, run_sizeOf hk', hk, if_false, add_none]
  · cases hf
theorem vop_indexAddr {t : TypeId} {x i : Operand} {xs : List AV} {tk : Option Nat} {kk : IntKind} {n : Int} {e k bb : Nat} (ho : o.op = .indexAddr t x i) (hx : okv (ρ x)) (hi : okv (ρ i)) (hxs : un (ρ x) = .list xs tk) (hin : un (ρ i) = .con (.int kk n))
    (ht : telem P t = some (e, k, bb)) (h0 : 0 ≤ n) (hn : n < xs.length) (hk : (xs.getD n.toNat .any).cells.length = k) : VOp P H o ρ (.ro (xs.getD n.toNat .any).cells) := vop_same fun σ w ev hs hv => by
  have h1 := (hv x (by simp [ho, Op.operands])).un hx
  have h2 := (hv i (by simp [ho, Op.operands])).un hi
  rw [hxs] at h1
  rw [hin] at h2
  generalize hu : ev x = u at h1
  generalize hj : ev i = j at h2
  cases h2
  have hlt : n.toNat < xs.length := by omega
  have h1' : VR σ w (.list xs none) u := by
    cases h1 with
    | nil => exact .nil
    | odd a => exact .odd a
    | list xs b o c k vs a1 a2 a3 a4 a5 => exact .list xs b o c k vs a1 a2 a3 a4 a5
    | tok _ _ _ h => exact h
  generalize hl : AV.list xs none = l at h1'
  cases h1' with
  | list xs' b o' c k' vs a1 a2 a3 a4 a5 =>
    injection hl with hl
    subst hl
    have hk' : k' = k := by
      have := (a3 (xs.getD n.toNat .any) (by rw [List.getD_eq_getElem?_getD, List.getElem?_eq_getElem hlt]; exact List.getElem_mem hlt)).1
      omega
    subst hk'
    refine ⟨.pointer (some ⟨b, o' + n.toNat * k', none⟩), ?_, .ro _ b _ (fun j => vs (n.toNat * k' + j)) (fun j hj => ?_) (fun j hj => ?_)⟩
    · unfold telem at ht
      split at ht
      · rename_i e' hue
        obtain ⟨inf, hinf, ht⟩ := Option.map_eq_some_iff.1 ht
        simp only [Prod.mk.injEq] at ht
        obtain ⟨rfl, rfl, rfl⟩ := ht
        have hsz : tsz P e' = some inf.size := by simp [tsz, hinf]
        simp only [execOp, ho, hu, hj, Instr.indexAt, asIntOf, Sem.run_bind, Sem.run_pure, Result.andThen_ok, run_underlying hue, h0, hn, and_self, if_true, run_sizeOf hsz, add_none]
      · cases ht
    · have hb : n.toNat * k' + j < xs.length * k' := by
        have := Nat.mul_le_mul_right k' (show n.toNat + 1 ≤ xs.length from hlt)
        rw [Nat.add_mul] at this; omega
      have := a4 _ hb
      rwa [← Nat.add_assoc] at this
    · exact a5 n.toNat j hlt (by omega)
  | nil =>
    injection hl with hl
    subst hl
    simp at hlt
  | odd =>
    injection hl with hl
    subst hl
    simp at hlt
  | _ => cases hl
theorem vop_indexSl {t : TypeId} {x i : Operand} {id m se sk : Nat} {kk : IntKind} {n : Int} {e k bb : Nat} (ho : o.op = .indexAddr t x i) (hx : okv (ρ x)) (hi : okv (ρ i)) (hxs : un (ρ x) = .sl id m se sk) (hin : un (ρ i) = .con (.int kk n))
    (ht : telem P t = some (e, k, bb)) (h0 : 0 ≤ n) (hn : n < m) : VOp P H o ρ (.ptr id (n.toNat * k)) := vop_same fun σ w ev hs hv => by
  have h1 := (hv x (by simp [ho, Op.operands])).un hx
  have h2 := (hv i (by simp [ho, Op.operands])).un hi
  rw [hxs] at h1
  rw [hin] at h2
  generalize hu : ev x = u at h1
  generalize hj : ev i = j at h2
  cases h2
  cases h1 with
  | sl0 => omega
  | sl1 => omega
  | sl _ _ _ _ c h hkd h0' hn' hm =>
    refine ⟨.pointer (some ⟨σ.blk id, n.toNat * k, none⟩), ?_, .ptr id _ h (by rw [hkd]; trivial)⟩
    unfold telem at ht
    split at ht
    · rename_i e' hue
      obtain ⟨inf, hinf, ht⟩ := Option.map_eq_some_iff.1 ht
      simp only [Prod.mk.injEq] at ht
      obtain ⟨rfl, rfl, rfl⟩ := ht
      have hsz : tsz P e' = some inf.size := by simp [tsz, hinf]
      simp only [execOp, ho, hu, hj, Instr.indexAt, asIntOf, Sem.run_bind, Sem.run_pure, Result.andThen_ok, run_underlying hue, h0, hn, and_self, if_true, run_sizeOf hsz, add_none, Nat.zero_add]
    · cases ht
theorem vop_indexArr {t : TypeId} {x i : Operand} {kk : IntKind} {n : Int} {m k : Nat} (ho : o.op = .indexAddr t x i) (hx : okv (ρ x)) (hi : okv (ρ i)) (hp : isP (un (ρ x))) (hin : un (ρ i) = .con (.int kk n))
    (ht : tarr P t = some (m, k)) (h0 : 0 ≤ n) (hn : n < m) : VOp P H o ρ (adv (un (ρ x)) (n.toNat * k)) := vop_same fun σ w ev hs hv => by
  have h1 := (hv x (by simp [ho, Op.operands])).un hx
  have h2 := (hv i (by simp [ho, Op.operands])).un hi
  rw [hin] at h2
  generalize hj : ev i = j at h2
  cases h2
  obtain ⟨b, o', e1, e2⟩ := h1.adv hp (n.toNat * k)
  refine ⟨_, ?_, e2⟩
  unfold tarr at ht
  split at ht
  · rename_i m' e' hue
    obtain ⟨k', hk', ht⟩ := Option.map_eq_some_iff.1 ht
    simp only [Prod.mk.injEq] at ht
    obtain ⟨rfl, rfl⟩ := ht
    simp only [execOp, ho, hj, e1, Instr.indexAt, asIntOf, Sem.run_bind, Sem.run_pure, Result.andThen_ok, run_underlying hue, Instr.sureAddr, h0, hn, and_self, if_true, run_sizeOf hk', add_none]
  · cases ht
theorem vop_index {t : TypeId} {x i : Operand} {s : ByteArray} {kk : IntKind} {n : Int} (ho : o.op = .index t x i) (hx : okv (ρ x)) (hi : okv (ρ i)) (hxs : un (ρ x) = .con (.string s)) (hin : un (ρ i) = .con (.int kk n))
    (ht : tkind P t = 2) (h0 : 0 ≤ n) (hn : n < s.size) : VOp P H o ρ (.con (.int .u8 (bt s n))) := vop_same fun σ w ev hs hv => by
  have h1 := (hv x (by simp [ho, Op.operands])).un hx
  have h2 := (hv i (by simp [ho, Op.operands])).un hi
  rw [hxs] at h1
  rw [hin] at h2
  generalize hu : ev x = u at h1
  generalize hj : ev i = j at h2
  cases h1; cases h2
  have hlt : n.toNat < s.size := by omega
  have hg : s[n.toNat]? = some s[n.toNat] := by simp [hlt]
  refine ⟨_, ?_, .con _⟩
  simp only [execOp, ho, hu, hj, Instr.index, asIntOf, Sem.run_bind, Sem.run_pure, Result.andThen_ok, run_underlying (tkind_string ht), h0, if_true, hg, bt, Option.map_some, Option.getD_some]
theorem vop_not {t : TypeId} {x : Operand} {b : Bool} (ho : o.op = .unOp .not t x) (hx : okv (ρ x)) (h : un (ρ x) = .con (.bool b)) : VOp P H o ρ (.con (.bool (!b))) := vop_same fun σ w ev hs hv => by
  have h1 := (hv x (by simp [ho, Op.operands])).un hx
  rw [h] at h1
  generalize hu : ev x = u at h1
  cases h1
  exact ⟨_, by simp [execOp, ho, hu, Op.unary], .con _⟩
theorem vop_neg {t : TypeId} {x : Operand} {k : IntKind} {n : Int} (ho : o.op = .unOp .neg t x) (hx : okv (ρ x)) (h : un (ρ x) = .con (.int k n)) : VOp P H o ρ (.con (.int k (k.wrap (0 - n)))) := vop_same fun σ w ev hs hv => by
  have h1 := (hv x (by simp [ho, Op.operands])).un hx
  rw [h] at h1
  generalize hu : ev x = u at h1
  cases h1
  exact ⟨_, by simp only [execOp, ho, hu, Op.unary, Op.intArith, Sem.run_bind, Sem.run_pure, Result.andThen_ok], .con _⟩
theorem vop_compl {t : TypeId} {x : Operand} {k : IntKind} {n : Int} (ho : o.op = .unOp .xor t x) (hx : okv (ρ x)) (h : un (ρ x) = .con (.int k n)) : VOp P H o ρ (.con (.int k (Go.bits .xor k (if k.signed then -1 else k.max) n))) := vop_same fun σ w ev hs hv => by
  have h1 := (hv x (by simp [ho, Op.operands])).un hx
  rw [h] at h1
  generalize hu : ev x = u at h1
  cases h1
  exact ⟨_, by simp only [execOp, ho, hu, Op.unary, intBits_xor, Sem.run_bind, Sem.run_pure, Result.andThen_ok], .con _⟩
theorem vop_makeFunc {f : Nat} {cap : Array Operand} (ho : o.op = .makeFunc (.func f) #[] cap) : VOp P H o ρ (.fn f (cap.toList.map ρ)) := vop_same fun σ w ev hs hv => by
  refine ⟨.func (.func f) #[] (cap.map ev), by simp [execOp, ho, Instr.makeFunc], .fn f _ _ (by simp) fun i hi => ?_⟩
  have hi' : i < cap.size := by simpa using hi
  simp [List.getD_eq_getElem?_getD, Array.getD_eq_getD_getElem?, hi']
  exact hv _ (by simp [ho, Op.operands])
theorem vop_extract {x : Operand} {j : Nat} {cs : List AV} (ho : o.op = .extract x j) (hx : okv (ρ x)) (h : un (ρ x) = .tup cs) (hj : j < cs.length) : VOp P H o ρ (cs.getD j .any) := vop_same fun σ w ev hs hv => by
  have h1 := (hv x (by simp [ho, Op.operands])).un hx
  rw [h] at h1
  generalize hu : ev x = u at h1
  cases h1 with
  | tup _ vs hs hvv =>
    have hlt : j < vs.size := by omega
    refine ⟨vs[j], by simp [execOp, ho, hu, Instr.extract, hlt], ?_⟩
    have := hvv j hj
    simpa [Array.getD_eq_getD_getElem?, hlt] using this
theorem vop_nilCheck {x : Operand} (ho : o.op = .nilCheck x) (hx : okv (ρ x)) (hp : isP (un (ρ x))) : VOp P H o ρ (un (ρ x)) := vop_same fun σ w ev hs hv => by
  have h1 := (hv x (by simp [ho, Op.operands])).un hx
  obtain ⟨b, o', e1, e2⟩ := h1.adv hp 0
  exact ⟨ev x, by simp only [execOp, ho, e1, Sem.run_pure], h1⟩
/-- the length of what is read -/
def lenA : AV → Prop × Int
  | .list xs _ => (True, xs.length)
  | .con (.string s) => (True, s.size)
  | .con (.slice none 0 0) => (True, 0)
  | .emp => (True, 0)
  | .sl _ n _ _ => (True, n)
  | .slc _ _ n _ _ _ => (True, n)
  | _ => (False, 0)
theorem vop_len {c : Call} {x : Operand} {t : TypeId} {ts : List TypeId} (ho : o.op = .call c) (hc : c.callee = .builtin .len) (ha : c.args = #[x]) (hat : c.argTypes = (t :: ts).toArray) (hx : okv (ρ x)) (ht : tkind P t = 2 ∨ tkind P t = 4)
    (hm : ∀ s, un (ρ x) = .con (.string s) → tkind P t = 2) (hm' : (∀ s, un (ρ x) ≠ .con (.string s)) → tkind P t = 4) (hl : (lenA (un (ρ x))).1) : VOp P H o ρ (.con (.int .i64 (lenA (un (ρ x))).2)) := vop_same fun σ w ev hs hv => by
  have h1 := (hv x (by simp [ho, Op.operands, Call.operands, hc, ha])).un hx
  have key : ∀ r : Int, (Builtin.len_ (t :: ts).toArray o.type #[ev x]).run P w = .ok (.int .i64 r) w → (execOp ev o).run P w = .ok (.value (.int .i64 r)) w := by
    intro r hr
    simp only [execOp, ho, resolve, hc, ha, hat, invoke, builtin, Sem.run_bind, Sem.run_pure, Result.andThen_ok, List.map_toArray, List.map_cons, List.map_nil, hr]
  generalize un (ρ x) = X at *
  generalize ev x = U at *
  have hsl : ∀ A n c, tkind P t = 4 → (Builtin.len_ (t :: ts).toArray o.type #[.slice A n c]).run P w = .ok (.int .i64 n) w := by
    intro A n c h4
    obtain ⟨e, hu⟩ := tkind_slice h4
    simp [Builtin.len_, run_underlying hu, goInt]
  cases X with
  | list xs tk =>
    have h4 := hm' (by simp)
    have h1' : VR σ w (.list xs none) U := by
      cases h1 with
      | nil => exact .nil
      | odd a => exact .odd a
      | list xs b o c k vs a1 a2 a3 a4 a5 => exact .list xs b o c k vs a1 a2 a3 a4 a5
      | tok _ _ _ h => exact h
    generalize hlx : AV.list xs none = l at h1'
    cases h1' with
    | nil => injection hlx with hlx; subst hlx; exact ⟨_, key _ (hsl _ _ _ h4), .con _⟩
    | odd => injection hlx with hlx; subst hlx; exact ⟨_, key _ (hsl _ _ _ h4), .con _⟩
    | list xs' => injection hlx with hlx; subst hlx; exact ⟨_, key _ (hsl _ _ _ h4), .con _⟩
    | _ => cases hlx
  | con u =>
    cases h1
    cases U with
    | string s =>
      have h2 := tkind_string (hm s rfl)
      exact ⟨_, key _ (by simp only [Builtin.len_, List.getElem?_toArray, List.getElem?_cons_zero, Sem.run_bind, run_underlying h2, goInt, Result.andThen_ok, Sem.run_pure]; rfl), .con _⟩
    | slice A n c =>
      have h4 := hm' (by simp)
      cases A with
      | none =>
        cases n with
        | zero => cases c with
          | zero => exact ⟨_, key _ (hsl _ _ _ h4), .con _⟩
          | succ c => exact hl.elim
        | succ n => exact hl.elim
      | some a => exact hl.elim
    | _ => exact hl.elim
  | emp => cases h1; exact ⟨_, key _ (hsl _ _ _ (hm' (by simp))), .con _⟩
  | sl => cases h1 <;> exact ⟨_, key _ (hsl _ _ _ (hm' (by simp))), .con _⟩
  | slc => cases h1 <;> exact ⟨_, key _ (hsl _ _ _ (hm' (by simp))), .con _⟩
  | _ => exact hl.elim
theorem vop_len2 {c : Call} {x : Operand} {t : TypeId} {ts : List TypeId} (ho : o.op = .call c) (hc : c.callee = .builtin .len) (ha : c.args = #[x]) (hat : c.argTypes = (t :: ts).toArray) (hx : okv (ρ x))
    (ht : if (match un (ρ x) with | .con (.string _) => true | _ => false) then tkind P t = 2 else tkind P t = 4) (hl : (lenA (un (ρ x))).1) : VOp P H o ρ (.con (.int .i64 (lenA (un (ρ x))).2)) := by
  refine vop_len ho hc ha hat hx ?_ ?_ ?_ hl
  · split at ht <;> first | exact .inl ht | exact .inr ht
  · intro s e; rw [e] at ht; simpa using ht
  · intro h
    generalize un (ρ x) = X at *
    cases X with
    | con v => cases v <;> first | exact absurd rfl (h _) | simpa using ht
    | _ => simpa using ht
theorem vop_conv {s d : TypeId} {x : Operand} {k k' : IntKind} {n : Int} (ho : o.op = .convert s d x) (hx : okv (ρ x)) (h : un (ρ x) = .con (.int k' n)) (hs : tint P s = some k') (hd : tint P d = some k) : VOp P H o ρ (.con (.int k (k.wrap n))) := vop_same fun σ w ev hsim hv => by
  have h1 := (hv x (by simp [ho, Op.operands])).un hx
  rw [h] at h1
  generalize hu : ev x = u at h1
  cases h1
  have f : ∀ {t k}, tint P t = some k → P.underlying t = some (.int k) := by
    intro t k h; unfold tint at h; split at h <;> first | (injection h with h; subst h; assumption) | cases h
  exact ⟨_, by simp only [execOp, ho, hu, convert, Sem.run_bind, run_underlying (f hs), run_underlying (f hd), Result.andThen_ok, Conv.intToInt, Sem.run_pure], .con _⟩
theorem vop_max {c : Call} {x y : Operand} {k : IntKind} {a b : Int} (ho : o.op = .call c) (hc : c.callee = .builtin .max) (ha : c.args = #[x, y]) (hx : okv (ρ x)) (hy : okv (ρ y)) (h1 : un (ρ x) = .con (.int k a)) (h2 : un (ρ y) = .con (.int k b)) :
    VOp P H o ρ (.con (.int k (max a b))) := vop_same fun σ w ev hs hv => by
  have g1 := (hv x (by simp [ho, Op.operands, Call.operands, hc, ha])).un hx
  have g2 := (hv y (by simp [ho, Op.operands, Call.operands, hc, ha])).un hy
  rw [h1] at g1; rw [h2] at g2
  generalize hu : ev x = u at g1
  generalize hv' : ev y = v at g2
  cases g1; cases g2
  refine ⟨.int k (max a b), ?_, .con _⟩
  have e : (if b > a then b else a) = max a b := by split <;> omega
  simp only [execOp, ho, resolve, hc, ha, invoke, builtin, Sem.run_bind, Sem.run_pure, Result.andThen_ok, List.map_toArray, List.map_cons, List.map_nil, Builtin.max_, hu, hv', List.foldlM_cons, List.foldlM_nil, Builtin.max2, e]
theorem vop_min {c : Call} {x y : Operand} {k : IntKind} {a b : Int} (ho : o.op = .call c) (hc : c.callee = .builtin .min) (ha : c.args = #[x, y]) (hx : okv (ρ x)) (hy : okv (ρ y)) (h1 : un (ρ x) = .con (.int k a)) (h2 : un (ρ y) = .con (.int k b)) :
    VOp P H o ρ (.con (.int k (min a b))) := vop_same fun σ w ev hs hv => by
  have g1 := (hv x (by simp [ho, Op.operands, Call.operands, hc, ha])).un hx
  have g2 := (hv y (by simp [ho, Op.operands, Call.operands, hc, ha])).un hy
  rw [h1] at g1; rw [h2] at g2
  generalize hu : ev x = u at g1
  generalize hv' : ev y = v at g2
  cases g1; cases g2
  refine ⟨.int k (min a b), ?_, .con _⟩
  have e : (if b < a then b else a) = min a b := by split <;> omega
  simp only [execOp, ho, resolve, hc, ha, invoke, builtin, Sem.run_bind, Sem.run_pure, Result.andThen_ok, List.map_toArray, List.map_cons, List.map_nil, Builtin.min_, hu, hv', List.foldlM_cons, List.foldlM_nil, Builtin.min2, e]
end Go.Proofs.YtababmnmkmgbbaaGreat.Fw
set_option linter.unusedVariables false
namespace Go.Proofs.YtababmnmkmgbbaaGreat.Fw
open Go.RowKit
variable {P : Program} {H : Hp} {o : Oper} {ρ : Operand → AV}

/-- A value that is written into cells. -/
def AV.put1 : AV → Bool
  | .agg cs => cs.all AV.one
  | x => x.one
theorem VR.cells {σ : G} {w : World} {x : AV} {v : Value} (h : VR σ w x v) (hx : x.put1 = true) : v.cells.size = x.cells.length ∧ (∀ i, i < x.cells.length → VR σ w (x.cells.getD i .any) (v.cells.getD i undef)) ∧ ∀ y ∈ x.cells, y.one = true := by
  have one : x.one = true → (∀ cs, x ≠ .agg cs) → v.cells.size = x.cells.length ∧ (∀ i, i < x.cells.length → VR σ w (x.cells.getD i .any) (v.cells.getD i undef)) ∧ ∀ y ∈ x.cells, y.one = true := by
    intro h1 h2
    have hv := h.one h1
    have e1 : v.cells = #[v] := by cases v <;> first | rfl | cases hv
    have e2 : x.cells = [x] := by cases x <;> first | rfl | exact absurd rfl (h2 _)
    rw [e1, e2]
    refine ⟨rfl, fun i hi => ?_, fun y hy => ?_⟩
    · obtain rfl : i = 0 := by simpa using hi
      simpa using h
    · rw [List.mem_singleton] at hy; rw [hy]; first | done | exact h1
  cases h with
  | agg cs vs hs hv =>
    refine ⟨hs, hv, fun y hy => ?_⟩
    exact List.all_eq_true.1 hx y hy
  | tup => cases hx
  | any => cases hx
  | opt => cases hx
  | con => exact one hx (by simp)
  | nil => exact one rfl (by simp)
  | odd => exact one rfl (by simp)
  | list => exact one rfl (by simp)
  | tok => exact one rfl (by simp)
  | ptr => exact one rfl (by simp)
  | ro => exact one rfl (by simp)
  | fn => exact one rfl (by simp)
  | emp => exact one rfl (by simp)
  | sl => exact one rfl (by simp)
  | sl0 => exact one rfl (by simp)
  | sl1 => exact one rfl (by simp)
  | slc => exact one rfl (by simp)
  | slc0 => exact one rfl (by simp)
  | mp => exact one rfl (by simp)
  | it => exact one rfl (by simp)
  | mv => exact one rfl (by simp)
  | mc => cases hx
  | nl => cases hx
  | cel => exact one rfl (by simp)

/-! Filling cells -/
def fillOne (cells : Array Value) (off : Nat) (vs : Array Value) : Array Value := vs.zipIdx.foldl (fun cs (c, j) => cs.setIfInBounds (off + j) c) cells
theorem fillOne_aux (off : Nat) : ∀ (l : List Value) (k : Nat) (cells : Array Value), off + k + l.length ≤ cells.size →
    ((l.zipIdx k).foldl (fun cs (c, j) => cs.setIfInBounds (off + j) c) cells).size = cells.size ∧
    ∀ i, ((l.zipIdx k).foldl (fun cs (c, j) => cs.setIfInBounds (off + j) c) cells).getD i undef = if off + k ≤ i ∧ i < off + k + l.length then l.getD (i - off - k) undef else cells.getD i undef := by
  intro l
  induction l with
  | nil => intro k cells h; refine ⟨rfl, fun i => ?_⟩; rw [if_neg (by simp)]; rfl
  | cons x l ih =>
    intro k cells h
    simp only [List.length_cons] at h
    obtain ⟨h1, h2⟩ := ih (k + 1) (cells.setIfInBounds (off + k) x) (by simp; omega)
    simp only [List.zipIdx_cons, List.foldl_cons]
    refine ⟨by rw [h1]; simp, fun i => ?_⟩
    rw [h2 i]
    by_cases he : i = off + k
    · subst he
      rw [if_neg (by omega), if_pos (by simp)]
      simp [Array.getD_eq_getD_getElem?, show off + k < cells.size by omega]
    · have hne : off + k ≠ i := fun e => he e.symm
      by_cases hin : off + (k + 1) ≤ i ∧ i < off + (k + 1) + l.length
      · rw [if_pos hin, if_pos (by simp; omega), show i - off - k = (i - off - (k + 1)) + 1 by omega]
        simp
      · rw [if_neg hin, if_neg (by simp; omega)]
        simp [Array.getD_eq_getD_getElem?, Array.getElem?_setIfInBounds_ne hne]
theorem fillOne_spec (cells vs : Array Value) (off : Nat) (h : off + vs.size ≤ cells.size) : (fillOne cells off vs).size = cells.size ∧
    ∀ i, (fillOne cells off vs).getD i undef = if off ≤ i ∧ i < off + vs.size then vs.getD (i - off) undef else cells.getD i undef := by
  have h' := fillOne_aux off vs.toList 0 cells (by simpa using h)
  have e : fillOne cells off vs = (vs.toList.zipIdx 0).foldl (fun cs (c, j) => cs.setIfInBounds (off + j) c) cells := by
    unfold fillOne
    rw [← Array.foldl_toList, Array.toList_zipIdx]
  rw [e]
  refine ⟨h'.1, fun i => ?_⟩
  rw [h'.2 i]
  simp [Array.getD_eq_getD_getElem?, List.getD_eq_getElem?_getD]

/-- Cells written over cells. -/
def over (cs : List AV) (off : Nat) (xs : List AV) : List AV := cs.take off ++ xs ++ cs.drop (off + xs.length)
theorem over_length {cs xs : List AV} {off : Nat} (h : off + xs.length ≤ cs.length) : (over cs off xs).length = cs.length := by simp [over]; omega
theorem over_get {cs xs : List AV} {off : Nat} (h : off + xs.length ≤ cs.length) (i : Nat) : (over cs off xs).getD i .any = if off ≤ i ∧ i < off + xs.length then xs.getD (i - off) .any else cs.getD i .any := by
  unfold over
  simp only [List.getD_eq_getElem?_getD]
  by_cases h1 : i < off
  · rw [if_neg (by omega), List.append_assoc, List.getElem?_append_left (by simp; omega), List.getElem?_take, if_pos h1]
  · by_cases h2 : i < off + xs.length
    · rw [if_pos (by omega), List.append_assoc, List.getElem?_append_right (by simp; omega), List.getElem?_append_left (by simp; omega)]
      simp [show min off cs.length = off by omega]
    · rw [if_neg (by omega), List.getElem?_append_right (by simp; omega), List.getElem?_drop]
      congr 2
      simp; omega
theorem VRs.over {σ : G} {w : World} {cs xs : List AV} {us vs : Array Value} {off : Nat} (h : VRs σ w cs us) (k : VRs σ w xs vs) (hl : off + xs.length ≤ cs.length) : VRs σ w (over cs off xs) (fillOne us off vs) := by
  obtain ⟨e1, e2⟩ := fillOne_spec us vs off (by rw [h.1, k.1]; exact hl)
  refine ⟨by rw [e1, over_length hl, h.1], fun i hi => ?_⟩
  rw [over_length hl] at hi
  rw [over_get hl, e2, k.1]
  split
  · rename_i hh; exact k.2 _ (by omega)
  · exact h.2 i hi
def places (P : Program) (t : TypeId) (i : Nat) : Option (Nat × Nat) :=
  match P.underlying t with
  | some (.struct fs) => (fs[i]?).bind fun f => (tsz P f.type).map fun k => (f.offset, k)
  | some (.array _ e) => (tsz P e).map fun k => (i * k, k)
  | _ => none
def fillA (pl : Nat → Option (Nat × Nat)) : List AV → List (Nat × AV) → Option (List AV)
  | cs, [] => some cs
  | cs, (i, x) :: r =>
    match pl i with
    | none => none
    | some (off, k) => if x.put1 = true ∧ x.cells.length = k ∧ off + k ≤ cs.length then fillA pl (over cs off x.cells) r else none
theorem fill_spec {σ : G} {w : World} {pl : Nat → Option (Nat × Nat)} : ∀ (ps : List (Nat × AV)) (vs : List (Nat × Value)) (cs cs' : List AV) (us : Array Value), VRs σ w cs us → ps.length = vs.length →
    (∀ i (h : i < ps.length) (h' : i < vs.length), ps[i].1 = vs[i].1 ∧ VR σ w ps[i].2 vs[i].2) → fillA pl cs ps = some cs' → ∃ us', Instr.fill pl us vs = some us' ∧ VRs σ w cs' us' := by
  intro ps
  induction ps with
  | nil =>
    intro vs cs cs' us h hl hv hf
    cases vs with
    | nil => simp only [fillA, Option.some.injEq] at hf; subst hf; exact ⟨us, rfl, h⟩
    | cons => cases hl
  | cons p ps ih =>
    intro vs cs cs' us h hl hv hf
    cases vs with
    | nil => cases hl
    | cons q vs =>
      obtain ⟨i, x⟩ := p
      obtain ⟨i', v⟩ := q
      have h0 := hv 0 (by simp) (by simp)
      simp only [List.getElem_cons_zero] at h0
      obtain ⟨rfl, hx⟩ := h0
      simp only [fillA] at hf
      cases hpl : pl i with
      | none => rw [hpl] at hf; cases hf
      | some ok =>
        obtain ⟨off, k⟩ := ok
        rw [hpl] at hf
        simp only at hf
        split at hf
        · rename_i hc
          obtain ⟨c1, c2, c3⟩ := hc
          obtain ⟨d1, d2, d3⟩ := hx.cells c1
          have hc' : VRs σ w x.cells v.cells := ⟨d1, d2⟩
          obtain ⟨us', e1, e2⟩ := ih vs (over cs off x.cells) cs' (fillOne us off v.cells) (h.over hc' (by omega)) (by simpa using hl) (fun j hj hj' => by have := hv (j + 1) (by simpa using hj) (by simpa using hj'); simpa using this) hf
          refine ⟨us', ?_, e2⟩
          simp only [Instr.fill, hpl]
          rw [if_neg (by rw [d1, c2, h.1]; simp; omega)]
          exact e1
        · cases hf
def tzero (P : Program) (t : TypeId) : Option (List AV) := ((P.info? t).bind (·.zero)).map fun v => v.cells.toList.map AV.con
theorem run_zero {P : Program} {t : TypeId} {cs : List AV} (h : tzero P t = some cs) (σ : G) (w : World) : ∃ v, (zeroValue t).run P w = .ok v w ∧ VRs σ w cs v.cells ∧ cs = v.cells.toList.map .con := by
  unfold tzero at h
  obtain ⟨v, hv, rfl⟩ := Option.map_eq_some_iff.1 h
  obtain ⟨i, hi, hz⟩ := Option.bind_eq_some_iff.1 hv
  refine ⟨v, by simp [zeroValue, typeInfo, hi, hz], ⟨by simp, fun j hj => ?_⟩, rfl⟩
  have hj' : j < v.cells.size := by simpa using hj
  simp [List.getD_eq_getElem?_getD, Array.getD_eq_getD_getElem?, hj']
  exact .con _
def tflds (P : Program) (t : TypeId) : Bool :=
  match P.underlying t with
  | some (.struct fs) => fs.toList.all fun f => (tsz P f.type).isSome
  | some (.array _ e) => (tsz P e).isSome
  | _ => false
theorem run_places {P : Program} {w : World} : ∀ fs : List Field, (fs.all fun f => (tsz P f.type).isSome) = true →
    (fs.mapM fun f => do pure (f.offset, ← sizeOf f.type) : Sem (List (Nat × Nat))).run P w = .ok (fs.map fun f => (f.offset, (tsz P f.type).getD 0)) w := by
  intro fs
  induction fs with
  | nil => intro _; rfl
  | cons f fs ih =>
    intro h
    simp only [List.all_cons, Bool.and_eq_true] at h
    obtain ⟨k, hk⟩ := Option.isSome_iff_exists.1 h.1
    have := ih h.2
    rw [List.mapM_cons]
    simp only [Sem.run_bind, run_sizeOf hk, Result.andThen_ok, Sem.run_pure, this, List.map_cons, hk, Option.getD_some]
theorem vop_build {t : TypeId} {parts : Array (Nat × Operand)} {z cs : List AV} (ho : o.op = .build t parts) (hz : tzero P t = some z) (hp : ∀ p ∈ parts.toList, okv (ρ p.2)) (hk : tflds P t = true)
    (hf : fillA (places P t) z (parts.toList.map fun p => (p.1, un (ρ p.2))) = some cs) : VOp P H o ρ (.agg cs) := vop_same fun σ w ev hs hv => by
  obtain ⟨zv, z1, z2, z3⟩ := run_zero hz σ w
  have hvp : ∀ p ∈ parts.toList, VR σ w (un (ρ p.2)) (ev p.2) := fun p hpm =>
    (hv p.2 (by simp only [ho, Op.operands, List.mem_toArray]; exact List.mem_map_of_mem hpm)).un (hp p hpm)
  obtain ⟨us, f1, f2⟩ := fill_spec (σ := σ) (w := w) (parts.toList.map fun p => (p.1, un (ρ p.2))) (parts.toList.map fun p => (p.1, ev p.2)) z cs zv.cells z2 (by simp) (fun i h h' => by
    simp only [List.getElem_map, true_and]
    exact hvp _ (List.getElem_mem _)) hf
  refine ⟨.agg us, ?_, .agg _ _ f2.1 f2.2⟩
  have e0 : (parts.map fun x => (x.1, ev x.2)).toList = parts.toList.map fun p => (p.1, ev p.2) := by simp
  unfold tflds at hk
  split at hk
  · rename_i fs hu
    have hr := run_places (P := P) (w := w) fs.toList hk
    have hr' : (fs.mapM fun f => do pure (f.offset, ← sizeOf f.type) : Sem (Array (Nat × Nat))).run P w = .ok (fs.toList.map fun f => (f.offset, (tsz P f.type).getD 0)).toArray w := by
      have : fs = fs.toList.toArray := rfl
      rw [this, List.mapM_toArray]
      simp only [map_eq_pure_bind, Sem.run_bind, hr, Result.andThen_ok, Sem.run_pure]
    have hpl : (fun i => ((fs.toList.map fun f => (f.offset, (tsz P f.type).getD 0)).toArray[i]? : Option (Nat × Nat))) = places P t := by
      funext i
      simp only [places, hu, List.getElem?_toArray, List.getElem?_map, Array.getElem?_toList]
      cases hfi : fs[i]? with
      | none => rfl
      | some f =>
        have hm : f ∈ fs.toList := Array.mem_toList_iff.2 (Array.mem_of_getElem? hfi)
        have := List.all_eq_true.1 hk f hm
        obtain ⟨k, hk'⟩ := Option.isSome_iff_exists.1 this
        simp [hk']
    simp only [execOp, ho, Instr.build, Sem.run_bind, z1, Result.andThen_ok, run_underlying hu, hr', hpl, e0, f1, Sem.run_pure]
  · rename_i n e hu
    obtain ⟨k, hk'⟩ := Option.isSome_iff_exists.1 hk
    have hpl : (fun i => some (i * k, k)) = places P t := by
      funext i
      simp [places, hu, hk']
    simp only [execOp, ho, Instr.build, Sem.run_bind, z1, Result.andThen_ok, run_underlying hu, run_sizeOf hk', hpl, e0, f1, Sem.run_pure]
  · cases hk
end Go.Proofs.YtababmnmkmgbbaaGreat.Fw
set_option linter.unusedVariables false
namespace Go.Proofs.YtababmnmkmgbbaaGreat.Fw
open Go.RowKit
variable {P : Program} {H : Hp} {o : Oper} {ρ : Operand → AV}

theorem VR.plain {σ : G} {w : World} {xs : List AV} {t : Option Nat} {v : Value} (h : VR σ w (.list xs t) v) : VR σ w (.list xs none) v := AV.le_list xs t σ w v h
/-- What a list's slice is. -/
theorem VR.list_inv {σ : G} {w : World} {xs : List AV} {t : Option Nat} {v : Value} (h : VR σ w (.list xs t) v) : (xs = [] ∧ ∃ A, v = .slice A 0 0) ∨
    ∃ b o c k, ∃ vs : Nat → Value, v = .slice (some ⟨b, o, none⟩) xs.length c ∧ xs.length ≤ c ∧ c ≤ maxLen ∧ (∀ x ∈ xs, x.fits k) ∧
      (∀ j, j < xs.length * k → σ.fz b (o + j) ∧ w.cell? ⟨b, o + j, none⟩ = some (vs j)) ∧ ∀ i j, i < xs.length → j < k → VR σ w ((xs.getD i .any).cells.getD j .any) (vs (i * k + j)) := by
  have h' := h.plain
  generalize hl : AV.list xs none = l at h'
  cases h' with
  | nil => injection hl with hl; exact .inl ⟨hl, _, rfl⟩
  | odd => injection hl with hl; exact .inl ⟨hl, _, rfl⟩
  | list xs' b o c k vs a1 a2 a3 a4 a5 => injection hl with hl; subst hl; exact .inr ⟨b, o, c, k, vs, rfl, a1, a2, a3, a4, a5⟩
  | _ => cases hl

/-- New cells that are never written again, read as a list. -/
theorem vr_new {σ : G} {H : Hp} {w : World} (hs : Sim σ H w) (xs : List AV) (k : Nat) (cur : Array Value) (e c : Nat) (fr : Nat × Nat) (hc : xs.length ≤ c) (hm : c ≤ maxLen) (hk : ∀ x ∈ xs, x.fits k)
    (hsz : xs.length * k ≤ cur.size) (hv : ∀ i j, i < xs.length → j < k → VR σ w ((xs.getD i .any).cells.getD j .any) (cur.getD (i * k + j) undef)) :
    VR (σ.froze w.heap.size (xs.length * k)) (w.alloc (.cells cur e fr)) (.list xs none) (.slice (some ⟨w.heap.size, 0, none⟩) xs.length c) := by
  have hE := ext_alloc hs (.cells cur e fr) (xs.length * k)
  refine .list xs w.heap.size 0 c k (fun j => cur.getD j undef) hc hm hk (fun j hj => ⟨.inr ⟨rfl, by omega⟩, ?_⟩) fun i j hi hj => (hv i j hi hj).mono hE
  have := heap_alloc_new w (.cells cur e fr)
  simp only [World.cell?, this, Nat.zero_add, Option.isSome_none, Bool.false_eq_true, if_false, Array.getD_eq_getD_getElem?, Array.getElem?_eq_getElem (show j < cur.size by omega), Option.getD_some]

theorem fits_of {k : Nat} {x : AV} (h1 : x.put1 = true) (h2 : x.cells.length = k) : x.fits k := by
  refine ⟨h2, fun y hy => ?_⟩
  cases x with
  | agg cs => exact List.all_eq_true.1 h1 y hy
  | any => cases h1
  | tup => cases h1
  | opt => cases h1
  | _ => simp only [AV.cells, List.mem_singleton] at hy; rw [hy]; exact h1
/-- The cells of a row of elements. -/
theorem fill_row {σ : G} {w : World} (k : Nat) : ∀ (xs : List AV) (vs : List Value) (m : Nat) (us : Array Value), xs.length = vs.length → (∀ i (h : i < xs.length) (h' : i < vs.length), xs[i].put1 = true ∧ xs[i].cells.length = k ∧ VR σ w xs[i] vs[i]) →
    (m + xs.length) * k ≤ us.size → ∃ us', Instr.fill (fun i => some (i * k, k)) us ((vs.zipIdx m).map fun p => (p.2, p.1)) = some us' ∧ us'.size = us.size ∧
      (∀ i, i < m * k → us'.getD i undef = us.getD i undef) ∧ ∀ i j, i < xs.length → j < k → VR σ w ((xs.getD i .any).cells.getD j .any) (us'.getD ((m + i) * k + j) undef) := by
  intro xs
  induction xs with
  | nil =>
    intro vs m us hl hv hb
    cases vs with
    | nil => exact ⟨us, rfl, rfl, fun _ _ => rfl, fun i j hi => absurd hi (Nat.not_lt_zero _)⟩
    | cons => cases hl
  | cons x xs ih =>
    intro vs m us hl hv hb
    cases vs with
    | nil => cases hl
    | cons v vs =>
      have h0 := hv 0 (by simp) (by simp)
      simp only [List.getElem_cons_zero] at h0
      obtain ⟨c1, c2, c3⟩ := h0
      obtain ⟨d1, d2, d3⟩ := c3.cells c1
      simp only [List.length_cons] at hb
      have hb0 : m * k + k ≤ us.size := by
        have := Nat.mul_le_mul_right k (show m + 1 ≤ m + (xs.length + 1) by omega)
        rw [Nat.add_mul, Nat.one_mul] at this; omega
      obtain ⟨e1, e2⟩ := fillOne_spec us v.cells (m * k) (by rw [d1, c2]; exact hb0)
      obtain ⟨us', f1, f2, f3, f4⟩ := ih vs (m + 1) (fillOne us (m * k) v.cells) (by simpa using hl) (fun i h h' => by have := hv (i + 1) (by simpa using h) (by simpa using h'); simpa using this)
        (by rw [e1, show m + 1 + xs.length = m + (xs.length + 1) by omega]; exact hb)
      refine ⟨us', ?_, by rw [f2, e1], fun i hi => ?_, fun i j hi hj => ?_⟩
      · simp only [List.zipIdx_cons, List.map_cons, Instr.fill]
        rw [if_neg (by rw [d1, c2]; simp; omega)]
        exact f1
      · rw [f3 i (by rw [Nat.add_mul, Nat.one_mul]; omega), e2 i, if_neg (by omega)]
      · cases i with
        | zero =>
          rw [Nat.add_zero, f3 (m * k + j) (by rw [Nat.add_mul, Nat.one_mul]; omega), e2, if_pos (by rw [d1, c2]; omega)]
          have := d2 j (by omega)
          simpa [show m * k + j - m * k = j by omega] using this
        | succ i =>
          have := f4 i j (by simpa using hi) hj
          rw [show m + (i + 1) = m + 1 + i by omega]
          simpa using this
def seqParts : Nat → List (Nat × Operand) → Bool
  | _, [] => true
  | m, (i, _) :: r => i == m && seqParts (m + 1) r
theorem seqParts_eq (ev : Operand → Value) : ∀ (l : List (Nat × Operand)) (m : Nat), seqParts m l = true → (l.map fun p => (p.1, ev p.2)) = ((l.map fun p => ev p.2).zipIdx m).map fun p => (p.2, p.1) := by
  intro l
  induction l with
  | nil => intro m _; rfl
  | cons p l ih =>
    intro m h
    obtain ⟨i, x⟩ := p
    simp only [seqParts, Bool.and_eq_true, beq_iff_eq] at h
    obtain ⟨rfl, h⟩ := h
    simp [ih _ h]
theorem run_buildSlice {σ : G} {w : World} (hs : Sim σ H w) {t e k bb n : Nat} {parts : Array (Nat × Operand)} {z : List AV} {ev : Operand → Value} (ht : telem P t = some (e, k, bb)) (hz : tzero P e = some z) (hzk : z.length = k)
    (hn : parts.toList.length = n) (hq : seqParts 0 parts.toList = true) (hlim : n * k ≤ 16777216)
    (hv : ∀ p ∈ parts.toList, VR σ w (un (ρ p.2)) (ev p.2)) (h1 : ∀ p ∈ parts.toList, (un (ρ p.2)).put1 = true ∧ (un (ρ p.2)).cells.length = k) :
    ∃ cur : Array Value, (Instr.buildSlice t n (parts.map fun (i, x) => (i, ev x))).run P w = .ok (.slice (some ⟨w.heap.size, 0, none⟩) n n) (w.alloc (.cells cur e)) ∧ cur.size = n * k ∧
      ∀ i j, i < n → j < k → VR σ w (((parts.toList.map fun p => un (ρ p.2)).getD i .any).cells.getD j .any) (cur.getD (i * k + j) undef) := by
  obtain ⟨zv, z1, z2, z3⟩ := run_zero hz σ w
  have hzs : zv.cells.size = k := by rw [z2.1, hzk]
  unfold telem at ht
  split at ht
  · rename_i e' hue
    obtain ⟨inf, hinf, ht⟩ := Option.map_eq_some_iff.1 ht
    simp only [Prod.mk.injEq] at ht
    obtain ⟨rfl, rfl, rfl⟩ := ht
    have hsz : tsz P e' = some inf.size := by simp [tsz, hinf]
    have e0 : (parts.map fun x => (x.1, ev x.2)).toList = ((parts.toList.map fun p => ev p.2).zipIdx 0).map fun p => (p.2, p.1) := by
      rw [Array.toList_map]; exact seqParts_eq ev _ _ hq
    have hlim' : ¬ n * inf.size > 2 ^ 24 := by omega
    have go : ∀ us0 : Array Value, us0.size = n * inf.size → ∃ cur, Instr.fill (fun i => some (i * inf.size, inf.size)) us0 ((parts.map fun x => (x.1, ev x.2)).toList) = some cur ∧ cur.size = n * inf.size ∧
        ∀ i j, i < n → j < inf.size → VR σ w (((parts.toList.map fun p => un (ρ p.2)).getD i .any).cells.getD j .any) (cur.getD (i * inf.size + j) undef) := by
      intro us0 hu0
      obtain ⟨cur, f1, f2, f3, f4⟩ := fill_row (σ := σ) (w := w) inf.size (parts.toList.map fun p => un (ρ p.2)) (parts.toList.map fun p => ev p.2) 0 us0 (by simp)
        (fun i h h' => by
          simp only [List.getElem_map]
          have hm := List.getElem_mem (l := parts.toList) (n := i) (by simpa using h)
          exact ⟨(h1 _ hm).1, (h1 _ hm).2, hv _ hm⟩) (by rw [hu0, List.length_map, hn]; simp)
      rw [← e0] at f1
      refine ⟨cur, f1, by rw [f2, hu0], fun i j hi hj => ?_⟩
      have := f4 i j (by rw [List.length_map, hn]; exact hi) hj
      simpa using this
    by_cases h0 : n * inf.size = 0
    · obtain ⟨cur, g1, g2, g3⟩ := go #[] (by simp [h0])
      refine ⟨cur, ?_, g2, g3⟩
      have g1' : Instr.fill (fun i => some (i * inf.size, inf.size)) ((Array.range (n * inf.size)).map ((#[] : Array Value)[· % (#[] : Array Value).size]!)) ((parts.map fun x => (x.1, ev x.2)).toList) = some cur := by
        rw [show (Array.range (n * inf.size)).map ((#[] : Array Value)[· % (#[] : Array Value).size]!) = #[] by rw [h0]; simp]; exact g1
      rw [h0] at g1'
      have hz0 : ¬ (0 : Nat) > 2 ^ 24 := by omega
      simp only [Instr.buildSlice, Sem.run_bind, run_underlying hue, Result.andThen_ok, run_sizeOf hsz, Sem.run_pure, h0, hz0, if_false, if_true, g1', newRow, newObj, Sem.run]
      rfl
    · obtain ⟨cur, g1, g2, g3⟩ := go ((Array.range (n * inf.size)).map (zv.cells[· % zv.cells.size]!)) (by simp)
      refine ⟨cur, ?_, g2, g3⟩
      simp only [Instr.buildSlice, Sem.run_bind, run_underlying hue, Result.andThen_ok, run_sizeOf hsz, hlim', if_false, Sem.run_pure, h0, z1, g1, newRow, newObj, Sem.run]
      rfl
  · cases ht
theorem vop_buildSlice {t e k bb n : Nat} {parts : Array (Nat × Operand)} {z : List AV} (ho : o.op = .buildSlice t n parts) (ht : telem P t = some (e, k, bb)) (hz : tzero P e = some z) (hzk : z.length = k)
    (hn : parts.toList.length = n) (hq : seqParts 0 parts.toList = true) (hlim : n * k ≤ 16777216) (hk : k ≠ 0)
    (hp : ∀ p ∈ parts.toList, okv (ρ p.2)) (h1 : ∀ p ∈ parts.toList, (un (ρ p.2)).put1 = true ∧ (un (ρ p.2)).cells.length = k) :
    VOp P H o ρ (.list (parts.toList.map fun p => un (ρ p.2)) none) := vop_run fun σ w ev hs hv => by
  have hvp : ∀ p ∈ parts.toList, VR σ w (un (ρ p.2)) (ev p.2) := fun p hpm =>
    (hv p.2 (by simp only [ho, Op.operands, List.mem_toArray]; exact List.mem_map_of_mem hpm)).un (hp p hpm)
  obtain ⟨cur, r1, r2, r3⟩ := run_buildSlice (P := P) hs ht hz hzk hn hq hlim hvp h1
  have hl : (parts.toList.map fun p => un (ρ p.2)).length = n := by simp [hn]
  · refine ⟨.slice (some ⟨w.heap.size, 0, none⟩) n n, _, _, ?_, ext_alloc hs (.cells cur e) (n * k), sim_alloc hs _ _, ?_⟩
    · simp only [execOp, ho, Sem.run_bind, r1, Result.andThen_ok, Sem.run_pure]
    · have := vr_new hs (parts.toList.map fun p => un (ρ p.2)) k cur e n (0, 0) (by omega)
        (by have := Nat.le_mul_of_pos_right n (show 0 < k by omega); simp only [maxLen]; omega)
        (fun x hx => by
          obtain ⟨p, hp, rfl⟩ := List.mem_map.1 hx
          exact fits_of (h1 p hp).1 (h1 p hp).2) (by rw [hl, r2]; omega) (fun i j hi hj => r3 i j (by omega) hj)
      rw [hl] at this
      exact this
theorem vop_buildSlice0 {t e k bb : Nat} {parts : Array (Nat × Operand)} {z : List AV} (ho : o.op = .buildSlice t 0 parts) (ht : telem P t = some (e, k, bb)) (hz : tzero P e = some z) (hzk : z.length = k) (hn : parts.toList = []) :
    VOp P H o ρ .emp := vop_run fun σ w ev hs hv => by
  obtain ⟨cur, r1, r2, r3⟩ := run_buildSlice (P := P) (ρ := ρ) (n := 0) (parts := parts) (ev := ev) hs ht hz hzk (by rw [hn]; rfl) (by rw [hn]; rfl) (by simp) (by rw [hn]; intro p hp; cases hp) (by rw [hn]; intro p hp; cases hp)
  refine ⟨.slice (some ⟨w.heap.size, 0, none⟩) 0 0, _, _, ?_, ext_alloc hs (.cells cur e) 0, sim_alloc hs _ _, .emp _ _⟩
  simp only [execOp, ho, Sem.run_bind, r1, Result.andThen_ok, Sem.run_pure]
end Go.Proofs.YtababmnmkmgbbaaGreat.Fw
set_option linter.unusedVariables false
namespace Go.Proofs.YtababmnmkmgbbaaGreat.Fw
open Go.RowKit
variable {P : Program} {o : Oper} {s : St} {K : St → Prop}

/-! Variables in memory -/
def G.boxed (σ : G) (B : Nat) (k : Kd := .var) : G := { σ with next := σ.next + 1, blk := fun i => if i = σ.next then B else σ.blk i, kd := fun i => if i = σ.next then k else σ.kd i }
theorem fresh_id {σ : G} {H : Hp} {w : World} (hs : Sim σ H w) : H.box σ.next = none ∧ H.tok σ.next = none := by
  constructor
  · cases h : H.box σ.next with
    | none => rfl
    | some c => have := (hs.bx _ _ h).1; omega
  · cases h : H.tok σ.next with
    | none => rfl
    | some c => obtain ⟨n, e, k⟩ := c; have := (hs.tk _ _ _ _ h).1; omega
theorem ext_box {σ : G} {H : Hp} {w : World} (hs : Sim σ H w) (ob : Obj) (k : Kd := .var) : Ext σ w (σ.boxed w.heap.size k) (w.alloc ob) :=
  ⟨rfl, ⟨(Below.refl _ _).alloc hs.base ob, Nat.le_refl _⟩, Nat.le_succ _, fun _ _ h => h, fun b o' h => .block (Below.heap_alloc w ob b (hs.fzlt b o' h)), fun i hi => by simp only [G.boxed]; rw [if_neg (by omega), if_neg (by omega)]; exact ⟨rfl, rfl⟩,
    fun t _ m hm => ⟨m, hm, Nat.le_refl _, fun _ => ⟨rfl, rfl⟩⟩⟩
theorem sim_boxk {σ : G} {H : Hp} {w : World} (hs : Sim σ H w) {cs : List AV} {cur : Array Value} (e : Nat) (k : Kd) (ob : Obj) (hob : HasObj (some ob) k cur e) (hc : cs.length ≤ cur.size ∧ ∀ i, i < cs.length → VR σ w (cs.getD i .any) (cur.getD i undef)) : Sim (σ.boxed w.heap.size k) ⟨(σ.next, cs) :: H.bx, H.tk⟩ (w.alloc ob) := by
  have hE := ext_box hs ob k
  have hlook : ∀ id c, (⟨(σ.next, cs) :: H.bx, H.tk⟩ : Hp).box id = some c → (id = σ.next ∧ c = cs) ∨ (id ≠ σ.next ∧ H.box id = some c) := by
    intro id c h
    simp only [Hp.box, List.lookup_cons] at h
    by_cases he : id = σ.next
    · subst he; simp at h; exact .inl ⟨rfl, h.symm⟩
    · rw [show (id == σ.next) = false by simpa using he] at h; exact .inr ⟨he, h⟩
  have hblk : ∀ id c, H.box id = some c → (σ.boxed w.heap.size k).blk id = σ.blk id ∧ σ.blk id < w.heap.size ∧ (σ.boxed w.heap.size k).kd id = σ.kd id := by
    intro id c h
    obtain ⟨h1, _, _, cur, e, h4, _⟩ := hs.bx id c h
    exact ⟨by simp only [G.boxed]; rw [if_neg (by omega)], h4.lt, by simp only [G.boxed]; rw [if_neg (by omega)]⟩
  have hkn : (σ.boxed w.heap.size k).kd σ.next = k := by simp [G.boxed]
  have hnew : (σ.boxed w.heap.size k).blk σ.next = w.heap.size := by simp [G.boxed]
  refine ⟨by have := hs.base; simp [G.boxed]; omega, fun b o' h => by have := hs.fzlt b o' h; simp; omega, hs.tok, ?_, ?_, ?_, ?_, ?_⟩
  · intro id c h
    rcases hlook id c h with ⟨rfl, rfl⟩ | ⟨hne, h⟩
    · refine ⟨by simp [G.boxed], by rw [hnew]; exact hs.base, fun o' hf => ?_, cur, e, by rw [hnew, hkn, heap_alloc_new w _]; exact hob, hc.1, fun i hi => (hc.2 i hi).mono hE⟩
      have := hs.fzlt _ _ hf
      rw [hnew] at this; omega
    · obtain ⟨h1, h2, h3, cur', e', h4, h5, h6⟩ := hs.bx id c h
      obtain ⟨g1, g2, g3⟩ := hblk id c h
      rw [g1, g3]
      exact ⟨Nat.lt_succ_of_lt h1, h2, h3, cur', e', by rw [Below.heap_alloc _ _ _ g2]; exact h4, h5, fun i hi => (h6 i hi).mono hE⟩
  · intro t n e' k ht
    obtain ⟨h1, xs, h2, h3⟩ := hs.tk t n e' k ht
    exact ⟨Nat.lt_succ_of_lt h1, xs, h2.alloc _, h3⟩
  · intro i j c d hi hj hne
    rcases hlook i c hi with ⟨rfl, rfl⟩ | ⟨hi', hi2⟩
    · rcases hlook j d hj with ⟨rfl, rfl⟩ | ⟨hj', hj2⟩
      · exact absurd rfl hne
      · obtain ⟨g1, g2, _⟩ := hblk j d hj2; rw [hnew, g1]; omega
    · rcases hlook j d hj with ⟨rfl, rfl⟩ | ⟨hj', hj2⟩
      · obtain ⟨g1, g2, _⟩ := hblk i c hi2; rw [hnew, g1]; omega
      · rw [(hblk i c hi2).1, (hblk j d hj2).1]; exact hs.bxbx i j c d hi2 hj2 hne
  · intro i t c n hi ht
    obtain ⟨n, e', k⟩ := n
    rcases hlook i c hi with ⟨rfl, rfl⟩ | ⟨hi', hi⟩
    · intro hb
      rw [hnew] at hb
      have := (owned_blk hs ht hb).2
      omega
    · rw [(hblk i c hi).1]; exact hs.bxtk i t c _ hi ht
  · exact hs.tktk
theorem sim_box' {σ : G} {H : Hp} {w : World} (hs : Sim σ H w) {cs : List AV} {cur : Array Value} (e : Nat) (hc : cs.length ≤ cur.size ∧ ∀ i, i < cs.length → VR σ w (cs.getD i .any) (cur.getD i undef)) : Sim (σ.boxed w.heap.size) ⟨(σ.next, cs) :: H.bx, H.tk⟩ (w.alloc (.cells cur e)) :=
  sim_boxk hs e .var _ rfl hc
theorem sim_box {σ : G} {H : Hp} {w : World} (hs : Sim σ H w) {cs : List AV} {cur : Array Value} (e : Nat) (hc : VRs σ w cs cur) : Sim (σ.boxed w.heap.size) ⟨(σ.next, cs) :: H.bx, H.tk⟩ (w.alloc (.cells cur e)) :=
  sim_box' hs e ⟨Nat.le_of_eq hc.1.symm, hc.2⟩
theorem run_newVar {P : Program} {t : TypeId} {v : Value} (w : World) : (newVar t v).run P w = .ok ⟨w.heap.size, 0, none⟩ (w.alloc (.cells v.cells t)) := by
  simp only [newVar, newRow, newObj, Sem.run_bind, Sem.run]
  rfl
theorem sop_alloc {t : TypeId} {d : Nat} {z : List AV} (ho : o.op = .alloc t) (hz : tzero P t = some z) (hd : o.dst = some d) (hn : d < s.n)
    (h : ∀ id, s.h.box id = none → s.h.tok id = none → K ⟨s.n, (d, .ptr id 0) :: s.t, ⟨(id, z) :: s.h.bx, s.h.tk⟩⟩) : SOp P o s K := by
  intro σ w a hs hl KK Q hK
  obtain ⟨zv, z1, z2, z3⟩ := run_zero hz σ w
  have hE := ext_box hs (.cells zv.cells t)
  unfold Oper.wp
  simp only [execOp, ho, Instr.alloc, Sem.run_bind, z1, Result.andThen_ok, run_newVar, Sem.run_pure, Oper.upon]
  refine hK _ (σ.boxed w.heap.size) _ _ (h σ.next (fresh_id hs).1 (fresh_id hs).2) hE (sim_box hs t z2) ?_
  have hl' : Sl (σ.boxed w.heap.size) (w.alloc (.cells zv.cells t)) (⟨s.n, s.t, ⟨(σ.next, z) :: s.h.bx, s.h.tk⟩⟩ : St) a := ⟨hl.size, fun d => (hl.v d).mono hE, hl.defers⟩
  rw [hd]
  refine hl'.put hn ?_
  have := VR.ptr (σ := σ.boxed w.heap.size) (w := w.alloc (.cells zv.cells t)) σ.next 0 (by simp [G.boxed]) (by simp [G.boxed, Kd.plain])
  rwa [show (σ.boxed w.heap.size).blk σ.next = w.heap.size by simp [G.boxed]] at this
theorem sop_box {t : TypeId} {d : Nat} {x : Operand} (ho : o.op = .box t x) (hx : okv (s.ev x)) (hp : (un (s.ev x)).put1 = true) (hd : o.dst = some d) (hn : d < s.n)
    (h : ∀ id, s.h.box id = none → s.h.tok id = none → K ⟨s.n, (d, .ptr id 0) :: s.t, ⟨(id, (un (s.ev x)).cells) :: s.h.bx, s.h.tk⟩⟩) : SOp P o s K := by
  intro σ w a hs hl KK Q hK
  have hv := (hl.ev x).un hx
  obtain ⟨d1, d2, d3⟩ := hv.cells hp
  have hE := ext_box hs (.cells (a.eval x).cells t)
  unfold Oper.wp
  simp only [execOp, ho, Instr.box, Sem.run_bind, run_newVar, Result.andThen_ok, Sem.run_pure, Oper.upon]
  refine hK _ (σ.boxed w.heap.size) _ _ (h σ.next (fresh_id hs).1 (fresh_id hs).2) hE (sim_box hs t ⟨d1, d2⟩) ?_
  have hl' : Sl (σ.boxed w.heap.size) (w.alloc (.cells (a.eval x).cells t)) (⟨s.n, s.t, ⟨(σ.next, (un (s.ev x)).cells) :: s.h.bx, s.h.tk⟩⟩ : St) a := ⟨hl.size, fun d => (hl.v d).mono hE, hl.defers⟩
  rw [hd]
  refine hl'.put hn ?_
  have := VR.ptr (σ := σ.boxed w.heap.size) (w := w.alloc (.cells (a.eval x).cells t)) σ.next 0 (by simp [G.boxed]) (by simp [G.boxed, Kd.plain])
  rwa [show (σ.boxed w.heap.size).blk σ.next = w.heap.size by simp [G.boxed]] at this

/-- A variable's cells are turned. -/
def updB (l : List (Nat × List AV)) (id : Nat) (f : List AV → List AV) : List (Nat × List AV) :=
  match l with
  | [] => []
  | (i, c) :: r => if i = id then (i, f c) :: r else (i, c) :: updB r id f
theorem lookup_updB (l : List (Nat × List AV)) (id j : Nat) (f : List AV → List AV) : (updB l id f).lookup j = if j = id then (l.lookup j).map f else l.lookup j := by
  induction l with
  | nil => simp [updB]
  | cons p r ih =>
    obtain ⟨i, c⟩ := p
    simp only [updB]
    by_cases hi : i = id
    · subst hi
      rw [if_pos rfl]
      by_cases hj : j = i
      · subst hj; simp
      · simp [List.lookup_cons, show (j == i) = false by simpa using hj, hj]
    · rw [if_neg hi]
      by_cases hj : j = i
      · subst hj; simp [hi]
      · simp [List.lookup_cons, show (j == i) = false by simpa using hj, ih]
def Hp.upd (H : Hp) (id : Nat) (f : List AV → List AV) : Hp := ⟨updB H.bx id f, H.tk⟩
theorem run_storeCells {w : World} {b e off : Nat} {cur vs : Array Value} (hb : w.heap[b]? = some (.cells cur e (0, 0))) (hl : off + vs.size ≤ cur.size) (h1 : ∀ v ∈ vs.toList, v.oneCell' = true) :
    ∃ cur', (storeCells ⟨b, off, none⟩ vs.toList).run P w = .ok () (w.setRow b cur') ∧ cur'.size = cur.size ∧ ∀ i, cur'.getD i undef = if off ≤ i ∧ i < off + vs.size then vs.getD (i - off) undef else cur.getD i undef := by
  have hr := run_storeCells_at P b off e vs.toList 0 cur w hb (by simpa using hl) h1
  refine ⟨_, hr, ?_, fun i => ?_⟩
  · simp; omega
  · simp only [Nat.add_zero, Array.getD_eq_getD_getElem?, List.getElem?_toArray, Array.length_toList]
    by_cases c1 : i < off
    · rw [if_neg (by omega), List.append_assoc, List.getElem?_append_left (by simp; omega), List.getElem?_take, if_pos c1]; simp
    · by_cases c2 : i < off + vs.size
      · rw [if_pos (by omega), List.append_assoc, List.getElem?_append_right (by simp; omega), List.getElem?_append_left (by simp; omega)]
        simp [show min off cur.size = off by omega]
      · rw [if_neg (by omega), List.getElem?_append_right (by simp; omega), List.getElem?_drop]
        congr 1
        simp
        congr 1
        omega
theorem size_setRow (w : World) (b : Nat) (c : Array Value) : (w.setRow b c).heap.size = w.heap.size := by simp [World.setRow]
theorem sop_store {t : TypeId} {x y : Operand} {id off k : Nat} {c : List AV} (ho : o.op = .store t x y) (hx : okv (s.ev x)) (hy : okv (s.ev y)) (hxp : un (s.ev x) = .ptr id off) (hb : s.h.box id = some c)
    (hp : (un (s.ev y)).put1 = true) (hk : tsz P t = some k) (hkc : (un (s.ev y)).cells.length = k) (hl : off + k ≤ c.length) (hd : o.dst = none)
    (h : K ⟨s.n, s.t, s.h.upd id fun c => over c off (un (s.ev y)).cells⟩) : SOp P o s K := by
  intro σ w a hs hsl KK Q hK
  have hv1 := (hsl.ev x).un hx
  have hv2 := (hsl.ev y).un hy
  rw [hxp] at hv1
  generalize hxa : a.eval x = xa at hv1
  cases hv1 with
  | ptr _ _ hid hkd =>
  obtain ⟨d1, d2, d3⟩ := hv2.cells hp
  have hone : ∀ v ∈ (a.eval y).cells.toList, v.oneCell' = true := by
    intro v hv
    obtain ⟨i, hi, rfl⟩ := List.getElem_of_mem hv
    have hi' : i < (un (s.ev y)).cells.length := by rw [← d1]; simpa using hi
    have h1 := d2 i hi'
    have h2 := d3 ((un (s.ev y)).cells.getD i .any) (by rw [List.getD_eq_getElem?_getD, List.getElem?_eq_getElem hi']; exact List.getElem_mem hi')
    have := h1.one h2
    simpa [Array.getD_eq_getD_getElem?, show i < (a.eval y).cells.size by omega] using this
  obtain ⟨h1, h2, h3, cur, e, h4, h5, h6⟩ := hs.bx id c hb
  have hlt : σ.blk id < w.heap.size := h4.lt
  have hO := h4
  replace h4 := h4.zero hkd
  obtain ⟨cur', r1, r2, r3⟩ := run_storeCells (P := P) (off := off) (vs := (a.eval y).cells) h4 (by rw [d1, hkc]; exact Nat.le_trans hl h5) hone
  have hE : Ext σ w σ (w.setRow (σ.blk id) cur') := by
    refine ⟨rfl, ⟨⟨rfl, rfl, rfl, by rw [size_setRow]; exact Nat.le_refl _, fun j hj => setRow_other w _ j _ (by omega)⟩, Nat.le_refl _⟩, Nat.le_refl _, fun _ _ h => h, fun b o' hf => ?_, fun _ _ => ⟨rfl, rfl⟩, fun t _ m hm => ⟨m, hm, Nat.le_refl _, fun _ => ⟨rfl, rfl⟩⟩⟩
    have hne : b ≠ σ.blk id := fun e => h3 o' (e ▸ hf)
    exact .block (setRow_other w _ b _ hne)
  have hlook : ∀ j d, (s.h.upd id fun c => over c off (un (s.ev y)).cells).box j = some d → (j = id ∧ d = over c off (un (s.ev y)).cells) ∨ (j ≠ id ∧ s.h.box j = some d) := by
    intro j d hj
    simp only [Hp.box, Hp.upd, lookup_updB] at hj
    split at hj
    · rename_i e; subst e
      rw [show s.h.bx.lookup j = some c from hb] at hj
      simp at hj; exact .inl ⟨rfl, hj.symm⟩
    · rename_i e; exact .inr ⟨e, hj⟩
  have hor : ∀ j d, (s.h.upd id fun c => over c off (un (s.ev y)).cells).box j = some d → ∃ d', s.h.box j = some d' := by
    intro j d hj
    rcases hlook j d hj with ⟨rfl, _⟩ | ⟨_, hj⟩
    · exact ⟨c, hb⟩
    · exact ⟨d, hj⟩
  have hS : Sim σ (s.h.upd id fun c => over c off (un (s.ev y)).cells) (w.setRow (σ.blk id) cur') := by
    refine ⟨by rw [size_setRow]; exact hs.base, fun b o' hf => by rw [size_setRow]; exact hs.fzlt b o' hf, hs.tok, ?_, ?_, ?_, ?_, hs.tktk⟩
    · intro j d hj
      rcases hlook j d hj with ⟨rfl, rfl⟩ | ⟨hne, hj⟩
      · refine ⟨h1, h2, h3, cur', e, hO.turn hkd (setRow_heap w _ cur _ e _ h4) r2, by rw [r2, over_length (by rw [hkc]; exact hl)]; exact h5, fun i hi => ?_⟩
        rw [over_length (by rw [hkc]; exact hl)] at hi
        rw [over_get (by rw [hkc]; exact hl), r3, d1]
        split
        · exact (d2 _ (by omega)).mono hE
        · exact (h6 i hi).mono hE
      · obtain ⟨g1, g2, g3, cu, e', g4, g5, g6⟩ := hs.bx j d hj
        exact ⟨g1, g2, g3, cu, e', by rw [setRow_other w _ _ _ (hs.bxbx j id d c hj hb hne)]; exact g4, g5, fun i hi => (g6 i hi).mono hE⟩
    · intro t' n e' k' ht
      obtain ⟨g1, xs, g2, g3⟩ := hs.tk t' n e' k' ht
      have hne := hs.bxtk id t' c _ hb ht
      refine ⟨g1, xs, g2.kept (row := some (σ.blk id)) ⟨rfl, rfl, rfl, by rw [size_setRow]; exact Nat.le_refl _, fun j _ hj => setRow_other w _ j _ (fun e => hj (by rw [e]))⟩ (.inr hne), g3⟩
    · intro i j ci cj hi hj hne
      obtain ⟨ci', hi'⟩ := hor i ci hi
      obtain ⟨cj', hj'⟩ := hor j cj hj
      exact hs.bxbx i j ci' cj' hi' hj' hne
    · intro i t' ci n hi ht
      obtain ⟨ci', hi'⟩ := hor i ci hi
      exact hs.bxtk i t' ci' n hi' ht
  unfold Oper.wp
  simp only [execOp, ho, hxa, Instr.storeAt, Instr.sureAddr, storeVar, Sem.run_bind, Sem.run_pure, Result.andThen_ok, run_sizeOf hk]
  rw [if_neg (by rw [d1, hkc]; simp)]
  simp only [r1, Result.andThen_ok, Oper.upon]
  rw [hd] at hK ⊢
  exact hK _ σ _ undef h hE hS ⟨hsl.size, fun d => (hsl.v d).mono hE, hsl.defers⟩
end Go.Proofs.YtababmnmkmgbbaaGreat.Fw
set_option linter.unusedVariables false
namespace Go.Proofs.YtababmnmkmgbbaaGreat.Fw
open Go.RowKit
variable {P : Program} {o : Oper} {s : St} {K : St → Prop}

/-! Appending -/
def updT (l : List (Nat × Nat × Nat × Nat)) (t : Nat) (n : Nat) : List (Nat × Nat × Nat × Nat) :=
  match l with
  | [] => []
  | (i, m, e, k) :: r => if i = t then (i, n, e, k) :: r else (i, m, e, k) :: updT r t n
theorem lookup_updT (l : List (Nat × Nat × Nat × Nat)) (t j n : Nat) : (updT l t n).lookup j = if j = t then (l.lookup j).map (fun p => (n, p.2)) else l.lookup j := by
  induction l with
  | nil => simp [updT]
  | cons p r ih =>
    obtain ⟨i, m, e, k⟩ := p
    simp only [updT]
    by_cases hi : i = t
    · subst hi
      rw [if_pos rfl]
      by_cases hj : j = i
      · subst hj; simp
      · simp [List.lookup_cons, show (j == i) = false by simpa using hj, hj]
    · rw [if_neg hi]
      by_cases hj : j = i
      · subst hj; simp [hi]
      · simp [List.lookup_cons, show (j == i) = false by simpa using hj, ih]
def Hp.grow (H : Hp) (t n : Nat) : Hp := ⟨H.bx, updT H.tk t n⟩
def G.owned (σ : G) (t n e k : Nat) (v : Value) : G :=
  { σ with tok := fun j => if j = t then some (n, e, k) else σ.tok j, tv := fun j => if j = t then v else σ.tv j, fz := fun b o => σ.fz b o ∨ (v.ownBlock = some b ∧ o < n * k) }

/-- An append of m elements, m not 0, to a row that is owned: in place, or in a new block. -/
theorem run_app {w : World} {base t ty e k by_ : Nat} {i : TypeInfo} {z : Value} (ht : P.underlying t = some (.slice e)) (hi : P.info? e = some i) (hz : i.zero = some z) (hk : i.size = k) (hby : i.bytes = by_) (hzs : z.cells.size = k)
    {v : Value} {n : Nat} {xs : List Value} (ho : w.ownsRow base e k v n xs) {a : Addr} {m c : Nat} {news : List Value} (hl : news.length = m * k) (hnews : ∀ j u, news[j]? = some u → w.cell? (a.add j) = some u) (h1 : ∀ u ∈ news, u.oneCell' = true)
    (hm : 0 < m) (h63 : n + m ≤ maxLen) (hbytes : (n + m) * by_ ≤ 140737488355328) (hbase : base ≤ w.heap.size) :
    ∃ v' w', (Builtin.append_ #[t, t] ty #[v, .slice (some a) m c]).run P w = .ok v' w' ∧ w'.ownsRow base e k v' (n + m) (xs ++ news) ∧
      ((v'.ownBlock = v.ownBlock ∧ w.grownBy w' v.ownBlock) ∨ (v'.ownBlock = some w.heap.size ∧ w.grownBy w' none)) ∧ w.drawn ≤ w'.drawn := by
  subst hk hby
  have h63' : n + m ≤ 9223372036854775807 := by simp only [maxLen] at h63; omega
  have hlen : (xs ++ news).length = (n + m) * i.size := by rw [List.length_append, ho.1, hl, Nat.add_mul]
  have new : ∀ C : Nat, n + m ≤ C → C ≤ maxLen → ∃ w' : World, w' = w.drew.alloc (.cells (xs.toArray ++ news.toArray ++ Builtin.zeroCells z.cells (C - (n + m))) e) ∧
      w'.ownsRow base e i.size (.slice (some ⟨w.heap.size, 0, none⟩) (n + m) C) (n + m) (xs ++ news) ∧ w.grownBy w' none := by
    intro C hC hCm
    refine ⟨_, rfl, ⟨hlen, .inr ⟨w.heap.size, C, _, rfl, hbase, heap_alloc_new w.drew _, hC, hCm, ?_, ?_⟩⟩, ⟨rfl, rfl, rfl, by simp, fun j hj _ => Below.heap_alloc w.drew _ j hj⟩⟩
    · simp only [Array.size_append, List.size_toArray, size_zeroCells, hzs, ho.1, hl, ← Nat.add_mul]
      congr 1; omega
    · simp only [Array.toList_append, List.append_assoc]
      rw [← List.append_assoc, ← hlen]
      exact List.take_left
  rcases ho.2 with ⟨rfl, rfl⟩ | ⟨g, cap, cur, rfl, hbg, hg, hnc, hcm, hcs, htk⟩
  · obtain rfl : xs = [] := List.eq_nil_of_length_eq_zero (by simpa using ho.1)
    have hr := run_append_nil (P := P) w t ty e i z ht hi hz a m c news hl hnews hm (by omega) (by simp only [Nat.zero_add] at hbytes; omega)
    obtain ⟨w', e1, e2, e3⟩ := new (grownCap w m 0 e) (by simpa using grownCap_ge w m 0 e) (grownCap_le_maxLen w m 0 e (by simpa using h63))
    simp only [Nat.zero_add, List.nil_append, Array.empty_append] at e1 e2 ⊢
    exact ⟨_, w', by rw [e1]; exact hr, e2, .inr ⟨rfl, e3⟩, by rw [e1]; exact Nat.le_succ _⟩
  · by_cases hroom : n + m ≤ cap
    · have hr := run_append_room (P := P) w t ty e i ht hi g n cap cur hg a m c news hl hnews h1 hroom (by rw [hl, hcs, ← Nat.add_mul]; exact Nat.mul_le_mul_right _ hroom)
      refine ⟨_, _, hr, ⟨hlen, .inr ⟨g, cap, _, rfl, hbg, setRow_heap w g cur _ e _ hg, hroom, hcm, ?_, ?_⟩⟩, .inl ⟨rfl, rfl, rfl, rfl, by rw [size_setRow]; exact Nat.le_refl _, fun j _ hj => setRow_other w g j _ (fun e => hj (by simp [Value.ownBlock, e]))⟩, Nat.le_refl _⟩
      · have : n * i.size + news.length ≤ cur.size := by rw [hl, hcs, ← Nat.add_mul]; exact Nat.mul_le_mul_right _ hroom
        simp only [List.size_toArray, List.length_append, List.length_take, List.length_drop, Array.length_toList]
        omega
      · rw [htk, ← hlen]; exact List.take_left
    · have hr := run_append_grow (P := P) w t ty e i z ht hi hz ⟨g, 0, none⟩ n cap xs ho.1 (ho.cells (g := g) rfl) a m c news hl hnews (by omega) (by omega) (growslice_fits (by omega) hbytes)
      obtain ⟨w', e1, e2, e3⟩ := new (grownCap w (n + m) cap e) (grownCap_ge w (n + m) cap e) (grownCap_le_maxLen w (n + m) cap e h63)
      exact ⟨_, w', by rw [e1]; exact hr, e2, .inr ⟨rfl, e3⟩, by rw [e1]; exact Nat.le_succ _⟩

/-- What stands behind an append. -/
theorem grown_sim {σ : G} {H : Hp} {w w1 : World} (hs : Sim σ H w) {t n e k m : Nat} (ht : H.tok t = some (n, e, k)) {xs news : List Value} (ho : w.ownsRow σ.base e k (σ.tv t) n xs) {v1 : Value} (hm : 0 < m)
    (h1 : w1.ownsRow σ.base e k v1 (n + m) (xs ++ news)) (hb : (v1.ownBlock = (σ.tv t).ownBlock ∧ w.grownBy w1 (σ.tv t).ownBlock) ∨ (v1.ownBlock = some w.heap.size ∧ w.grownBy w1 none)) (hdr : w.drawn ≤ w1.drawn) :
    Ext σ w (σ.owned t (n + m) e k v1) w1 ∧ Sim (σ.owned t (n + m) e k v1) (H.grow t (n + m)) w1 := by
  obtain ⟨htn, xs0, ho0, hnf⟩ := hs.tk t n e k ht
  have hrow : ∀ q, (σ.tv t).ownBlock = some q → σ.base ≤ q := fun q hq => (ho.lt q hq).1
  have hgr : w.grownBy w1 (σ.tv t).ownBlock := by
    rcases hb with h | h
    · exact h.2
    · exact ⟨h.2.os, h.2.tape, h.2.output, h.2.size, fun j hj _ => h.2.block j hj (by simp)⟩
  have hcell : ∀ b o', σ.fz b o' → Kept w w1 b o' := by
    intro b o' hf
    by_cases hbb : (σ.tv t).ownBlock = some b
    · rcases hb with ⟨hb, _⟩ | ⟨hb, hg⟩
      · have hlt : o' < n * k := by
          rcases Nat.lt_or_ge o' (n * k) with h | h
          · exact h
          · exact absurd hf (hnf b hbb o' h)
        have hlen : xs.length = n * k := ho.1
        have e0 := ho.cells (g := b) hbb o' xs[o'] (by simp)
        rw [add_none, Nat.zero_add] at e0
        have e1 := h1.cells (g := b) (hb.trans hbb) o' xs[o'] (by rw [List.getElem?_append_left (by omega)]; simp)
        rw [add_none, Nat.zero_add] at e1
        exact .some (by rw [e0, e1]) e0
      · exact .block (hg.block b (hs.fzlt b o' hf) (by simp))
    · exact .block (hgr.block b (hs.fzlt b o' hf) (fun e => hbb e.symm))
  have hE : Ext σ w (σ.owned t (n + m) e k v1) w1 := by
    refine ⟨rfl, ⟨(Below.refl _ _).grown hgr hs.base hrow, hdr⟩, Nat.le_refl _, fun _ _ h => .inl h, hcell, fun _ _ => ⟨rfl, rfl⟩, fun t' ht' m' hm' => ?_⟩
    simp only [G.owned] at hm' ⊢
    by_cases he : t' = t
    · subst he
      rw [if_pos rfl] at hm'
      injection hm' with hm'
      subst hm'
      exact ⟨(n, e, k), by rw [hs.tok]; exact ht, by simp, fun e => by simp only at e; omega⟩
    · rw [if_neg he] at hm' ⊢
      exact ⟨m', hm', Nat.le_refl _, fun _ => ⟨rfl, rfl⟩⟩
  refine ⟨hE, ?_⟩
  have hv1lt : ∀ g, v1.ownBlock = some g → g < w1.heap.size := fun g hg => (h1.lt g hg).2
  have htok : ∀ t' p, (H.grow t (n + m)).tok t' = some p → (t' = t ∧ p = (n + m, e, k)) ∨ (t' ≠ t ∧ H.tok t' = some p) := by
    intro t' p h
    simp only [Hp.tok, Hp.grow, lookup_updT] at h
    split at h
    · rename_i he; subst he
      rw [show H.tk.lookup t' = some (n, e, k) from ht] at h
      simp at h; exact .inl ⟨rfl, h.symm⟩
    · rename_i he; exact .inr ⟨he, h⟩
  -- the block of the row is no other's
  have apart : ∀ g, v1.ownBlock = some g → (σ.tv t).ownBlock = some g ∨ g = w.heap.size := by
    intro g hg
    rcases hb with ⟨hb, _⟩ | ⟨hb, _⟩
    · exact .inl (hb.symm.trans hg)
    · rw [hb] at hg; injection hg with hg; exact .inr hg.symm
  refine ⟨Nat.le_trans hs.base hgr.size, ?_, ?_, ?_, ?_, hs.bxbx, ?_, ?_⟩
  · rintro b o' (h | ⟨h, _⟩)
    · exact Nat.lt_of_lt_of_le (hs.fzlt b o' h) hgr.size
    · exact hv1lt b h
  · funext t'
    simp only [G.owned, Hp.tok, Hp.grow, lookup_updT]
    split
    · rename_i he; subst he
      rw [show H.tk.lookup t' = some (n, e, k) from ht]; rfl
    · rw [hs.tok]; rfl
  · intro id cs hc
    obtain ⟨g1, g2, g3, cur, e', g4, g5, g6⟩ := hs.bx id cs hc
    have hlt : σ.blk id < w.heap.size := g4.lt
    have hne := hs.bxtk id t cs _ hc ht
    refine ⟨g1, g2, ?_, cur, e', by rw [show (σ.owned t (n + m) e k v1).blk id = σ.blk id from rfl, hgr.block _ hlt (fun e => hne e.symm)]; exact g4, g5, fun i hi => (g6 i hi).mono hE⟩
    rintro o' (h | ⟨h, _⟩)
    · exact g3 o' h
    · rcases apart _ h with h | h
      · exact hne h
      · simp only [G.owned] at h; omega
  · intro t' n' e' k' ht'
    rcases htok t' _ ht' with ⟨rfl, hp⟩ | ⟨hne, ht'⟩
    · simp only [Prod.mk.injEq] at hp
      obtain ⟨rfl, rfl, rfl⟩ := hp
      refine ⟨htn, xs ++ news, by simpa [G.owned] using h1, fun g hg o' ho' => ?_⟩
      simp only [G.owned, if_true] at hg
      rintro (h | ⟨_, h⟩)
      · rcases apart g hg with h' | h'
        · exact hnf g h' o' (by rw [Nat.add_mul] at ho'; omega) h
        · have := hs.fzlt _ _ h; omega
      · omega
    · obtain ⟨g1, ys, g2, g3⟩ := hs.tk t' n' e' k' ht'
      have hap : (σ.tv t').ownBlock = none ∨ (σ.tv t').ownBlock ≠ (σ.tv t).ownBlock := by
        cases hq : (σ.tv t').ownBlock with
        | none => exact .inl rfl
        | some g => exact .inr fun e => hs.tktk t' t _ _ g ht' ht hne hq e.symm
      refine ⟨g1, ys, by simpa [G.owned, hne] using g2.kept hgr hap, fun g hg o' ho' => ?_⟩
      simp only [G.owned, hne, if_false] at hg
      rintro (h | ⟨h, _⟩)
      · exact g3 g hg o' ho' h
      · rcases apart g h with h | h
        · exact hs.tktk t' t _ _ g ht' ht hne hg h
        · have := (owned_blk hs ht' hg).2; omega
  · intro i t' c p hc ht'
    rcases htok t' _ ht' with ⟨rfl, _⟩ | ⟨hne, ht'⟩
    · simp only [G.owned, if_true]
      intro h
      rcases apart _ h with h | h
      · exact hs.bxtk i t' c _ hc ht h
      · obtain ⟨_, _, _, cur, e', g4, _⟩ := hs.bx i c hc
        have hlt : σ.blk i < w.heap.size := g4.lt
        omega
    · simp only [G.owned, hne, if_false]
      exact hs.bxtk i t' c p hc ht'
  · intro a b p q g ha hb' hne hg
    rcases htok a _ ha with ⟨rfl, _⟩ | ⟨hna, ha2⟩
    · rcases htok b _ hb' with ⟨rfl, _⟩ | ⟨hnb, hb2⟩
      · exact absurd rfl hne
      · simp only [G.owned, if_true, hnb, if_false] at hg ⊢
        intro h
        rcases apart _ hg with h' | h'
        · exact hs.tktk a b _ _ g ht hb2 hne h' h
        · obtain ⟨x, y, z⟩ := q; have := (owned_blk hs hb2 h).2; omega
    · rcases htok b _ hb' with ⟨rfl, _⟩ | ⟨hnb, hb2⟩
      · simp only [G.owned, hna, if_false, if_true] at hg ⊢
        intro h
        rcases apart _ h with h' | h'
        · exact hs.tktk a b _ _ g ha2 ht hne hg h'
        · obtain ⟨x, y, z⟩ := p; have := (owned_blk hs ha2 hg).2; omega
      · simp only [G.owned, hna, hnb, if_false] at hg ⊢
        exact hs.tktk a b p q g ha2 hb2 hne hg
/-- A right to append to nothing. -/
theorem fresh_tok {σ : G} {H : Hp} {w : World} (hs : Sim σ H w) (e k : Nat) : Ext σ w { σ with next := σ.next + 1, tok := fun j => if j = σ.next then some (0, e, k) else σ.tok j, tv := fun j => if j = σ.next then .slice none 0 0 else σ.tv j } w ∧
    Sim { σ with next := σ.next + 1, tok := fun j => if j = σ.next then some (0, e, k) else σ.tok j, tv := fun j => if j = σ.next then .slice none 0 0 else σ.tv j } ⟨H.bx, (σ.next, 0, e, k) :: H.tk⟩ w := by
  have hE : Ext σ w { σ with next := σ.next + 1, tok := fun j => if j = σ.next then some (0, e, k) else σ.tok j, tv := fun j => if j = σ.next then .slice none 0 0 else σ.tv j } w :=
    ⟨rfl, .refl _ _, Nat.le_succ _, fun _ _ h => h, fun _ _ _ => .refl _ _ _, fun _ _ => ⟨rfl, rfl⟩, fun t ht m hm => by
      simp only at hm ⊢
      rw [if_neg (by omega)] at hm ⊢
      exact ⟨m, hm, Nat.le_refl _, fun _ => ⟨rfl, rfl⟩⟩⟩
  refine ⟨hE, ?_⟩
  have htok : ∀ t p, (⟨H.bx, (σ.next, 0, e, k) :: H.tk⟩ : Hp).tok t = some p → (t = σ.next ∧ p = (0, e, k)) ∨ (t ≠ σ.next ∧ H.tok t = some p) := by
    intro t p h
    simp only [Hp.tok, List.lookup_cons] at h
    by_cases he : t = σ.next
    · subst he; simp at h; exact .inl ⟨rfl, h.symm⟩
    · rw [show (t == σ.next) = false by simpa using he] at h; exact .inr ⟨he, h⟩
  refine ⟨hs.base, hs.fzlt, ?_, ?_, ?_, hs.bxbx, ?_, ?_⟩
  · funext t
    simp only [Hp.tok, List.lookup_cons]
    by_cases he : t = σ.next
    · subst he; simp
    · rw [if_neg he, show (t == σ.next) = false by simpa using he, hs.tok]; rfl
  · intro id cs hc
    obtain ⟨g1, g2, g3, cur, e', g4, g5, g6⟩ := hs.bx id cs hc
    exact ⟨Nat.lt_succ_of_lt g1, g2, g3, cur, e', g4, g5, fun i hi => (g6 i hi).mono hE⟩
  · intro t n e' k' h
    rcases htok t _ h with ⟨rfl, hp⟩ | ⟨hne, h⟩
    · simp only [Prod.mk.injEq] at hp
      obtain ⟨rfl, rfl, rfl⟩ := hp
      exact ⟨Nat.lt_succ_self _, [], by simpa using World.ownsRow_nil w σ.base e' k', fun g hg => by simp [Value.ownBlock] at hg⟩
    · obtain ⟨g1, xs, g2, g3⟩ := hs.tk t n e' k' h
      exact ⟨Nat.lt_succ_of_lt g1, xs, by simpa [hne] using g2, fun g hg => by simp only [hne, if_false] at hg; exact g3 g hg⟩
  · intro i t c p hc h
    rcases htok t _ h with ⟨rfl, _⟩ | ⟨hne, h⟩
    · simp [Value.ownBlock]
    · simp only [hne, if_false]; exact hs.bxtk i t c p hc h
  · intro a b p q g ha hb hne hg
    rcases htok a _ ha with ⟨rfl, _⟩ | ⟨hna, ha2⟩
    · simp [Value.ownBlock] at hg
    · rcases htok b _ hb with ⟨rfl, _⟩ | ⟨hnb, hb2⟩
      · simp [Value.ownBlock]
      · simp only [hna, hnb, if_false] at hg ⊢
        exact hs.tktk a b p q g ha2 hb2 hne hg
end Go.Proofs.YtababmnmkmgbbaaGreat.Fw
set_option linter.unusedVariables false
namespace Go.Proofs.YtababmnmkmgbbaaGreat.Fw
open Go.RowKit
variable {P : Program} {o : Oper} {s : St} {K : St → Prop}

/-- A string's bytes, appended to a row of bytes that is owned. -/
theorem run_app_str {w : World} {base t u ty e : TypeId} {i : TypeInfo} (ht : P.underlying t = some (.slice e)) (hu : P.underlying u = some .string) (hi : P.info? e = some i) (hz : i.zero = some (.int .u8 0)) (hk : i.size = 1) (hby : i.bytes = 1)
    {v : Value} {n : Nat} {xs : List Value} (ho : w.ownsRow base e 1 v n xs) (s : ByteArray)
    (hm : 0 < s.size) (hbytes : n + s.size ≤ 140737488355328) (hbase : base ≤ w.heap.size) :
    ∃ v' w', (Builtin.append_ #[t, u] ty #[v, .string s]).run P w = .ok v' w' ∧ w'.ownsRow base e 1 v' (n + s.size) (xs ++ Lib.strCells s) ∧
      ((v'.ownBlock = v.ownBlock ∧ w.grownBy w' v.ownBlock) ∨ (v'.ownBlock = some w.heap.size ∧ w.grownBy w' none)) ∧ w.drawn ≤ w'.drawn := by
  have hmax : n + s.size ≤ maxLen := by simp only [maxLen]; omega
  have hxl : xs.length = n := by simpa using ho.1
  have hlen : (xs ++ Lib.strCells s).length = (n + s.size) * 1 := by rw [List.length_append, hxl, Lib.strCells_length, Nat.mul_one]
  have new : ∀ C : Nat, n + s.size ≤ C → C ≤ maxLen → ∃ w' : World, w' = w.drew.alloc (.cells (xs.toArray ++ (Lib.strCells s).toArray ++ Builtin.zeroCells (Value.int .u8 0).cells (C - (n + s.size))) e) ∧
      w'.ownsRow base e 1 (.slice (some ⟨w.heap.size, 0, none⟩) (n + s.size) C) (n + s.size) (xs ++ Lib.strCells s) ∧ w.grownBy w' none := by
    intro C hC hCm
    refine ⟨_, rfl, ⟨hlen, .inr ⟨w.heap.size, C, _, rfl, hbase, heap_alloc_new w.drew _, hC, hCm, ?_, ?_⟩⟩, ⟨rfl, rfl, rfl, by simp, fun j hj _ => Below.heap_alloc w.drew _ j hj⟩⟩
    · simp only [Array.size_append, List.size_toArray, size_zeroCells, hxl, Lib.strCells_length]
      simp [Value.cells]; omega
    · simp only [Array.toList_append, List.append_assoc]
      rw [← List.append_assoc, ← hlen]
      exact List.take_left
  rcases ho.2 with ⟨rfl, rfl⟩ | ⟨g, cap, cur, rfl, hbg, hg, hnc, hcm, hcs, htk⟩
  · obtain rfl : xs = [] := List.eq_nil_of_length_eq_zero hxl
    have hr := run_append_nil_string (P := P) w t u ty e i (.int .u8 0) ht hu hi hz s hm (by omega) (by rw [hby]; omega)
    obtain ⟨w', e1, e2, e3⟩ := new (grownCap w s.size 0 e) (by simpa using grownCap_ge w s.size 0 e) (grownCap_le_maxLen w s.size 0 e (by simpa using hmax))
    simp only [Nat.zero_add, List.nil_append, Array.empty_append] at e1 e2 ⊢
    refine ⟨_, w', ?_, e2, .inr ⟨rfl, e3⟩, by rw [e1]; exact Nat.le_succ _⟩
    rw [hr, e1]
    congr 3
    simp only [Lib.strCells]
    congr 1
    apply Array.ext'
    simp
  · by_cases hroom : n + s.size ≤ cap
    · have hr := Lib.run_append_room_string (P := P) w t u ty e i ht hu hi hk g n cap cur hg s hroom (by rw [hcs]; omega)
      refine ⟨_, _, hr, ⟨hlen, .inr ⟨g, cap, _, rfl, hbg, setRow_heap w g cur _ e _ hg, hroom, hcm, ?_, ?_⟩⟩, .inl ⟨rfl, rfl, rfl, rfl, by rw [size_setRow]; exact Nat.le_refl _, fun j _ hj => setRow_other w g j _ (fun e => hj (by simp [Value.ownBlock, e]))⟩, Nat.le_refl _⟩
      · simp only [List.size_toArray, List.length_append, List.length_take, List.length_drop, Array.length_toList, Lib.strCells_length]
        omega
      · rw [Nat.mul_one] at htk; rw [htk, ← hlen]; exact List.take_left
    · have hr := Lib.run_append_grow_string (P := P) w t u ty e i (.int .u8 0) ht hu hi hz ⟨g, 0, none⟩ n cap xs (by rw [hk]; exact ho.1) (ho.cells (g := g) rfl) s (by omega) (by omega) (by rw [hby]; exact growslice_fits (by omega) (by omega))
      obtain ⟨w', e1, e2, e3⟩ := new (grownCap w (n + s.size) cap e) (grownCap_ge w (n + s.size) cap e) (grownCap_le_maxLen w (n + s.size) cap e hmax)
      exact ⟨_, w', by rw [e1]; exact hr, e2, .inr ⟨rfl, e3⟩, by rw [e1]; exact Nat.le_succ _⟩

def bytesA (s : ByteArray) : List AV := s.data.toList.map fun b => .con (.int .u8 b.toNat)
theorem bytesA_length (s : ByteArray) : (bytesA s).length = s.size := by rw [bytesA, List.length_map, Array.length_toList]; rfl
/-- What is appended. -/
def srcA : AV → Option (List AV)
  | .list ys _ => some ys
  | .con (.slice none 0 0) => some []
  | .emp => some []
  | .con (.string s) => some (bytesA s)
  | _ => none
theorem Sim.congr {σ : G} {H H' : Hp} {w : World} (h : Sim σ H w) (h1 : H'.box = H.box) (h2 : H'.tok = H.tok) : Sim σ H' w := by
  refine ⟨h.base, h.fzlt, by rw [h2]; exact h.tok, ?_, ?_, ?_, ?_, ?_⟩
  · rw [h1]; exact h.bx
  · rw [h2]; exact h.tk
  · rw [h1]; exact h.bxbx
  · rw [h1, h2]; exact h.bxtk
  · rw [h2]; exact h.tktk
theorem run_app0 {t ty e : TypeId} {i : TypeInfo} {w : World} (ht : P.underlying t = some (.slice e)) (hi : P.info? e = some i) {A B : Option Addr} {n c c' : Nat} (hc : n ≤ c) :
    (Builtin.append_ #[t, t] ty #[.slice A n c, .slice B 0 c']).run P w = .ok (.slice A n c) w := by
  cases A <;> cases B <;>
    simp [Builtin.append_, run_underlying ht, sizeOf, typeInfo, hi, Builtin.lenOf, hc, Builtin.firstCells, loadCells, loadCellsFrom, storeCells]
theorem run_app0s {t u ty e : TypeId} {i : TypeInfo} {w : World} (ht : P.underlying t = some (.slice e)) (hu : P.underlying u = some .string) (hi : P.info? e = some i) {A : Option Addr} {n c : Nat} (hc : n ≤ c) {s : ByteArray} (h0 : s.size = 0) :
    (Builtin.append_ #[t, u] ty #[.slice A n c, .string s]).run P w = .ok (.slice A n c) w := by
  cases A <;>
    simp [Builtin.append_, run_underlying ht, run_underlying hu, sizeOf, typeInfo, hi, Builtin.lenOf, hc, Builtin.firstCells, storeCells, h0]
/-- What the type of the appended slice is called does not matter. -/
theorem append_ty2 {P : Program} {t t2 ot e : TypeId} (h : P.underlying t = some (.slice e)) (h2 : tkind P t2 = 4) (vs : Array Value) (w : World) : (Builtin.append_ #[t, t2] ot vs).run P w = (Builtin.append_ #[t, t] ot vs).run P w := by
  have h3 : ∃ e2, P.underlying t2 = some (.slice e2) := by
    unfold tkind at h2
    split at h2 <;> first | exact ⟨_, by assumption⟩ | cases h2
  obtain ⟨e2, h3⟩ := h3
  unfold Builtin.append_
  cases hv0 : vs[0]? with
  | none => simp only; rfl
  | some s =>
    cases hv1 : vs[1]? with
    | none => simp only; rfl
    | some x =>
      have e0 : (#[t, t2] : Array TypeId)[0]? = some t := rfl
      have e1 : (#[t, t] : Array TypeId)[0]? = some t := rfl
      have e2' : (#[t, t2] : Array TypeId)[1]? = some t2 := rfl
      have e3 : (#[t, t] : Array TypeId)[1]? = some t := rfl
      simp only [e0, e1, e2', e3]
      rw [Sem.run_bind, Sem.run_bind, run_underlying h, Result.andThen_ok, Result.andThen_ok]
      cases s with
      | slice b n c =>
        simp only
        rw [Sem.run_bind, Sem.run_bind]
        congr 1
        funext size w1
        rw [Sem.run_bind, Sem.run_bind, run_underlying h, run_underlying h3]
        rfl
      | _ => rfl
/-- The heart of it. -/
theorem app_core {σ : G} {H : Hp} {w : World} (hs : Sim σ H w) {ty ty2 ot e k by_ t : Nat} {xs ys : List AV} {Y : AV} {v u : Value} {z : List AV} (ht : telem P ty = some (e, k, by_)) (hz : tzero P e = some z) (hzk : z.length = k) (hk : 0 < k)
    (hY : srcA Y = some ys) (hyk : ∀ y ∈ ys, y.cells.length = k) (hlim : (xs.length + ys.length) * by_ ≤ 140737488355328) (hby : 0 < by_)
    (hsame : (∀ s, Y ≠ .con (.string s)) → tkind P ty2 = 4) (hstr : ∀ s, Y = .con (.string s) → tkind P ty2 = 2 ∧ by_ = 1 ∧ k = 1 ∧ (P.info? e).bind (·.zero) = some (.int .u8 0))
    (hx : VR σ w (.list xs (some t)) v) (hy : VR σ w Y u) (htok : H.tok t = some (xs.length, e, k)) :
    ∃ v1 w1 σ1, (Builtin.append_ #[ty, ty2] ot #[v, u]).run P w = .ok v1 w1 ∧ Ext σ w σ1 w1 ∧ Sim σ1 (H.grow t (xs.length + ys.length)) w1 ∧ VR σ1 w1 (.list (xs ++ ys) (some t)) v1 := by
  unfold telem at ht
  split at ht
  case h_2 => cases ht
  rename_i e' hue
  obtain ⟨inf, hinf, ht⟩ := Option.map_eq_some_iff.1 ht
  simp only [Prod.mk.injEq] at ht
  obtain ⟨rfl, hik, hib⟩ := ht
  unfold tzero at hz
  obtain ⟨zv, hzv, hzz⟩ := Option.map_eq_some_iff.1 hz
  rw [hinf] at hzv
  simp only [Option.bind_some] at hzv
  have hzs : zv.cells.size = k := by rw [← hzk, ← hzz]; simp
  obtain ⟨htn, xc0, ho0, hnf⟩ := hs.tk t _ _ _ htok
  have hlx : v = σ.tv t ∧ (∀ x ∈ xs, x.cells.length = k) ∧ VR σ w (.list xs none) v := by
    cases hx with
    | tok _ _ _ h1 h2 h3 => exact ⟨((h3 _ (by rw [hs.tok]; exact htok)).2 rfl).1, ((h3 _ (by rw [hs.tok]; exact htok)).2 rfl).2, h1⟩
  obtain ⟨rfl, hxk, hxl⟩ := hlx
  have hshape : ∃ A c, σ.tv t = .slice A xs.length c ∧ xs.length ≤ c := by
    rcases ho0.2 with ⟨h1, h2⟩ | ⟨g, cap, cur, h1, _, _, h2, _⟩
    · exact ⟨none, 0, by rw [h1, h2], by omega⟩
    · exact ⟨_, cap, h1, h2⟩
  rcases Nat.eq_zero_or_pos ys.length with h0 | hpos
  · -- nothing is appended
    obtain ⟨A, c, hv, hc⟩ := hshape
    obtain rfl : ys = [] := List.eq_nil_of_length_eq_zero h0
    have hrun : (Builtin.append_ #[ty, ty2] ot #[.slice A xs.length c, u]).run P w = .ok (.slice A xs.length c) w := by
      cases Y with
      | list ys' tk =>
        simp only [srcA, Option.some.injEq] at hY; subst hY
        rw [append_ty2 hue (hsame (by simp))]
        rcases hy.list_inv with ⟨_, A, rfl⟩ | ⟨b, o', c', k', vs, rfl, _⟩
        · exact run_app0 hue hinf hc
        · exact run_app0 hue hinf hc
      | con q =>
        cases hy
        cases u with
        | string s =>
          simp only [srcA, Option.some.injEq] at hY
          have h00 := bytesA_length s
          rw [hY] at h00
          exact run_app0s hue (tkind_string (hstr s rfl).1) hinf hc h00.symm
        | slice B n' c' =>
          rw [append_ty2 hue (hsame (by simp))]
          cases B with
          | some a => simp [srcA] at hY
          | none =>
            cases n' with
            | succ n' => simp [srcA] at hY
            | zero => exact run_app0 hue hinf hc
        | _ => simp [srcA] at hY
      | emp => cases hy; rw [append_ty2 hue (hsame (by simp))]; exact run_app0 hue hinf hc
      | _ => simp [srcA] at hY
    refine ⟨σ.tv t, w, σ, ?_, .refl _ _, hs.congr rfl ?_, ?_⟩
    · rw [hv]; exact hrun
    · funext j
      simp only [Hp.tok, Hp.grow, lookup_updT, List.length_nil, Nat.add_zero]
      split
      · rename_i hj; subst hj
        rw [show H.tk.lookup j = some (xs.length, e', k) from htok]; rfl
      · rfl
    · simpa using hx
  · -- what was there
    have hmax : (xs.length + ys.length) ≤ 140737488355328 := Nat.le_trans (Nat.le_mul_of_pos_right _ hby) hlim
    obtain ⟨xc, ho, hxv⟩ : ∃ xc : List Value, w.ownsRow σ.base e' k (σ.tv t) xs.length xc ∧ ∀ i j, i < xs.length → j < k → VR σ w ((xs.getD i .any).cells.getD j .any) (xc.getD (i * k + j) undef) := by
      refine ⟨xc0, ho0, fun i j hi hj => ?_⟩
      rcases hxl.list_inv with ⟨rfl, _⟩ | ⟨b, o', c, k', vs, hve, hcl, hcm, hfit, hcell, hvs⟩
      · simp at hi
      · rcases ho0.2 with ⟨h1, _⟩ | ⟨g, cap, cur, h1, _, hg, _⟩
        · rw [h1] at hve; cases hve
        · rw [h1] at hve
          injection hve with hve _ _
          injection hve with hve
          injection hve with hg' ho'
          subst hg' ho'
          -- the elements have k cells each
          have hkk : k' = k := by
            have h2 := (hfit (xs.getD i .any) (by rw [List.getD_eq_getElem?_getD, List.getElem?_eq_getElem hi]; exact List.getElem_mem hi)).1
            have h3 := hxk (xs.getD i .any) (by rw [List.getD_eq_getElem?_getD, List.getElem?_eq_getElem hi]; exact List.getElem_mem hi)
            omega
          subst hkk
          have h4 := hvs i j hi hj
          have hlt : i * k' + j < xc0.length := by
            rw [ho0.1]
            have := Nat.mul_le_mul_right k' (show i + 1 ≤ xs.length from hi)
            rw [Nat.add_mul] at this; omega
          have h5 := ho0.cells (g := g) (by simp [h1, Value.ownBlock]) (i * k' + j) xc0[i * k' + j] (by simp [hlt])
          rw [add_none, Nat.zero_add] at h5
          have h6 := (hcell (i * k' + j) (by rw [← ho0.1]; exact hlt)).2
          rw [Nat.zero_add, h5] at h6
          injection h6 with h6
          rw [show xc0.getD (i * k' + j) undef = xc0[i * k' + j] by simp [List.getD_eq_getElem?_getD, hlt], h6]
          exact h4
    have hxfit : ∀ x ∈ xs, x.fits k := by
      intro x hx'
      rcases hxl.list_inv with ⟨rfl, _⟩ | ⟨b, o', c, k', vs, _, _, _, hfit, _⟩
      · cases hx'
      · have h2 := hfit x hx'
        have h3 := hxk x hx'
        rw [show k = k' by have := h2.1; omega]; exact h2
    -- what is appended, and the world behind it
    obtain ⟨news, v1, w1, hrun, hnl, hyf, hyv, h1, hb⟩ : ∃ (news : List Value) (v1 : Value) (w1 : World), (Builtin.append_ #[ty, ty2] ot #[σ.tv t, u]).run P w = .ok v1 w1 ∧ news.length = ys.length * k ∧ (∀ y ∈ ys, y.fits k) ∧
        (∀ i j, i < ys.length → j < k → VR σ w ((ys.getD i .any).cells.getD j .any) (news.getD (i * k + j) undef)) ∧
        w1.ownsRow σ.base e' k v1 (xs.length + ys.length) (xc ++ news) ∧ ((v1.ownBlock = (σ.tv t).ownBlock ∧ w.grownBy w1 (σ.tv t).ownBlock) ∨ (v1.ownBlock = some w.heap.size ∧ w.grownBy w1 none)) ∧ w.drawn ≤ w1.drawn := by
      cases Y with
      | list ys' tk =>
        simp only [srcA, Option.some.injEq] at hY; subst hY
        rw [append_ty2 hue (hsame (by simp))]
        rcases hy.list_inv with ⟨h0, _⟩ | ⟨b, o', c, k', vs, rfl, hcl, hcm, hfit, hcell, hvs⟩
        · rw [h0] at hpos; simp at hpos
        · have hkk : k' = k := by
            have hm := List.getElem_mem (l := ys') (n := 0) hpos
            have h2 := (hfit _ hm).1
            have h3 := hyk _ hm
            omega
          subst hkk
          have hone : ∀ q, q < ys'.length * k' → (vs q).oneCell' = true := by
            intro q hq
            have hi : q / k' < ys'.length := (Nat.div_lt_iff_lt_mul hk).2 hq
            have hj : q % k' < k' := Nat.mod_lt _ hk
            have h5 := hvs _ _ hi hj
            rw [show q / k' * k' + q % k' = q by rw [Nat.mul_comm]; exact Nat.div_add_mod q k'] at h5
            refine h5.one ?_
            have hm : ys'.getD (q / k') .any ∈ ys' := by rw [List.getD_eq_getElem?_getD, List.getElem?_eq_getElem hi]; exact List.getElem_mem hi
            have h6 := hfit _ hm
            refine h6.2 _ ?_
            rw [List.getD_eq_getElem?_getD (l := (ys'.getD (q / k') AV.any).cells), List.getElem?_eq_getElem (by rw [h6.1]; exact hj)]
            exact List.getElem_mem _
          obtain ⟨v1, w1, r1, r2, r3⟩ := run_app (P := P) (ty := ot) hue hinf hzv hik hib hzs ho (a := ⟨b, o', none⟩) (m := ys'.length) (c := c) (news := (List.range (ys'.length * k')).map vs) (by simp)
            (fun j q hj => by
              rw [List.getElem?_map] at hj
              rcases Nat.lt_or_ge j (ys'.length * k') with hlt | hge
              · rw [List.getElem?_range hlt] at hj
                simp only [Option.map_some, Option.some.injEq] at hj
                rw [add_none, (hcell j hlt).2, hj]
              · rw [List.getElem?_eq_none (by simpa using hge)] at hj; cases hj)
            (fun q hq => by obtain ⟨j, hj, rfl⟩ := List.mem_map.1 hq; exact hone j (List.mem_range.1 hj)) hpos (by simp only [maxLen]; omega) hlim hs.base
          refine ⟨_, v1, w1, r1, by simp, hfit, fun i j hi hj => ?_, r2, r3⟩
          have hlt : i * k' + j < ys'.length * k' := by
            have := Nat.mul_le_mul_right k' (show i + 1 ≤ ys'.length from hi)
            rw [Nat.add_mul] at this; omega
          have := hvs i j hi hj
          simpa [List.getD_eq_getElem?_getD, hlt] using this
      | con q =>
        cases hy
        cases u with
        | string s =>
          simp only [srcA, Option.some.injEq] at hY
          obtain ⟨s1, s2, s3, s4⟩ := hstr s rfl
          subst hY s2 s3
          have hsz : (bytesA s).length = s.size := bytesA_length s
          have hzi : inf.zero = some (.int .u8 0) := by rw [hinf] at s4; exact s4
          obtain ⟨v1, w1, r1, r2, r3⟩ := run_app_str (P := P) (ty := ot) hue (tkind_string s1) hinf hzi hik hib ho s (by omega) (by omega) hs.base
          refine ⟨Lib.strCells s, v1, w1, r1, by rw [Lib.strCells_length, hsz, Nat.mul_one], fun y hy => ?_, fun i j hi hj => ?_, by rw [hsz]; exact r2, r3⟩
          · obtain ⟨b, _, rfl⟩ := List.mem_map.1 hy
            exact ⟨rfl, fun y hy => by rw [List.mem_singleton.1 hy]; rfl⟩
          · obtain rfl : j = 0 := by omega
            have hi' : i < s.data.toList.length := by rw [hsz] at hi; rw [Array.length_toList]; exact hi
            have hi2 : i < s.data.size := by simpa using hi'
            have e1 : (bytesA s).getD i .any = .con (.int .u8 s.data.toList[i].toNat) := by
              rw [bytesA, List.getD_eq_getElem?_getD, List.getElem?_map, List.getElem?_eq_getElem hi']; rfl
            have e2 : (Lib.strCells s).getD (i * 1 + 0) undef = .int .u8 s.data.toList[i].toNat := by
              rw [Nat.mul_one, Nat.add_zero, Lib.strCells, List.getD_eq_getElem?_getD, List.getElem?_map, List.getElem?_eq_getElem hi']; rfl
            rw [e1, e2]
            exact .con _
        | slice B n' c' =>
          cases B <;> cases n' <;> cases c' <;> simp [srcA] at hY
          subst hY; simp at hpos
        | _ => simp [srcA] at hY
      | emp => simp only [srcA, Option.some.injEq] at hY; subst hY; simp at hpos
      | _ => simp [srcA] at hY
    obtain ⟨hE, hS⟩ := grown_sim hs htok ho hpos h1 hb.1 hb.2
    refine ⟨v1, w1, _, hrun, hE, hS, .tok _ t _ ?_ (Nat.lt_of_lt_of_le htn hE.next) fun m' hm' => ?_⟩
    · have hlen : (xs ++ ys).length = xs.length + ys.length := by simp
      rcases h1.2 with ⟨_, hn0⟩ | ⟨g, cap, cur, rfl, hbg, hg, hnc, hcm, hcs, htk⟩
      · omega
      · have hcl : (xc ++ news).length = (xs.length + ys.length) * k := h1.1
        have hvr := VR.list (σ := σ.owned t (xs.length + ys.length) e' k (.slice (some ⟨g, 0, none⟩) (xs.length + ys.length) cap)) (w := w1) (xs ++ ys) g 0 cap k (fun j => (xc ++ news).getD j undef) (by rw [hlen]; exact hnc) hcm
          (fun x hx' => by rcases List.mem_append.1 hx' with h | h
                           · exact hxfit x h
                           · exact hyf x h)
          (fun j hj => by
            rw [hlen] at hj
            refine ⟨.inr ⟨rfl, by omega⟩, ?_⟩
            have := h1.cells (g := g) rfl j ((xc ++ news).getD j undef) (by rw [List.getD_eq_getElem?_getD, List.getElem?_eq_getElem (by omega)]; rfl)
            rwa [add_none] at this)
          (fun i j hi hj => by
            rw [hlen] at hi
            have hxcl : xc.length = xs.length * k := ho.1
            by_cases hlt : i < xs.length
            · have hb2 : i * k + j < xc.length := by
                have := Nat.mul_le_mul_right k (show i + 1 ≤ xs.length from hlt)
                rw [Nat.add_mul] at this; omega
              have := (hxv i j hlt hj).mono hE
              rw [show (xc ++ news).getD (i * k + j) undef = xc.getD (i * k + j) undef by simp only [List.getD_eq_getElem?_getD, List.getElem?_append_left hb2],
                show (xs ++ ys).getD i AV.any = xs.getD i .any by simp only [List.getD_eq_getElem?_getD, List.getElem?_append_left hlt]]
              exact this
            · have hge : xs.length ≤ i := by omega
              have hb2 : xc.length ≤ i * k + j := by
                have := Nat.mul_le_mul_right k hge; omega
              have := (hyv (i - xs.length) j (by omega) hj).mono hE
              rw [show (xc ++ news).getD (i * k + j) undef = news.getD ((i - xs.length) * k + j) undef by
                  simp only [List.getD_eq_getElem?_getD, List.getElem?_append_right hb2]
                  congr 2
                  rw [hxcl, Nat.sub_mul]
                  have := Nat.mul_le_mul_right k hge; omega,
                show (xs ++ ys).getD i AV.any = ys.getD (i - xs.length) .any by simp only [List.getD_eq_getElem?_getD, List.getElem?_append_right hge]]
              exact this)
        rw [hlen] at hvr
        exact hvr
    · simp only [G.owned, if_true, Option.some.injEq] at hm'
      subst hm'
      refine ⟨by simp, fun _ => ⟨by simp [G.owned], fun x hx' => ?_⟩⟩
      rcases List.mem_append.1 hx' with h | h
      · exact hxk x h
      · exact hyk x h
end Go.Proofs.YtababmnmkmgbbaaGreat.Fw
set_option linter.unusedVariables false
namespace Go.Proofs.YtababmnmkmgbbaaGreat.Fw
open Go.RowKit
variable {P : Program} {o : Oper} {s : St} {K : St → Prop}

structure AppOk (P : Program) (ty ty2 : TypeId) (e k by_ : Nat) (z : List AV) (n : Nat) (Y : AV) (ys : List AV) : Prop where
  ht : telem P ty = some (e, k, by_)
  hz : tzero P e = some z
  hzk : z.length = k
  hk : 0 < k
  hby : 0 < by_
  hY : srcA Y = some ys
  hyk : ∀ y ∈ ys, y.cells.length = k
  hlim : (n + ys.length) * by_ ≤ 140737488355328
  hsame : (∀ s, Y ≠ .con (.string s)) → tkind P ty2 = 4
  hstr : ∀ s, Y = .con (.string s) → tkind P ty2 = 2 ∧ by_ = 1 ∧ k = 1 ∧ (P.info? e).bind (·.zero) = some (.int .u8 0)
theorem run_app_op {c : Call} {x y : Operand} {t t2 : TypeId} (ho : o.op = .call c) (hc : c.callee = .builtin .append) (ha : c.args = #[x, y]) (hat : c.argTypes = #[t, t2]) (a : Act) (w : World) {v1 : Value} {w1 : World}
    (hr : (Builtin.append_ #[t, t2] o.type #[a.eval x, a.eval y]).run P w = .ok v1 w1) (KK : Act → World → Prop) (Q : Exit → Act → World → Prop) (h : KK (a.put o.dst v1) w1) : o.wp P a w KK Q := by
  unfold Oper.wp execOp
  simp only [ho, resolve, hc, ha, hat, invoke, builtin, Sem.run_bind, Sem.run_pure, Result.andThen_ok, List.map_toArray, List.map_cons, List.map_nil, hr, Oper.upon]
  exact h
theorem sop_append {c : Call} {x y : Operand} {ty ty2 e k by_ t d : Nat} {xs ys z : List AV} (ho : o.op = .call c) (hc : c.callee = .builtin .append) (ha : c.args = #[x, y]) (hat : c.argTypes = #[ty, ty2]) (hd : o.dst = some d) (hn : d < s.n)
    (hx : okv (s.ev x)) (hy : okv (s.ev y)) (hxs : un (s.ev x) = .list xs (some t)) (htok : s.h.tok t = some (xs.length, e, k)) (hA : AppOk P ty ty2 e k by_ z xs.length (un (s.ev y)) ys)
    (h : K ⟨s.n, (d, .list (xs ++ ys) (some t)) :: s.t, s.h.grow t (xs.length + ys.length)⟩) : SOp P o s K := by
  intro σ w a hs hl KK Q hK
  have h1 := (hl.ev x).un hx
  have h2 := (hl.ev y).un hy
  rw [hxs] at h1
  obtain ⟨v1, w1, σ1, hr, hE, hS, hV⟩ := app_core (P := P) (ot := o.type) hs hA.ht hA.hz hA.hzk hA.hk hA.hY hA.hyk hA.hlim hA.hby hA.hsame hA.hstr h1 h2 htok
  refine run_app_op ho hc ha hat a w hr KK Q (hK _ σ1 w1 _ h hE hS ?_)
  have hl' : Sl σ1 w1 (⟨s.n, s.t, s.h.grow t (xs.length + ys.length)⟩ : St) a := ⟨hl.size, fun d => (hl.v d).mono hE, hl.defers⟩
  rw [hd]; exact hl'.put hn hV
theorem sop_append_nil {c : Call} {x y : Operand} {ty ty2 e k by_ d : Nat} {ys z : List AV} (ho : o.op = .call c) (hc : c.callee = .builtin .append) (ha : c.args = #[x, y]) (hat : c.argTypes = #[ty, ty2]) (hd : o.dst = some d) (hn : d < s.n)
    (hx : okv (s.ev x)) (hy : okv (s.ev y)) (hxs : un (s.ev x) = .con (.slice none 0 0)) (hA : AppOk P ty ty2 e k by_ z 0 (un (s.ev y)) ys)
    (h : ∀ t, s.h.tok t = none → s.h.box t = none → K ⟨s.n, (d, .list ys (some t)) :: s.t, ⟨s.h.bx, (t, ys.length, e, k) :: s.h.tk⟩⟩) : SOp P o s K := by
  intro σ w a hs hl KK Q hK
  have h1 := (hl.ev x).un hx
  have h2 := (hl.ev y).un hy
  rw [hxs] at h1
  obtain ⟨hE0, hS0⟩ := fresh_tok hs e k
  have h1' : VR { σ with next := σ.next + 1, tok := fun j => if j = σ.next then some (0, e, k) else σ.tok j, tv := fun j => if j = σ.next then .slice none 0 0 else σ.tv j } w (.list [] (some σ.next)) (a.eval x) := by
    generalize a.eval x = u at h1
    cases h1
    exact .tok _ _ _ .nil (Nat.lt_succ_self _) (fun m hm => by simp at hm; subst hm; exact ⟨by simp, fun _ => ⟨by simp, fun _ hx => by cases hx⟩⟩)
  obtain ⟨v1, w1, σ1, hr, hE, hS, hV⟩ := app_core (P := P) (ot := o.type) (xs := []) (t := σ.next) hS0 hA.ht hA.hz hA.hzk hA.hk hA.hY hA.hyk hA.hlim hA.hby hA.hsame hA.hstr h1' (h2.mono hE0) (by simp [Hp.tok])
  have hEE := hE0.trans hE
  have hf := fresh_id hs
  have hgr : (⟨s.h.bx, (σ.next, 0, e, k) :: s.h.tk⟩ : Hp).grow σ.next (([] : List AV).length + ys.length) = ⟨s.h.bx, (σ.next, ys.length, e, k) :: s.h.tk⟩ := by simp [Hp.grow, updT]
  rw [hgr] at hS
  refine run_app_op ho hc ha hat a w hr KK Q (hK _ σ1 w1 _ (h σ.next hf.2 hf.1) hEE hS ?_)
  have hl' : Sl σ1 w1 (⟨s.n, s.t, ⟨s.h.bx, (σ.next, ys.length, e, k) :: s.h.tk⟩⟩ : St) a := ⟨hl.size, fun d => (hl.v d).mono hEE, hl.defers⟩
  rw [hd]; exact hl'.put hn hV

/-- A new map that nobody looks into. -/
theorem vop_makeMap {H : Hp} {ρ : Operand → AV} {t : TypeId} (ho : o.op = .makeMap t none) : VOp P H o ρ .cel := vop_run fun σ w ev hs hv => by
  refine ⟨.map (some w.heap.size), w.alloc (.map #[] 0), _, ?_, ext_alloc hs _ 0, sim_alloc hs _ 0, .cel _ rfl⟩
  simp only [execOp, ho, Option.map_none]
  rfl

/-! Strings and bytes -/
theorem vop_bytes {H : Hp} {ρ : Operand → AV} {t1 t2 e k by_ : Nat} {x : Operand} {str : ByteArray} (ho : o.op = .convert t1 t2 x) (hx : okv (ρ x)) (h : un (ρ x) = .con (.string str)) (hs1 : tkind P t1 = 2) (ht : telem P t2 = some (e, k, by_)) (he : tint P e = some .u8) (hsz : str.size ≤ maxLen) :
    VOp P H o ρ (.list (bytesA str) none) := vop_run fun σ w ev hs hv => by
  have h1 := (hv x (by simp [ho, Op.operands])).un hx
  rw [h] at h1
  generalize hu : ev x = u at h1
  cases h1
  have hd : P.underlying t2 = some (.slice e) := by
    unfold telem at ht
    split at ht
    · rename_i e' hue
      obtain ⟨inf, hinf, ht⟩ := Option.map_eq_some_iff.1 ht
      simp only [Prod.mk.injEq] at ht
      rw [← ht.1]; exact hue
    · cases ht
  have he' : P.underlying e = some (.int .u8) := by unfold tint at he; split at he <;> first | (injection he with he; subst he; assumption) | cases he
  have hr := Lib.run_convert_string_bytes (P := P) w t1 t2 e str (tkind_string hs1) hd he'
  have hE : Ext σ w (σ.froze w.heap.size str.size) (Lib.bytesWorld w e str) :=
    ⟨rfl, ⟨⟨rfl, rfl, rfl, by rw [Lib.bytesWorld_size]; omega, fun j hj => Lib.bytesWorld_at_old w e str j (Nat.lt_of_lt_of_le hj hs.base)⟩, Nat.le_succ _⟩, Nat.le_refl _, fun _ _ h => .inl h,
      fun b o' hf => .block (Lib.bytesWorld_at_old w e str b (hs.fzlt b o' hf)), fun _ _ => ⟨rfl, rfl⟩, fun t _ m hm => ⟨m, hm, Nat.le_refl _, fun _ => ⟨rfl, rfl⟩⟩⟩
  refine ⟨.slice (some ⟨w.heap.size, 0, none⟩) str.size (grownCap w str.size 0 e), Lib.bytesWorld w e str, σ.froze w.heap.size str.size, ?_, hE, ?_, ?_⟩
  · simp only [execOp, ho, hu, Sem.run_bind, hr, Result.andThen_ok, Sem.run_pure]
  · refine ⟨by have := hs.base; rw [Lib.bytesWorld_size]; simp [G.froze]; omega, ?_, hs.tok, ?_, ?_, hs.bxbx, hs.bxtk, hs.tktk⟩
    · rintro b o' (h | ⟨rfl, _⟩)
      · have := hs.fzlt b o' h; rw [Lib.bytesWorld_size]; omega
      · rw [Lib.bytesWorld_size]; omega
    · intro id cs hc
      obtain ⟨h1, h2, h3, cur, e', h4, h5, h6⟩ := hs.bx id cs hc
      have hlt : σ.blk id < w.heap.size := h4.lt
      refine ⟨h1, h2, ?_, cur, e', ?_, h5, fun i hi => (h6 i hi).mono hE⟩
      · rintro o' (h | ⟨h, _⟩)
        · exact h3 o' h
        · simp only [G.froze] at h; omega
      · rw [show (σ.froze w.heap.size str.size).blk id = σ.blk id from rfl, Lib.bytesWorld_at_old _ _ _ _ hlt]; exact h4
    · intro t n e' k' htk
      obtain ⟨h1, xs, h2, h3⟩ := hs.tk t n e' k' htk
      refine ⟨h1, xs, h2.kept (row := none) ⟨rfl, rfl, rfl, by rw [Lib.bytesWorld_size]; omega, fun j hj _ => Lib.bytesWorld_at_old w e str j hj⟩ (by show (σ.tv t).ownBlock = none ∨ (σ.tv t).ownBlock ≠ none; cases (σ.tv t).ownBlock <;> simp), fun g hg o' ho => ?_⟩
      rintro (h | ⟨h, _⟩)
      · exact h3 g hg o' ho h
      · have := (owned_blk hs htk hg).2; omega
  · have hl := bytesA_length str
    have hvr := VR.list (σ := σ.froze w.heap.size str.size) (w := Lib.bytesWorld w e str) (bytesA str) w.heap.size 0 (grownCap w str.size 0 e) 1 (fun j => .int .u8 (str.data.toList.getD j 0).toNat) (by rw [hl]; exact grownCap_ge w str.size 0 e) (grownCap_le_maxLen w str.size 0 e hsz)
      (fun y hy => by obtain ⟨b, _, rfl⟩ := List.mem_map.1 hy; exact ⟨rfl, fun y hy => by rw [List.mem_singleton.1 hy]; rfl⟩)
      (fun j hj => by rw [hl, Nat.mul_one] at hj; exact ⟨.inr ⟨rfl, by omega⟩, by rw [Nat.zero_add]; exact Lib.bytesWorld_cell w e str j hj⟩)
      (fun i j hi hj => by
        obtain rfl : j = 0 := by omega
        have hi' : i < str.data.toList.length := by rw [hl] at hi; rw [Array.length_toList]; exact hi
        have e1 : (bytesA str).getD i .any = .con (.int .u8 str.data.toList[i].toNat) := by
          rw [bytesA, List.getD_eq_getElem?_getD, List.getElem?_map, List.getElem?_eq_getElem hi']; rfl
        rw [e1]
        simp only [Nat.mul_one, Nat.add_zero, List.getD_eq_getElem?_getD (l := str.data.toList), List.getElem?_eq_getElem hi', Option.getD_some]
        exact .con _)
    rw [hl] at hvr
    exact hvr
theorem vop_str {H : Hp} {ρ : Operand → AV} {t1 t2 e k by_ : Nat} {x : Operand} {xs : List AV} {ns : List Int} (ho : o.op = .convert t1 t2 x) (hx : okv (ρ x)) (h : srcA (un (ρ x)) = some xs) (hnstr : ∀ s, un (ρ x) ≠ .con (.string s)) (hxs : xs = ns.map fun n => .con (.int .u8 n)) (hs2 : tkind P t2 = 2) (ht : telem P t1 = some (e, k, by_)) (he : tint P e = some .u8) :
    VOp P H o ρ (.con (.string (strOfNums ns))) := vop_same fun σ w ev hs hv => by
  have h1 := (hv x (by simp [ho, Op.operands])).un hx
  have hd : P.underlying t1 = some (.slice e) := by
    unfold telem at ht
    split at ht
    · rename_i e' hue
      obtain ⟨inf, hinf, ht⟩ := Option.map_eq_some_iff.1 ht
      simp only [Prod.mk.injEq] at ht
      rw [← ht.1]; exact hue
    · cases ht
  have he' : P.underlying e = some (.int .u8) := by unfold tint at he; split at he <;> first | (injection he with he; subst he; assumption) | cases he
  have hnil : ∀ l c, ns = [] → (convert t1 t2 (.slice none l c)).run P w = .ok (.string (strOfNums ns)) w := by
    intro l c hn
    rw [run_convert_bytes_nil w t1 e hd he' l c t2 (tkind_string hs2), hn]; rfl
  have hemp : ∀ a c, ns = [] → (convert t1 t2 (.slice (some a) 0 c)).run P w = .ok (.string (strOfNums ns)) w := by
    intro a c hn
    rw [run_convert_bytes_string w t1 t2 e _ 0 c hd he' (tkind_string hs2), run_bytesToString w _ 0 c [] (by simp [loadCells, loadCellsFrom]), hn]
    rfl
  have key : ∀ v, (convert t1 t2 (ev x)).run P w = .ok v w → (execOp ev o).run P w = .ok (.value v) w := by
    intro v hr
    simp only [execOp, ho, Sem.run_bind, hr, Result.andThen_ok, Sem.run_pure]
  refine ⟨.string (strOfNums ns), key _ ?_, .con _⟩
  generalize un (ρ x) = X at *
  generalize ev x = u at *
  cases X with
  | list ys tk =>
    simp only [srcA, Option.some.injEq] at h; subst h
    have hlen : ys.length = ns.length := by rw [hxs]; simp
    rcases h1.list_inv with ⟨h0, A, rfl⟩ | ⟨b, o', c, k', vs, rfl, _, _, hfit, hcell, hvs⟩
    · have hn0 : ns = [] := by rw [h0] at hlen; exact List.eq_nil_of_length_eq_zero hlen.symm
      cases A with
      | none => exact hnil _ _ hn0
      | some a => exact hemp _ _ hn0
    · by_cases h0 : ns = []
      · rw [show ys.length = 0 by rw [hlen, h0]; rfl]; exact hemp _ _ h0
      · have hk : k' = 1 := by
          cases ns with
          | nil => exact absurd rfl h0
          | cons n ns => have := (hfit (.con (.int .u8 n)) (by rw [hxs]; simp)).1; simpa [AV.cells] using this.symm
        subst hk
        refine run_convert_bytes_arg w t1 e hd he' b o' ys.length c ns hlen.symm (fun i hi => ?_) t2 (tkind_string hs2)
        rw [(hcell i (by omega)).2]
        have h5 := hvs i 0 hi (by omega)
        rw [Nat.mul_one, Nat.add_zero] at h5
        rw [show (ys.getD i AV.any) = .con (.int .u8 (ns.getD i 0)) by
          rw [hxs]; simp [List.getD_eq_getElem?_getD, show i < ns.length by omega]] at h5
        simp only [AV.cells, List.getD_cons_zero] at h5
        generalize vs i = q at h5
        cases h5; rfl
  | con q =>
    cases h1
    cases u with
    | string s => exact absurd rfl (hnstr s)
    | slice B n c =>
      cases B <;> cases n <;> cases c <;> simp [srcA] at h
      subst h
      exact hnil _ _ (by simpa using hxs.symm)
    | _ => simp [srcA] at h
  | emp =>
    simp only [srcA, Option.some.injEq] at h; subst h
    cases h1
    exact hemp _ _ (by simpa using hxs.symm)
  | _ => simp [srcA] at h
end Go.Proofs.YtababmnmkmgbbaaGreat.Fw
set_option linter.unusedVariables false
namespace Go.Proofs.YtababmnmkmgbbaaGreat.Fw
open Go.RowKit
variable {P : Program} {o : Oper} {s : St} {K : St → Prop}

/-! A copy that may be written: append to an empty slice without room. -/
def flat (ys : List AV) : List AV := (ys.map AV.cells).flatten
theorem flat_len {k : Nat} : ∀ {ys : List AV}, (∀ y ∈ ys, y.cells.length = k) → (flat ys).length = ys.length * k
  | [], _ => by simp [flat]
  | y :: ys, h => by
    have h1 := flat_len (ys := ys) fun z hz => h z (by simp [hz])
    unfold flat at h1 ⊢
    rw [List.map_cons, List.flatten_cons, List.length_append, h1, h y (by simp), List.length_cons, Nat.add_mul]; omega
theorem flat_get {k : Nat} : ∀ {ys : List AV} {i j : Nat}, (∀ y ∈ ys, y.cells.length = k) → i < ys.length → j < k → (flat ys).getD (i * k + j) .any = (ys.getD i .any).cells.getD j .any
  | [], i, j, _, hi, _ => by simp at hi
  | y :: ys, 0, j, h, _, hj => by
    have := h y (by simp)
    simp only [flat, List.map_cons, List.flatten_cons, Nat.zero_mul, Nat.zero_add, List.getD_eq_getElem?_getD]
    rw [List.getElem?_append_left (by omega)]; simp
  | y :: ys, i + 1, j, h, hi, hj => by
    have h0 := h y (by simp)
    have ih := flat_get (ys := ys) (i := i) (j := j) (fun z hz => h z (by simp [hz])) (by simpa using hi) hj
    simp only [flat, List.map_cons, List.flatten_cons, List.getD_eq_getElem?_getD] at ih ⊢
    rw [List.getElem?_append_right (by rw [h0, Nat.add_mul]; omega), show (i + 1) * k + j - y.cells.length = i * k + j by rw [h0, Nat.add_mul]; omega, ih]
    simp
theorem append_emp_core {c : Call} {x y : Operand} {ty ty2 e k by_ d : Nat} {ys z : List AV} {tk : Option Nat} (ho : o.op = .call c) (hc : c.callee = .builtin .append) (ha : c.args = #[x, y]) (hat : c.argTypes = #[ty, ty2]) (hd : o.dst = some d) (hn : d < s.n)
    {σ : G} {w : World} {a : Act} {KK : Act → World → Prop} {Q : Exit → Act → World → Prop} {bb oo : Nat} (hs : Sim σ s.h w) (hl : Sl σ w s a) (hK : ∀ s' σ' w' v, K s' → Ext σ w σ' w' → Sim σ' s'.h w' → Sl σ' w' s' (a.put o.dst v) → KK (a.put o.dst v) w') (hvx : a.eval x = .slice (some ⟨bb, oo, none⟩) 0 0) (hy : okv (s.ev y)) (hA : AppOk P ty ty2 e k by_ z 0 (un (s.ev y)) ys) (hYl : un (s.ev y) = .list ys tk)
    (h0 : ys = [] → K ⟨s.n, (d, .emp) :: s.t, s.h⟩)
    (h : ys ≠ [] → ∀ id, s.h.box id = none → s.h.tok id = none → K ⟨s.n, (d, .sl id ys.length e k) :: s.t, ⟨(id, flat ys) :: s.h.bx, s.h.tk⟩⟩) : o.wp P a w KK Q := by
  have h2 := (hl.ev y).un hy
  rw [hYl] at h2
  obtain ⟨ht, hz, hzk, hk, hby, hY, hyk, hlim, hsame, hstr⟩ := hA
  rw [Nat.zero_add] at hlim
  have hsm : tkind P ty2 = 4 := hsame (by rw [hYl]; simp)
  unfold telem at ht
  split at ht
  case h_2 => cases ht
  rename_i e' hue
  obtain ⟨inf, hinf, ht⟩ := Option.map_eq_some_iff.1 ht
  simp only [Prod.mk.injEq] at ht
  obtain ⟨rfl, hik, hib⟩ := ht
  unfold tzero at hz
  obtain ⟨zv, hzv, hzz⟩ := Option.map_eq_some_iff.1 hz
  rw [hinf] at hzv
  simp only [Option.bind_some] at hzv
  have hzs : zv.cells.size = k := by rw [← hzk, ← hzz]; simp
  exact by
    generalize hvy : a.eval y = vy at h2
    rcases Nat.eq_zero_or_pos ys.length with hl0 | hpos
    · obtain rfl : ys = [] := List.eq_nil_of_length_eq_zero hl0
      have hrun : (Builtin.append_ #[ty, ty] o.type #[a.eval x, a.eval y]).run P w = .ok (.slice (some ⟨bb, oo, none⟩) 0 0) w := by
        rw [hvx, hvy]
        rcases h2.list_inv with ⟨_, A, rfl⟩ | ⟨b, o', c', k', vs, rfl, _⟩
        · exact run_app0 hue hinf (Nat.le_refl _)
        · exact run_app0 hue hinf (Nat.le_refl _)
      refine run_app_op ho hc ha hat a w ((append_ty2 hue hsm _ _).trans hrun) KK Q (hK _ σ w _ (h0 rfl) (.refl _ _) hs ?_)
      rw [hd]
      exact hl.put hn (.emp bb oo)
    · rcases h2.list_inv with ⟨rfl, _⟩ | ⟨b, o', c', k', vs, rfl, hcc, hcm, hfit, hcell, hvs⟩
      · simp at hpos
      · have hkk : k' = k := by
          obtain ⟨y0, hy0⟩ : ∃ y0, y0 ∈ ys := by cases ys with | nil => simp at hpos | cons y0 r => exact ⟨y0, by simp⟩
          rw [← (hfit y0 hy0).1, hyk y0 hy0]
        subst hkk
        have hr := run_append_grow (P := P) w ty o.type e' inf zv hue hinf hzv ⟨bb, oo, none⟩ 0 0 [] (by simp) (by simp) ⟨b, o', none⟩ ys.length c' ((List.range (ys.length * k')).map vs) (by simp [hik])
          (fun j q hj => by
            rw [List.getElem?_map] at hj
            rcases Nat.lt_or_ge j (ys.length * k') with hlt | hge
            · rw [List.getElem?_range hlt] at hj
              simp only [Option.map_some, Option.some.injEq] at hj
              rw [add_none, (hcell j hlt).2, hj]
            · rw [List.getElem?_eq_none (by simpa using hge)] at hj; cases hj) (by omega)
          (by have := Nat.le_mul_of_pos_right ys.length hby; omega) (growslice_fits (by omega) (by rw [hib, Nat.zero_add]; exact hlim))
        rw [← hvx, ← hvy] at hr
        simp only [Nat.zero_add, Array.empty_append] at hr
        have hsz : ∀ q, q < ys.length * k' → (((List.range (ys.length * k')).map vs).toArray ++ Builtin.zeroCells zv.cells (grownCap w ys.length 0 e' - ys.length)).getD q undef = vs q := by
          intro q hq
          simp [Array.getD_eq_getD_getElem?, Array.getElem?_append_left, hq]
        have hcs : (flat ys).length ≤ (((List.range (ys.length * k')).map vs).toArray ++ Builtin.zeroCells zv.cells (grownCap w ys.length 0 e' - ys.length)).size ∧ ∀ i, i < (flat ys).length →
            VR σ w.drew ((flat ys).getD i .any) ((((List.range (ys.length * k')).map vs).toArray ++ Builtin.zeroCells zv.cells (grownCap w ys.length 0 e' - ys.length)).getD i undef) := by
          rw [flat_len hyk]
          refine ⟨by simp, fun i hi => ?_⟩
          rw [hsz i hi]
          have hd1 : i / k' < ys.length := (Nat.div_lt_iff_lt_mul hk).2 hi
          have hd2 : i % k' < k' := Nat.mod_lt _ hk
          have e1 := Nat.div_add_mod i k'
          have h5 := hvs _ _ hd1 hd2
          have h6 := flat_get hyk hd1 hd2
          rw [show i / k' * k' + i % k' = i by rw [Nat.mul_comm]; exact e1] at h5 h6
          rw [h6]
          exact h5.mono (ext_drew hs)
        have hg1 := grownCap_ge w ys.length 0 e'
        have hg2 := grownCap_le_maxLen w ys.length 0 e' (by have := Nat.le_mul_of_pos_right ys.length hby; simp only [maxLen]; omega)
        have hS := sim_boxk (sim_drew hs) e' (.row e' k' (grownCap w ys.length 0 e')) (.cells (((List.range (ys.length * k')).map vs).toArray ++ Builtin.zeroCells zv.cells (grownCap w ys.length 0 e' - ys.length)) e') ⟨rfl, rfl, by
          simp only [Array.size_append, List.size_toArray, List.length_map, List.length_range, size_zeroCells, hzs, ← Nat.add_mul]
          congr 1; omega⟩ hcs
        have hE := (ext_drew hs).trans (ext_box (sim_drew hs) (.cells (((List.range (ys.length * k')).map vs).toArray ++ Builtin.zeroCells zv.cells (grownCap w ys.length 0 e' - ys.length)) e') (.row e' k' (grownCap w ys.length 0 e')))
        have hf := fresh_id hs
        refine run_app_op ho hc ha hat a w ((append_ty2 hue hsm _ _).trans hr) KK Q (hK _ _ _ _ (h (by intro e; rw [e] at hpos; simp at hpos) σ.next hf.1 hf.2) hE hS ?_)
        have hl' : Sl (σ.boxed w.drew.heap.size (.row e' k' (grownCap w ys.length 0 e'))) (w.drew.alloc (.cells (((List.range (ys.length * k')).map vs).toArray ++ Builtin.zeroCells zv.cells (grownCap w ys.length 0 e' - ys.length)) e')) (⟨s.n, s.t, ⟨(σ.next, flat ys) :: s.h.bx, s.h.tk⟩⟩ : St) a := ⟨hl.size, fun d => (hl.v d).mono hE, hl.defers⟩
        rw [hd]
        refine hl'.put hn ?_
        have := VR.sl (σ := σ.boxed w.drew.heap.size (.row e' k' (grownCap w ys.length 0 e'))) (w := w.drew.alloc (.cells (((List.range (ys.length * k')).map vs).toArray ++ Builtin.zeroCells zv.cells (grownCap w ys.length 0 e' - ys.length)) e')) σ.next ys.length e' k' (grownCap w ys.length 0 e') (by simp [G.boxed]) (by simp [G.boxed]) hpos hg1 hg2
        rwa [show (σ.boxed w.drew.heap.size (.row e' k' (grownCap w ys.length 0 e'))).blk σ.next = w.heap.size by simp [G.boxed]] at this
theorem sop_append_emp {c : Call} {x y : Operand} {ty ty2 e k by_ d : Nat} {ys z : List AV} {tk : Option Nat} (ho : o.op = .call c) (hc : c.callee = .builtin .append) (ha : c.args = #[x, y]) (hat : c.argTypes = #[ty, ty2]) (hd : o.dst = some d) (hn : d < s.n)
    (hx : okv (s.ev x)) (hy : okv (s.ev y)) (hxs : un (s.ev x) = .emp) (hA : AppOk P ty ty2 e k by_ z 0 (un (s.ev y)) ys) (hYl : un (s.ev y) = .list ys tk)
    (h0 : ys = [] → K ⟨s.n, (d, .emp) :: s.t, s.h⟩)
    (h : ys ≠ [] → ∀ id, s.h.box id = none → s.h.tok id = none → K ⟨s.n, (d, .sl id ys.length e k) :: s.t, ⟨(id, flat ys) :: s.h.bx, s.h.tk⟩⟩) : SOp P o s K := by
  intro σ w a hs hl KK Q hK
  have h1 := (hl.ev x).un hx
  rw [hxs] at h1
  generalize hvx : a.eval x = vx at h1
  cases h1 with
  | emp bb oo => exact append_emp_core ho hc ha hat hd hn hs hl hK hvx hy hA hYl h0 h
end Go.Proofs.YtababmnmkmgbbaaGreat.Fw
set_option linter.unusedVariables false
namespace Go.Proofs.YtababmnmkmgbbaaGreat.Fw
open Go.RowKit
variable {P : Program} {o : Oper} {s : St} {K : St → Prop}
/-- What the comparison with nil gives. -/
def nilB (op : BinOp) (b : Bool) : Bool := match op with | .eql => b | _ => !b
def isEq (op : BinOp) : Prop := op = .eql ∨ op = .neq
/-- An empty list is nil or not. -/
theorem sop_nilcmp {op : BinOp} {t t2 : TypeId} {x y : Operand} {d : Nat} {xs : List AV} {tk : Option Nat} (ho : o.op = .binOp op t x y t2) (hop : isEq op) (hd : o.dst = some d) (hn : d < s.n) (hx : okv (s.ev x)) (hy : okv (s.ev y))
    (hxs : un (s.ev x) = .list xs tk) (hys : un (s.ev y) = .con (.slice none 0 0)) (ht : tkind P t = 4) (h : ∀ b, (b = true → xs = []) → K (s.put d (.con (.bool (nilB op b))))) : SOp P o s K := by
  intro σ w a hs hl KK Q hK
  have h1 := (hl.ev x).un hx
  have h2 := (hl.ev y).un hy
  rw [hxs] at h1
  rw [hys] at h2
  have hsl : ∃ A n c, a.eval x = .slice A n c ∧ (A.isNone = true → xs = []) := by
    rcases h1.list_inv with ⟨e0, A, e⟩ | ⟨b, o', c', k', vs, e, _⟩
    · exact ⟨_, _, _, e, fun _ => e0⟩
    · exact ⟨_, _, _, e, by simp⟩
  obtain ⟨A, n, c, e1, e0⟩ := hsl
  have e2 : a.eval y = .slice none 0 0 := by generalize a.eval y = V at h2; cases h2; rfl
  have hr : (binOp op t (a.eval x) (a.eval y)).run P w = .ok (.bool (nilB op A.isNone)) w := by
    rw [e1, e2]
    rcases hop with rfl | rfl
    · exact (run_eqSlice ht w).1
    · exact (run_eqSlice ht w).2
  unfold Oper.wp
  simp only [execOp, ho, Sem.run_bind, run_eqGuard (P := P) (u := a.eval x) (by rw [e1]; simp) (by rw [e1]; simp), Result.andThen_ok, hr, Sem.run_pure, Oper.upon]
  refine hK _ σ w _ (h _ e0) (.refl _ _) hs ?_
  rw [hd]
  exact hl.put hn (.con _)
end Go.Proofs.YtababmnmkmgbbaaGreat.Fw
set_option linter.unusedVariables false
namespace Go.Proofs.YtababmnmkmgbbaaGreat.Fw
open Go.RowKit
variable {P : Program} {o : Oper} {H : Hp} {ρ : Operand → AV}

/-- A bound of a slice expression. -/
def bnd (ρ : Operand → AV) (d : Int) : Option Operand → Option Int
  | none => some d
  | some x => match ρ x with
    | .con (.int _ n) => some n
    | _ => none
theorem run_sliceBound {w : World} {k : IntKind} {n : Int} {y : Nat} {code : BoundsCode} (h0 : 0 ≤ n) (h1 : n ≤ y) : (Instr.sliceBound (.int k n) y code).run P w = .ok n.toNat w := by
  simp only [Instr.sliceBound, asIntOf, Sem.run_bind, Sem.run_pure, Result.andThen_ok, h0, h1, and_self, if_true]
theorem bnd_val {σ : G} {w : World} {d n : Int} {x : Operand} {ev : Operand → Value} (h : bnd ρ d (some x) = some n) (hv : VR σ w (ρ x) (ev x)) : ∃ k, ev x = .int k n := by
  simp only [bnd] at h
  split at h
  · rename_i k m e
    injection h with h
    subst h
    rw [e] at hv
    generalize ev x = u at hv
    cases hv
    exact ⟨k, rfl⟩
  · cases h
theorem run_bounds {σ : G} {w : World} {isS : Bool} {len cap : Nat} {lo hi : Option Operand} {L Hh : Int} {ev : Operand → Value} (hlo : bnd ρ 0 lo = some L) (hhi : bnd ρ len hi = some Hh) (h0 : 0 ≤ L) (h1 : L ≤ Hh) (h2 : Hh ≤ len) (hc : len ≤ cap)
    (hv1 : ∀ x, lo = some x → VR σ w (ρ x) (ev x)) (hv2 : ∀ x, hi = some x → VR σ w (ρ x) (ev x)) :
    (Instr.sliceBounds isS len cap (lo.map ev) (hi.map ev) none).run P w = .ok (L.toNat, Hh.toNat, cap) w := by
  have key : ∀ y : Nat, Hh.toNat = y → (match lo.map ev with
      | some v => Instr.sliceBound v y (if (none : Option Value).isSome then .slice3C else .sliceB)
      | none => pure 0 : Sem Nat).run P w = .ok L.toNat w := by
    intro y hy
    cases lo with
    | none => simp only [bnd, Option.some.injEq] at hlo; subst hlo; rfl
    | some x =>
      obtain ⟨k, e⟩ := bnd_val (ρ := ρ) hlo (hv1 x rfl)
      simp only [Option.map_some, e]
      exact run_sliceBound h0 (by omega)
  cases hi with
  | none =>
    simp only [bnd, Option.some.injEq] at hhi
    subst hhi
    have := key len (by omega)
    simp only [Option.isSome_none, Bool.false_eq_true, if_false] at this
    simp only [Instr.sliceBounds, Option.map_none, Sem.run_bind, Sem.run_pure, Result.andThen_ok, Option.isSome_none, Bool.false_eq_true, if_false]
    cases lo with
    | none =>
      simp only [bnd, Option.some.injEq] at hlo; subst hlo
      simp
    | some x =>
      simp only [Option.map_some] at this ⊢
      simp only [Sem.run_bind, this, Result.andThen_ok, Sem.run_pure]
      try simp
  | some y =>
    obtain ⟨k, e⟩ := bnd_val (ρ := ρ) hhi (hv2 y rfl)
    have := key Hh.toNat rfl
    simp only [Option.isSome_none, Bool.false_eq_true, if_false] at this
    have hb : ∀ code, (Instr.sliceBound (.int k Hh) cap code).run P w = .ok Hh.toNat w := fun code => run_sliceBound (by omega) (by omega)
    simp only [Instr.sliceBounds, Option.map_some, e, Sem.run_bind, Sem.run_pure, Result.andThen_ok, Option.isSome_none, Bool.false_eq_true, if_false, hb]
    cases lo with
    | none =>
      simp only [bnd, Option.some.injEq] at hlo; subst hlo
      simp
    | some x =>
      simp only [Option.map_some] at this ⊢
      simp only [Sem.run_bind, this, Result.andThen_ok, Sem.run_pure]
      try simp
def okB (ρ : Operand → AV) : Option Operand → Prop
  | none => True
  | some x => okv (ρ x)
theorem vop_sliceStr {t : TypeId} {x : Operand} {lo hi : Option Operand} {str : ByteArray} {L Hh : Int} (ho : o.op = .slice t x lo hi none) (hx : okv (ρ x)) (hlo' : okB ρ lo) (hhi' : okB ρ hi) (h : un (ρ x) = .con (.string str)) (ht : tkind P t = 2)
    (hlo : bnd (fun y => un (ρ y)) 0 lo = some L) (hhi : bnd (fun y => un (ρ y)) str.size hi = some Hh) (h0 : 0 ≤ L) (h1 : L ≤ Hh) (h2 : Hh ≤ str.size) : VOp P H o ρ (.con (.string (str.extract L.toNat Hh.toNat))) := vop_same fun σ w ev hs hv => by
  have g1 := (hv x (by simp [ho, Op.operands])).un hx
  rw [h] at g1
  generalize hu : ev x = u at g1
  cases g1
  have hb := run_bounds (P := P) (σ := σ) (w := w) (isS := false) (cap := str.size) (ρ := fun y => un (ρ y)) (ev := ev) hlo hhi h0 h1 h2 (Nat.le_refl _)
    (fun y e => (hv y (by simp [ho, Op.operands, e])).un (by subst e; exact hlo')) (fun y e => (hv y (by simp [ho, Op.operands, e])).un (by subst e; exact hhi'))
  refine ⟨_, ?_, .con _⟩
  have hus := tkind_string ht
  simp only [execOp, ho, hu, Instr.sliceAt, Instr.slice, Sem.run_bind, run_underlying hus, Result.andThen_ok, Option.map_none, Option.isSome_none, Bool.false_eq_true, if_false, hb, Sem.run_pure]
theorem vop_sliceList {t e k by_ : TypeId} {x : Operand} {lo hi : Option Operand} {xs : List AV} {tk : Option Nat} {L Hh : Int} (ho : o.op = .slice t x lo hi none) (hx : okv (ρ x)) (hlo' : okB ρ lo) (hhi' : okB ρ hi) (h : un (ρ x) = .list xs tk) (ht : telem P t = some (e, k, by_))
    (hlo : bnd (fun y => un (ρ y)) 0 lo = some L) (hhi : bnd (fun y => un (ρ y)) xs.length hi = some Hh) (h0 : 0 ≤ L) (h1 : L ≤ Hh) (h2 : Hh ≤ xs.length) (hk : ∀ x ∈ xs, x.cells.length = k) : VOp P H o ρ (.list ((xs.take Hh.toNat).drop L.toNat) none) := vop_same fun σ w ev hs hv => by
  have g1 := (hv x (by simp [ho, Op.operands])).un hx
  rw [h] at g1
  generalize hu : ev x = u at g1
  have hd : P.underlying t = some (.slice e) ∧ tsz P e = some k := by
    unfold telem at ht
    split at ht
    · rename_i e' hue
      obtain ⟨inf, hinf, ht⟩ := Option.map_eq_some_iff.1 ht
      simp only [Prod.mk.injEq] at ht
      obtain ⟨rfl, rfl, rfl⟩ := ht
      exact ⟨hue, by simp [tsz, hinf]⟩
    · cases ht
  obtain ⟨hd, hsz⟩ := hd
  have hb := fun cap hc => run_bounds (P := P) (σ := σ) (w := w) (isS := true) (cap := cap) (ρ := fun y => un (ρ y)) (ev := ev) hlo hhi h0 h1 h2 hc
    (fun y e => (hv y (by simp [ho, Op.operands, e])).un (by subst e; exact hlo')) (fun y e => (hv y (by simp [ho, Op.operands, e])).un (by subst e; exact hhi'))
  have hlen : ((xs.take Hh.toNat).drop L.toNat).length = Hh.toNat - L.toNat := by simp; omega
  rcases g1.list_inv with ⟨rfl, A, rfl⟩ | ⟨b, o', c, k', vs, rfl, hcl, hcm, hfit, hcell, hvs⟩
  · have hL : L = 0 := by simp at h2; omega
    have hH : Hh = 0 := by simp at h2; omega
    have hbb := hb 0 (by simp)
    subst hL hH
    refine ⟨.slice A 0 0, ?_, by cases A with | none => simpa using VR.nil | some a => simpa using VR.odd a⟩
    simp only [List.length_nil] at hbb
    simp only [execOp, ho, hu, Instr.sliceAt, Instr.slice, Sem.run_bind, run_underlying hd, Result.andThen_ok, Option.map_none, hbb, run_sizeOf hsz, Sem.run_pure]
    rfl
  · have hbb := hb c hcl
    have hrun : (execOp ev o).run P w = .ok (.value (.slice (if c = L.toNat then some ⟨b, o', none⟩ else some ⟨b, o' + L.toNat * k, none⟩) (Hh.toNat - L.toNat) (c - L.toNat))) w := by
      simp only [execOp, ho, hu, Instr.sliceAt, Instr.slice, Sem.run_bind, run_underlying hd, Result.andThen_ok, Option.map_none, hbb, run_sizeOf hsz, Sem.run_pure, Option.map_some, add_none]
    refine ⟨_, hrun, ?_⟩
    by_cases hc : c = L.toNat
    · rw [if_pos hc]
      have he : (xs.take Hh.toNat).drop L.toNat = [] := List.eq_nil_of_length_eq_zero (by rw [hlen]; omega)
      rw [he]
      have := VR.list (σ := σ) (w := w) [] b o' (c - L.toNat) 0 (fun _ => undef) (by simp) (by omega) (by simp) (fun j hj => absurd hj (by simp)) (fun i j hi => absurd hi (by simp))
      rwa [show ([] : List AV).length = Hh.toNat - L.toNat by simp; omega] at this
    · rw [if_neg hc]
      rcases Nat.eq_zero_or_pos xs.length with hx0 | hxp
      · have he : (xs.take Hh.toNat).drop L.toNat = [] := List.eq_nil_of_length_eq_zero (by rw [hlen]; omega)
        rw [he]
        have := VR.list (σ := σ) (w := w) [] b (o' + L.toNat * k) (c - L.toNat) 0 (fun _ => undef) (by simp) (by omega) (by simp) (fun j hj => absurd hj (by simp)) (fun i j hi => absurd hi (by simp))
        rwa [show ([] : List AV).length = Hh.toNat - L.toNat by simp; omega] at this
      · have hkk : k' = k := by
          have hm := List.getElem_mem (l := xs) (n := 0) hxp
          have := (hfit _ hm).1
          have := hk _ hm
          omega
        subst hkk
        have := VR.list (σ := σ) (w := w) ((xs.take Hh.toNat).drop L.toNat) b (o' + L.toNat * k') (c - L.toNat) k' (fun j => vs (L.toNat * k' + j)) (by rw [hlen]; omega) (by omega)
          (fun y hy => hfit y (List.mem_of_mem_take (List.mem_of_mem_drop hy)))
          (fun j hj => by
            rw [hlen, Nat.sub_mul] at hj
            have hle := Nat.mul_le_mul_right k' (show Hh.toNat ≤ xs.length by omega)
            have := hcell (L.toNat * k' + j) (by omega)
            rwa [← Nat.add_assoc] at this)
          (fun i j hi hj => by
            rw [hlen] at hi
            have := hvs (L.toNat + i) j (by omega) hj
            rw [Nat.add_mul, Nat.add_assoc] at this
            rwa [show ((xs.take Hh.toNat).drop L.toNat).getD i AV.any = xs.getD (L.toNat + i) .any by
              simp only [List.getD_eq_getElem?_getD, List.getElem?_drop, List.getElem?_take]
              rw [if_pos (by omega)]])
        rwa [hlen] at this
end Go.Proofs.YtababmnmkmgbbaaGreat.Fw
