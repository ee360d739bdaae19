/-
  NARROWER THAN 'FOR EVERY INPUT', by the rows' own cells (each row's printed sentence says how): RepairLists: loops · CqChecks: loops · CoreCores: loops · CqRuns: loops · CoreHoms: loops · PushAsks: loops · PushPlans: loops · CqFrozen: loops · CqMins: loops · PushRuns: loops.
  DERIVED. THE GIVEN ROWS OF THIS SEAT. 10 by the template 'for every input the law returns true; each argument reads behind the call as it read before'; 0 by the template 'total and deterministic' (their statements: YtababmnmkmgbbaaGreatTotals.lean).
  GIVEN WITH THE SEED: the statements are not yours to turn. If you find one false, say at which input.
  Laid BY PROGRAM, IN A SANDBOX (cutbox-rows.mjs): the forced cells as the released guide's own fill.sh prints them over the translation 2c80a177a61f336f… (all of the seat's roots in one cut). By AI agents, Wed Nov 11 2026. No macro, syntax, notation, axiom, sorry.
-/
import Derived.Test.YtababmnmkmgbbaaGreatChecked
import GoSem.Claim
import GoSem.ClaimJoined
import GoSem.ClaimMapViews
import Derived.JoinedTies
import Derived.KernelRfl
namespace Go.Proofs.YtababmnmkmgbbaaGreat
/- THE CELL 'sum', in the pinned program and in every row, IS THE sha256 OF THE DUMP (.gsa) THAT YtababmnmkmgbbaaGreatProg.lean LOADS. Nothing in Lean hashes anything: it is a label: what it is worth is what the hold of that sum in a sandbox is worth. -/
noncomputable def Tryz.pinned : Pinned := { name := "ytababmnmkmgbbaagreat", sum := "2c80a177a61f336f3b26e164cb84ad5ec69b3758f9a3c5b888fc7cc417bf4f64", checked := Tryz.checked }
namespace Rows
def none {H : Type} : Left H := { results := [], args := [] }

/-- 'claplaw4.RepairLists': WHATEVER THE INPUT: true; the input reads as it did. -/
def repairListsSpec : ChangeSpec := { name := "repairLists", fn := fun _ => fun
  | [d1, d2, d3] => { results := [.lit (.bool true)], args := [d1, d2, d3] }
  | _ => none }
def repairListsRow : OpenClaim := { program := "ytababmnmkmgbbaagreat", sum := "2c80a177a61f336f3b26e164cb84ad5ec69b3758f9a3c5b888fc7cc417bf4f64", func := "clapperbridge/claplaw4.RepairLists", spec := "repairLists", inPlace := ["internal/bytealg.abigen_runtime_cmpstring"], unfollowed := true, recurses := true, loops := true, plainKeys := false, apart := false }
def RepairListsSaid : Prop := repairListsRow.holds Tryz.pinned (OpenSpec.ofChange repairListsSpec)

/-- ITS FALSE NEIGHBOUR: 'it returns false'. Refute it at one input. -/
def repairListsWrong : ChangeSpec := { name := "repairLists", fn := fun _ => fun
  | [d1, d2, d3] => { results := [.lit (.bool false)], args := [d1, d2, d3] }
  | _ => none }
def RepairListsWrongFalsely : Prop := repairListsRow.holds Tryz.pinned (OpenSpec.ofChange repairListsWrong)

/-- 'claplaw4.CqChecks': WHATEVER THE INPUT: true; the input reads as it did. -/
def cqChecksSpec : ChangeSpec := { name := "cqChecks", fn := fun _ => fun
  | [d1, d2, d3] => { results := [.lit (.bool true)], args := [d1, d2, d3] }
  | _ => none }
def cqChecksRow : OpenClaim := { program := "ytababmnmkmgbbaagreat", sum := "2c80a177a61f336f3b26e164cb84ad5ec69b3758f9a3c5b888fc7cc417bf4f64", func := "clapperbridge/claplaw4.CqChecks", spec := "cqChecks", inPlace := ["internal/bytealg.abigen_runtime_cmpstring"], unfollowed := true, recurses := true, loops := true, plainKeys := false, apart := false }
def CqChecksSaid : Prop := cqChecksRow.holds Tryz.pinned (OpenSpec.ofChange cqChecksSpec)

/-- ITS FALSE NEIGHBOUR: 'it returns false'. Refute it at one input. -/
def cqChecksWrong : ChangeSpec := { name := "cqChecks", fn := fun _ => fun
  | [d1, d2, d3] => { results := [.lit (.bool false)], args := [d1, d2, d3] }
  | _ => none }
def CqChecksWrongFalsely : Prop := cqChecksRow.holds Tryz.pinned (OpenSpec.ofChange cqChecksWrong)

/-- 'claplaw4.CoreCores': WHATEVER THE INPUT: true; the input reads as it did. -/
def coreCoresSpec : ChangeSpec := { name := "coreCores", fn := fun _ => fun
  | [d] => { results := [.lit (.bool true)], args := [d] }
  | _ => none }
def coreCoresRow : OpenClaim := { program := "ytababmnmkmgbbaagreat", sum := "2c80a177a61f336f3b26e164cb84ad5ec69b3758f9a3c5b888fc7cc417bf4f64", func := "clapperbridge/claplaw4.CoreCores", spec := "coreCores", inPlace := ["internal/bytealg.abigen_runtime_cmpstring", "slices.overlaps[[]clapperbridge/api.Value]"], unfollowed := true, recurses := true, loops := true, plainKeys := false, apart := false }
def CoreCoresSaid : Prop := coreCoresRow.holds Tryz.pinned (OpenSpec.ofChange coreCoresSpec)

/-- ITS FALSE NEIGHBOUR: 'it returns false'. Refute it at one input. -/
def coreCoresWrong : ChangeSpec := { name := "coreCores", fn := fun _ => fun
  | [d] => { results := [.lit (.bool false)], args := [d] }
  | _ => none }
def CoreCoresWrongFalsely : Prop := coreCoresRow.holds Tryz.pinned (OpenSpec.ofChange coreCoresWrong)

/-- 'claplaw4.CqRuns': WHATEVER THE INPUT: true; the input reads as it did. -/
def cqRunsSpec : ChangeSpec := { name := "cqRuns", fn := fun _ => fun
  | [d1, d2] => { results := [.lit (.bool true)], args := [d1, d2] }
  | _ => none }
def cqRunsRow : OpenClaim := { program := "ytababmnmkmgbbaagreat", sum := "2c80a177a61f336f3b26e164cb84ad5ec69b3758f9a3c5b888fc7cc417bf4f64", func := "clapperbridge/claplaw4.CqRuns", spec := "cqRuns", inPlace := ["internal/bytealg.abigen_runtime_cmpstring", "slices.overlaps[[]clapperbridge/api.Value]"], unfollowed := true, recurses := true, loops := true, plainKeys := false, apart := false }
def CqRunsSaid : Prop := cqRunsRow.holds Tryz.pinned (OpenSpec.ofChange cqRunsSpec)

/-- ITS FALSE NEIGHBOUR: 'it returns false'. Refute it at one input. -/
def cqRunsWrong : ChangeSpec := { name := "cqRuns", fn := fun _ => fun
  | [d1, d2] => { results := [.lit (.bool false)], args := [d1, d2] }
  | _ => none }
def CqRunsWrongFalsely : Prop := cqRunsRow.holds Tryz.pinned (OpenSpec.ofChange cqRunsWrong)

/-- 'claplaw4.CoreHoms': WHATEVER THE INPUT: true; the input reads as it did. -/
def coreHomsSpec : ChangeSpec := { name := "coreHoms", fn := fun _ => fun
  | [d1, d2, d3] => { results := [.lit (.bool true)], args := [d1, d2, d3] }
  | _ => none }
def coreHomsRow : OpenClaim := { program := "ytababmnmkmgbbaagreat", sum := "2c80a177a61f336f3b26e164cb84ad5ec69b3758f9a3c5b888fc7cc417bf4f64", func := "clapperbridge/claplaw4.CoreHoms", spec := "coreHoms", inPlace := ["internal/bytealg.abigen_runtime_cmpstring", "slices.overlaps[[]clapperbridge/api.Value]"], unfollowed := true, recurses := true, loops := true, plainKeys := false, apart := false }
def CoreHomsSaid : Prop := coreHomsRow.holds Tryz.pinned (OpenSpec.ofChange coreHomsSpec)

/-- ITS FALSE NEIGHBOUR: 'it returns false'. Refute it at one input. -/
def coreHomsWrong : ChangeSpec := { name := "coreHoms", fn := fun _ => fun
  | [d1, d2, d3] => { results := [.lit (.bool false)], args := [d1, d2, d3] }
  | _ => none }
def CoreHomsWrongFalsely : Prop := coreHomsRow.holds Tryz.pinned (OpenSpec.ofChange coreHomsWrong)

/-- 'claplaw4.PushAsks': WHATEVER THE INPUT: true; the input reads as it did. -/
def pushAsksSpec : ChangeSpec := { name := "pushAsks", fn := fun _ => fun
  | [d1, d2, d3] => { results := [.lit (.bool true)], args := [d1, d2, d3] }
  | _ => none }
def pushAsksRow : OpenClaim := { program := "ytababmnmkmgbbaagreat", sum := "2c80a177a61f336f3b26e164cb84ad5ec69b3758f9a3c5b888fc7cc417bf4f64", func := "clapperbridge/claplaw4.PushAsks", spec := "pushAsks", inPlace := ["internal/bytealg.abigen_runtime_cmpstring"], unfollowed := true, recurses := true, loops := true, plainKeys := false, apart := false }
def PushAsksSaid : Prop := pushAsksRow.holds Tryz.pinned (OpenSpec.ofChange pushAsksSpec)

/-- ITS FALSE NEIGHBOUR: 'it returns false'. Refute it at one input. -/
def pushAsksWrong : ChangeSpec := { name := "pushAsks", fn := fun _ => fun
  | [d1, d2, d3] => { results := [.lit (.bool false)], args := [d1, d2, d3] }
  | _ => none }
def PushAsksWrongFalsely : Prop := pushAsksRow.holds Tryz.pinned (OpenSpec.ofChange pushAsksWrong)

/-- 'claplaw4.PushPlans': WHATEVER THE INPUT: true; the input reads as it did. -/
def pushPlansSpec : ChangeSpec := { name := "pushPlans", fn := fun _ => fun
  | [d1, d2, d3] => { results := [.lit (.bool true)], args := [d1, d2, d3] }
  | _ => none }
def pushPlansRow : OpenClaim := { program := "ytababmnmkmgbbaagreat", sum := "2c80a177a61f336f3b26e164cb84ad5ec69b3758f9a3c5b888fc7cc417bf4f64", func := "clapperbridge/claplaw4.PushPlans", spec := "pushPlans", inPlace := ["internal/bytealg.abigen_runtime_cmpstring"], unfollowed := true, recurses := true, loops := true, plainKeys := false, apart := false }
def PushPlansSaid : Prop := pushPlansRow.holds Tryz.pinned (OpenSpec.ofChange pushPlansSpec)

/-- ITS FALSE NEIGHBOUR: 'it returns false'. Refute it at one input. -/
def pushPlansWrong : ChangeSpec := { name := "pushPlans", fn := fun _ => fun
  | [d1, d2, d3] => { results := [.lit (.bool false)], args := [d1, d2, d3] }
  | _ => none }
def PushPlansWrongFalsely : Prop := pushPlansRow.holds Tryz.pinned (OpenSpec.ofChange pushPlansWrong)

/-- 'claplaw4.CqFrozen': WHATEVER THE INPUT: true; the input reads as it did. -/
def cqFrozenSpec : ChangeSpec := { name := "cqFrozen", fn := fun _ => fun
  | [d1, d2, d3] => { results := [.lit (.bool true)], args := [d1, d2, d3] }
  | _ => none }
def cqFrozenRow : OpenClaim := { program := "ytababmnmkmgbbaagreat", sum := "2c80a177a61f336f3b26e164cb84ad5ec69b3758f9a3c5b888fc7cc417bf4f64", func := "clapperbridge/claplaw4.CqFrozen", spec := "cqFrozen", inPlace := ["internal/bytealg.abigen_runtime_cmpstring", "slices.overlaps[[]clapperbridge/api.Value]"], unfollowed := true, recurses := true, loops := true, plainKeys := false, apart := false }
def CqFrozenSaid : Prop := cqFrozenRow.holds Tryz.pinned (OpenSpec.ofChange cqFrozenSpec)

/-- ITS FALSE NEIGHBOUR: 'it returns false'. Refute it at one input. -/
def cqFrozenWrong : ChangeSpec := { name := "cqFrozen", fn := fun _ => fun
  | [d1, d2, d3] => { results := [.lit (.bool false)], args := [d1, d2, d3] }
  | _ => none }
def CqFrozenWrongFalsely : Prop := cqFrozenRow.holds Tryz.pinned (OpenSpec.ofChange cqFrozenWrong)

/-- 'claplaw4.CqMins': WHATEVER THE INPUT: true; the input reads as it did. -/
def cqMinsSpec : ChangeSpec := { name := "cqMins", fn := fun _ => fun
  | [d1, d2] => { results := [.lit (.bool true)], args := [d1, d2] }
  | _ => none }
def cqMinsRow : OpenClaim := { program := "ytababmnmkmgbbaagreat", sum := "2c80a177a61f336f3b26e164cb84ad5ec69b3758f9a3c5b888fc7cc417bf4f64", func := "clapperbridge/claplaw4.CqMins", spec := "cqMins", inPlace := ["internal/bytealg.abigen_runtime_cmpstring", "slices.overlaps[[]clapperbridge/api.Value]"], unfollowed := true, recurses := true, loops := true, plainKeys := false, apart := false }
def CqMinsSaid : Prop := cqMinsRow.holds Tryz.pinned (OpenSpec.ofChange cqMinsSpec)

/-- ITS FALSE NEIGHBOUR: 'it returns false'. Refute it at one input. -/
def cqMinsWrong : ChangeSpec := { name := "cqMins", fn := fun _ => fun
  | [d1, d2] => { results := [.lit (.bool false)], args := [d1, d2] }
  | _ => none }
def CqMinsWrongFalsely : Prop := cqMinsRow.holds Tryz.pinned (OpenSpec.ofChange cqMinsWrong)

/-- 'claplaw4.PushRuns': WHATEVER THE INPUT: true; the input reads as it did. -/
def pushRunsSpec : ChangeSpec := { name := "pushRuns", fn := fun _ => fun
  | [d1, d2, d3] => { results := [.lit (.bool true)], args := [d1, d2, d3] }
  | _ => none }
def pushRunsRow : OpenClaim := { program := "ytababmnmkmgbbaagreat", sum := "2c80a177a61f336f3b26e164cb84ad5ec69b3758f9a3c5b888fc7cc417bf4f64", func := "clapperbridge/claplaw4.PushRuns", spec := "pushRuns", inPlace := ["internal/bytealg.abigen_runtime_cmpstring", "slices.overlaps[[]clapperbridge/api.Value]"], unfollowed := true, recurses := true, loops := true, plainKeys := false, apart := false }
def PushRunsSaid : Prop := pushRunsRow.holds Tryz.pinned (OpenSpec.ofChange pushRunsSpec)

/-- ITS FALSE NEIGHBOUR: 'it returns false'. Refute it at one input. -/
def pushRunsWrong : ChangeSpec := { name := "pushRuns", fn := fun _ => fun
  | [d1, d2, d3] => { results := [.lit (.bool false)], args := [d1, d2, d3] }
  | _ => none }
def PushRunsWrongFalsely : Prop := pushRunsRow.holds Tryz.pinned (OpenSpec.ofChange pushRunsWrong)

/- THE SECOND FORM. 'bulk': how many values and letters a reading holds, each counted each time it is reached (what is shared counts as often as it is met; a slice's spare places count too). A statement '..UptoSaid' is the law's where the arguments, and the package variables that the reading takes, are together of bulk at most 1048576: NARROWER than '..Said'. Prove '..Said' where nothing that the law and all that it calls make is longer than what came in: it says more and counts as full. Else prove '..UptoSaid'. A law counts once. -/
mutual
def uptoBulk {H : Type} : DataW H → Nat
  | .lit (.string bytes) => bytes.length + 1
  | .lit _ => 1
  | .nil => 1
  | .ptr d => uptoBulk d + 1
  | .slice elems spare => uptoBulkAll elems + uptoBulkAll spare + 1
  | .agg parts => uptoBulkAll parts + 1
  | .iface _ d => uptoBulk d + 1
  | .map entries => uptoBulkEntries entries + 1
  | .held _ => 1
def uptoBulkAll {H : Type} : List (DataW H) → Nat
  | [] => 0
  | d :: r => uptoBulk d + uptoBulkAll r
def uptoBulkEntries {H : Type} : List (Lit × DataW H) → Nat
  | [] => 0
  | x :: r => uptoBulkEntry x + uptoBulkEntries r
def uptoBulkEntry {H : Type} : Lit × DataW H → Nat
  | (.string bytes, d) => bytes.length + uptoBulk d + 1
  | (_, d) => uptoBulk d + 1
 end
def uptoSmall : (H : Type) → List (DataW H) → Bool := fun _ ds => decide (uptoBulkAll ds ≤ 1048576)
def OpenSpec.upto (s : _root_.Go.ChangeSpec) : _root_.Go.OpenSpec := { _root_.Go.OpenSpec.ofChange s with cond := some uptoSmall }

/-- 'claplaw4.RepairLists', WHERE WHAT IT READS IS OF BULK AT MOST 1048576: true; the input reads as it did. -/
def repairListsUptoRow : OpenClaim := { program := "ytababmnmkmgbbaagreat", sum := "2c80a177a61f336f3b26e164cb84ad5ec69b3758f9a3c5b888fc7cc417bf4f64", func := "clapperbridge/claplaw4.RepairLists", spec := "repairLists", inPlace := ["internal/bytealg.abigen_runtime_cmpstring"], unfollowed := true, recurses := true, loops := true, plainKeys := false, apart := false, narrowed := true }
def RepairListsUptoSaid : Prop := repairListsUptoRow.holds Tryz.pinned (OpenSpec.upto repairListsSpec)

/-- 'claplaw4.CqChecks', WHERE WHAT IT READS IS OF BULK AT MOST 1048576: true; the input reads as it did. -/
def cqChecksUptoRow : OpenClaim := { program := "ytababmnmkmgbbaagreat", sum := "2c80a177a61f336f3b26e164cb84ad5ec69b3758f9a3c5b888fc7cc417bf4f64", func := "clapperbridge/claplaw4.CqChecks", spec := "cqChecks", inPlace := ["internal/bytealg.abigen_runtime_cmpstring"], unfollowed := true, recurses := true, loops := true, plainKeys := false, apart := false, narrowed := true }
def CqChecksUptoSaid : Prop := cqChecksUptoRow.holds Tryz.pinned (OpenSpec.upto cqChecksSpec)

/-- 'claplaw4.CoreCores', WHERE WHAT IT READS IS OF BULK AT MOST 1048576: true; the input reads as it did. -/
def coreCoresUptoRow : OpenClaim := { program := "ytababmnmkmgbbaagreat", sum := "2c80a177a61f336f3b26e164cb84ad5ec69b3758f9a3c5b888fc7cc417bf4f64", func := "clapperbridge/claplaw4.CoreCores", spec := "coreCores", inPlace := ["internal/bytealg.abigen_runtime_cmpstring", "slices.overlaps[[]clapperbridge/api.Value]"], unfollowed := true, recurses := true, loops := true, plainKeys := false, apart := false, narrowed := true }
def CoreCoresUptoSaid : Prop := coreCoresUptoRow.holds Tryz.pinned (OpenSpec.upto coreCoresSpec)

/-- 'claplaw4.CqRuns', WHERE WHAT IT READS IS OF BULK AT MOST 1048576: true; the input reads as it did. -/
def cqRunsUptoRow : OpenClaim := { program := "ytababmnmkmgbbaagreat", sum := "2c80a177a61f336f3b26e164cb84ad5ec69b3758f9a3c5b888fc7cc417bf4f64", func := "clapperbridge/claplaw4.CqRuns", spec := "cqRuns", inPlace := ["internal/bytealg.abigen_runtime_cmpstring", "slices.overlaps[[]clapperbridge/api.Value]"], unfollowed := true, recurses := true, loops := true, plainKeys := false, apart := false, narrowed := true }
def CqRunsUptoSaid : Prop := cqRunsUptoRow.holds Tryz.pinned (OpenSpec.upto cqRunsSpec)

/-- 'claplaw4.CoreHoms', WHERE WHAT IT READS IS OF BULK AT MOST 1048576: true; the input reads as it did. -/
def coreHomsUptoRow : OpenClaim := { program := "ytababmnmkmgbbaagreat", sum := "2c80a177a61f336f3b26e164cb84ad5ec69b3758f9a3c5b888fc7cc417bf4f64", func := "clapperbridge/claplaw4.CoreHoms", spec := "coreHoms", inPlace := ["internal/bytealg.abigen_runtime_cmpstring", "slices.overlaps[[]clapperbridge/api.Value]"], unfollowed := true, recurses := true, loops := true, plainKeys := false, apart := false, narrowed := true }
def CoreHomsUptoSaid : Prop := coreHomsUptoRow.holds Tryz.pinned (OpenSpec.upto coreHomsSpec)

/-- 'claplaw4.PushAsks', WHERE WHAT IT READS IS OF BULK AT MOST 1048576: true; the input reads as it did. -/
def pushAsksUptoRow : OpenClaim := { program := "ytababmnmkmgbbaagreat", sum := "2c80a177a61f336f3b26e164cb84ad5ec69b3758f9a3c5b888fc7cc417bf4f64", func := "clapperbridge/claplaw4.PushAsks", spec := "pushAsks", inPlace := ["internal/bytealg.abigen_runtime_cmpstring"], unfollowed := true, recurses := true, loops := true, plainKeys := false, apart := false, narrowed := true }
def PushAsksUptoSaid : Prop := pushAsksUptoRow.holds Tryz.pinned (OpenSpec.upto pushAsksSpec)

/-- 'claplaw4.PushPlans', WHERE WHAT IT READS IS OF BULK AT MOST 1048576: true; the input reads as it did. -/
def pushPlansUptoRow : OpenClaim := { program := "ytababmnmkmgbbaagreat", sum := "2c80a177a61f336f3b26e164cb84ad5ec69b3758f9a3c5b888fc7cc417bf4f64", func := "clapperbridge/claplaw4.PushPlans", spec := "pushPlans", inPlace := ["internal/bytealg.abigen_runtime_cmpstring"], unfollowed := true, recurses := true, loops := true, plainKeys := false, apart := false, narrowed := true }
def PushPlansUptoSaid : Prop := pushPlansUptoRow.holds Tryz.pinned (OpenSpec.upto pushPlansSpec)

/-- 'claplaw4.CqFrozen', WHERE WHAT IT READS IS OF BULK AT MOST 1048576: true; the input reads as it did. -/
def cqFrozenUptoRow : OpenClaim := { program := "ytababmnmkmgbbaagreat", sum := "2c80a177a61f336f3b26e164cb84ad5ec69b3758f9a3c5b888fc7cc417bf4f64", func := "clapperbridge/claplaw4.CqFrozen", spec := "cqFrozen", inPlace := ["internal/bytealg.abigen_runtime_cmpstring", "slices.overlaps[[]clapperbridge/api.Value]"], unfollowed := true, recurses := true, loops := true, plainKeys := false, apart := false, narrowed := true }
def CqFrozenUptoSaid : Prop := cqFrozenUptoRow.holds Tryz.pinned (OpenSpec.upto cqFrozenSpec)

/-- 'claplaw4.CqMins', WHERE WHAT IT READS IS OF BULK AT MOST 1048576: true; the input reads as it did. -/
def cqMinsUptoRow : OpenClaim := { program := "ytababmnmkmgbbaagreat", sum := "2c80a177a61f336f3b26e164cb84ad5ec69b3758f9a3c5b888fc7cc417bf4f64", func := "clapperbridge/claplaw4.CqMins", spec := "cqMins", inPlace := ["internal/bytealg.abigen_runtime_cmpstring", "slices.overlaps[[]clapperbridge/api.Value]"], unfollowed := true, recurses := true, loops := true, plainKeys := false, apart := false, narrowed := true }
def CqMinsUptoSaid : Prop := cqMinsUptoRow.holds Tryz.pinned (OpenSpec.upto cqMinsSpec)

/-- 'claplaw4.PushRuns', WHERE WHAT IT READS IS OF BULK AT MOST 1048576: true; the input reads as it did. -/
def pushRunsUptoRow : OpenClaim := { program := "ytababmnmkmgbbaagreat", sum := "2c80a177a61f336f3b26e164cb84ad5ec69b3758f9a3c5b888fc7cc417bf4f64", func := "clapperbridge/claplaw4.PushRuns", spec := "pushRuns", inPlace := ["internal/bytealg.abigen_runtime_cmpstring", "slices.overlaps[[]clapperbridge/api.Value]"], unfollowed := true, recurses := true, loops := true, plainKeys := false, apart := false, narrowed := true }
def PushRunsUptoSaid : Prop := pushRunsUptoRow.holds Tryz.pinned (OpenSpec.upto pushRunsSpec)

end Rows
end Go.Proofs.YtababmnmkmgbbaaGreat
