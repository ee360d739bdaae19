/-
  NARROWER THAN 'FOR EVERY INPUT', by the rows' own cells (each row's printed sentence says how): LogReads: loops · LogFrames: loops · LogEntries: loops · QueryConds: loops · LogSinks: loops.
  DERIVED. THE GIVEN ROWS OF THIS SEAT. 5 by the template 'for every input the law returns true; each argument reads behind the call as it read before'; 0 by the template 'total and deterministic' (their statements: YtdlbbcjacjockaaTotals.lean).
  GIVEN WITH THE SEED: the statements are not yours to turn. If you find one false, say at which input.
  Laid BY PROGRAM, IN A SANDBOX (cutbox-rows.mjs): the forced cells as the released guide's own fill.sh prints them over the translation aca25db617138c70… (all of the seat's roots in one cut). By AI agents, Wed Nov 11 2026. No macro, syntax, notation, axiom, sorry.
-/
import Derived.Test.YtdlbbcjacjockaaChecked
import GoSem.Claim
import GoSem.ClaimJoined
import GoSem.ClaimMapViews
import Derived.JoinedTies
import Derived.KernelRfl
namespace Go.Proofs.Ytdlbbcjacjockaa
/- THE CELL 'sum', in the pinned program and in every row, IS THE sha256 OF THE DUMP (.gsa) THAT YtdlbbcjacjockaaProg.lean LOADS. Nothing in Lean hashes anything: it is a label: what it is worth is what the hold of that sum in a sandbox is worth. -/
noncomputable def Try.pinned : Pinned := { name := "ytdlbbcjacjockaa", sum := "aca25db617138c70e456761d8292f80745b48929abb2e2b4e6815287ecd5c566", checked := Try.checked }
namespace Rows
def none {H : Type} : Left H := { results := [], args := [] }

/-- 'claplaw4.LogReads': WHATEVER THE INPUT: true; the input reads as it did. -/
def logReadsSpec : ChangeSpec := { name := "logReads", fn := fun _ => fun
  | [d1, d2, d3, d4] => { results := [.lit (.bool true)], args := [d1, d2, d3, d4] }
  | _ => none }
def logReadsRow : OpenClaim := { program := "ytdlbbcjacjockaa", sum := "aca25db617138c70e456761d8292f80745b48929abb2e2b4e6815287ecd5c566", func := "clapperbridge/claplaw4.LogReads", spec := "logReads", inPlace := ["internal/bytealg.abigen_runtime_cmpstring"], unfollowed := true, recurses := true, loops := true, apart := false }
def LogReadsSaid : Prop := logReadsRow.holds Try.pinned (OpenSpec.ofChange logReadsSpec)

/-- ITS FALSE NEIGHBOUR: 'it returns false'. Refute it at one input. -/
def logReadsWrong : ChangeSpec := { name := "logReads", fn := fun _ => fun
  | [d1, d2, d3, d4] => { results := [.lit (.bool false)], args := [d1, d2, d3, d4] }
  | _ => none }
def LogReadsWrongFalsely : Prop := logReadsRow.holds Try.pinned (OpenSpec.ofChange logReadsWrong)

/-- 'claplaw4.LogFrames': WHATEVER THE INPUT: true; the input reads as it did. -/
def logFramesSpec : ChangeSpec := { name := "logFrames", fn := fun _ => fun
  | [d1, d2, d3, d4] => { results := [.lit (.bool true)], args := [d1, d2, d3, d4] }
  | _ => none }
def logFramesRow : OpenClaim := { program := "ytdlbbcjacjockaa", sum := "aca25db617138c70e456761d8292f80745b48929abb2e2b4e6815287ecd5c566", func := "clapperbridge/claplaw4.LogFrames", spec := "logFrames", inPlace := ["internal/bytealg.abigen_runtime_cmpstring"], unfollowed := true, recurses := true, loops := true, apart := false }
def LogFramesSaid : Prop := logFramesRow.holds Try.pinned (OpenSpec.ofChange logFramesSpec)

/-- ITS FALSE NEIGHBOUR: 'it returns false'. Refute it at one input. -/
def logFramesWrong : ChangeSpec := { name := "logFrames", fn := fun _ => fun
  | [d1, d2, d3, d4] => { results := [.lit (.bool false)], args := [d1, d2, d3, d4] }
  | _ => none }
def LogFramesWrongFalsely : Prop := logFramesRow.holds Try.pinned (OpenSpec.ofChange logFramesWrong)

/-- 'claplaw4.LogEntries': WHATEVER THE INPUT: true; the input reads as it did. -/
def logEntriesSpec : ChangeSpec := { name := "logEntries", fn := fun _ => fun
  | [d1, d2, d3] => { results := [.lit (.bool true)], args := [d1, d2, d3] }
  | _ => none }
def logEntriesRow : OpenClaim := { program := "ytdlbbcjacjockaa", sum := "aca25db617138c70e456761d8292f80745b48929abb2e2b4e6815287ecd5c566", func := "clapperbridge/claplaw4.LogEntries", spec := "logEntries", inPlace := ["internal/bytealg.abigen_runtime_cmpstring"], unfollowed := true, recurses := true, loops := true, apart := false }
def LogEntriesSaid : Prop := logEntriesRow.holds Try.pinned (OpenSpec.ofChange logEntriesSpec)

/-- ITS FALSE NEIGHBOUR: 'it returns false'. Refute it at one input. -/
def logEntriesWrong : ChangeSpec := { name := "logEntries", fn := fun _ => fun
  | [d1, d2, d3] => { results := [.lit (.bool false)], args := [d1, d2, d3] }
  | _ => none }
def LogEntriesWrongFalsely : Prop := logEntriesRow.holds Try.pinned (OpenSpec.ofChange logEntriesWrong)

/-- 'claplaw4.QueryConds': WHATEVER THE INPUT: true; the input reads as it did. -/
def queryCondsSpec : ChangeSpec := { name := "queryConds", fn := fun _ => fun
  | [d1, d2] => { results := [.lit (.bool true)], args := [d1, d2] }
  | _ => none }
def queryCondsRow : OpenClaim := { program := "ytdlbbcjacjockaa", sum := "aca25db617138c70e456761d8292f80745b48929abb2e2b4e6815287ecd5c566", func := "clapperbridge/claplaw4.QueryConds", spec := "queryConds", inPlace := ["internal/bytealg.abigen_runtime_cmpstring"], unfollowed := true, recurses := true, loops := true, apart := false }
def QueryCondsSaid : Prop := queryCondsRow.holds Try.pinned (OpenSpec.ofChange queryCondsSpec)

/-- ITS FALSE NEIGHBOUR: 'it returns false'. Refute it at one input. -/
def queryCondsWrong : ChangeSpec := { name := "queryConds", fn := fun _ => fun
  | [d1, d2] => { results := [.lit (.bool false)], args := [d1, d2] }
  | _ => none }
def QueryCondsWrongFalsely : Prop := queryCondsRow.holds Try.pinned (OpenSpec.ofChange queryCondsWrong)

/-- 'claplaw4.LogSinks': WHATEVER THE INPUT: true; the input reads as it did. -/
def logSinksSpec : ChangeSpec := { name := "logSinks", fn := fun _ => fun
  | [d1, d2] => { results := [.lit (.bool true)], args := [d1, d2] }
  | _ => none }
def logSinksRow : OpenClaim := { program := "ytdlbbcjacjockaa", sum := "aca25db617138c70e456761d8292f80745b48929abb2e2b4e6815287ecd5c566", func := "clapperbridge/claplaw4.LogSinks", spec := "logSinks", inPlace := ["internal/bytealg.abigen_runtime_cmpstring"], unfollowed := true, recurses := true, loops := true, apart := false }
def LogSinksSaid : Prop := logSinksRow.holds Try.pinned (OpenSpec.ofChange logSinksSpec)

/-- ITS FALSE NEIGHBOUR: 'it returns false'. Refute it at one input. -/
def logSinksWrong : ChangeSpec := { name := "logSinks", fn := fun _ => fun
  | [d1, d2] => { results := [.lit (.bool false)], args := [d1, d2] }
  | _ => none }
def LogSinksWrongFalsely : Prop := logSinksRow.holds Try.pinned (OpenSpec.ofChange logSinksWrong)

/- THE SECOND FORM. 'bulk': how many values and letters a reading holds, each counted each time it is reached (what is shared counts as often as it is met; a slice's spare places count too). A statement '..UptoSaid' is the law's where the arguments, and the package variables that the reading takes, are together of bulk at most 1048576: NARROWER than '..Said'. Prove '..Said' where nothing that the law and all that it calls make is longer than what came in: it says more and counts as full. Else prove '..UptoSaid'. A law counts once. -/
mutual
def uptoBulk {H : Type} : DataW H → Nat
  | .lit (.string bytes) => bytes.length + 1
  | .lit _ => 1
  | .nil => 1
  | .ptr d => uptoBulk d + 1
  | .slice elems spare => uptoBulkAll elems + uptoBulkAll spare + 1
  | .agg parts => uptoBulkAll parts + 1
  | .iface _ d => uptoBulk d + 1
  | .map entries => uptoBulkEntries entries + 1
  | .held _ => 1
def uptoBulkAll {H : Type} : List (DataW H) → Nat
  | [] => 0
  | d :: r => uptoBulk d + uptoBulkAll r
def uptoBulkEntries {H : Type} : List (Lit × DataW H) → Nat
  | [] => 0
  | x :: r => uptoBulkEntry x + uptoBulkEntries r
def uptoBulkEntry {H : Type} : Lit × DataW H → Nat
  | (.string bytes, d) => bytes.length + uptoBulk d + 1
  | (_, d) => uptoBulk d + 1
 end
def uptoSmall : (H : Type) → List (DataW H) → Bool := fun _ ds => decide (uptoBulkAll ds ≤ 1048576)
def OpenSpec.upto (s : _root_.Go.ChangeSpec) : _root_.Go.OpenSpec := { _root_.Go.OpenSpec.ofChange s with cond := some uptoSmall }

/-- 'claplaw4.LogReads', WHERE WHAT IT READS IS OF BULK AT MOST 1048576: true; the input reads as it did. -/
def logReadsUptoRow : OpenClaim := { program := "ytdlbbcjacjockaa", sum := "aca25db617138c70e456761d8292f80745b48929abb2e2b4e6815287ecd5c566", func := "clapperbridge/claplaw4.LogReads", spec := "logReads", inPlace := ["internal/bytealg.abigen_runtime_cmpstring"], unfollowed := true, recurses := true, loops := true, apart := false, narrowed := true }
def LogReadsUptoSaid : Prop := logReadsUptoRow.holds Try.pinned (OpenSpec.upto logReadsSpec)

/-- 'claplaw4.LogFrames', WHERE WHAT IT READS IS OF BULK AT MOST 1048576: true; the input reads as it did. -/
def logFramesUptoRow : OpenClaim := { program := "ytdlbbcjacjockaa", sum := "aca25db617138c70e456761d8292f80745b48929abb2e2b4e6815287ecd5c566", func := "clapperbridge/claplaw4.LogFrames", spec := "logFrames", inPlace := ["internal/bytealg.abigen_runtime_cmpstring"], unfollowed := true, recurses := true, loops := true, apart := false, narrowed := true }
def LogFramesUptoSaid : Prop := logFramesUptoRow.holds Try.pinned (OpenSpec.upto logFramesSpec)

/-- 'claplaw4.LogEntries', WHERE WHAT IT READS IS OF BULK AT MOST 1048576: true; the input reads as it did. -/
def logEntriesUptoRow : OpenClaim := { program := "ytdlbbcjacjockaa", sum := "aca25db617138c70e456761d8292f80745b48929abb2e2b4e6815287ecd5c566", func := "clapperbridge/claplaw4.LogEntries", spec := "logEntries", inPlace := ["internal/bytealg.abigen_runtime_cmpstring"], unfollowed := true, recurses := true, loops := true, apart := false, narrowed := true }
def LogEntriesUptoSaid : Prop := logEntriesUptoRow.holds Try.pinned (OpenSpec.upto logEntriesSpec)

/-- 'claplaw4.QueryConds', WHERE WHAT IT READS IS OF BULK AT MOST 1048576: true; the input reads as it did. -/
def queryCondsUptoRow : OpenClaim := { program := "ytdlbbcjacjockaa", sum := "aca25db617138c70e456761d8292f80745b48929abb2e2b4e6815287ecd5c566", func := "clapperbridge/claplaw4.QueryConds", spec := "queryConds", inPlace := ["internal/bytealg.abigen_runtime_cmpstring"], unfollowed := true, recurses := true, loops := true, apart := false, narrowed := true }
def QueryCondsUptoSaid : Prop := queryCondsUptoRow.holds Try.pinned (OpenSpec.upto queryCondsSpec)

/-- 'claplaw4.LogSinks', WHERE WHAT IT READS IS OF BULK AT MOST 1048576: true; the input reads as it did. -/
def logSinksUptoRow : OpenClaim := { program := "ytdlbbcjacjockaa", sum := "aca25db617138c70e456761d8292f80745b48929abb2e2b4e6815287ecd5c566", func := "clapperbridge/claplaw4.LogSinks", spec := "logSinks", inPlace := ["internal/bytealg.abigen_runtime_cmpstring"], unfollowed := true, recurses := true, loops := true, apart := false, narrowed := true }
def LogSinksUptoSaid : Prop := logSinksUptoRow.holds Try.pinned (OpenSpec.upto logSinksSpec)

end Rows
end Go.Proofs.Ytdlbbcjacjockaa
