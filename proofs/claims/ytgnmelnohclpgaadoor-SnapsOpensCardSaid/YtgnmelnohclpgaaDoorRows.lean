/-
  NARROWER THAN 'FOR EVERY INPUT', by the rows' own cells (each row's printed sentence says how): FleetNobody: laid · JobReads: laid · JournalFrames: laid · JournalCuts: laid · JobRight: laid · JournalGens: laid · JournalNobody: laid · SnapsOpens: laid · SnapsNobody: laid · SnapsBig: laid · JournalFalls: laid · SnapsTurns: laid · SnapsFalls: laid · FleetReads: laid · FleetSpares: laid.
  DERIVED. THE GIVEN ROWS OF THIS SEAT. 15 by the template 'for every input the law returns true; each argument reads behind the call as it read before'; 0 by the template 'total and deterministic' (their statements: YtgnmelnohclpgaaDoorTotals.lean).
  GIVEN WITH THE SEED: the statements are not yours to turn. If you find one false, say at which input.
  Laid BY PROGRAM, IN A SANDBOX (cutbox-rows.mjs): the forced cells as the released guide's own fill.sh prints them over the translation c522744525ffece0… (all of the seat's roots in one cut). By AI agents, Wed Nov 11 2026. No macro, syntax, notation, axiom, sorry.
-/
import Derived.Test.YtgnmelnohclpgaaDoorChecked
import GoSem.Claim
import GoSem.ClaimJoined
import GoSem.ClaimMapViews
import Derived.JoinedTies
import Derived.KernelRfl
namespace Go.Proofs.YtgnmelnohclpgaaDoor
/- THE CELL 'sum', in the pinned program and in every row, IS THE sha256 OF THE DUMP (.gsa) THAT YtgnmelnohclpgaaDoorProg.lean LOADS. Nothing in Lean hashes anything: it is a label: what it is worth is what the hold of that sum in a sandbox is worth. -/
noncomputable def Tryd.pinned : Pinned := { name := "ytgnmelnohclpgaadoor", sum := "c522744525ffece0591c223bba73bd09a09a7750ef93dc47d21d3d196f965c38", checked := Tryd.checked }
namespace Rows
def none {H : Type} : Left H := { results := [], args := [] }

/- WHAT THE LISTED PACKAGE-LEVEL VARIABLES READ AS WHEN THE CALL BEGINS. Each datum BY PROGRAM (the guide's laid-datum.mjs) off the statement by which the dump's own 'gosem.cut.vars' lays the variable. In a bare row this is a premise. The card (YtgnmelnohclpgaaDoorCards.lean) ties it to the program's text. -/
def laid_math_bits_deBruijn64tab {H : Type} : DataW H := .agg [.lit (.int .u8 0), .lit (.int .u8 1), .lit (.int .u8 56), .lit (.int .u8 2), .lit (.int .u8 57), .lit (.int .u8 49), .lit (.int .u8 28), .lit (.int .u8 3), .lit (.int .u8 61), .lit (.int .u8 58), .lit (.int .u8 42), .lit (.int .u8 50), .lit (.int .u8 38), .lit (.int .u8 29), .lit (.int .u8 17), .lit (.int .u8 4), .lit (.int .u8 62), .lit (.int .u8 47), .lit (.int .u8 59), .lit (.int .u8 36), .lit (.int .u8 45), .lit (.int .u8 43), .lit (.int .u8 51), .lit (.int .u8 22), .lit (.int .u8 53), .lit (.int .u8 39), .lit (.int .u8 33), .lit (.int .u8 30), .lit (.int .u8 24), .lit (.int .u8 18), .lit (.int .u8 12), .lit (.int .u8 5), .lit (.int .u8 63), .lit (.int .u8 55), .lit (.int .u8 48), .lit (.int .u8 27), .lit (.int .u8 60), .lit (.int .u8 41), .lit (.int .u8 37), .lit (.int .u8 16), .lit (.int .u8 46), .lit (.int .u8 35), .lit (.int .u8 44), .lit (.int .u8 21), .lit (.int .u8 52), .lit (.int .u8 32), .lit (.int .u8 23), .lit (.int .u8 11), .lit (.int .u8 54), .lit (.int .u8 26), .lit (.int .u8 40), .lit (.int .u8 15), .lit (.int .u8 34), .lit (.int .u8 20), .lit (.int .u8 31), .lit (.int .u8 10), .lit (.int .u8 25), .lit (.int .u8 14), .lit (.int .u8 19), .lit (.int .u8 9), .lit (.int .u8 13), .lit (.int .u8 8), .lit (.int .u8 7), .lit (.int .u8 6)]
def laid_errors_errorType {H : Type} : DataW H := .iface "internal/reflectlite.rtype" (.agg [.ptr (.lit (.string [101, 114, 114, 111, 114]))])

/-- 'berthinglaw09.FleetNobody': WHATEVER THE INPUT: true; the input reads as it did. -/
def fleetNobodySpec : ChangeSpec := { name := "fleetNobody", fn := fun _ => fun
  | [d] => { results := [.lit (.bool true)], args := [d] }
  | _ => none }
def fleetNobodyRow : OpenClaim := { program := "ytgnmelnohclpgaadoor", sum := "c522744525ffece0591c223bba73bd09a09a7750ef93dc47d21d3d196f965c38", func := "berthing/berthinglaw09.FleetNobody", spec := "fleetNobody", unfollowed := true, recurses := true, named := ["math/bits.deBruijn64tab"], apart := false, laid := [("math/bits.deBruijn64tab", laid_math_bits_deBruijn64tab)] }
def FleetNobodySaid : Prop := fleetNobodyRow.holds Tryd.pinned (OpenSpec.ofChange fleetNobodySpec)

/-- ITS FALSE NEIGHBOUR: 'it returns false'. Refute it at one input. -/
def fleetNobodyWrong : ChangeSpec := { name := "fleetNobody", fn := fun _ => fun
  | [d] => { results := [.lit (.bool false)], args := [d] }
  | _ => none }
def FleetNobodyWrongFalsely : Prop := fleetNobodyRow.holds Tryd.pinned (OpenSpec.ofChange fleetNobodyWrong)

/-- 'berthinglaw15.JobReads': WHATEVER THE INPUT: true; the input reads as it did. -/
def jobReadsSpec : ChangeSpec := { name := "jobReads", fn := fun _ => fun
  | [d1, d2] => { results := [.lit (.bool true)], args := [d1, d2] }
  | _ => none }
def jobReadsRow : OpenClaim := { program := "ytgnmelnohclpgaadoor", sum := "c522744525ffece0591c223bba73bd09a09a7750ef93dc47d21d3d196f965c38", func := "berthing/berthinglaw15.JobReads", spec := "jobReads", inPlace := ["internal/reflectlite.ValueOf", "(internal/reflectlite.Value).Type", "(internal/reflectlite.Value).IsNil", "internal/reflectlite.TypeOf", "(internal/reflectlite.Value).Elem", "(internal/reflectlite.Value).Set"], unfollowed := true, recurses := true, named := ["errors.errorType"], apart := false, laid := [("errors.errorType", laid_errors_errorType)] }
def JobReadsSaid : Prop := jobReadsRow.holds Tryd.pinned (OpenSpec.ofChange jobReadsSpec)

/-- ITS FALSE NEIGHBOUR: 'it returns false'. Refute it at one input. -/
def jobReadsWrong : ChangeSpec := { name := "jobReads", fn := fun _ => fun
  | [d1, d2] => { results := [.lit (.bool false)], args := [d1, d2] }
  | _ => none }
def JobReadsWrongFalsely : Prop := jobReadsRow.holds Tryd.pinned (OpenSpec.ofChange jobReadsWrong)

/-- 'berthinglaw05.JournalFrames': WHATEVER THE INPUT: true; the input reads as it did. -/
def journalFramesSpec : ChangeSpec := { name := "journalFrames", fn := fun _ => fun
  | [d1, d2] => { results := [.lit (.bool true)], args := [d1, d2] }
  | _ => none }
def journalFramesRow : OpenClaim := { program := "ytgnmelnohclpgaadoor", sum := "c522744525ffece0591c223bba73bd09a09a7750ef93dc47d21d3d196f965c38", func := "berthing/berthinglaw05.JournalFrames", spec := "journalFrames", inPlace := ["internal/reflectlite.ValueOf", "(internal/reflectlite.Value).Type", "(internal/reflectlite.Value).IsNil", "internal/reflectlite.TypeOf", "(internal/reflectlite.Value).Elem", "(internal/reflectlite.Value).Set"], unfollowed := true, recurses := true, named := ["errors.errorType"], apart := false, laid := [("errors.errorType", laid_errors_errorType)] }
def JournalFramesSaid : Prop := journalFramesRow.holds Tryd.pinned (OpenSpec.ofChange journalFramesSpec)

/-- ITS FALSE NEIGHBOUR: 'it returns false'. Refute it at one input. -/
def journalFramesWrong : ChangeSpec := { name := "journalFrames", fn := fun _ => fun
  | [d1, d2] => { results := [.lit (.bool false)], args := [d1, d2] }
  | _ => none }
def JournalFramesWrongFalsely : Prop := journalFramesRow.holds Tryd.pinned (OpenSpec.ofChange journalFramesWrong)

/-- 'berthinglaw05.JournalCuts': WHATEVER THE INPUT: true; the input reads as it did. -/
def journalCutsSpec : ChangeSpec := { name := "journalCuts", fn := fun _ => fun
  | [d1, d2] => { results := [.lit (.bool true)], args := [d1, d2] }
  | _ => none }
def journalCutsRow : OpenClaim := { program := "ytgnmelnohclpgaadoor", sum := "c522744525ffece0591c223bba73bd09a09a7750ef93dc47d21d3d196f965c38", func := "berthing/berthinglaw05.JournalCuts", spec := "journalCuts", inPlace := ["internal/reflectlite.ValueOf", "(internal/reflectlite.Value).Type", "(internal/reflectlite.Value).IsNil", "internal/reflectlite.TypeOf", "(internal/reflectlite.Value).Elem", "(internal/reflectlite.Value).Set"], unfollowed := true, recurses := true, named := ["errors.errorType"], apart := false, laid := [("errors.errorType", laid_errors_errorType)] }
def JournalCutsSaid : Prop := journalCutsRow.holds Tryd.pinned (OpenSpec.ofChange journalCutsSpec)

/-- ITS FALSE NEIGHBOUR: 'it returns false'. Refute it at one input. -/
def journalCutsWrong : ChangeSpec := { name := "journalCuts", fn := fun _ => fun
  | [d1, d2] => { results := [.lit (.bool false)], args := [d1, d2] }
  | _ => none }
def JournalCutsWrongFalsely : Prop := journalCutsRow.holds Tryd.pinned (OpenSpec.ofChange journalCutsWrong)

/-- 'berthinglaw15.JobRight': WHATEVER THE INPUT: true; the input reads as it did. -/
def jobRightSpec : ChangeSpec := { name := "jobRight", fn := fun _ => fun
  | [d1, d2, d3] => { results := [.lit (.bool true)], args := [d1, d2, d3] }
  | _ => none }
def jobRightRow : OpenClaim := { program := "ytgnmelnohclpgaadoor", sum := "c522744525ffece0591c223bba73bd09a09a7750ef93dc47d21d3d196f965c38", func := "berthing/berthinglaw15.JobRight", spec := "jobRight", inPlace := ["internal/reflectlite.ValueOf", "(internal/reflectlite.Value).Type", "(internal/reflectlite.Value).IsNil", "internal/reflectlite.TypeOf", "(internal/reflectlite.Value).Elem", "(internal/reflectlite.Value).Set"], unfollowed := true, recurses := true, named := ["errors.errorType"], apart := false, laid := [("errors.errorType", laid_errors_errorType)] }
def JobRightSaid : Prop := jobRightRow.holds Tryd.pinned (OpenSpec.ofChange jobRightSpec)

/-- ITS FALSE NEIGHBOUR: 'it returns false'. Refute it at one input. -/
def jobRightWrong : ChangeSpec := { name := "jobRight", fn := fun _ => fun
  | [d1, d2, d3] => { results := [.lit (.bool false)], args := [d1, d2, d3] }
  | _ => none }
def JobRightWrongFalsely : Prop := jobRightRow.holds Tryd.pinned (OpenSpec.ofChange jobRightWrong)

/-- 'berthinglaw05.JournalGens': WHATEVER THE INPUT: true; the input reads as it did. -/
def journalGensSpec : ChangeSpec := { name := "journalGens", fn := fun _ => fun
  | [d1, d2] => { results := [.lit (.bool true)], args := [d1, d2] }
  | _ => none }
def journalGensRow : OpenClaim := { program := "ytgnmelnohclpgaadoor", sum := "c522744525ffece0591c223bba73bd09a09a7750ef93dc47d21d3d196f965c38", func := "berthing/berthinglaw05.JournalGens", spec := "journalGens", inPlace := ["internal/reflectlite.ValueOf", "(internal/reflectlite.Value).Type", "(internal/reflectlite.Value).IsNil", "internal/reflectlite.TypeOf", "(internal/reflectlite.Value).Elem", "(internal/reflectlite.Value).Set"], unfollowed := true, recurses := true, named := ["errors.errorType"], apart := false, laid := [("errors.errorType", laid_errors_errorType)] }
def JournalGensSaid : Prop := journalGensRow.holds Tryd.pinned (OpenSpec.ofChange journalGensSpec)

/-- ITS FALSE NEIGHBOUR: 'it returns false'. Refute it at one input. -/
def journalGensWrong : ChangeSpec := { name := "journalGens", fn := fun _ => fun
  | [d1, d2] => { results := [.lit (.bool false)], args := [d1, d2] }
  | _ => none }
def JournalGensWrongFalsely : Prop := journalGensRow.holds Tryd.pinned (OpenSpec.ofChange journalGensWrong)

/-- 'berthinglaw05.JournalNobody': WHATEVER THE INPUT: true; the input reads as it did. -/
def journalNobodySpec : ChangeSpec := { name := "journalNobody", fn := fun _ => fun
  | [d] => { results := [.lit (.bool true)], args := [d] }
  | _ => none }
def journalNobodyRow : OpenClaim := { program := "ytgnmelnohclpgaadoor", sum := "c522744525ffece0591c223bba73bd09a09a7750ef93dc47d21d3d196f965c38", func := "berthing/berthinglaw05.JournalNobody", spec := "journalNobody", inPlace := ["internal/reflectlite.ValueOf", "(internal/reflectlite.Value).Type", "(internal/reflectlite.Value).IsNil", "internal/reflectlite.TypeOf", "(internal/reflectlite.Value).Elem", "(internal/reflectlite.Value).Set"], unfollowed := true, recurses := true, named := ["errors.errorType"], apart := false, laid := [("errors.errorType", laid_errors_errorType)] }
def JournalNobodySaid : Prop := journalNobodyRow.holds Tryd.pinned (OpenSpec.ofChange journalNobodySpec)

/-- ITS FALSE NEIGHBOUR: 'it returns false'. Refute it at one input. -/
def journalNobodyWrong : ChangeSpec := { name := "journalNobody", fn := fun _ => fun
  | [d] => { results := [.lit (.bool false)], args := [d] }
  | _ => none }
def JournalNobodyWrongFalsely : Prop := journalNobodyRow.holds Tryd.pinned (OpenSpec.ofChange journalNobodyWrong)

/-- 'berthinglaw06.SnapsOpens': WHATEVER THE INPUT: true; the input reads as it did. -/
def snapsOpensSpec : ChangeSpec := { name := "snapsOpens", fn := fun _ => fun
  | [d1, d2, d3] => { results := [.lit (.bool true)], args := [d1, d2, d3] }
  | _ => none }
def snapsOpensRow : OpenClaim := { program := "ytgnmelnohclpgaadoor", sum := "c522744525ffece0591c223bba73bd09a09a7750ef93dc47d21d3d196f965c38", func := "berthing/berthinglaw06.SnapsOpens", spec := "snapsOpens", inPlace := ["internal/reflectlite.ValueOf", "(internal/reflectlite.Value).Type", "(internal/reflectlite.Value).IsNil", "internal/reflectlite.TypeOf", "(internal/reflectlite.Value).Elem", "(internal/reflectlite.Value).Set"], unfollowed := true, recurses := true, named := ["errors.errorType"], apart := false, laid := [("errors.errorType", laid_errors_errorType)] }
def SnapsOpensSaid : Prop := snapsOpensRow.holds Tryd.pinned (OpenSpec.ofChange snapsOpensSpec)

/-- ITS FALSE NEIGHBOUR: 'it returns false'. Refute it at one input. -/
def snapsOpensWrong : ChangeSpec := { name := "snapsOpens", fn := fun _ => fun
  | [d1, d2, d3] => { results := [.lit (.bool false)], args := [d1, d2, d3] }
  | _ => none }
def SnapsOpensWrongFalsely : Prop := snapsOpensRow.holds Tryd.pinned (OpenSpec.ofChange snapsOpensWrong)

/-- 'berthinglaw06.SnapsNobody': WHATEVER THE INPUT: true; the input reads as it did. -/
def snapsNobodySpec : ChangeSpec := { name := "snapsNobody", fn := fun _ => fun
  | [d] => { results := [.lit (.bool true)], args := [d] }
  | _ => none }
def snapsNobodyRow : OpenClaim := { program := "ytgnmelnohclpgaadoor", sum := "c522744525ffece0591c223bba73bd09a09a7750ef93dc47d21d3d196f965c38", func := "berthing/berthinglaw06.SnapsNobody", spec := "snapsNobody", inPlace := ["internal/reflectlite.ValueOf", "(internal/reflectlite.Value).Type", "(internal/reflectlite.Value).IsNil", "internal/reflectlite.TypeOf", "(internal/reflectlite.Value).Elem", "(internal/reflectlite.Value).Set"], unfollowed := true, recurses := true, named := ["errors.errorType"], apart := false, laid := [("errors.errorType", laid_errors_errorType)] }
def SnapsNobodySaid : Prop := snapsNobodyRow.holds Tryd.pinned (OpenSpec.ofChange snapsNobodySpec)

/-- ITS FALSE NEIGHBOUR: 'it returns false'. Refute it at one input. -/
def snapsNobodyWrong : ChangeSpec := { name := "snapsNobody", fn := fun _ => fun
  | [d] => { results := [.lit (.bool false)], args := [d] }
  | _ => none }
def SnapsNobodyWrongFalsely : Prop := snapsNobodyRow.holds Tryd.pinned (OpenSpec.ofChange snapsNobodyWrong)

/-- 'berthinglaw06.SnapsBig': WHATEVER THE INPUT: true; the input reads as it did. -/
def snapsBigSpec : ChangeSpec := { name := "snapsBig", fn := fun _ => fun
  | [d1, d2] => { results := [.lit (.bool true)], args := [d1, d2] }
  | _ => none }
def snapsBigRow : OpenClaim := { program := "ytgnmelnohclpgaadoor", sum := "c522744525ffece0591c223bba73bd09a09a7750ef93dc47d21d3d196f965c38", func := "berthing/berthinglaw06.SnapsBig", spec := "snapsBig", inPlace := ["internal/reflectlite.ValueOf", "(internal/reflectlite.Value).Type", "(internal/reflectlite.Value).IsNil", "internal/reflectlite.TypeOf", "(internal/reflectlite.Value).Elem", "(internal/reflectlite.Value).Set"], unfollowed := true, recurses := true, named := ["errors.errorType"], apart := false, laid := [("errors.errorType", laid_errors_errorType)] }
def SnapsBigSaid : Prop := snapsBigRow.holds Tryd.pinned (OpenSpec.ofChange snapsBigSpec)

/-- ITS FALSE NEIGHBOUR: 'it returns false'. Refute it at one input. -/
def snapsBigWrong : ChangeSpec := { name := "snapsBig", fn := fun _ => fun
  | [d1, d2] => { results := [.lit (.bool false)], args := [d1, d2] }
  | _ => none }
def SnapsBigWrongFalsely : Prop := snapsBigRow.holds Tryd.pinned (OpenSpec.ofChange snapsBigWrong)

/-- 'berthinglaw05.JournalFalls': WHATEVER THE INPUT: true; the input reads as it did. -/
def journalFallsSpec : ChangeSpec := { name := "journalFalls", fn := fun _ => fun
  | [d1, d2] => { results := [.lit (.bool true)], args := [d1, d2] }
  | _ => none }
def journalFallsRow : OpenClaim := { program := "ytgnmelnohclpgaadoor", sum := "c522744525ffece0591c223bba73bd09a09a7750ef93dc47d21d3d196f965c38", func := "berthing/berthinglaw05.JournalFalls", spec := "journalFalls", inPlace := ["internal/reflectlite.ValueOf", "(internal/reflectlite.Value).Type", "(internal/reflectlite.Value).IsNil", "internal/reflectlite.TypeOf", "(internal/reflectlite.Value).Elem", "(internal/reflectlite.Value).Set"], unfollowed := true, recurses := true, named := ["errors.errorType"], apart := false, laid := [("errors.errorType", laid_errors_errorType)] }
def JournalFallsSaid : Prop := journalFallsRow.holds Tryd.pinned (OpenSpec.ofChange journalFallsSpec)

/-- ITS FALSE NEIGHBOUR: 'it returns false'. Refute it at one input. -/
def journalFallsWrong : ChangeSpec := { name := "journalFalls", fn := fun _ => fun
  | [d1, d2] => { results := [.lit (.bool false)], args := [d1, d2] }
  | _ => none }
def JournalFallsWrongFalsely : Prop := journalFallsRow.holds Tryd.pinned (OpenSpec.ofChange journalFallsWrong)

/-- 'berthinglaw06.SnapsTurns': WHATEVER THE INPUT: true; the input reads as it did. -/
def snapsTurnsSpec : ChangeSpec := { name := "snapsTurns", fn := fun _ => fun
  | [d] => { results := [.lit (.bool true)], args := [d] }
  | _ => none }
def snapsTurnsRow : OpenClaim := { program := "ytgnmelnohclpgaadoor", sum := "c522744525ffece0591c223bba73bd09a09a7750ef93dc47d21d3d196f965c38", func := "berthing/berthinglaw06.SnapsTurns", spec := "snapsTurns", inPlace := ["internal/reflectlite.ValueOf", "(internal/reflectlite.Value).Type", "(internal/reflectlite.Value).IsNil", "internal/reflectlite.TypeOf", "(internal/reflectlite.Value).Elem", "(internal/reflectlite.Value).Set"], unfollowed := true, recurses := true, named := ["errors.errorType"], apart := false, laid := [("errors.errorType", laid_errors_errorType)] }
def SnapsTurnsSaid : Prop := snapsTurnsRow.holds Tryd.pinned (OpenSpec.ofChange snapsTurnsSpec)

/-- ITS FALSE NEIGHBOUR: 'it returns false'. Refute it at one input. -/
def snapsTurnsWrong : ChangeSpec := { name := "snapsTurns", fn := fun _ => fun
  | [d] => { results := [.lit (.bool false)], args := [d] }
  | _ => none }
def SnapsTurnsWrongFalsely : Prop := snapsTurnsRow.holds Tryd.pinned (OpenSpec.ofChange snapsTurnsWrong)

/-- 'berthinglaw06.SnapsFalls': WHATEVER THE INPUT: true; the input reads as it did. -/
def snapsFallsSpec : ChangeSpec := { name := "snapsFalls", fn := fun _ => fun
  | [d] => { results := [.lit (.bool true)], args := [d] }
  | _ => none }
def snapsFallsRow : OpenClaim := { program := "ytgnmelnohclpgaadoor", sum := "c522744525ffece0591c223bba73bd09a09a7750ef93dc47d21d3d196f965c38", func := "berthing/berthinglaw06.SnapsFalls", spec := "snapsFalls", inPlace := ["internal/reflectlite.ValueOf", "(internal/reflectlite.Value).Type", "(internal/reflectlite.Value).IsNil", "internal/reflectlite.TypeOf", "(internal/reflectlite.Value).Elem", "(internal/reflectlite.Value).Set"], unfollowed := true, recurses := true, named := ["errors.errorType"], apart := false, laid := [("errors.errorType", laid_errors_errorType)] }
def SnapsFallsSaid : Prop := snapsFallsRow.holds Tryd.pinned (OpenSpec.ofChange snapsFallsSpec)

/-- ITS FALSE NEIGHBOUR: 'it returns false'. Refute it at one input. -/
def snapsFallsWrong : ChangeSpec := { name := "snapsFalls", fn := fun _ => fun
  | [d] => { results := [.lit (.bool false)], args := [d] }
  | _ => none }
def SnapsFallsWrongFalsely : Prop := snapsFallsRow.holds Tryd.pinned (OpenSpec.ofChange snapsFallsWrong)

/-- 'berthinglaw09.FleetReads': WHATEVER THE INPUT: true; the input reads as it did. -/
def fleetReadsSpec : ChangeSpec := { name := "fleetReads", fn := fun _ => fun
  | [d] => { results := [.lit (.bool true)], args := [d] }
  | _ => none }
def fleetReadsRow : OpenClaim := { program := "ytgnmelnohclpgaadoor", sum := "c522744525ffece0591c223bba73bd09a09a7750ef93dc47d21d3d196f965c38", func := "berthing/berthinglaw09.FleetReads", spec := "fleetReads", inPlace := ["internal/reflectlite.ValueOf", "(internal/reflectlite.Value).Type", "(internal/reflectlite.Value).IsNil", "internal/reflectlite.TypeOf", "(internal/reflectlite.Value).Elem", "(internal/reflectlite.Value).Set"], unfollowed := true, recurses := true, named := ["errors.errorType", "math/bits.deBruijn64tab"], apart := false, laid := [("math/bits.deBruijn64tab", laid_math_bits_deBruijn64tab), ("errors.errorType", laid_errors_errorType)] }
def FleetReadsSaid : Prop := fleetReadsRow.holds Tryd.pinned (OpenSpec.ofChange fleetReadsSpec)

/-- ITS FALSE NEIGHBOUR: 'it returns false'. Refute it at one input. -/
def fleetReadsWrong : ChangeSpec := { name := "fleetReads", fn := fun _ => fun
  | [d] => { results := [.lit (.bool false)], args := [d] }
  | _ => none }
def FleetReadsWrongFalsely : Prop := fleetReadsRow.holds Tryd.pinned (OpenSpec.ofChange fleetReadsWrong)

/-- 'berthinglaw09.FleetSpares': WHATEVER THE INPUT: true; the input reads as it did. -/
def fleetSparesSpec : ChangeSpec := { name := "fleetSpares", fn := fun _ => fun
  | [d1, d2, d3] => { results := [.lit (.bool true)], args := [d1, d2, d3] }
  | _ => none }
def fleetSparesRow : OpenClaim := { program := "ytgnmelnohclpgaadoor", sum := "c522744525ffece0591c223bba73bd09a09a7750ef93dc47d21d3d196f965c38", func := "berthing/berthinglaw09.FleetSpares", spec := "fleetSpares", inPlace := ["internal/reflectlite.ValueOf", "(internal/reflectlite.Value).Type", "(internal/reflectlite.Value).IsNil", "internal/reflectlite.TypeOf", "(internal/reflectlite.Value).Elem", "(internal/reflectlite.Value).Set"], unfollowed := true, recurses := true, named := ["math/bits.deBruijn64tab", "errors.errorType"], apart := false, laid := [("math/bits.deBruijn64tab", laid_math_bits_deBruijn64tab), ("errors.errorType", laid_errors_errorType)] }
def FleetSparesSaid : Prop := fleetSparesRow.holds Tryd.pinned (OpenSpec.ofChange fleetSparesSpec)

/-- ITS FALSE NEIGHBOUR: 'it returns false'. Refute it at one input. -/
def fleetSparesWrong : ChangeSpec := { name := "fleetSpares", fn := fun _ => fun
  | [d1, d2, d3] => { results := [.lit (.bool false)], args := [d1, d2, d3] }
  | _ => none }
def FleetSparesWrongFalsely : Prop := fleetSparesRow.holds Tryd.pinned (OpenSpec.ofChange fleetSparesWrong)

/- THE SECOND FORM. 'bulk': how many values and letters a reading holds, each counted each time it is reached (what is shared counts as often as it is met; a slice's spare places count too). A statement '..UptoSaid' is the law's where the arguments, and the package variables that the reading takes, are together of bulk at most 1048576: NARROWER than '..Said'. Prove '..Said' where nothing that the law and all that it calls make is longer than what came in: it says more and counts as full. Else prove '..UptoSaid'. A law counts once. -/
mutual
def uptoBulk {H : Type} : DataW H → Nat
  | .lit (.string bytes) => bytes.length + 1
  | .lit _ => 1
  | .nil => 1
  | .ptr d => uptoBulk d + 1
  | .slice elems spare => uptoBulkAll elems + uptoBulkAll spare + 1
  | .agg parts => uptoBulkAll parts + 1
  | .iface _ d => uptoBulk d + 1
  | .map entries => uptoBulkEntries entries + 1
  | .held _ => 1
def uptoBulkAll {H : Type} : List (DataW H) → Nat
  | [] => 0
  | d :: r => uptoBulk d + uptoBulkAll r
def uptoBulkEntries {H : Type} : List (Lit × DataW H) → Nat
  | [] => 0
  | x :: r => uptoBulkEntry x + uptoBulkEntries r
def uptoBulkEntry {H : Type} : Lit × DataW H → Nat
  | (.string bytes, d) => bytes.length + uptoBulk d + 1
  | (_, d) => uptoBulk d + 1
 end
def uptoSmall : (H : Type) → List (DataW H) → Bool := fun _ ds => decide (uptoBulkAll ds ≤ 1048576)
def OpenSpec.upto (s : _root_.Go.ChangeSpec) : _root_.Go.OpenSpec := { _root_.Go.OpenSpec.ofChange s with cond := some uptoSmall }

/-- 'berthinglaw09.FleetNobody', WHERE WHAT IT READS IS OF BULK AT MOST 1048576: true; the input reads as it did. -/
def fleetNobodyUptoRow : OpenClaim := { program := "ytgnmelnohclpgaadoor", sum := "c522744525ffece0591c223bba73bd09a09a7750ef93dc47d21d3d196f965c38", func := "berthing/berthinglaw09.FleetNobody", spec := "fleetNobody", unfollowed := true, recurses := true, named := ["math/bits.deBruijn64tab"], apart := false, laid := [("math/bits.deBruijn64tab", laid_math_bits_deBruijn64tab)], narrowed := true }
def FleetNobodyUptoSaid : Prop := fleetNobodyUptoRow.holds Tryd.pinned (OpenSpec.upto fleetNobodySpec)

/-- 'berthinglaw15.JobReads', WHERE WHAT IT READS IS OF BULK AT MOST 1048576: true; the input reads as it did. -/
def jobReadsUptoRow : OpenClaim := { program := "ytgnmelnohclpgaadoor", sum := "c522744525ffece0591c223bba73bd09a09a7750ef93dc47d21d3d196f965c38", func := "berthing/berthinglaw15.JobReads", spec := "jobReads", inPlace := ["internal/reflectlite.ValueOf", "(internal/reflectlite.Value).Type", "(internal/reflectlite.Value).IsNil", "internal/reflectlite.TypeOf", "(internal/reflectlite.Value).Elem", "(internal/reflectlite.Value).Set"], unfollowed := true, recurses := true, named := ["errors.errorType"], apart := false, laid := [("errors.errorType", laid_errors_errorType)], narrowed := true }
def JobReadsUptoSaid : Prop := jobReadsUptoRow.holds Tryd.pinned (OpenSpec.upto jobReadsSpec)

/-- 'berthinglaw05.JournalFrames', WHERE WHAT IT READS IS OF BULK AT MOST 1048576: true; the input reads as it did. -/
def journalFramesUptoRow : OpenClaim := { program := "ytgnmelnohclpgaadoor", sum := "c522744525ffece0591c223bba73bd09a09a7750ef93dc47d21d3d196f965c38", func := "berthing/berthinglaw05.JournalFrames", spec := "journalFrames", inPlace := ["internal/reflectlite.ValueOf", "(internal/reflectlite.Value).Type", "(internal/reflectlite.Value).IsNil", "internal/reflectlite.TypeOf", "(internal/reflectlite.Value).Elem", "(internal/reflectlite.Value).Set"], unfollowed := true, recurses := true, named := ["errors.errorType"], apart := false, laid := [("errors.errorType", laid_errors_errorType)], narrowed := true }
def JournalFramesUptoSaid : Prop := journalFramesUptoRow.holds Tryd.pinned (OpenSpec.upto journalFramesSpec)

/-- 'berthinglaw05.JournalCuts', WHERE WHAT IT READS IS OF BULK AT MOST 1048576: true; the input reads as it did. -/
def journalCutsUptoRow : OpenClaim := { program := "ytgnmelnohclpgaadoor", sum := "c522744525ffece0591c223bba73bd09a09a7750ef93dc47d21d3d196f965c38", func := "berthing/berthinglaw05.JournalCuts", spec := "journalCuts", inPlace := ["internal/reflectlite.ValueOf", "(internal/reflectlite.Value).Type", "(internal/reflectlite.Value).IsNil", "internal/reflectlite.TypeOf", "(internal/reflectlite.Value).Elem", "(internal/reflectlite.Value).Set"], unfollowed := true, recurses := true, named := ["errors.errorType"], apart := false, laid := [("errors.errorType", laid_errors_errorType)], narrowed := true }
def JournalCutsUptoSaid : Prop := journalCutsUptoRow.holds Tryd.pinned (OpenSpec.upto journalCutsSpec)

/-- 'berthinglaw15.JobRight', WHERE WHAT IT READS IS OF BULK AT MOST 1048576: true; the input reads as it did. -/
def jobRightUptoRow : OpenClaim := { program := "ytgnmelnohclpgaadoor", sum := "c522744525ffece0591c223bba73bd09a09a7750ef93dc47d21d3d196f965c38", func := "berthing/berthinglaw15.JobRight", spec := "jobRight", inPlace := ["internal/reflectlite.ValueOf", "(internal/reflectlite.Value).Type", "(internal/reflectlite.Value).IsNil", "internal/reflectlite.TypeOf", "(internal/reflectlite.Value).Elem", "(internal/reflectlite.Value).Set"], unfollowed := true, recurses := true, named := ["errors.errorType"], apart := false, laid := [("errors.errorType", laid_errors_errorType)], narrowed := true }
def JobRightUptoSaid : Prop := jobRightUptoRow.holds Tryd.pinned (OpenSpec.upto jobRightSpec)

/-- 'berthinglaw05.JournalGens', WHERE WHAT IT READS IS OF BULK AT MOST 1048576: true; the input reads as it did. -/
def journalGensUptoRow : OpenClaim := { program := "ytgnmelnohclpgaadoor", sum := "c522744525ffece0591c223bba73bd09a09a7750ef93dc47d21d3d196f965c38", func := "berthing/berthinglaw05.JournalGens", spec := "journalGens", inPlace := ["internal/reflectlite.ValueOf", "(internal/reflectlite.Value).Type", "(internal/reflectlite.Value).IsNil", "internal/reflectlite.TypeOf", "(internal/reflectlite.Value).Elem", "(internal/reflectlite.Value).Set"], unfollowed := true, recurses := true, named := ["errors.errorType"], apart := false, laid := [("errors.errorType", laid_errors_errorType)], narrowed := true }
def JournalGensUptoSaid : Prop := journalGensUptoRow.holds Tryd.pinned (OpenSpec.upto journalGensSpec)

/-- 'berthinglaw05.JournalNobody', WHERE WHAT IT READS IS OF BULK AT MOST 1048576: true; the input reads as it did. -/
def journalNobodyUptoRow : OpenClaim := { program := "ytgnmelnohclpgaadoor", sum := "c522744525ffece0591c223bba73bd09a09a7750ef93dc47d21d3d196f965c38", func := "berthing/berthinglaw05.JournalNobody", spec := "journalNobody", inPlace := ["internal/reflectlite.ValueOf", "(internal/reflectlite.Value).Type", "(internal/reflectlite.Value).IsNil", "internal/reflectlite.TypeOf", "(internal/reflectlite.Value).Elem", "(internal/reflectlite.Value).Set"], unfollowed := true, recurses := true, named := ["errors.errorType"], apart := false, laid := [("errors.errorType", laid_errors_errorType)], narrowed := true }
def JournalNobodyUptoSaid : Prop := journalNobodyUptoRow.holds Tryd.pinned (OpenSpec.upto journalNobodySpec)

/-- 'berthinglaw06.SnapsOpens', WHERE WHAT IT READS IS OF BULK AT MOST 1048576: true; the input reads as it did. -/
def snapsOpensUptoRow : OpenClaim := { program := "ytgnmelnohclpgaadoor", sum := "c522744525ffece0591c223bba73bd09a09a7750ef93dc47d21d3d196f965c38", func := "berthing/berthinglaw06.SnapsOpens", spec := "snapsOpens", inPlace := ["internal/reflectlite.ValueOf", "(internal/reflectlite.Value).Type", "(internal/reflectlite.Value).IsNil", "internal/reflectlite.TypeOf", "(internal/reflectlite.Value).Elem", "(internal/reflectlite.Value).Set"], unfollowed := true, recurses := true, named := ["errors.errorType"], apart := false, laid := [("errors.errorType", laid_errors_errorType)], narrowed := true }
def SnapsOpensUptoSaid : Prop := snapsOpensUptoRow.holds Tryd.pinned (OpenSpec.upto snapsOpensSpec)

/-- 'berthinglaw06.SnapsNobody', WHERE WHAT IT READS IS OF BULK AT MOST 1048576: true; the input reads as it did. -/
def snapsNobodyUptoRow : OpenClaim := { program := "ytgnmelnohclpgaadoor", sum := "c522744525ffece0591c223bba73bd09a09a7750ef93dc47d21d3d196f965c38", func := "berthing/berthinglaw06.SnapsNobody", spec := "snapsNobody", inPlace := ["internal/reflectlite.ValueOf", "(internal/reflectlite.Value).Type", "(internal/reflectlite.Value).IsNil", "internal/reflectlite.TypeOf", "(internal/reflectlite.Value).Elem", "(internal/reflectlite.Value).Set"], unfollowed := true, recurses := true, named := ["errors.errorType"], apart := false, laid := [("errors.errorType", laid_errors_errorType)], narrowed := true }
def SnapsNobodyUptoSaid : Prop := snapsNobodyUptoRow.holds Tryd.pinned (OpenSpec.upto snapsNobodySpec)

/-- 'berthinglaw06.SnapsBig', WHERE WHAT IT READS IS OF BULK AT MOST 1048576: true; the input reads as it did. -/
def snapsBigUptoRow : OpenClaim := { program := "ytgnmelnohclpgaadoor", sum := "c522744525ffece0591c223bba73bd09a09a7750ef93dc47d21d3d196f965c38", func := "berthing/berthinglaw06.SnapsBig", spec := "snapsBig", inPlace := ["internal/reflectlite.ValueOf", "(internal/reflectlite.Value).Type", "(internal/reflectlite.Value).IsNil", "internal/reflectlite.TypeOf", "(internal/reflectlite.Value).Elem", "(internal/reflectlite.Value).Set"], unfollowed := true, recurses := true, named := ["errors.errorType"], apart := false, laid := [("errors.errorType", laid_errors_errorType)], narrowed := true }
def SnapsBigUptoSaid : Prop := snapsBigUptoRow.holds Tryd.pinned (OpenSpec.upto snapsBigSpec)

/-- 'berthinglaw05.JournalFalls', WHERE WHAT IT READS IS OF BULK AT MOST 1048576: true; the input reads as it did. -/
def journalFallsUptoRow : OpenClaim := { program := "ytgnmelnohclpgaadoor", sum := "c522744525ffece0591c223bba73bd09a09a7750ef93dc47d21d3d196f965c38", func := "berthing/berthinglaw05.JournalFalls", spec := "journalFalls", inPlace := ["internal/reflectlite.ValueOf", "(internal/reflectlite.Value).Type", "(internal/reflectlite.Value).IsNil", "internal/reflectlite.TypeOf", "(internal/reflectlite.Value).Elem", "(internal/reflectlite.Value).Set"], unfollowed := true, recurses := true, named := ["errors.errorType"], apart := false, laid := [("errors.errorType", laid_errors_errorType)], narrowed := true }
def JournalFallsUptoSaid : Prop := journalFallsUptoRow.holds Tryd.pinned (OpenSpec.upto journalFallsSpec)

/-- 'berthinglaw06.SnapsTurns', WHERE WHAT IT READS IS OF BULK AT MOST 1048576: true; the input reads as it did. -/
def snapsTurnsUptoRow : OpenClaim := { program := "ytgnmelnohclpgaadoor", sum := "c522744525ffece0591c223bba73bd09a09a7750ef93dc47d21d3d196f965c38", func := "berthing/berthinglaw06.SnapsTurns", spec := "snapsTurns", inPlace := ["internal/reflectlite.ValueOf", "(internal/reflectlite.Value).Type", "(internal/reflectlite.Value).IsNil", "internal/reflectlite.TypeOf", "(internal/reflectlite.Value).Elem", "(internal/reflectlite.Value).Set"], unfollowed := true, recurses := true, named := ["errors.errorType"], apart := false, laid := [("errors.errorType", laid_errors_errorType)], narrowed := true }
def SnapsTurnsUptoSaid : Prop := snapsTurnsUptoRow.holds Tryd.pinned (OpenSpec.upto snapsTurnsSpec)

/-- 'berthinglaw06.SnapsFalls', WHERE WHAT IT READS IS OF BULK AT MOST 1048576: true; the input reads as it did. -/
def snapsFallsUptoRow : OpenClaim := { program := "ytgnmelnohclpgaadoor", sum := "c522744525ffece0591c223bba73bd09a09a7750ef93dc47d21d3d196f965c38", func := "berthing/berthinglaw06.SnapsFalls", spec := "snapsFalls", inPlace := ["internal/reflectlite.ValueOf", "(internal/reflectlite.Value).Type", "(internal/reflectlite.Value).IsNil", "internal/reflectlite.TypeOf", "(internal/reflectlite.Value).Elem", "(internal/reflectlite.Value).Set"], unfollowed := true, recurses := true, named := ["errors.errorType"], apart := false, laid := [("errors.errorType", laid_errors_errorType)], narrowed := true }
def SnapsFallsUptoSaid : Prop := snapsFallsUptoRow.holds Tryd.pinned (OpenSpec.upto snapsFallsSpec)

/-- 'berthinglaw09.FleetReads', WHERE WHAT IT READS IS OF BULK AT MOST 1048576: true; the input reads as it did. -/
def fleetReadsUptoRow : OpenClaim := { program := "ytgnmelnohclpgaadoor", sum := "c522744525ffece0591c223bba73bd09a09a7750ef93dc47d21d3d196f965c38", func := "berthing/berthinglaw09.FleetReads", spec := "fleetReads", inPlace := ["internal/reflectlite.ValueOf", "(internal/reflectlite.Value).Type", "(internal/reflectlite.Value).IsNil", "internal/reflectlite.TypeOf", "(internal/reflectlite.Value).Elem", "(internal/reflectlite.Value).Set"], unfollowed := true, recurses := true, named := ["errors.errorType", "math/bits.deBruijn64tab"], apart := false, laid := [("math/bits.deBruijn64tab", laid_math_bits_deBruijn64tab), ("errors.errorType", laid_errors_errorType)], narrowed := true }
def FleetReadsUptoSaid : Prop := fleetReadsUptoRow.holds Tryd.pinned (OpenSpec.upto fleetReadsSpec)

/-- 'berthinglaw09.FleetSpares', WHERE WHAT IT READS IS OF BULK AT MOST 1048576: true; the input reads as it did. -/
def fleetSparesUptoRow : OpenClaim := { program := "ytgnmelnohclpgaadoor", sum := "c522744525ffece0591c223bba73bd09a09a7750ef93dc47d21d3d196f965c38", func := "berthing/berthinglaw09.FleetSpares", spec := "fleetSpares", inPlace := ["internal/reflectlite.ValueOf", "(internal/reflectlite.Value).Type", "(internal/reflectlite.Value).IsNil", "internal/reflectlite.TypeOf", "(internal/reflectlite.Value).Elem", "(internal/reflectlite.Value).Set"], unfollowed := true, recurses := true, named := ["math/bits.deBruijn64tab", "errors.errorType"], apart := false, laid := [("math/bits.deBruijn64tab", laid_math_bits_deBruijn64tab), ("errors.errorType", laid_errors_errorType)], narrowed := true }
def FleetSparesUptoSaid : Prop := fleetSparesUptoRow.holds Tryd.pinned (OpenSpec.upto fleetSparesSpec)

end Rows
end Go.Proofs.YtgnmelnohclpgaaDoor
