/-
  NARROWER THAN 'FOR EVERY INPUT', by the rows' own cells (each row's printed sentence says how): EngineSteps: laid · EngineFull: laid · EngineBalances: laid · EngineClosed: laid · EngineCodes: laid · EngineWaits: laid · EngineSums: laid · EngineTable: laid · EngineChains: laid · EngineCopies: laid · EngineRefuses: laid.
  DERIVED. THE GIVEN ROWS OF THIS SEAT. 11 by the template 'for every input the law returns true; each argument reads behind the call as it read before'; 0 by the template 'total and deterministic' (their statements: YtpcechnalfaajaaDoorTotals.lean).
  GIVEN WITH THE SEED: the statements are not yours to turn. If you find one false, say at which input.
  Laid BY PROGRAM, IN A SANDBOX (cutbox-rows.mjs): the forced cells as the released guide's own fill.sh prints them over the translation d07f1c9c59670463… (all of the seat's roots in one cut). By AI agents, Wed Nov 11 2026. No macro, syntax, notation, axiom, sorry.
-/
import Derived.Test.YtpcechnalfaajaaDoorChecked
import GoSem.Claim
import GoSem.ClaimJoined
import GoSem.ClaimMapViews
import Derived.JoinedTies
import Derived.KernelRfl
namespace Go.Proofs.YtpcechnalfaajaaDoor
/- THE CELL 'sum', in the pinned program and in every row, IS THE sha256 OF THE DUMP (.gsa) THAT YtpcechnalfaajaaDoorProg.lean LOADS. Nothing in Lean hashes anything: it is a label: what it is worth is what the hold of that sum in a sandbox is worth. -/
noncomputable def Tryd.pinned : Pinned := { name := "ytpcechnalfaajaadoor", sum := "d07f1c9c596704633b20d09532cb0edf946ae18f8989689cf2703453d18a3e58", checked := Tryd.checked }
namespace Rows
def none {H : Type} : Left H := { results := [], args := [] }

/- WHAT THE LISTED PACKAGE-LEVEL VARIABLES READ AS WHEN THE CALL BEGINS. Each datum BY PROGRAM (the guide's laid-datum.mjs) off the statement by which the dump's own 'gosem.cut.vars' lays the variable. In a bare row this is a premise. The card (YtpcechnalfaajaaDoorCards.lean) ties it to the program's text. -/
def laid_pacioli_sha_rounds {H : Type} : DataW H := .agg [.lit (.int .u32 1116352408), .lit (.int .u32 1899447441), .lit (.int .u32 3049323471), .lit (.int .u32 3921009573), .lit (.int .u32 961987163), .lit (.int .u32 1508970993), .lit (.int .u32 2453635748), .lit (.int .u32 2870763221), .lit (.int .u32 3624381080), .lit (.int .u32 310598401), .lit (.int .u32 607225278), .lit (.int .u32 1426881987), .lit (.int .u32 1925078388), .lit (.int .u32 2162078206), .lit (.int .u32 2614888103), .lit (.int .u32 3248222580), .lit (.int .u32 3835390401), .lit (.int .u32 4022224774), .lit (.int .u32 264347078), .lit (.int .u32 604807628), .lit (.int .u32 770255983), .lit (.int .u32 1249150122), .lit (.int .u32 1555081692), .lit (.int .u32 1996064986), .lit (.int .u32 2554220882), .lit (.int .u32 2821834349), .lit (.int .u32 2952996808), .lit (.int .u32 3210313671), .lit (.int .u32 3336571891), .lit (.int .u32 3584528711), .lit (.int .u32 113926993), .lit (.int .u32 338241895), .lit (.int .u32 666307205), .lit (.int .u32 773529912), .lit (.int .u32 1294757372), .lit (.int .u32 1396182291), .lit (.int .u32 1695183700), .lit (.int .u32 1986661051), .lit (.int .u32 2177026350), .lit (.int .u32 2456956037), .lit (.int .u32 2730485921), .lit (.int .u32 2820302411), .lit (.int .u32 3259730800), .lit (.int .u32 3345764771), .lit (.int .u32 3516065817), .lit (.int .u32 3600352804), .lit (.int .u32 4094571909), .lit (.int .u32 275423344), .lit (.int .u32 430227734), .lit (.int .u32 506948616), .lit (.int .u32 659060556), .lit (.int .u32 883997877), .lit (.int .u32 958139571), .lit (.int .u32 1322822218), .lit (.int .u32 1537002063), .lit (.int .u32 1747873779), .lit (.int .u32 1955562222), .lit (.int .u32 2024104815), .lit (.int .u32 2227730452), .lit (.int .u32 2361852424), .lit (.int .u32 2428436474), .lit (.int .u32 2756734187), .lit (.int .u32 3204031479), .lit (.int .u32 3329325298)]
def laid_pacioli_sha_start {H : Type} : DataW H := .agg [.lit (.int .u32 1779033703), .lit (.int .u32 3144134277), .lit (.int .u32 1013904242), .lit (.int .u32 2773480762), .lit (.int .u32 1359893119), .lit (.int .u32 2600822924), .lit (.int .u32 528734635), .lit (.int .u32 1541459225)]
def laid_pacioli_history_leafMark {H : Type} : DataW H := .slice [.lit (.int .u8 0)] []
def laid_pacioli_history_nodeMark {H : Type} : DataW H := .slice [.lit (.int .u8 1)] []

/-- 'paciolilaw11.EngineSteps': WHATEVER THE INPUT: true; the input reads as it did. -/
def engineStepsSpec : ChangeSpec := { name := "engineSteps", fn := fun _ => fun
  | [d1, d2, d3] => { results := [.lit (.bool true)], args := [d1, d2, d3] }
  | _ => none }
def engineStepsRow : OpenClaim := { program := "ytpcechnalfaajaadoor", sum := "d07f1c9c596704633b20d09532cb0edf946ae18f8989689cf2703453d18a3e58", func := "pacioli/paciolilaw11.EngineSteps", spec := "engineSteps", inPlace := ["math/bits.Sub64", "math/bits.Add64"], unfollowed := true, recurses := true, named := ["pacioli/history.leafMark", "pacioli/sha.start", "pacioli/sha.rounds", "pacioli/history.nodeMark"], apart := false, laid := [("pacioli/sha.rounds", laid_pacioli_sha_rounds), ("pacioli/sha.start", laid_pacioli_sha_start), ("pacioli/history.leafMark", laid_pacioli_history_leafMark), ("pacioli/history.nodeMark", laid_pacioli_history_nodeMark)] }
def EngineStepsSaid : Prop := engineStepsRow.holds Tryd.pinned (OpenSpec.ofChange engineStepsSpec)

/-- ITS FALSE NEIGHBOUR: 'it returns false'. Refute it at one input. -/
def engineStepsWrong : ChangeSpec := { name := "engineSteps", fn := fun _ => fun
  | [d1, d2, d3] => { results := [.lit (.bool false)], args := [d1, d2, d3] }
  | _ => none }
def EngineStepsWrongFalsely : Prop := engineStepsRow.holds Tryd.pinned (OpenSpec.ofChange engineStepsWrong)

/-- 'paciolilaw11.EngineFull': WHATEVER THE INPUT: true; the input reads as it did. -/
def engineFullSpec : ChangeSpec := { name := "engineFull", fn := fun _ => fun
  | [d1, d2, d3] => { results := [.lit (.bool true)], args := [d1, d2, d3] }
  | _ => none }
def engineFullRow : OpenClaim := { program := "ytpcechnalfaajaadoor", sum := "d07f1c9c596704633b20d09532cb0edf946ae18f8989689cf2703453d18a3e58", func := "pacioli/paciolilaw11.EngineFull", spec := "engineFull", inPlace := ["math/bits.Sub64", "math/bits.Add64"], unfollowed := true, recurses := true, named := ["pacioli/history.leafMark", "pacioli/sha.start", "pacioli/sha.rounds", "pacioli/history.nodeMark"], apart := false, laid := [("pacioli/sha.rounds", laid_pacioli_sha_rounds), ("pacioli/sha.start", laid_pacioli_sha_start), ("pacioli/history.leafMark", laid_pacioli_history_leafMark), ("pacioli/history.nodeMark", laid_pacioli_history_nodeMark)] }
def EngineFullSaid : Prop := engineFullRow.holds Tryd.pinned (OpenSpec.ofChange engineFullSpec)

/-- ITS FALSE NEIGHBOUR: 'it returns false'. Refute it at one input. -/
def engineFullWrong : ChangeSpec := { name := "engineFull", fn := fun _ => fun
  | [d1, d2, d3] => { results := [.lit (.bool false)], args := [d1, d2, d3] }
  | _ => none }
def EngineFullWrongFalsely : Prop := engineFullRow.holds Tryd.pinned (OpenSpec.ofChange engineFullWrong)

/-- 'paciolilaw11.EngineBalances': WHATEVER THE INPUT: true; the input reads as it did. -/
def engineBalancesSpec : ChangeSpec := { name := "engineBalances", fn := fun _ => fun
  | [d1, d2] => { results := [.lit (.bool true)], args := [d1, d2] }
  | _ => none }
def engineBalancesRow : OpenClaim := { program := "ytpcechnalfaajaadoor", sum := "d07f1c9c596704633b20d09532cb0edf946ae18f8989689cf2703453d18a3e58", func := "pacioli/paciolilaw11.EngineBalances", spec := "engineBalances", inPlace := ["math/bits.Sub64", "math/bits.Add64"], unfollowed := true, recurses := true, named := ["pacioli/history.leafMark", "pacioli/sha.start", "pacioli/sha.rounds", "pacioli/history.nodeMark"], apart := false, laid := [("pacioli/sha.rounds", laid_pacioli_sha_rounds), ("pacioli/sha.start", laid_pacioli_sha_start), ("pacioli/history.leafMark", laid_pacioli_history_leafMark), ("pacioli/history.nodeMark", laid_pacioli_history_nodeMark)] }
def EngineBalancesSaid : Prop := engineBalancesRow.holds Tryd.pinned (OpenSpec.ofChange engineBalancesSpec)

/-- ITS FALSE NEIGHBOUR: 'it returns false'. Refute it at one input. -/
def engineBalancesWrong : ChangeSpec := { name := "engineBalances", fn := fun _ => fun
  | [d1, d2] => { results := [.lit (.bool false)], args := [d1, d2] }
  | _ => none }
def EngineBalancesWrongFalsely : Prop := engineBalancesRow.holds Tryd.pinned (OpenSpec.ofChange engineBalancesWrong)

/-- 'paciolilaw11.EngineClosed': WHATEVER THE INPUT: true; the input reads as it did. -/
def engineClosedSpec : ChangeSpec := { name := "engineClosed", fn := fun _ => fun
  | [d1, d2, d3] => { results := [.lit (.bool true)], args := [d1, d2, d3] }
  | _ => none }
def engineClosedRow : OpenClaim := { program := "ytpcechnalfaajaadoor", sum := "d07f1c9c596704633b20d09532cb0edf946ae18f8989689cf2703453d18a3e58", func := "pacioli/paciolilaw11.EngineClosed", spec := "engineClosed", inPlace := ["math/bits.Sub64", "math/bits.Add64"], unfollowed := true, recurses := true, named := ["pacioli/history.leafMark", "pacioli/sha.start", "pacioli/sha.rounds", "pacioli/history.nodeMark"], apart := false, laid := [("pacioli/sha.rounds", laid_pacioli_sha_rounds), ("pacioli/sha.start", laid_pacioli_sha_start), ("pacioli/history.leafMark", laid_pacioli_history_leafMark), ("pacioli/history.nodeMark", laid_pacioli_history_nodeMark)] }
def EngineClosedSaid : Prop := engineClosedRow.holds Tryd.pinned (OpenSpec.ofChange engineClosedSpec)

/-- ITS FALSE NEIGHBOUR: 'it returns false'. Refute it at one input. -/
def engineClosedWrong : ChangeSpec := { name := "engineClosed", fn := fun _ => fun
  | [d1, d2, d3] => { results := [.lit (.bool false)], args := [d1, d2, d3] }
  | _ => none }
def EngineClosedWrongFalsely : Prop := engineClosedRow.holds Tryd.pinned (OpenSpec.ofChange engineClosedWrong)

/-- 'paciolilaw11.EngineCodes': WHATEVER THE INPUT: true; the input reads as it did. -/
def engineCodesSpec : ChangeSpec := { name := "engineCodes", fn := fun _ => fun
  | [d1, d2, d3] => { results := [.lit (.bool true)], args := [d1, d2, d3] }
  | _ => none }
def engineCodesRow : OpenClaim := { program := "ytpcechnalfaajaadoor", sum := "d07f1c9c596704633b20d09532cb0edf946ae18f8989689cf2703453d18a3e58", func := "pacioli/paciolilaw11.EngineCodes", spec := "engineCodes", inPlace := ["math/bits.Sub64", "math/bits.Add64"], unfollowed := true, recurses := true, named := ["pacioli/history.leafMark", "pacioli/sha.start", "pacioli/sha.rounds", "pacioli/history.nodeMark"], apart := false, laid := [("pacioli/sha.rounds", laid_pacioli_sha_rounds), ("pacioli/sha.start", laid_pacioli_sha_start), ("pacioli/history.leafMark", laid_pacioli_history_leafMark), ("pacioli/history.nodeMark", laid_pacioli_history_nodeMark)] }
def EngineCodesSaid : Prop := engineCodesRow.holds Tryd.pinned (OpenSpec.ofChange engineCodesSpec)

/-- ITS FALSE NEIGHBOUR: 'it returns false'. Refute it at one input. -/
def engineCodesWrong : ChangeSpec := { name := "engineCodes", fn := fun _ => fun
  | [d1, d2, d3] => { results := [.lit (.bool false)], args := [d1, d2, d3] }
  | _ => none }
def EngineCodesWrongFalsely : Prop := engineCodesRow.holds Tryd.pinned (OpenSpec.ofChange engineCodesWrong)

/-- 'paciolilaw11.EngineWaits': WHATEVER THE INPUT: true; the input reads as it did. -/
def engineWaitsSpec : ChangeSpec := { name := "engineWaits", fn := fun _ => fun
  | [d1, d2] => { results := [.lit (.bool true)], args := [d1, d2] }
  | _ => none }
def engineWaitsRow : OpenClaim := { program := "ytpcechnalfaajaadoor", sum := "d07f1c9c596704633b20d09532cb0edf946ae18f8989689cf2703453d18a3e58", func := "pacioli/paciolilaw11.EngineWaits", spec := "engineWaits", inPlace := ["math/bits.Sub64", "math/bits.Add64"], unfollowed := true, recurses := true, named := ["pacioli/history.leafMark", "pacioli/sha.start", "pacioli/sha.rounds", "pacioli/history.nodeMark"], apart := false, laid := [("pacioli/sha.rounds", laid_pacioli_sha_rounds), ("pacioli/sha.start", laid_pacioli_sha_start), ("pacioli/history.leafMark", laid_pacioli_history_leafMark), ("pacioli/history.nodeMark", laid_pacioli_history_nodeMark)] }
def EngineWaitsSaid : Prop := engineWaitsRow.holds Tryd.pinned (OpenSpec.ofChange engineWaitsSpec)

/-- ITS FALSE NEIGHBOUR: 'it returns false'. Refute it at one input. -/
def engineWaitsWrong : ChangeSpec := { name := "engineWaits", fn := fun _ => fun
  | [d1, d2] => { results := [.lit (.bool false)], args := [d1, d2] }
  | _ => none }
def EngineWaitsWrongFalsely : Prop := engineWaitsRow.holds Tryd.pinned (OpenSpec.ofChange engineWaitsWrong)

/-- 'paciolilaw11.EngineSums': WHATEVER THE INPUT: true; the input reads as it did. -/
def engineSumsSpec : ChangeSpec := { name := "engineSums", fn := fun _ => fun
  | [d] => { results := [.lit (.bool true)], args := [d] }
  | _ => none }
def engineSumsRow : OpenClaim := { program := "ytpcechnalfaajaadoor", sum := "d07f1c9c596704633b20d09532cb0edf946ae18f8989689cf2703453d18a3e58", func := "pacioli/paciolilaw11.EngineSums", spec := "engineSums", inPlace := ["math/bits.Sub64", "math/bits.Add64"], unfollowed := true, recurses := true, named := ["pacioli/history.leafMark", "pacioli/sha.start", "pacioli/sha.rounds", "pacioli/history.nodeMark"], apart := false, laid := [("pacioli/sha.rounds", laid_pacioli_sha_rounds), ("pacioli/sha.start", laid_pacioli_sha_start), ("pacioli/history.leafMark", laid_pacioli_history_leafMark), ("pacioli/history.nodeMark", laid_pacioli_history_nodeMark)] }
def EngineSumsSaid : Prop := engineSumsRow.holds Tryd.pinned (OpenSpec.ofChange engineSumsSpec)

/-- ITS FALSE NEIGHBOUR: 'it returns false'. Refute it at one input. -/
def engineSumsWrong : ChangeSpec := { name := "engineSums", fn := fun _ => fun
  | [d] => { results := [.lit (.bool false)], args := [d] }
  | _ => none }
def EngineSumsWrongFalsely : Prop := engineSumsRow.holds Tryd.pinned (OpenSpec.ofChange engineSumsWrong)

/-- 'paciolilaw11.EngineTable': WHATEVER THE INPUT: true; the input reads as it did. -/
def engineTableSpec : ChangeSpec := { name := "engineTable", fn := fun _ => fun
  | [d] => { results := [.lit (.bool true)], args := [d] }
  | _ => none }
def engineTableRow : OpenClaim := { program := "ytpcechnalfaajaadoor", sum := "d07f1c9c596704633b20d09532cb0edf946ae18f8989689cf2703453d18a3e58", func := "pacioli/paciolilaw11.EngineTable", spec := "engineTable", inPlace := ["math/bits.Sub64", "math/bits.Add64"], unfollowed := true, recurses := true, named := ["pacioli/history.leafMark", "pacioli/sha.start", "pacioli/sha.rounds", "pacioli/history.nodeMark"], apart := false, laid := [("pacioli/sha.rounds", laid_pacioli_sha_rounds), ("pacioli/sha.start", laid_pacioli_sha_start), ("pacioli/history.leafMark", laid_pacioli_history_leafMark), ("pacioli/history.nodeMark", laid_pacioli_history_nodeMark)] }
def EngineTableSaid : Prop := engineTableRow.holds Tryd.pinned (OpenSpec.ofChange engineTableSpec)

/-- ITS FALSE NEIGHBOUR: 'it returns false'. Refute it at one input. -/
def engineTableWrong : ChangeSpec := { name := "engineTable", fn := fun _ => fun
  | [d] => { results := [.lit (.bool false)], args := [d] }
  | _ => none }
def EngineTableWrongFalsely : Prop := engineTableRow.holds Tryd.pinned (OpenSpec.ofChange engineTableWrong)

/-- 'paciolilaw11.EngineChains': WHATEVER THE INPUT: true; the input reads as it did. -/
def engineChainsSpec : ChangeSpec := { name := "engineChains", fn := fun _ => fun
  | [d1, d2, d3] => { results := [.lit (.bool true)], args := [d1, d2, d3] }
  | _ => none }
def engineChainsRow : OpenClaim := { program := "ytpcechnalfaajaadoor", sum := "d07f1c9c596704633b20d09532cb0edf946ae18f8989689cf2703453d18a3e58", func := "pacioli/paciolilaw11.EngineChains", spec := "engineChains", inPlace := ["math/bits.Sub64", "math/bits.Add64"], unfollowed := true, recurses := true, named := ["pacioli/history.leafMark", "pacioli/sha.start", "pacioli/sha.rounds", "pacioli/history.nodeMark"], apart := false, laid := [("pacioli/sha.rounds", laid_pacioli_sha_rounds), ("pacioli/sha.start", laid_pacioli_sha_start), ("pacioli/history.leafMark", laid_pacioli_history_leafMark), ("pacioli/history.nodeMark", laid_pacioli_history_nodeMark)] }
def EngineChainsSaid : Prop := engineChainsRow.holds Tryd.pinned (OpenSpec.ofChange engineChainsSpec)

/-- ITS FALSE NEIGHBOUR: 'it returns false'. Refute it at one input. -/
def engineChainsWrong : ChangeSpec := { name := "engineChains", fn := fun _ => fun
  | [d1, d2, d3] => { results := [.lit (.bool false)], args := [d1, d2, d3] }
  | _ => none }
def EngineChainsWrongFalsely : Prop := engineChainsRow.holds Tryd.pinned (OpenSpec.ofChange engineChainsWrong)

/-- 'paciolilaw11.EngineCopies': WHATEVER THE INPUT: true; the input reads as it did. -/
def engineCopiesSpec : ChangeSpec := { name := "engineCopies", fn := fun _ => fun
  | [d1, d2] => { results := [.lit (.bool true)], args := [d1, d2] }
  | _ => none }
def engineCopiesRow : OpenClaim := { program := "ytpcechnalfaajaadoor", sum := "d07f1c9c596704633b20d09532cb0edf946ae18f8989689cf2703453d18a3e58", func := "pacioli/paciolilaw11.EngineCopies", spec := "engineCopies", inPlace := ["math/bits.Sub64", "math/bits.Add64"], unfollowed := true, recurses := true, named := ["pacioli/history.leafMark", "pacioli/sha.start", "pacioli/sha.rounds", "pacioli/history.nodeMark"], apart := false, laid := [("pacioli/sha.rounds", laid_pacioli_sha_rounds), ("pacioli/sha.start", laid_pacioli_sha_start), ("pacioli/history.leafMark", laid_pacioli_history_leafMark), ("pacioli/history.nodeMark", laid_pacioli_history_nodeMark)] }
def EngineCopiesSaid : Prop := engineCopiesRow.holds Tryd.pinned (OpenSpec.ofChange engineCopiesSpec)

/-- ITS FALSE NEIGHBOUR: 'it returns false'. Refute it at one input. -/
def engineCopiesWrong : ChangeSpec := { name := "engineCopies", fn := fun _ => fun
  | [d1, d2] => { results := [.lit (.bool false)], args := [d1, d2] }
  | _ => none }
def EngineCopiesWrongFalsely : Prop := engineCopiesRow.holds Tryd.pinned (OpenSpec.ofChange engineCopiesWrong)

/-- 'paciolilaw11.EngineRefuses': WHATEVER THE INPUT: true; the input reads as it did. -/
def engineRefusesSpec : ChangeSpec := { name := "engineRefuses", fn := fun _ => fun
  | [d1, d2] => { results := [.lit (.bool true)], args := [d1, d2] }
  | _ => none }
def engineRefusesRow : OpenClaim := { program := "ytpcechnalfaajaadoor", sum := "d07f1c9c596704633b20d09532cb0edf946ae18f8989689cf2703453d18a3e58", func := "pacioli/paciolilaw11.EngineRefuses", spec := "engineRefuses", inPlace := ["math/bits.Sub64", "math/bits.Add64"], unfollowed := true, recurses := true, named := ["pacioli/history.leafMark", "pacioli/sha.start", "pacioli/sha.rounds", "pacioli/history.nodeMark"], apart := false, laid := [("pacioli/sha.rounds", laid_pacioli_sha_rounds), ("pacioli/sha.start", laid_pacioli_sha_start), ("pacioli/history.leafMark", laid_pacioli_history_leafMark), ("pacioli/history.nodeMark", laid_pacioli_history_nodeMark)] }
def EngineRefusesSaid : Prop := engineRefusesRow.holds Tryd.pinned (OpenSpec.ofChange engineRefusesSpec)

/-- ITS FALSE NEIGHBOUR: 'it returns false'. Refute it at one input. -/
def engineRefusesWrong : ChangeSpec := { name := "engineRefuses", fn := fun _ => fun
  | [d1, d2] => { results := [.lit (.bool false)], args := [d1, d2] }
  | _ => none }
def EngineRefusesWrongFalsely : Prop := engineRefusesRow.holds Tryd.pinned (OpenSpec.ofChange engineRefusesWrong)

/- THE SECOND FORM. 'bulk': how many values and letters a reading holds, each counted each time it is reached (what is shared counts as often as it is met; a slice's spare places count too). A statement '..UptoSaid' is the law's where the arguments, and the package variables that the reading takes, are together of bulk at most 1048576: NARROWER than '..Said'. Prove '..Said' where nothing that the law and all that it calls make is longer than what came in: it says more and counts as full. Else prove '..UptoSaid'. A law counts once. -/
mutual
def uptoBulk {H : Type} : DataW H → Nat
  | .lit (.string bytes) => bytes.length + 1
  | .lit _ => 1
  | .nil => 1
  | .ptr d => uptoBulk d + 1
  | .slice elems spare => uptoBulkAll elems + uptoBulkAll spare + 1
  | .agg parts => uptoBulkAll parts + 1
  | .iface _ d => uptoBulk d + 1
  | .map entries => uptoBulkEntries entries + 1
  | .held _ => 1
def uptoBulkAll {H : Type} : List (DataW H) → Nat
  | [] => 0
  | d :: r => uptoBulk d + uptoBulkAll r
def uptoBulkEntries {H : Type} : List (Lit × DataW H) → Nat
  | [] => 0
  | x :: r => uptoBulkEntry x + uptoBulkEntries r
def uptoBulkEntry {H : Type} : Lit × DataW H → Nat
  | (.string bytes, d) => bytes.length + uptoBulk d + 1
  | (_, d) => uptoBulk d + 1
 end
def uptoSmall : (H : Type) → List (DataW H) → Bool := fun _ ds => decide (uptoBulkAll ds ≤ 1048576)
def OpenSpec.upto (s : _root_.Go.ChangeSpec) : _root_.Go.OpenSpec := { _root_.Go.OpenSpec.ofChange s with cond := some uptoSmall }

/-- 'paciolilaw11.EngineSteps', WHERE WHAT IT READS IS OF BULK AT MOST 1048576: true; the input reads as it did. -/
def engineStepsUptoRow : OpenClaim := { program := "ytpcechnalfaajaadoor", sum := "d07f1c9c596704633b20d09532cb0edf946ae18f8989689cf2703453d18a3e58", func := "pacioli/paciolilaw11.EngineSteps", spec := "engineSteps", inPlace := ["math/bits.Sub64", "math/bits.Add64"], unfollowed := true, recurses := true, named := ["pacioli/history.leafMark", "pacioli/sha.start", "pacioli/sha.rounds", "pacioli/history.nodeMark"], apart := false, laid := [("pacioli/sha.rounds", laid_pacioli_sha_rounds), ("pacioli/sha.start", laid_pacioli_sha_start), ("pacioli/history.leafMark", laid_pacioli_history_leafMark), ("pacioli/history.nodeMark", laid_pacioli_history_nodeMark)], narrowed := true }
def EngineStepsUptoSaid : Prop := engineStepsUptoRow.holds Tryd.pinned (OpenSpec.upto engineStepsSpec)

/-- 'paciolilaw11.EngineFull', WHERE WHAT IT READS IS OF BULK AT MOST 1048576: true; the input reads as it did. -/
def engineFullUptoRow : OpenClaim := { program := "ytpcechnalfaajaadoor", sum := "d07f1c9c596704633b20d09532cb0edf946ae18f8989689cf2703453d18a3e58", func := "pacioli/paciolilaw11.EngineFull", spec := "engineFull", inPlace := ["math/bits.Sub64", "math/bits.Add64"], unfollowed := true, recurses := true, named := ["pacioli/history.leafMark", "pacioli/sha.start", "pacioli/sha.rounds", "pacioli/history.nodeMark"], apart := false, laid := [("pacioli/sha.rounds", laid_pacioli_sha_rounds), ("pacioli/sha.start", laid_pacioli_sha_start), ("pacioli/history.leafMark", laid_pacioli_history_leafMark), ("pacioli/history.nodeMark", laid_pacioli_history_nodeMark)], narrowed := true }
def EngineFullUptoSaid : Prop := engineFullUptoRow.holds Tryd.pinned (OpenSpec.upto engineFullSpec)

/-- 'paciolilaw11.EngineBalances', WHERE WHAT IT READS IS OF BULK AT MOST 1048576: true; the input reads as it did. -/
def engineBalancesUptoRow : OpenClaim := { program := "ytpcechnalfaajaadoor", sum := "d07f1c9c596704633b20d09532cb0edf946ae18f8989689cf2703453d18a3e58", func := "pacioli/paciolilaw11.EngineBalances", spec := "engineBalances", inPlace := ["math/bits.Sub64", "math/bits.Add64"], unfollowed := true, recurses := true, named := ["pacioli/history.leafMark", "pacioli/sha.start", "pacioli/sha.rounds", "pacioli/history.nodeMark"], apart := false, laid := [("pacioli/sha.rounds", laid_pacioli_sha_rounds), ("pacioli/sha.start", laid_pacioli_sha_start), ("pacioli/history.leafMark", laid_pacioli_history_leafMark), ("pacioli/history.nodeMark", laid_pacioli_history_nodeMark)], narrowed := true }
def EngineBalancesUptoSaid : Prop := engineBalancesUptoRow.holds Tryd.pinned (OpenSpec.upto engineBalancesSpec)

/-- 'paciolilaw11.EngineClosed', WHERE WHAT IT READS IS OF BULK AT MOST 1048576: true; the input reads as it did. -/
def engineClosedUptoRow : OpenClaim := { program := "ytpcechnalfaajaadoor", sum := "d07f1c9c596704633b20d09532cb0edf946ae18f8989689cf2703453d18a3e58", func := "pacioli/paciolilaw11.EngineClosed", spec := "engineClosed", inPlace := ["math/bits.Sub64", "math/bits.Add64"], unfollowed := true, recurses := true, named := ["pacioli/history.leafMark", "pacioli/sha.start", "pacioli/sha.rounds", "pacioli/history.nodeMark"], apart := false, laid := [("pacioli/sha.rounds", laid_pacioli_sha_rounds), ("pacioli/sha.start", laid_pacioli_sha_start), ("pacioli/history.leafMark", laid_pacioli_history_leafMark), ("pacioli/history.nodeMark", laid_pacioli_history_nodeMark)], narrowed := true }
def EngineClosedUptoSaid : Prop := engineClosedUptoRow.holds Tryd.pinned (OpenSpec.upto engineClosedSpec)

/-- 'paciolilaw11.EngineCodes', WHERE WHAT IT READS IS OF BULK AT MOST 1048576: true; the input reads as it did. -/
def engineCodesUptoRow : OpenClaim := { program := "ytpcechnalfaajaadoor", sum := "d07f1c9c596704633b20d09532cb0edf946ae18f8989689cf2703453d18a3e58", func := "pacioli/paciolilaw11.EngineCodes", spec := "engineCodes", inPlace := ["math/bits.Sub64", "math/bits.Add64"], unfollowed := true, recurses := true, named := ["pacioli/history.leafMark", "pacioli/sha.start", "pacioli/sha.rounds", "pacioli/history.nodeMark"], apart := false, laid := [("pacioli/sha.rounds", laid_pacioli_sha_rounds), ("pacioli/sha.start", laid_pacioli_sha_start), ("pacioli/history.leafMark", laid_pacioli_history_leafMark), ("pacioli/history.nodeMark", laid_pacioli_history_nodeMark)], narrowed := true }
def EngineCodesUptoSaid : Prop := engineCodesUptoRow.holds Tryd.pinned (OpenSpec.upto engineCodesSpec)

/-- 'paciolilaw11.EngineWaits', WHERE WHAT IT READS IS OF BULK AT MOST 1048576: true; the input reads as it did. -/
def engineWaitsUptoRow : OpenClaim := { program := "ytpcechnalfaajaadoor", sum := "d07f1c9c596704633b20d09532cb0edf946ae18f8989689cf2703453d18a3e58", func := "pacioli/paciolilaw11.EngineWaits", spec := "engineWaits", inPlace := ["math/bits.Sub64", "math/bits.Add64"], unfollowed := true, recurses := true, named := ["pacioli/history.leafMark", "pacioli/sha.start", "pacioli/sha.rounds", "pacioli/history.nodeMark"], apart := false, laid := [("pacioli/sha.rounds", laid_pacioli_sha_rounds), ("pacioli/sha.start", laid_pacioli_sha_start), ("pacioli/history.leafMark", laid_pacioli_history_leafMark), ("pacioli/history.nodeMark", laid_pacioli_history_nodeMark)], narrowed := true }
def EngineWaitsUptoSaid : Prop := engineWaitsUptoRow.holds Tryd.pinned (OpenSpec.upto engineWaitsSpec)

/-- 'paciolilaw11.EngineSums', WHERE WHAT IT READS IS OF BULK AT MOST 1048576: true; the input reads as it did. -/
def engineSumsUptoRow : OpenClaim := { program := "ytpcechnalfaajaadoor", sum := "d07f1c9c596704633b20d09532cb0edf946ae18f8989689cf2703453d18a3e58", func := "pacioli/paciolilaw11.EngineSums", spec := "engineSums", inPlace := ["math/bits.Sub64", "math/bits.Add64"], unfollowed := true, recurses := true, named := ["pacioli/history.leafMark", "pacioli/sha.start", "pacioli/sha.rounds", "pacioli/history.nodeMark"], apart := false, laid := [("pacioli/sha.rounds", laid_pacioli_sha_rounds), ("pacioli/sha.start", laid_pacioli_sha_start), ("pacioli/history.leafMark", laid_pacioli_history_leafMark), ("pacioli/history.nodeMark", laid_pacioli_history_nodeMark)], narrowed := true }
def EngineSumsUptoSaid : Prop := engineSumsUptoRow.holds Tryd.pinned (OpenSpec.upto engineSumsSpec)

/-- 'paciolilaw11.EngineTable', WHERE WHAT IT READS IS OF BULK AT MOST 1048576: true; the input reads as it did. -/
def engineTableUptoRow : OpenClaim := { program := "ytpcechnalfaajaadoor", sum := "d07f1c9c596704633b20d09532cb0edf946ae18f8989689cf2703453d18a3e58", func := "pacioli/paciolilaw11.EngineTable", spec := "engineTable", inPlace := ["math/bits.Sub64", "math/bits.Add64"], unfollowed := true, recurses := true, named := ["pacioli/history.leafMark", "pacioli/sha.start", "pacioli/sha.rounds", "pacioli/history.nodeMark"], apart := false, laid := [("pacioli/sha.rounds", laid_pacioli_sha_rounds), ("pacioli/sha.start", laid_pacioli_sha_start), ("pacioli/history.leafMark", laid_pacioli_history_leafMark), ("pacioli/history.nodeMark", laid_pacioli_history_nodeMark)], narrowed := true }
def EngineTableUptoSaid : Prop := engineTableUptoRow.holds Tryd.pinned (OpenSpec.upto engineTableSpec)

/-- 'paciolilaw11.EngineChains', WHERE WHAT IT READS IS OF BULK AT MOST 1048576: true; the input reads as it did. -/
def engineChainsUptoRow : OpenClaim := { program := "ytpcechnalfaajaadoor", sum := "d07f1c9c596704633b20d09532cb0edf946ae18f8989689cf2703453d18a3e58", func := "pacioli/paciolilaw11.EngineChains", spec := "engineChains", inPlace := ["math/bits.Sub64", "math/bits.Add64"], unfollowed := true, recurses := true, named := ["pacioli/history.leafMark", "pacioli/sha.start", "pacioli/sha.rounds", "pacioli/history.nodeMark"], apart := false, laid := [("pacioli/sha.rounds", laid_pacioli_sha_rounds), ("pacioli/sha.start", laid_pacioli_sha_start), ("pacioli/history.leafMark", laid_pacioli_history_leafMark), ("pacioli/history.nodeMark", laid_pacioli_history_nodeMark)], narrowed := true }
def EngineChainsUptoSaid : Prop := engineChainsUptoRow.holds Tryd.pinned (OpenSpec.upto engineChainsSpec)

/-- 'paciolilaw11.EngineCopies', WHERE WHAT IT READS IS OF BULK AT MOST 1048576: true; the input reads as it did. -/
def engineCopiesUptoRow : OpenClaim := { program := "ytpcechnalfaajaadoor", sum := "d07f1c9c596704633b20d09532cb0edf946ae18f8989689cf2703453d18a3e58", func := "pacioli/paciolilaw11.EngineCopies", spec := "engineCopies", inPlace := ["math/bits.Sub64", "math/bits.Add64"], unfollowed := true, recurses := true, named := ["pacioli/history.leafMark", "pacioli/sha.start", "pacioli/sha.rounds", "pacioli/history.nodeMark"], apart := false, laid := [("pacioli/sha.rounds", laid_pacioli_sha_rounds), ("pacioli/sha.start", laid_pacioli_sha_start), ("pacioli/history.leafMark", laid_pacioli_history_leafMark), ("pacioli/history.nodeMark", laid_pacioli_history_nodeMark)], narrowed := true }
def EngineCopiesUptoSaid : Prop := engineCopiesUptoRow.holds Tryd.pinned (OpenSpec.upto engineCopiesSpec)

/-- 'paciolilaw11.EngineRefuses', WHERE WHAT IT READS IS OF BULK AT MOST 1048576: true; the input reads as it did. -/
def engineRefusesUptoRow : OpenClaim := { program := "ytpcechnalfaajaadoor", sum := "d07f1c9c596704633b20d09532cb0edf946ae18f8989689cf2703453d18a3e58", func := "pacioli/paciolilaw11.EngineRefuses", spec := "engineRefuses", inPlace := ["math/bits.Sub64", "math/bits.Add64"], unfollowed := true, recurses := true, named := ["pacioli/history.leafMark", "pacioli/sha.start", "pacioli/sha.rounds", "pacioli/history.nodeMark"], apart := false, laid := [("pacioli/sha.rounds", laid_pacioli_sha_rounds), ("pacioli/sha.start", laid_pacioli_sha_start), ("pacioli/history.leafMark", laid_pacioli_history_leafMark), ("pacioli/history.nodeMark", laid_pacioli_history_nodeMark)], narrowed := true }
def EngineRefusesUptoSaid : Prop := engineRefusesUptoRow.holds Tryd.pinned (OpenSpec.upto engineRefusesSpec)

end Rows
end Go.Proofs.YtpcechnalfaajaaDoor
