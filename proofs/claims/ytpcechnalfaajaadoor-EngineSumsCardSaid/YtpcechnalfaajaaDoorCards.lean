/-
  DERIVED. GIVEN WITH THE SEED: THE CARDS: each row of YtpcechnalfaajaaDoorRows.lean that lists a variable, with what it lists TIED to the program's text (the seventh form; the later family's looks); each row that meets fmt, with fmt's text TOLD by the authors' own Lean function (tested against real Go, not proved from fmt's source: count such statements apart). THE CARD IS WHAT COUNTS. Prove the row's statement (the work); the ties are given (YtpcechnalfaajaaDoorTie.lean); close each card by the builder's one call (the guide's Derived/Test/ToyasCard.lean, 'card_holds'). Laid BY PROGRAM, IN A SANDBOX (cutbox-door.mjs). By AI agents, Wed Nov 11 2026. No macro, syntax, notation, axiom, sorry.
-/
import Derived.Test.YtpcechnalfaajaaDoorRows
import GoSem.ClaimSeven
namespace Go.Proofs.YtpcechnalfaajaaDoor
namespace Rows

/-- THE TIED CARD OF 'paciolilaw11.EngineSteps'. -/
def engineStepsCard : Claim7 := { stood := { row := engineStepsRow, standIns := [], harness := (true, "de20976bb9abc0c7ddf704fc18d7d4f424036e793db8338a9ccbe2b467d619fd"), looks := false }, kinds := [], alts := [], laidByText := true, laidKinds := [.data, .data, .widerDeep, .widerDeep], laidTests := true, laidLooks := .later }
def EngineStepsCardSaid : Prop := Claim7.holds Tryd.pinned (.plain (OpenSpec.ofChange engineStepsSpec)) engineStepsCard

/-- THE TIED CARD OF 'paciolilaw11.EngineFull'. -/
def engineFullCard : Claim7 := { stood := { row := engineFullRow, standIns := [], harness := (true, "de20976bb9abc0c7ddf704fc18d7d4f424036e793db8338a9ccbe2b467d619fd"), looks := false }, kinds := [], alts := [], laidByText := true, laidKinds := [.data, .data, .widerDeep, .widerDeep], laidTests := true, laidLooks := .later }
def EngineFullCardSaid : Prop := Claim7.holds Tryd.pinned (.plain (OpenSpec.ofChange engineFullSpec)) engineFullCard

/-- THE TIED CARD OF 'paciolilaw11.EngineBalances'. -/
def engineBalancesCard : Claim7 := { stood := { row := engineBalancesRow, standIns := [], harness := (true, "de20976bb9abc0c7ddf704fc18d7d4f424036e793db8338a9ccbe2b467d619fd"), looks := false }, kinds := [], alts := [], laidByText := true, laidKinds := [.data, .data, .widerDeep, .widerDeep], laidTests := true, laidLooks := .later }
def EngineBalancesCardSaid : Prop := Claim7.holds Tryd.pinned (.plain (OpenSpec.ofChange engineBalancesSpec)) engineBalancesCard

/-- THE TIED CARD OF 'paciolilaw11.EngineClosed'. -/
def engineClosedCard : Claim7 := { stood := { row := engineClosedRow, standIns := [], harness := (true, "de20976bb9abc0c7ddf704fc18d7d4f424036e793db8338a9ccbe2b467d619fd"), looks := false }, kinds := [], alts := [], laidByText := true, laidKinds := [.data, .data, .widerDeep, .widerDeep], laidTests := true, laidLooks := .later }
def EngineClosedCardSaid : Prop := Claim7.holds Tryd.pinned (.plain (OpenSpec.ofChange engineClosedSpec)) engineClosedCard

/-- THE TIED CARD OF 'paciolilaw11.EngineCodes'. -/
def engineCodesCard : Claim7 := { stood := { row := engineCodesRow, standIns := [], harness := (true, "de20976bb9abc0c7ddf704fc18d7d4f424036e793db8338a9ccbe2b467d619fd"), looks := false }, kinds := [], alts := [], laidByText := true, laidKinds := [.data, .data, .widerDeep, .widerDeep], laidTests := true, laidLooks := .later }
def EngineCodesCardSaid : Prop := Claim7.holds Tryd.pinned (.plain (OpenSpec.ofChange engineCodesSpec)) engineCodesCard

/-- THE TIED CARD OF 'paciolilaw11.EngineWaits'. -/
def engineWaitsCard : Claim7 := { stood := { row := engineWaitsRow, standIns := [], harness := (true, "de20976bb9abc0c7ddf704fc18d7d4f424036e793db8338a9ccbe2b467d619fd"), looks := false }, kinds := [], alts := [], laidByText := true, laidKinds := [.data, .data, .widerDeep, .widerDeep], laidTests := true, laidLooks := .later }
def EngineWaitsCardSaid : Prop := Claim7.holds Tryd.pinned (.plain (OpenSpec.ofChange engineWaitsSpec)) engineWaitsCard

/-- THE TIED CARD OF 'paciolilaw11.EngineSums'. -/
def engineSumsCard : Claim7 := { stood := { row := engineSumsRow, standIns := [], harness := (true, "de20976bb9abc0c7ddf704fc18d7d4f424036e793db8338a9ccbe2b467d619fd"), looks := false }, kinds := [], alts := [], laidByText := true, laidKinds := [.data, .data, .widerDeep, .widerDeep], laidTests := true, laidLooks := .later }
def EngineSumsCardSaid : Prop := Claim7.holds Tryd.pinned (.plain (OpenSpec.ofChange engineSumsSpec)) engineSumsCard

/-- THE TIED CARD OF 'paciolilaw11.EngineTable'. -/
def engineTableCard : Claim7 := { stood := { row := engineTableRow, standIns := [], harness := (true, "de20976bb9abc0c7ddf704fc18d7d4f424036e793db8338a9ccbe2b467d619fd"), looks := false }, kinds := [], alts := [], laidByText := true, laidKinds := [.data, .data, .widerDeep, .widerDeep], laidTests := true, laidLooks := .later }
def EngineTableCardSaid : Prop := Claim7.holds Tryd.pinned (.plain (OpenSpec.ofChange engineTableSpec)) engineTableCard

/-- THE TIED CARD OF 'paciolilaw11.EngineChains'. -/
def engineChainsCard : Claim7 := { stood := { row := engineChainsRow, standIns := [], harness := (true, "de20976bb9abc0c7ddf704fc18d7d4f424036e793db8338a9ccbe2b467d619fd"), looks := false }, kinds := [], alts := [], laidByText := true, laidKinds := [.data, .data, .widerDeep, .widerDeep], laidTests := true, laidLooks := .later }
def EngineChainsCardSaid : Prop := Claim7.holds Tryd.pinned (.plain (OpenSpec.ofChange engineChainsSpec)) engineChainsCard

/-- THE TIED CARD OF 'paciolilaw11.EngineCopies'. -/
def engineCopiesCard : Claim7 := { stood := { row := engineCopiesRow, standIns := [], harness := (true, "de20976bb9abc0c7ddf704fc18d7d4f424036e793db8338a9ccbe2b467d619fd"), looks := false }, kinds := [], alts := [], laidByText := true, laidKinds := [.data, .data, .widerDeep, .widerDeep], laidTests := true, laidLooks := .later }
def EngineCopiesCardSaid : Prop := Claim7.holds Tryd.pinned (.plain (OpenSpec.ofChange engineCopiesSpec)) engineCopiesCard

/-- THE TIED CARD OF 'paciolilaw11.EngineRefuses'. -/
def engineRefusesCard : Claim7 := { stood := { row := engineRefusesRow, standIns := [], harness := (true, "de20976bb9abc0c7ddf704fc18d7d4f424036e793db8338a9ccbe2b467d619fd"), looks := false }, kinds := [], alts := [], laidByText := true, laidKinds := [.data, .data, .widerDeep, .widerDeep], laidTests := true, laidLooks := .later }
def EngineRefusesCardSaid : Prop := Claim7.holds Tryd.pinned (.plain (OpenSpec.ofChange engineRefusesSpec)) engineRefusesCard

/-- THE SECOND FORM's CARD OF 'paciolilaw11.EngineSteps'. -/
def engineStepsUptoCard : Claim7 := { stood := { row := engineStepsUptoRow, standIns := [], harness := (true, "de20976bb9abc0c7ddf704fc18d7d4f424036e793db8338a9ccbe2b467d619fd"), looks := false }, kinds := [], alts := [], laidByText := true, laidKinds := [.data, .data, .widerDeep, .widerDeep], laidTests := true, laidLooks := .later }
def EngineStepsUptoCardSaid : Prop := Claim7.holds Tryd.pinned (.plain (OpenSpec.upto engineStepsSpec)) engineStepsUptoCard

/-- THE SECOND FORM's CARD OF 'paciolilaw11.EngineFull'. -/
def engineFullUptoCard : Claim7 := { stood := { row := engineFullUptoRow, standIns := [], harness := (true, "de20976bb9abc0c7ddf704fc18d7d4f424036e793db8338a9ccbe2b467d619fd"), looks := false }, kinds := [], alts := [], laidByText := true, laidKinds := [.data, .data, .widerDeep, .widerDeep], laidTests := true, laidLooks := .later }
def EngineFullUptoCardSaid : Prop := Claim7.holds Tryd.pinned (.plain (OpenSpec.upto engineFullSpec)) engineFullUptoCard

/-- THE SECOND FORM's CARD OF 'paciolilaw11.EngineBalances'. -/
def engineBalancesUptoCard : Claim7 := { stood := { row := engineBalancesUptoRow, standIns := [], harness := (true, "de20976bb9abc0c7ddf704fc18d7d4f424036e793db8338a9ccbe2b467d619fd"), looks := false }, kinds := [], alts := [], laidByText := true, laidKinds := [.data, .data, .widerDeep, .widerDeep], laidTests := true, laidLooks := .later }
def EngineBalancesUptoCardSaid : Prop := Claim7.holds Tryd.pinned (.plain (OpenSpec.upto engineBalancesSpec)) engineBalancesUptoCard

/-- THE SECOND FORM's CARD OF 'paciolilaw11.EngineClosed'. -/
def engineClosedUptoCard : Claim7 := { stood := { row := engineClosedUptoRow, standIns := [], harness := (true, "de20976bb9abc0c7ddf704fc18d7d4f424036e793db8338a9ccbe2b467d619fd"), looks := false }, kinds := [], alts := [], laidByText := true, laidKinds := [.data, .data, .widerDeep, .widerDeep], laidTests := true, laidLooks := .later }
def EngineClosedUptoCardSaid : Prop := Claim7.holds Tryd.pinned (.plain (OpenSpec.upto engineClosedSpec)) engineClosedUptoCard

/-- THE SECOND FORM's CARD OF 'paciolilaw11.EngineCodes'. -/
def engineCodesUptoCard : Claim7 := { stood := { row := engineCodesUptoRow, standIns := [], harness := (true, "de20976bb9abc0c7ddf704fc18d7d4f424036e793db8338a9ccbe2b467d619fd"), looks := false }, kinds := [], alts := [], laidByText := true, laidKinds := [.data, .data, .widerDeep, .widerDeep], laidTests := true, laidLooks := .later }
def EngineCodesUptoCardSaid : Prop := Claim7.holds Tryd.pinned (.plain (OpenSpec.upto engineCodesSpec)) engineCodesUptoCard

/-- THE SECOND FORM's CARD OF 'paciolilaw11.EngineWaits'. -/
def engineWaitsUptoCard : Claim7 := { stood := { row := engineWaitsUptoRow, standIns := [], harness := (true, "de20976bb9abc0c7ddf704fc18d7d4f424036e793db8338a9ccbe2b467d619fd"), looks := false }, kinds := [], alts := [], laidByText := true, laidKinds := [.data, .data, .widerDeep, .widerDeep], laidTests := true, laidLooks := .later }
def EngineWaitsUptoCardSaid : Prop := Claim7.holds Tryd.pinned (.plain (OpenSpec.upto engineWaitsSpec)) engineWaitsUptoCard

/-- THE SECOND FORM's CARD OF 'paciolilaw11.EngineSums'. -/
def engineSumsUptoCard : Claim7 := { stood := { row := engineSumsUptoRow, standIns := [], harness := (true, "de20976bb9abc0c7ddf704fc18d7d4f424036e793db8338a9ccbe2b467d619fd"), looks := false }, kinds := [], alts := [], laidByText := true, laidKinds := [.data, .data, .widerDeep, .widerDeep], laidTests := true, laidLooks := .later }
def EngineSumsUptoCardSaid : Prop := Claim7.holds Tryd.pinned (.plain (OpenSpec.upto engineSumsSpec)) engineSumsUptoCard

/-- THE SECOND FORM's CARD OF 'paciolilaw11.EngineTable'. -/
def engineTableUptoCard : Claim7 := { stood := { row := engineTableUptoRow, standIns := [], harness := (true, "de20976bb9abc0c7ddf704fc18d7d4f424036e793db8338a9ccbe2b467d619fd"), looks := false }, kinds := [], alts := [], laidByText := true, laidKinds := [.data, .data, .widerDeep, .widerDeep], laidTests := true, laidLooks := .later }
def EngineTableUptoCardSaid : Prop := Claim7.holds Tryd.pinned (.plain (OpenSpec.upto engineTableSpec)) engineTableUptoCard

/-- THE SECOND FORM's CARD OF 'paciolilaw11.EngineChains'. -/
def engineChainsUptoCard : Claim7 := { stood := { row := engineChainsUptoRow, standIns := [], harness := (true, "de20976bb9abc0c7ddf704fc18d7d4f424036e793db8338a9ccbe2b467d619fd"), looks := false }, kinds := [], alts := [], laidByText := true, laidKinds := [.data, .data, .widerDeep, .widerDeep], laidTests := true, laidLooks := .later }
def EngineChainsUptoCardSaid : Prop := Claim7.holds Tryd.pinned (.plain (OpenSpec.upto engineChainsSpec)) engineChainsUptoCard

/-- THE SECOND FORM's CARD OF 'paciolilaw11.EngineCopies'. -/
def engineCopiesUptoCard : Claim7 := { stood := { row := engineCopiesUptoRow, standIns := [], harness := (true, "de20976bb9abc0c7ddf704fc18d7d4f424036e793db8338a9ccbe2b467d619fd"), looks := false }, kinds := [], alts := [], laidByText := true, laidKinds := [.data, .data, .widerDeep, .widerDeep], laidTests := true, laidLooks := .later }
def EngineCopiesUptoCardSaid : Prop := Claim7.holds Tryd.pinned (.plain (OpenSpec.upto engineCopiesSpec)) engineCopiesUptoCard

/-- THE SECOND FORM's CARD OF 'paciolilaw11.EngineRefuses'. -/
def engineRefusesUptoCard : Claim7 := { stood := { row := engineRefusesUptoRow, standIns := [], harness := (true, "de20976bb9abc0c7ddf704fc18d7d4f424036e793db8338a9ccbe2b467d619fd"), looks := false }, kinds := [], alts := [], laidByText := true, laidKinds := [.data, .data, .widerDeep, .widerDeep], laidTests := true, laidLooks := .later }
def EngineRefusesUptoCardSaid : Prop := Claim7.holds Tryd.pinned (.plain (OpenSpec.upto engineRefusesSpec)) engineRefusesUptoCard
end Rows
end Go.Proofs.YtpcechnalfaajaaDoor
