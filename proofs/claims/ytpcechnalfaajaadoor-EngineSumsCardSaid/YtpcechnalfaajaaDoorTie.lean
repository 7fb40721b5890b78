/-
  DERIVED. GIVEN WITH THE SEED: THE PROGRAM's TIES (one call each: nine closed facts by the kernel) AND EACH ROW's TIE, after the 31st guide's Derived/Test/Toyas{Tie, Card}.lean. No idea stands in it: it is a product of the set-up. Laid BY PROGRAM, IN A SANDBOX (cutbox-door.mjs). By AI agents, Wed Nov 11 2026. No macro, syntax, notation, axiom, sorry.
-/
import Derived.Test.YtpcechnalfaajaaDoorRows
import Derived.LaidByTextLater
import Derived.SevenTiedAt
import Derived.LaidSub
import Derived.LaidOnce
namespace Go.Proofs.YtpcechnalfaajaaDoor
open Go
set_option maxRecDepth 100000
theorem seatTie1 : Tryd.prog.laidByTextLater [("pacioli/sha.rounds", Rows.laid_pacioli_sha_rounds), ("pacioli/sha.start", Rows.laid_pacioli_sha_start), ("pacioli/history.leafMark", Rows.laid_pacioli_history_leafMark), ("pacioli/history.nodeMark", Rows.laid_pacioli_history_nodeMark)] [.data, .data, .widerDeep, .widerDeep] true :=
  Program.laidByTextLater_by_one 29 8 65 (by kernel_rfl) (by kernel_rfl) (by kernel_rfl) (by kernel_rfl) (by kernel_rfl) (by kernel_rfl) (fun _ _ => by kernel_rfl)
theorem noOwnUnsafe : Tryd.pinned.checked.prog.headLifts.contains "ownunsafe" = false := by kernel_rfl
theorem tie : Tryd.prog.laidByTextLater [("pacioli/sha.rounds", Rows.laid_pacioli_sha_rounds), ("pacioli/sha.start", Rows.laid_pacioli_sha_start), ("pacioli/history.leafMark", Rows.laid_pacioli_history_leafMark), ("pacioli/history.nodeMark", Rows.laid_pacioli_history_nodeMark)] [.data, .data, .widerDeep, .widerDeep] true :=
  Program.laidByTextLater.sub seatTie1 ["pacioli/sha.rounds", "pacioli/sha.start", "pacioli/history.leafMark", "pacioli/history.nodeMark"] (by kernel_rfl) (by kernel_rfl)
theorem engineSteps_row_tie : Rows.engineStepsRow.laidByTextAt .later Tryd.pinned [.data, .data, .widerDeep, .widerDeep] true :=
  OpenClaim.laidByTextAt_later rfl rfl tie noOwnUnsafe
theorem engineFull_row_tie : Rows.engineFullRow.laidByTextAt .later Tryd.pinned [.data, .data, .widerDeep, .widerDeep] true :=
  OpenClaim.laidByTextAt_later rfl rfl tie noOwnUnsafe
theorem engineBalances_row_tie : Rows.engineBalancesRow.laidByTextAt .later Tryd.pinned [.data, .data, .widerDeep, .widerDeep] true :=
  OpenClaim.laidByTextAt_later rfl rfl tie noOwnUnsafe
theorem engineClosed_row_tie : Rows.engineClosedRow.laidByTextAt .later Tryd.pinned [.data, .data, .widerDeep, .widerDeep] true :=
  OpenClaim.laidByTextAt_later rfl rfl tie noOwnUnsafe
theorem engineCodes_row_tie : Rows.engineCodesRow.laidByTextAt .later Tryd.pinned [.data, .data, .widerDeep, .widerDeep] true :=
  OpenClaim.laidByTextAt_later rfl rfl tie noOwnUnsafe
theorem engineWaits_row_tie : Rows.engineWaitsRow.laidByTextAt .later Tryd.pinned [.data, .data, .widerDeep, .widerDeep] true :=
  OpenClaim.laidByTextAt_later rfl rfl tie noOwnUnsafe
theorem engineSums_row_tie : Rows.engineSumsRow.laidByTextAt .later Tryd.pinned [.data, .data, .widerDeep, .widerDeep] true :=
  OpenClaim.laidByTextAt_later rfl rfl tie noOwnUnsafe
theorem engineTable_row_tie : Rows.engineTableRow.laidByTextAt .later Tryd.pinned [.data, .data, .widerDeep, .widerDeep] true :=
  OpenClaim.laidByTextAt_later rfl rfl tie noOwnUnsafe
theorem engineChains_row_tie : Rows.engineChainsRow.laidByTextAt .later Tryd.pinned [.data, .data, .widerDeep, .widerDeep] true :=
  OpenClaim.laidByTextAt_later rfl rfl tie noOwnUnsafe
theorem engineCopies_row_tie : Rows.engineCopiesRow.laidByTextAt .later Tryd.pinned [.data, .data, .widerDeep, .widerDeep] true :=
  OpenClaim.laidByTextAt_later rfl rfl tie noOwnUnsafe
theorem engineRefuses_row_tie : Rows.engineRefusesRow.laidByTextAt .later Tryd.pinned [.data, .data, .widerDeep, .widerDeep] true :=
  OpenClaim.laidByTextAt_later rfl rfl tie noOwnUnsafe
theorem engineStepsUpto_row_tie : Rows.engineStepsUptoRow.laidByTextAt .later Tryd.pinned [.data, .data, .widerDeep, .widerDeep] true :=
  OpenClaim.laidByTextAt_later rfl rfl tie noOwnUnsafe
theorem engineFullUpto_row_tie : Rows.engineFullUptoRow.laidByTextAt .later Tryd.pinned [.data, .data, .widerDeep, .widerDeep] true :=
  OpenClaim.laidByTextAt_later rfl rfl tie noOwnUnsafe
theorem engineBalancesUpto_row_tie : Rows.engineBalancesUptoRow.laidByTextAt .later Tryd.pinned [.data, .data, .widerDeep, .widerDeep] true :=
  OpenClaim.laidByTextAt_later rfl rfl tie noOwnUnsafe
theorem engineClosedUpto_row_tie : Rows.engineClosedUptoRow.laidByTextAt .later Tryd.pinned [.data, .data, .widerDeep, .widerDeep] true :=
  OpenClaim.laidByTextAt_later rfl rfl tie noOwnUnsafe
theorem engineCodesUpto_row_tie : Rows.engineCodesUptoRow.laidByTextAt .later Tryd.pinned [.data, .data, .widerDeep, .widerDeep] true :=
  OpenClaim.laidByTextAt_later rfl rfl tie noOwnUnsafe
theorem engineWaitsUpto_row_tie : Rows.engineWaitsUptoRow.laidByTextAt .later Tryd.pinned [.data, .data, .widerDeep, .widerDeep] true :=
  OpenClaim.laidByTextAt_later rfl rfl tie noOwnUnsafe
theorem engineSumsUpto_row_tie : Rows.engineSumsUptoRow.laidByTextAt .later Tryd.pinned [.data, .data, .widerDeep, .widerDeep] true :=
  OpenClaim.laidByTextAt_later rfl rfl tie noOwnUnsafe
theorem engineTableUpto_row_tie : Rows.engineTableUptoRow.laidByTextAt .later Tryd.pinned [.data, .data, .widerDeep, .widerDeep] true :=
  OpenClaim.laidByTextAt_later rfl rfl tie noOwnUnsafe
theorem engineChainsUpto_row_tie : Rows.engineChainsUptoRow.laidByTextAt .later Tryd.pinned [.data, .data, .widerDeep, .widerDeep] true :=
  OpenClaim.laidByTextAt_later rfl rfl tie noOwnUnsafe
theorem engineCopiesUpto_row_tie : Rows.engineCopiesUptoRow.laidByTextAt .later Tryd.pinned [.data, .data, .widerDeep, .widerDeep] true :=
  OpenClaim.laidByTextAt_later rfl rfl tie noOwnUnsafe
theorem engineRefusesUpto_row_tie : Rows.engineRefusesUptoRow.laidByTextAt .later Tryd.pinned [.data, .data, .widerDeep, .widerDeep] true :=
  OpenClaim.laidByTextAt_later rfl rfl tie noOwnUnsafe
end Go.Proofs.YtpcechnalfaajaaDoor
