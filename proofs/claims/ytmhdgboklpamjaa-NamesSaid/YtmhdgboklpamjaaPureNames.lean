/- The law Names (all constants have their numbers) as a closed statement; no conditions. -/
import Derived.Test.YtmhdgboklpamjaaPNamesx1
namespace Go.Proofs.Ytmhdgboklpamjaa.Pure
open Go.RowKit Go.Proofs.Ytmhdgboklpamjaa.PNames Go.Proofs.YtmhdgboklpamjaaW.PrintWords Go.Proofs.YtmhdgboklpamjaaW.PrintLast

theorem Names : omnibustop_Names.Pure := by
  rfl

end Go.Proofs.Ytmhdgboklpamjaa.Pure
