/-
  DERIVED. GIVEN WITH THE SEED: THE CARDS: each row of YtbhkkmjifjmpiaaDoorRows.lean that lists a variable, with what it lists TIED to the program's text (the seventh form; the later family's looks); each row that meets fmt, with fmt's text TOLD by the authors' own Lean function (tested against real Go, not proved from fmt's source: count such statements apart). THE CARD IS WHAT COUNTS. Prove the row's statement (the work); the ties are given (YtbhkkmjifjmpiaaDoorTie.lean); close each card by the builder's one call (the guide's Derived/Test/ToyasCard.lean, 'card_holds'). Laid BY PROGRAM, IN A SANDBOX (cutbox-door.mjs). By AI agents, Wed Nov 11 2026. No macro, syntax, notation, axiom, sorry.
-/
import Derived.Test.YtbhkkmjifjmpiaaDoorRows
import GoSem.ClaimSeven
namespace Go.Proofs.YtbhkkmjifjmpiaaDoor
namespace Rows

/-- THE TIED CARD OF 'quirelaw09.EffectPrims'. -/
def effectPrimsCard : Claim7 := { stood := { row := effectPrimsRow, standIns := [], harness := (true, "2c4a48428e6c9e55b910810aa29a9f0c0e889465f25ac6569003e1063e98e18d"), looks := false }, kinds := [], alts := [], laidByText := true, laidKinds := [.listed, .data], laidTests := true, laidLooks := .later }
def EffectPrimsCardSaid : Prop := Claim7.holds Tryd.pinned (.plain (OpenSpec.ofChange effectPrimsSpec)) effectPrimsCard

/-- THE SECOND FORM's CARD OF 'quirelaw09.EffectPrims'. -/
def effectPrimsUptoCard : Claim7 := { stood := { row := effectPrimsUptoRow, standIns := [], harness := (true, "2c4a48428e6c9e55b910810aa29a9f0c0e889465f25ac6569003e1063e98e18d"), looks := false }, kinds := [], alts := [], laidByText := true, laidKinds := [.listed, .data], laidTests := true, laidLooks := .later }
def EffectPrimsUptoCardSaid : Prop := Claim7.holds Tryd.pinned (.plain (OpenSpec.upto effectPrimsSpec)) effectPrimsUptoCard
end Rows
end Go.Proofs.YtbhkkmjifjmpiaaDoor
