/- THE TIED CARD OF EffectPrims. -/
import Derived.Test.YtbhkkmjifjmpiaaDoorERow
import Derived.Test.YtbhkkmjifjmpiaaDoorTie
import Derived.Test.YtbhkkmjifjmpiaaDoorCards
import Derived.SevenTiedAt
namespace Go.Proofs.YtbhkkmjifjmpiaaDoor
open Go
theorem effectPrims_holds : Rows.EffectPrimsCardSaid :=
  Claim7.holds_tied_plain_at .later [] [.listed, .data] true (true, "2c4a48428e6c9e55b910810aa29a9f0c0e889465f25ac6569003e1063e98e18d") false
    effectPrims_said (fun _ h => by cases h) (by kernel_rfl) (fun _ h => by cases h) effectPrims_row_tie rfl ⟨rfl, rfl⟩ (by kernel_rfl) rfl
    (fun f fn hf hfn => by
      obtain rfl : f = 3 := Option.some.inj ((show Tryd.prog.funcNamed "quire/quirelaw09.EffectPrims" = some 3 by kernel_rfl).symm.trans hf) |>.symm
      obtain rfl : fn = Tryd.f3 := (Option.some.inj (Tryd.func3.symm.trans hfn)).symm
      exact ⟨by kernel_rfl, fun j t ht => by
        rw [Tryd.params3] at ht
        have hm : t ∈ [9, 23, 23] := by simpa using Array.mem_of_getElem? ht
        have hall : ([9, 23, 23].all fun u => !Tryd.prog.wantsStandIn u) = true := by kernel_rfl
        exact (show Tryd.prog.wantsStandIn t = false by simpa using List.all_eq_true.1 hall t hm)⟩)
    (by kernel_rfl)
#print axioms effectPrims_holds
end Go.Proofs.YtbhkkmjifjmpiaaDoor
