/-
  No cell of these rows narrows 'for every input' (looked for: loops, veiled, ifaces, maps, wideKeys, modest, calm, conditions, laid).
  DERIVED. THE GIVEN ROWS OF THIS SEAT. 4 by the template 'for every input the law returns true; each argument reads behind the call as it read before'; 0 by the template 'total and deterministic' (their statements: YtbhiepfejlhbnaaTotals.lean).
  GIVEN WITH THE SEED: the statements are not yours to turn. If you find one false, say at which input.
  Laid BY PROGRAM, IN A SANDBOX (cutbox-rows.mjs): the forced cells as the released guide's own fill.sh prints them over the translation f96f827ae86913f5… (all of the seat's roots in one cut). By AI agents, Wed Nov 11 2026. No macro, syntax, notation, axiom, sorry.
-/
import Derived.Test.YtbhiepfejlhbnaaChecked
import GoSem.Claim
import GoSem.ClaimJoined
import GoSem.ClaimMapViews
import Derived.JoinedTies
import Derived.KernelRfl
namespace Go.Proofs.Ytbhiepfejlhbnaa
/- THE CELL 'sum', in the pinned program and in every row, IS THE sha256 OF THE DUMP (.gsa) THAT YtbhiepfejlhbnaaProg.lean LOADS. Nothing in Lean hashes anything: it is a label: what it is worth is what the hold of that sum in a sandbox is worth. -/
noncomputable def Try.pinned : Pinned := { name := "ytbhiepfejlhbnaa", sum := "f96f827ae86913f542cd33169eabac7281fc67e0447b2e0d7f819c1a923d0d95", checked := Try.checked }
namespace Rows
def none {H : Type} : Left H := { results := [], args := [] }

/-- 'quirelaw02.SumLists': WHATEVER THE INPUT: true; the input reads as it did. -/
def sumListsSpec : ChangeSpec := { name := "sumLists", fn := fun _ => fun
  | [d1, d2] => { results := [.lit (.bool true)], args := [d1, d2] }
  | _ => none }
def sumListsRow : OpenClaim := { program := "ytbhiepfejlhbnaa", sum := "f96f827ae86913f542cd33169eabac7281fc67e0447b2e0d7f819c1a923d0d95", func := "quire/quirelaw02.SumLists", spec := "sumLists", unfollowed := true, recurses := true, apart := false }
def SumListsSaid : Prop := sumListsRow.holds Try.pinned (OpenSpec.ofChange sumListsSpec)

/-- ITS FALSE NEIGHBOUR: 'it returns false'. Refute it at one input. -/
def sumListsWrong : ChangeSpec := { name := "sumLists", fn := fun _ => fun
  | [d1, d2] => { results := [.lit (.bool false)], args := [d1, d2] }
  | _ => none }
def SumListsWrongFalsely : Prop := sumListsRow.holds Try.pinned (OpenSpec.ofChange sumListsWrong)

/-- 'quirelaw02.SumBack': WHATEVER THE INPUT: true; the input reads as it did. -/
def sumBackSpec : ChangeSpec := { name := "sumBack", fn := fun _ => fun
  | [d1, d2, d3, d4] => { results := [.lit (.bool true)], args := [d1, d2, d3, d4] }
  | _ => none }
def sumBackRow : OpenClaim := { program := "ytbhiepfejlhbnaa", sum := "f96f827ae86913f542cd33169eabac7281fc67e0447b2e0d7f819c1a923d0d95", func := "quire/quirelaw02.SumBack", spec := "sumBack", unfollowed := true, recurses := true, apart := false }
def SumBackSaid : Prop := sumBackRow.holds Try.pinned (OpenSpec.ofChange sumBackSpec)

/-- ITS FALSE NEIGHBOUR: 'it returns false'. Refute it at one input. -/
def sumBackWrong : ChangeSpec := { name := "sumBack", fn := fun _ => fun
  | [d1, d2, d3, d4] => { results := [.lit (.bool false)], args := [d1, d2, d3, d4] }
  | _ => none }
def SumBackWrongFalsely : Prop := sumBackRow.holds Try.pinned (OpenSpec.ofChange sumBackWrong)

/-- 'quirelaw02.SumKeeps': WHATEVER THE INPUT: true; the input reads as it did. -/
def sumKeepsSpec : ChangeSpec := { name := "sumKeeps", fn := fun _ => fun
  | [d1, d2] => { results := [.lit (.bool true)], args := [d1, d2] }
  | _ => none }
def sumKeepsRow : OpenClaim := { program := "ytbhiepfejlhbnaa", sum := "f96f827ae86913f542cd33169eabac7281fc67e0447b2e0d7f819c1a923d0d95", func := "quire/quirelaw02.SumKeeps", spec := "sumKeeps", unfollowed := true, recurses := true, apart := false }
def SumKeepsSaid : Prop := sumKeepsRow.holds Try.pinned (OpenSpec.ofChange sumKeepsSpec)

/-- ITS FALSE NEIGHBOUR: 'it returns false'. Refute it at one input. -/
def sumKeepsWrong : ChangeSpec := { name := "sumKeeps", fn := fun _ => fun
  | [d1, d2] => { results := [.lit (.bool false)], args := [d1, d2] }
  | _ => none }
def SumKeepsWrongFalsely : Prop := sumKeepsRow.holds Try.pinned (OpenSpec.ofChange sumKeepsWrong)

/-- 'quirelaw03.PagesKeeps': WHATEVER THE INPUT: true; the input reads as it did. -/
def pagesKeepsSpec : ChangeSpec := { name := "pagesKeeps", fn := fun _ => fun
  | [d1, d2, d3, d4] => { results := [.lit (.bool true)], args := [d1, d2, d3, d4] }
  | _ => none }
def pagesKeepsRow : OpenClaim := { program := "ytbhiepfejlhbnaa", sum := "f96f827ae86913f542cd33169eabac7281fc67e0447b2e0d7f819c1a923d0d95", func := "quire/quirelaw03.PagesKeeps", spec := "pagesKeeps", apart := false }
def PagesKeepsSaid : Prop := pagesKeepsRow.holds Try.pinned (OpenSpec.ofChange pagesKeepsSpec)

/-- ITS FALSE NEIGHBOUR: 'it returns false'. Refute it at one input. -/
def pagesKeepsWrong : ChangeSpec := { name := "pagesKeeps", fn := fun _ => fun
  | [d1, d2, d3, d4] => { results := [.lit (.bool false)], args := [d1, d2, d3, d4] }
  | _ => none }
def PagesKeepsWrongFalsely : Prop := pagesKeepsRow.holds Try.pinned (OpenSpec.ofChange pagesKeepsWrong)

/- THE SECOND FORM. 'bulk': how many values and letters a reading holds, each counted each time it is reached (what is shared counts as often as it is met; a slice's spare places count too). A statement '..UptoSaid' is the law's where the arguments, and the package variables that the reading takes, are together of bulk at most 1048576: NARROWER than '..Said'. Prove '..Said' where nothing that the law and all that it calls make is longer than what came in: it says more and counts as full. Else prove '..UptoSaid'. A law counts once. -/
mutual
def uptoBulk {H : Type} : DataW H → Nat
  | .lit (.string bytes) => bytes.length + 1
  | .lit _ => 1
  | .nil => 1
  | .ptr d => uptoBulk d + 1
  | .slice elems spare => uptoBulkAll elems + uptoBulkAll spare + 1
  | .agg parts => uptoBulkAll parts + 1
  | .iface _ d => uptoBulk d + 1
  | .map entries => uptoBulkEntries entries + 1
  | .held _ => 1
def uptoBulkAll {H : Type} : List (DataW H) → Nat
  | [] => 0
  | d :: r => uptoBulk d + uptoBulkAll r
def uptoBulkEntries {H : Type} : List (Lit × DataW H) → Nat
  | [] => 0
  | x :: r => uptoBulkEntry x + uptoBulkEntries r
def uptoBulkEntry {H : Type} : Lit × DataW H → Nat
  | (.string bytes, d) => bytes.length + uptoBulk d + 1
  | (_, d) => uptoBulk d + 1
 end
def uptoSmall : (H : Type) → List (DataW H) → Bool := fun _ ds => decide (uptoBulkAll ds ≤ 1048576)
def OpenSpec.upto (s : _root_.Go.ChangeSpec) : _root_.Go.OpenSpec := { _root_.Go.OpenSpec.ofChange s with cond := some uptoSmall }

/-- 'quirelaw02.SumLists', WHERE WHAT IT READS IS OF BULK AT MOST 1048576: true; the input reads as it did. -/
def sumListsUptoRow : OpenClaim := { program := "ytbhiepfejlhbnaa", sum := "f96f827ae86913f542cd33169eabac7281fc67e0447b2e0d7f819c1a923d0d95", func := "quire/quirelaw02.SumLists", spec := "sumLists", unfollowed := true, recurses := true, apart := false, narrowed := true }
def SumListsUptoSaid : Prop := sumListsUptoRow.holds Try.pinned (OpenSpec.upto sumListsSpec)

/-- 'quirelaw02.SumBack', WHERE WHAT IT READS IS OF BULK AT MOST 1048576: true; the input reads as it did. -/
def sumBackUptoRow : OpenClaim := { program := "ytbhiepfejlhbnaa", sum := "f96f827ae86913f542cd33169eabac7281fc67e0447b2e0d7f819c1a923d0d95", func := "quire/quirelaw02.SumBack", spec := "sumBack", unfollowed := true, recurses := true, apart := false, narrowed := true }
def SumBackUptoSaid : Prop := sumBackUptoRow.holds Try.pinned (OpenSpec.upto sumBackSpec)

/-- 'quirelaw02.SumKeeps', WHERE WHAT IT READS IS OF BULK AT MOST 1048576: true; the input reads as it did. -/
def sumKeepsUptoRow : OpenClaim := { program := "ytbhiepfejlhbnaa", sum := "f96f827ae86913f542cd33169eabac7281fc67e0447b2e0d7f819c1a923d0d95", func := "quire/quirelaw02.SumKeeps", spec := "sumKeeps", unfollowed := true, recurses := true, apart := false, narrowed := true }
def SumKeepsUptoSaid : Prop := sumKeepsUptoRow.holds Try.pinned (OpenSpec.upto sumKeepsSpec)

/-- 'quirelaw03.PagesKeeps', WHERE WHAT IT READS IS OF BULK AT MOST 1048576: true; the input reads as it did. -/
def pagesKeepsUptoRow : OpenClaim := { program := "ytbhiepfejlhbnaa", sum := "f96f827ae86913f542cd33169eabac7281fc67e0447b2e0d7f819c1a923d0d95", func := "quire/quirelaw03.PagesKeeps", spec := "pagesKeeps", apart := false, narrowed := true }
def PagesKeepsUptoSaid : Prop := pagesKeepsUptoRow.holds Try.pinned (OpenSpec.upto pagesKeepsSpec)

end Rows
end Go.Proofs.Ytbhiepfejlhbnaa
