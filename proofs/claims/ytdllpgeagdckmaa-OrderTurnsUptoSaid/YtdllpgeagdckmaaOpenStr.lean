/- Arguments that are lists of texts, opened to rows that are read, with what the bound on their bulk says of lengths. -/
import Derived.Test.YtdllpgeagdckmaaOpen
import Derived.ChangeArms
namespace Go.Proofs.Ytdllpgeagdckmaa.Opens
open Go.ChangeShapes Go.WideShapes Go.Deep Go.RowKit Go.Proofs.YtdllpgeagdckmaaW.PrintWords
section
variable {H : Type} {enc : TypeId × Value → H} {P : Program} {w : World} {base : Nat} {spare : Nat → Bool} {held : Bool}

/-- Elements that are texts. -/
theorem el_str {e : TypeId} (he : P.underlying e = some .string) : ∀ n cs y, DataW.trod enc P w base spare held n e cs = some y → ∃ p : ByteArray, Kd.string.K w p cs ∧ p.size ≤ maxLen ∧ (fun p : ByteArray => p.size + 1) p ≤ Rows.uptoBulk y.1 := by
  intro n cs y h
  obtain ⟨s, rfl, rfl, hs⟩ := DataW.trod_string he h
  exact ⟨s, rfl, hs, by simp [Rows.uptoBulk]⟩

/-- A slice of texts. -/
theorem open_C_str {t e : TypeId} (ht : P.underlying t = some (.slice e)) (he : P.underlying e = some .string) (hc : P.cellsOf e = 1) (n : Nat) (cs : List Value) (y : DataW H × List MemPlace) (h : DataW.trod enc P w base spare held n t cs = some y) :
    ∃ (A : Option Addr) (cap : Nat) (xs : List ByteArray), cs = [.slice A xs.length cap] ∧ xs.length ≤ cap ∧ cap ≤ maxLen ∧ Kd.string.C w A xs.length xs ∧ (∀ p ∈ xs, p.size ≤ maxLen) ∧ (xs.map (fun p => p.size + 1)).sum + 1 ≤ Rows.uptoBulk y.1 :=
  open_C Kd.string (fun p => p.size + 1) (fun p => p.size ≤ maxLen) ht hc (el_str he) h
theorem strs_length (xs : List ByteArray) : xs.length ≤ (xs.map (fun p => p.size + 1)).sum := by
  induction xs with
  | nil => simp
  | cons x xs ih => simp only [List.length_cons, List.map_cons, List.sum_cons]; omega
end
end Go.Proofs.Ytdllpgeagdckmaa.Opens
