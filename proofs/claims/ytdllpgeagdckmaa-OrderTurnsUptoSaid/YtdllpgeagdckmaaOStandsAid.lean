/- OrderStands answers true, wherever its arguments lie. -/
import Derived.Test.YtdllpgeagdckmaaOOpen
namespace Go.Proofs.Ytdllpgeagdckmaa.Q
open Go.RowKit Go.Proofs.YtdllpgeagdckmaaW.PrintWords Go.Proofs.Ytdllpgeagdckmaa.Opens
theorem orderStands_holds (w : World) (A0 : Option Addr) (c0 : Nat) (l0 : List S33) (h0 : k33.C w A0 l0.length l0) (hc0 : l0.length ≤ c0) (q0 : ∀ v ∈ l0, Okv v)
    (A1 : Option Addr) (c1 : Nat) (l1 : List ByteArray) (h1 : Kd.string.C w A1 l1.length l1) (hc1 : l1.length ≤ c1) (q1 : ∀ p ∈ l1, p.size ≤ maxLen)
    (A2 : Option Addr) (c2 : Nat) (l2 : List ByteArray) (h2 : Kd.string.C w A2 l2.length l2) (hc2 : l2.length ≤ c2) (q2 : ∀ p ∈ l2, p.size ≤ maxLen)
    (hB : (l0.map wtv).sum + (l1.map (fun p => p.size + 1)).sum + (l2.map (fun p => p.size + 1)).sum ≤ 1048576) :
    Calls Try.prog 3 #[.slice A0 l0.length c0, .slice A1 l1.length c1, .slice A2 l2.length c2] w fun e w' => e = .returned (.bool true) ∧ Below w.heap.size w w' := by
  have h3 := vocs_sum l0
  obtain ⟨k, hk⟩ := (stands_pure l0 l1 l2 (fit_of q0 q1 q2 hB) (by omega) (fun v hv => by have := h3.2.2 v hv; omega)).rounds
  exact quirelaw15_OrderStands.calls k A0 c0 l0 A1 c1 l1 A2 c2 l2 true w h0 hc0 h1 hc1 h2 hc2 hk
end Go.Proofs.Ytdllpgeagdckmaa.Q
