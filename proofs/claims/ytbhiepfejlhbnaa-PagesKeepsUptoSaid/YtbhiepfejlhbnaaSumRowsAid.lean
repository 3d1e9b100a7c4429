/- The laws' contracts out of the printed walks and the plain statements, for the rows. -/
import Derived.Test.YtbhiepfejlhbnaaSumPure
import Derived.Test.YtbhiepfejlhbnaaOpen
namespace Go.Proofs.Ytbhiepfejlhbnaa.Q
open Go.RowKit Go.Proofs.YtbhiepfejlhbnaaW.PrintWords Go.Proofs.YtbhiepfejlhbnaaW.PrintLast Go.Proofs.YtbhiepfejlhbnaaW.PrintMore Go.Proofs.Ytbhiepfejlhbnaa.SumSpec Go.Proofs.Ytbhiepfejlhbnaa.Opens
set_option linter.unusedVariables false

theorem byt_wf {l : List Int} (h : ∀ p ∈ l, (Lit.int .u8 p).wf = true) : Byt l := fun c hc => by
  have := h c hc
  simpa [Lit.wf, IntKind.min, IntKind.max, IntKind.signed, IntKind.bits] using this

theorem sum_mem {l : List (List Int)} : ∀ x ∈ l, x.length + 1 ≤ (l.map (fun x => x.length + 1)).sum := by
  induction l with
  | nil => intro x h; cases h
  | cons y l ih =>
    intro x h
    simp only [List.map_cons, List.sum_cons]
    rcases List.mem_cons.1 h with rfl | h
    · omega
    · have := ih x h; omega
theorem sum_len (l : List (List Int)) : l.length ≤ (l.map (fun x => x.length + 1)).sum := by
  induction l with
  | nil => simp
  | cons y l ih => simp only [List.map_cons, List.sum_cons, List.length_cons]; omega

theorem num_len_le (n : Nat) (h : n ≤ 10000000) : (num n).length ≤ 9 := num_le9 (by omega)

theorem body_le (l : List (List Int)) (h : ∀ x ∈ l, x.length ≤ 10000000) : (body l).length ≤ 10 * (l.map (fun x => x.length + 1)).sum := by
  induction l with
  | nil => simp [body]
  | cons x l ih =>
    have h1 := num_len_le x.length (h x List.mem_cons_self)
    have h2 := ih (fun y hy => h y (List.mem_cons_of_mem _ hy))
    simp only [body, List.map_cons, List.sum_cons, List.length_append]
    omega

theorem short_of {l : List (List Int)} {B : Nat} (h : (l.map (fun x => x.length + 1)).sum + 1 ≤ B) (hB : B ≤ 1048576) : Short l ∧ (joinS l).length ≤ 100000000 := by
  have h1 := sum_len l
  have h2 : ∀ x ∈ l, x.length ≤ 10000000 := fun x hx => by have := sum_mem x hx; omega
  refine ⟨⟨by omega, fun x hx => by have := h2 x hx; omega⟩, ?_⟩
  have h3 := body_le l h2
  have h4 := num_len_le l.length (by omega)
  simp only [joinS, List.length_append]
  omega

theorem sumLists_holds (w : World) (A0 : Option Addr) (c0 : Nat) (l0 : List (List Int)) (h0 : (Kd.slice 5 (Kd.int .u8)).C w A0 l0.length l0) (hc0 : l0.length ≤ c0) (q0 : ∀ x ∈ l0, ∀ p ∈ x, (Lit.int .u8 p).wf = true)
    (A1 : Option Addr) (c1 : Nat) (l1 : List Int) (h1 : (Kd.int .u8).C w A1 l1.length l1) (hc1 : l1.length ≤ c1) (q1 : ∀ p ∈ l1, (Lit.int .u8 p).wf = true) (hB : (l0.map (fun x => x.length + 1)).sum + 1 + l1.length ≤ 1048576) :
    Calls Try.prog 3 #[.slice A0 l0.length c0, .slice A1 l1.length c1] w fun e w' => e = .returned (.bool true) ∧ Below w.heap.size w w' := by
  obtain ⟨hs, hj⟩ := short_of (l := l0) (B := (l0.map (fun x => x.length + 1)).sum + 1) (Nat.le_refl _) (by omega)
  obtain ⟨k, hk⟩ := (sumLists_pure l0 l1 hs (by unfold Lim; omega) (byt_wf q1) (by omega)).rounds
  exact quirelaw02_SumLists.calls k A0 c0 l0 A1 c1 l1 true w h0 hc0 h1 hc1 hk

theorem sumBack_holds (w : World) (A0 : Option Addr) (c0 : Nat) (b : List Int) (h0 : (Kd.int .u8).C w A0 b.length b) (hc0 : b.length ≤ c0) (q0 : ∀ p ∈ b, (Lit.int .u8 p).wf = true) (n : Int) (wn : (Lit.int .u64 n).wf = true)
    (A2 : Option Addr) (c2 : Nat) (l : List (List Int)) (h2 : (Kd.slice 5 (Kd.int .u8)).C w A2 l.length l) (hc2 : l.length ≤ c2) (q2 : ∀ x ∈ l, ∀ p ∈ x, (Lit.int .u8 p).wf = true) (cut : Int) (wc : (Lit.int .u16 cut).wf = true) (hB : b.length + (l.map (fun x => x.length + 1)).sum + 1 ≤ 1048576) :
    Calls Try.prog 4 #[.slice A0 b.length c0, .int .u64 n, .slice A2 l.length c2, .int .u16 cut] w fun e w' => e = .returned (.bool true) ∧ Below w.heap.size w w' := by
  obtain ⟨hs, hj⟩ := short_of (l := l) (B := (l.map (fun x => x.length + 1)).sum + 1) (Nat.le_refl _) (by omega)
  have hn : 0 ≤ n ∧ n ≤ 18446744073709551615 := by simpa [Lit.wf, IntKind.min, IntKind.max, IntKind.signed, IntKind.bits] using wn
  have hc : 0 ≤ cut ∧ cut ≤ 65535 := by simpa [Lit.wf, IntKind.min, IntKind.max, IntKind.signed, IntKind.bits] using wc
  obtain ⟨k, hk⟩ := (sumBack_pure b n l cut (byt_wf q0) (by omega) hn.1 hn.2 hs (by omega) (fun x hx => byt_wf (q2 x hx)) hc.1 hc.2).rounds
  exact quirelaw02_SumBack.calls k A0 c0 b n A2 c2 l cut true w h0 hc0 h2 hc2 hk

end Go.Proofs.Ytbhiepfejlhbnaa.Q
