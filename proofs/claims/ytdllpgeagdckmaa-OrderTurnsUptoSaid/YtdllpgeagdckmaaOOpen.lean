/- The list of names and uses as an argument, opened. -/
import Derived.Test.YtdllpgeagdckmaaOpenStr
import Derived.Test.YtdllpgeagdckmaaOStands
import Derived.ChangeSame
namespace Go.Proofs.Ytdllpgeagdckmaa.Q
open Go.ChangeShapes Go.WideShapes Go.Deep Go.RowKit Go.Proofs.YtdllpgeagdckmaaW.PrintWords Go.Proofs.Ytdllpgeagdckmaa.Opens
section
variable {H : Type} {enc : TypeId × Value → H} {w : World} {base : Nat} {spare : Nat → Bool} {held : Bool}

/-- A name and its uses are of sizes that memory bears. -/
def Okv (v : S33) : Prop := v.f0.size ≤ maxLen ∧ ∀ u ∈ v.f1, u.size ≤ maxLen
def wtv (v : S33) : Nat := v.f0.size + 1 + ((v.f1.map (fun p => p.size + 1)).sum + 1)

set_option maxRecDepth 100000 in
theorem el_voc : ∀ n cs y, DataW.trod enc Try.prog w base spare held n 33 cs = some y → ∃ p : S33, k33.K w p cs ∧ Okv p ∧ wtv p ≤ Rows.uptoBulk y.1 := by
  intro n cs y h
  obtain ⟨y0, y1, m, rfl, hl, h0, h1⟩ := trod_struct2 Try.underlying33 h
  have hc33 : Try.prog.cellsOf 33 = 2 := by kernel_rfl
  have hc9 : Try.prog.cellsOf 9 = 1 := by kernel_rfl
  have hc23 : Try.prog.cellsOf 23 = 1 := by kernel_rfl
  obtain ⟨c0, c1, rfl⟩ : ∃ c0 c1, cs = [c0, c1] := by
    rw [hc33] at hl
    match cs, hl with
    | [c0, c1], _ => exact ⟨c0, c1, rfl⟩
  simp only [hc9, hc23, List.drop_zero, List.drop_succ_cons, List.take_succ_cons, List.take_zero] at h0 h1
  obtain ⟨s, hs, rfl, hsz⟩ := DataW.trod_string Try.underlying9 h0
  obtain ⟨A, cap, us, hus, hle, hmx, hC, hQ, hB⟩ := open_C_str Try.underlying23 Try.underlying9 hc9 _ _ _ h1
  cases hs
  cases hus
  refine ⟨⟨s, us⟩, k33_mk w ⟨s, us⟩ hle hC, ⟨hsz, hQ⟩, ?_⟩
  have e : s.data.size = s.size := rfl
  simp only [wtv, Rows.uptoBulk, Rows.uptoBulkAll, Array.length_toList, e]
  omega

theorem open_voc (n : Nat) (cs : List Value) (y : DataW H × List MemPlace) (h : DataW.trod enc Try.prog w base spare held n 22 cs = some y) :
    ∃ (A : Option Addr) (cap : Nat) (xs : List S33), cs = [.slice A xs.length cap] ∧ xs.length ≤ cap ∧ cap ≤ maxLen ∧ k33.C w A xs.length xs ∧ (∀ p ∈ xs, Okv p) ∧ (xs.map wtv).sum + 1 ≤ Rows.uptoBulk y.1 :=
  open_C k33 wtv Okv Try.underlying22 (by kernel_rfl) el_voc h
theorem vocs_sum (xs : List S33) : tot (netOf (xs.map conv)) ≤ (xs.map wtv).sum ∧ xs.length ≤ (xs.map wtv).sum ∧ ∀ v ∈ xs, v.f1.length ≤ (xs.map wtv).sum := by
  rw [netOf_conv]
  induction xs with
  | nil => simp [tot]
  | cons x xs ih =>
    have h1 := strs_length x.f1
    have hw : wtv x = x.f0.size + 1 + ((x.f1.map (fun p => p.size + 1)).sum + 1) := rfl
    simp only [List.map_cons, List.sum_cons, tot, List.length_cons]
    refine ⟨by omega, by omega, fun v hv => ?_⟩
    rcases List.mem_cons.1 hv with rfl | hv
    · omega
    · have := ih.2.2 v hv
      omega
theorem fit_of {list : List S33} {want hv : List ByteArray} (q0 : ∀ v ∈ list, Okv v) (q1 : ∀ p ∈ want, p.size ≤ maxLen) (q2 : ∀ p ∈ hv, p.size ≤ maxLen)
    (hB : (list.map wtv).sum + (want.map (fun p => p.size + 1)).sum + (hv.map (fun p => p.size + 1)).sum ≤ 1048576) : Fit (list.map conv) want hv := by
  have h0 := vocs_sum list
  have h1 := strs_length want
  have h2 := strs_length hv
  refine ⟨by omega, by omega, by omega, fun v hv1 => ?_, fun v hv1 => ?_, q1, q2⟩
  · obtain ⟨v', hv2, rfl⟩ := List.mem_map.1 hv1
    exact (q0 v' hv2).1
  · obtain ⟨v', hv2, rfl⟩ := List.mem_map.1 hv1
    exact (q0 v' hv2).2
end
end Go.Proofs.Ytdllpgeagdckmaa.Q
