/- THE ROW OF OrderKeepsUptoSaid: for every input whose bulk is at most the bound of the Rows text the law returns true, and its arguments read as before. -/
import Derived.Test.YtdllpgeagdckmaaRows
import Derived.Test.YtdllpgeagdckmaaKM1
import Derived.Test.YtdllpgeagdckmaaKM4
import Derived.WalkKit
import Derived.ProofKit
import Derived.OpenShut
import Derived.ShutString
import Derived.ChangeOld
import Derived.Below
import Derived.SizedLaws
import Derived.JoinedCond
import Derived.Deep.CondSized
namespace Go.Proofs.Ytdllpgeagdckmaa.orderKeeps
open Go.ChangeShapes Go.WideShapes Go.ChangeAt Go.RowKit Go.Proofs.YtdllpgeagdckmaaW.PrintWords Go.Proofs.Ytdllpgeagdckmaa.Opens
open Go.ChangeMaps (open_string shut_string)
set_option linter.unusedVariables false
theorem own : ownKnob Try.prog.godebug = none := by kernel_rfl
theorem laidOut : laidOutB Try.prog = true := by kernel_rfl
set_option maxRecDepth 100000 in
theorem contract (H : Type) (enc : TypeId × Value → H) (W : World) (base : Nat) (args : Array Value) (ds gs : List (DataW H)) (before : List MemPlace)
    (hval0 : ∀ (j : Nat) t v, Try.f6.params[j]? = some t → args[j]? = some v → Value.okWide Try.prog W .any base t v)
    (hW : DataW.Whole enc Try.prog Try.f6.params.toList Rows.orderKeepsSpec.vars false W args.toList ds gs before) (hk0 : Rows.uptoSmall H (ds ++ gs) = true) :
    Calls Try.prog 6 args W fun e W' => ∃ v, e = .returned v ∧ Rows.orderKeepsSpec.post enc Try.prog Try.f6 false true false false W args v W' := by
  have hval : ∀ (j : Nat) t v, Try.f6.params[j]? = some t → args[j]? = some v → Value.okWide Try.prog W .any base t v := hval0
  have hW' := hW
  obtain ⟨p, q, hA0, hV, rfl, hfz, hnd⟩ := hW
  have hA : DataW.TrodAll enc Try.prog W 0 (fun _ => true) true Try.f6.params.toList args.toList ds p := hA0
  rw [Try.params6] at hA hval
  obtain ⟨v0, vs0, d0, ds0, p0, q0, hargs, rfl, rfl, h0, r0⟩ := trodAll_cons hA
  obtain ⟨v1, vs1, d1, ds1, p1, q1, rfl, rfl, rfl, h1, r1⟩ := trodAll_cons r0
  obtain ⟨v2, vs2, d2, ds2, p2, q2, rfl, rfl, rfl, h2, r2⟩ := trodAll_cons r1
  obtain ⟨rfl, rfl, rfl⟩ := trodAll_nil r2
  obtain rfl : args = #[v0, v1, v2] := by cases args; simp_all
  obtain ⟨rfl, rfl⟩ := trodVars_none hV
  have hk : Rows.uptoBulkAll (H := H) [d0, d1, d2] ≤ 1048576 := by
    have h_ := of_decide_eq_true hk0
    simpa using h_
  simp only [Rows.uptoBulkAll, Nat.add_zero] at hk
  clear hk0
  obtain ⟨A0, l0, c0, rfl⟩ := okWide_slice Try.underlying22 (hval 0 22 v0 rfl rfl)
  have k0 := h0
  have lt0 : ∀ x ∈ p0, x.block < W.heap.size := by obtain ⟨m, hm⟩ := k0; exact DataW.trod_lt m _ _ _ hm
  obtain ⟨n0, hf0⟩ := h0
  obtain ⟨B0, e0, xs0, hcs0, hle0, hmx0, hC0, hQ0, hB0⟩ := Q.open_voc n0 _ _ hf0
  change _ ≤ Rows.uptoBulk d0 at hB0
  obtain ⟨rfl, rfl, rfl⟩ : A0 = B0 ∧ l0 = xs0.length ∧ c0 = e0 := by simpa [Value.cells] using hcs0
  obtain ⟨A1, l1, c1, rfl⟩ := okWide_slice Try.underlying23 (hval 1 23 v1 rfl rfl)
  have k1 := h1
  have lt1 : ∀ x ∈ p1, x.block < W.heap.size := by obtain ⟨m, hm⟩ := k1; exact DataW.trod_lt m _ _ _ hm
  obtain ⟨n1, hf1⟩ := h1
  obtain ⟨B1, e1, xs1, hcs1, hle1, hmx1, hC1, hQ1, hB1⟩ := open_C_str Try.underlying23 Try.underlying9 (by kernel_rfl) n1 _ _ hf1
  change _ ≤ Rows.uptoBulk d1 at hB1
  obtain ⟨rfl, rfl, rfl⟩ : A1 = B1 ∧ l1 = xs1.length ∧ c1 = e1 := by simpa [Value.cells] using hcs1
  obtain ⟨A2, l2, c2, rfl⟩ := okWide_slice Try.underlying23 (hval 2 23 v2 rfl rfl)
  have k2 := h2
  have lt2 : ∀ x ∈ p2, x.block < W.heap.size := by obtain ⟨m, hm⟩ := k2; exact DataW.trod_lt m _ _ _ hm
  obtain ⟨n2, hf2⟩ := h2
  obtain ⟨B2, e2, xs2, hcs2, hle2, hmx2, hC2, hQ2, hB2⟩ := open_C_str Try.underlying23 Try.underlying9 (by kernel_rfl) n2 _ _ hf2
  change _ ≤ Rows.uptoBulk d2 at hB2
  obtain ⟨rfl, rfl, rfl⟩ : A2 = B2 ∧ l2 = xs2.length ∧ c2 = e2 := by simpa [Value.cells] using hcs2
  refine (Q.orderKeeps_holds W A0 c0 xs0 hC0 hle0 hQ0 A1 c1 xs1 hC1 hle1 hQ1 A2 c2 xs2 hC2 hle2 hQ2 (by omega)).mono fun e W' ⟨he, bel⟩ => ?_
  subst he
  exact ⟨_, rfl, _, _, _, [], _, [], hW', trodAll_mk1 (shut_bool Try.underlying4 _), (trodAll_cons_mk (Below.trod laidOut (by kernel_rfl) (of_decide_eq_true (by kernel_rfl)) k0 bel lt0) (trodAll_cons_mk (Below.trod laidOut (by kernel_rfl) (of_decide_eq_true (by kernel_rfl)) k1 bel lt1) (trodAll_cons_mk (Below.trod laidOut (by kernel_rfl) (of_decide_eq_true (by kernel_rfl)) k2 bel lt2) trodAll_mk0))), rfl, bel.frame _, fun h => by cases h⟩
set_option maxRecDepth 100000 in
theorem lifted (os : Os) (started : os.Started) (H : Type) (enc : TypeId × Value → H) (F : Stop.Interp) :
    ReturnsInHanded {} Try.checked os 6 .any ((Rows.OpenSpec.upto Rows.orderKeepsSpec).pre6 enc Try.prog Try.f6 Rows.orderKeepsUptoRow.domain false) (((Rows.OpenSpec.upto Rows.orderKeepsSpec).at F).post enc Try.prog Try.f6 false true false false) := by
  refine returnsInHanded_of_cond (C := Try.checked) (s := Rows.OpenSpec.upto Rows.orderKeepsSpec) (k := Rows.uptoSmall) rfl own started (by kernel_rfl) Try.func6
    (OpenSpec.witness (enc := enc) (C := Try.checked) (s := Rows.OpenSpec.upto Rows.orderKeepsSpec) (k := Rows.uptoSmall) rfl false ⟨#[], #[.slice none 0 0, .slice none 0 0, .slice none 0 0], []⟩ 8 (by kernel_rfl) (by kernel_rfl) (by kernel_rfl)
      (x := ([.nil, .nil, .nil], [], [])) (by kernel_rfl) rfl (by kernel_rfl)) ?_
  intro W base args ds gs before hval hW _ hk _
  exact contract H enc W base args ds gs before hval hW hk
theorem over : Rows.orderKeepsUptoRow.holds Try.pinned (Rows.OpenSpec.upto Rows.orderKeepsSpec) :=
  OpenClaim.holds_of_cond 6 Try.f6 rfl rfl rfl rfl rfl rfl rfl ⟨rfl, rfl, rfl, rfl, rfl⟩ rfl rfl rfl rfl rfl (by kernel_rfl) Try.func6 (by kernel_rfl)
    (of_decide_eq_true (by kernel_rfl)) (by unfold Func.isWrapper; first | (rw [if_pos (by decide +kernel)]; kernel_rfl) | (rw [if_neg (by decide +kernel)]; exact ⟨rfl, rfl⟩))
    (fun os started H enc _ F => lifted os started H enc F)
theorem proved : Rows.OrderKeepsUptoSaid := over
end Go.Proofs.Ytdllpgeagdckmaa.orderKeeps
namespace Go.Proofs.Ytdllpgeagdckmaa
/-- The row, under a short name, for the claim. -/
theorem orderKeeps_holds : Rows.OrderKeepsUptoSaid := orderKeeps.proved
#print axioms orderKeeps_holds
end Go.Proofs.Ytdllpgeagdckmaa
