/- PagesKeeps: what its walk asks is so, from some number of rounds on; the contract for the row; the opener of slices of Booleans. -/
import Derived.Test.YtbhiepfejlhbnaaPagesKeepsWalk
import Derived.Test.YtbhiepfejlhbnaaOpen
namespace Go.Proofs.Ytbhiepfejlhbnaa.Q
open Go.RowKit Go.Proofs.YtbhiepfejlhbnaaW.PrintWords Go.Proofs.YtbhiepfejlhbnaaW.PrintLast Go.Proofs.YtbhiepfejlhbnaaW.PrintMore Go.Proofs.Ytbhiepfejlhbnaa.SumSpec Go.Proofs.Ytbhiepfejlhbnaa.Opens
open Go.ChangeShapes Go.WideShapes Go.Deep
set_option linter.unusedVariables false

section
variable {H : Type} {enc : TypeId × Value → H} {P : Program} {w : World} {base : Nat} {spare : Nat → Bool} {held : Bool}
theorem el_bool {e : TypeId} (he : P.underlying e = some .bool) : ∀ n cs y, DataW.trod enc P w base spare held n e cs = some y → ∃ p : Bool, Kd.bool.K w p cs ∧ (fun _ : Bool => True) p ∧ (fun _ : Bool => 1) p ≤ Rows.uptoBulk y.1 := by
  intro n cs y h
  obtain ⟨b, e0, rfl⟩ := DataW.trod_bool he h
  exact ⟨b, e0, trivial, one_le _⟩
theorem open_C_bool {t e : TypeId} (ht : P.underlying t = some (.slice e)) (he : P.underlying e = some .bool) (hc : P.cellsOf e = 1) : ∀ n cs y, DataW.trod enc P w base spare held n t cs = some y →
    ∃ (A : Option Addr) (cap : Nat) (xs : List Bool), cs = [.slice A xs.length cap] ∧ xs.length ≤ cap ∧ cap ≤ maxLen ∧ Kd.bool.C w A xs.length xs ∧ (∀ p ∈ xs, True) ∧ xs.length + 1 ≤ Rows.uptoBulk y.1 := by
  intro n cs y h
  obtain ⟨A, cap, xs, h1, h2, h3, h4, h5, h6⟩ := open_C Kd.bool (fun _ => 1) (fun _ => True) ht hc (el_bool he) h
  rw [sum_one] at h6
  exact ⟨A, cap, xs, h1, h2, h3, h4, h5, h6⟩
end

theorem own3_ev (l : List Int) (hl : l.length ≤ Lim) : quirelaw03_own.f l = some l := by
  unfold Lim at hl
  unfold quirelaw03_own.f
  simp only [Option.bind_some, List.length_nil, List.nil_append]
  rw [if_pos (by omega)]

theorem first_l0 (us : List Bool) (n : Int) (hu : us.length ≤ 10000000) : ∀ (d i : Nat) (acc : List Int), i + d = us.length → acc.length ≤ i → ∃ r, r.1.length ≤ us.length ∧ Ev (fun k => pages_First.l0 k n acc us (us.length : Int) (i : Int)) r
  | 0, i, acc, hi, ha => by
    refine ⟨if (acc.length : Int) < n then ([], 7) else (acc, 0), ?_, Ev.step (f := fun _ => some (if (acc.length : Int) < n then ([], 7) else (acc, 0))) (fun k => ?_) (Ev.now _)⟩
    · split
      · simp
      · show acc.length ≤ _; omega
    · conv => lhs; unfold pages_First.l0
      rw [if_neg (by omega)]
      split <;> rfl
  | d + 1, i, acc, hi, ha => by
    have hw : wrap64 ((i : Int) + 1) = ((i + 1 : Nat) : Int) := by rw [w64 (by omega) (by omega)]; omega
    by_cases hb : rdOf false us (i : Int) = true
    · obtain ⟨r, hr, hv⟩ := first_l0 us n hu d (i + 1) acc (by omega) (by omega)
      refine ⟨r, hr, Ev.step (fun k => ?_) hv⟩
      conv => lhs; unfold pages_First.l0
      rw [if_pos (by omega), if_pos (by omega), if_pos (by omega), if_pos hb, hw]
    · by_cases hl : (acc.length : Int) < n
      · obtain ⟨r, hr, hv⟩ := first_l0 us n hu d (i + 1) (acc ++ [(i : Int)]) (by omega) (by simp; omega)
        refine ⟨r, hr, Ev.step (fun k => ?_) hv⟩
        conv => lhs; unfold pages_First.l0
        rw [if_pos (by omega), if_pos (by omega), if_pos (by omega), if_neg hb, if_pos hl, if_pos (by omega), hw]
      · obtain ⟨r, hr, hv⟩ := first_l0 us n hu d (i + 1) acc (by omega) (by omega)
        refine ⟨r, hr, Ev.step (fun k => ?_) hv⟩
        conv => lhs; unfold pages_First.l0
        rw [if_pos (by omega), if_pos (by omega), if_pos (by omega), if_neg hb, if_neg hl, hw]

theorem first_ex (us : List Bool) (n : Int) (hu : us.length ≤ 10000000) : ∃ r, r.1.length ≤ us.length ∧ Ev (fun k => pages_First.f k us n) r := by
  by_cases hn : n < 0
  · exact ⟨([], 2), by simp, Ev.congr (f := fun _ => some ([], 2)) (fun k => by unfold pages_First.f; rw [if_pos hn]) (Ev.now _)⟩
  · obtain ⟨r, hr, hv⟩ := first_l0 us n hu us.length 0 [] (by omega) (by simp)
    exact ⟨r, hr, Ev.congr (fun k => by unfold pages_First.f; rw [if_neg hn]; rfl) hv⟩

theorem pagesKeeps_holds (w : World) (id : Int) (wid : (Lit.int .u32 id).wf = true) (A1 : Option Addr) (c1 : Nat) (d : List Int) (h1 : (Kd.int .u8).C w A1 d.length d) (hc1 : d.length ≤ c1) (q1 : ∀ p ∈ d, (Lit.int .u8 p).wf = true)
    (A2 : Option Addr) (c2 : Nat) (us : List Bool) (h2 : Kd.bool.C w A2 us.length us) (hc2 : us.length ≤ c2) (q2 : ∀ p ∈ us, True) (n : Int) (wn : (Lit.int .i64 n).wf = true) (hB : d.length + us.length ≤ 1048576) :
    Calls Try.prog 6 #[.int .u32 id, .slice A1 d.length c1, .slice A2 us.length c2, .int .i64 n] w fun e w' => e = .returned (.bool true) ∧ Below w.heap.size w w' := by
  have hl : d.length ≤ Lim := by unfold Lim; omega
  obtain ⟨s7, hs7⟩ := sum_ev_ex (restS 7 [1]) (by rw [restS_len (by simp)]; unfold Lim; omega)
  obtain ⟨sd, hsd⟩ : ∃ sd, d.length ≤ 116 → Ev (fun k => sum_Sum.f k (restS id d)) sd := by
    by_cases hd : d.length ≤ 116
    · obtain ⟨s, hs⟩ := sum_ev_ex (restS id d) (by rw [restS_len hd]; unfold Lim; omega)
      exact ⟨s, fun _ => hs⟩
    · exact ⟨0, fun h => absurd h hd⟩
  obtain ⟨⟨L, e2⟩, hL, hF⟩ := first_ex us n (by omega)
  have s2 := same_ev d d hl
  rw [decide_eq_true rfl] at s2
  obtain ⟨K0, hK0⟩ : ∃ K0, d.length ≤ 116 → ∀ k, K0 ≤ k → sum_Sum.f k (restS id d) = some sd := by
    by_cases hd : d.length ≤ 116
    · obtain ⟨K0, h⟩ := hsd hd
      exact ⟨K0, fun _ => h⟩
    · exact ⟨0, fun h => absurd h hd⟩
  obtain ⟨K, hK⟩ := ev_both (β := Unit) (g := fun _ => none) hs7 (ev_both (β := Unit) (g := fun _ => none) hF (ev_both (β := Unit) (g := fun _ => none) s2 ⟨0, fun _ _ => trivial⟩))
  obtain ⟨t1, t2, t3, _⟩ := hK (max K K0) (by omega)
  exact pagesKeeps_walk (max K K0) w id A1 c1 d h1 hc1 A2 c2 us h2 hc2 n s7 sd L e2 t1 (fun hd => hK0 hd _ (by omega)) (own3_ev d hl) t2 t3 (by omega) (by omega) (by simp only at hL; omega)

end Go.Proofs.Ytbhiepfejlhbnaa.Q
