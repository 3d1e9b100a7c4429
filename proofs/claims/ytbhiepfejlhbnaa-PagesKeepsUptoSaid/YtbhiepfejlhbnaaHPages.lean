/- Pages by hand: numbers of four bytes laid into a row; a page's bytes; what they hold. -/
import Derived.Test.YtbhiepfejlhbnaaQ
import Derived.Test.YtbhiepfejlhbnaaSumKeepsWalk
import Derived.Laws.CopyOwn
import Derived.Laws.Closers25b
import Derived.Lib.EndianBits
namespace Go.Proofs.Ytbhiepfejlhbnaa.Q
open Go.RowKit Go.Proofs.YtbhiepfejlhbnaaW.PrintWords Go.Proofs.YtbhiepfejlhbnaaW.PrintLast Go.Proofs.YtbhiepfejlhbnaaW.PrintMore Go.Proofs.Ytbhiepfejlhbnaa.ApartKit Go.Proofs.Ytbhiepfejlhbnaa.HApart
set_option linter.unusedVariables false
set_option linter.unusedSimpArgs false

theorem grownBy_refl' (w : World) (row : Option Nat) : w.grownBy w row := ⟨rfl, rfl, rfl, Nat.le_refl _, fun _ _ _ => rfl⟩
theorem grownBy_set' {w w' : World} {b : Nat} (h : w.grownBy w' (some b)) (j : Nat) (v : Value) : w.grownBy (w'.setCell ⟨b, j, none⟩ v) (some b) :=
  ⟨h.os, h.tape, h.output, by simpa using h.size, fun k hk hn => (Below.heap_setCell w' _ v k (fun e => hn (by rw [e]))).trans (h.block k hk hn)⟩

def put4 (cs : List Value) (off : Nat) (a : Int) : List Value :=
  (((cs.set off (.int .u8 (a % 256))).set (off + 1) (.int .u8 (a / 256 % 256))).set (off + 2) (.int .u8 (a / 65536 % 256))).set (off + 3) (.int .u8 (a / 16777216 % 256))

set_option maxHeartbeats 4000000 in
set_option maxRecDepth 100000 in
theorem put32_at (w : World) (base b N c off n' c' : Nat) (cs : List Value) (a : Int) (h : w.ownsRow base 5 1 (.slice (some ⟨b, 0, none⟩) N c) N cs) (hoff : off + 4 ≤ N) (hn : 4 ≤ n') (hn2 : n' ≤ 1000000) :
    Calls Try.prog 34 #[.slice (some ⟨b, off, none⟩) n' c', .int .u32 a] w fun e w' => e = .returned (.tuple #[]) ∧ w'.ownsRow base 5 1 (.slice (some ⟨b, 0, none⟩) N c) N (put4 cs off a) ∧ w.grownBy w' (some b) := by
  have hlen : cs.length = N := by have := h.1; omega
  have H0 := Aside0.mk h
  have G0 := Aside0.mk (grownBy_refl' w (some b))
  have g0 := own_free h off
  have e0 := own_cell h (List.getElem?_eq_getElem (show off < cs.length by omega))
  clear h
  go_enter Try.func34, Try.ntmps34
  go_wp2
  refine wp_loop_rounds 5 ?_
  rw [rounds_succ]
  go_wp2
  have h1 := own_put H0.out (off) (by omega) (.int .u8 (a % 256))
  have k1 := grownBy_set' G0.out (off) (.int .u8 (a % 256))
  generalize w.setCell ⟨b, off, none⟩ (.int .u8 (a % 256)) = w1 at *
  have H1 := Aside0.mk h1
  have G1 := Aside0.mk k1
  clear h1 k1 g0 e0 H0 G0
  have g1 := own_free H1.out (off + 1)
  have e1 := own_cell H1.out (List.getElem?_eq_getElem (show off + 1 < _ by simp; omega))
  rw [rounds_succ]
  go_wp2
  have h2 := own_put H1.out (off + 1) (by omega) (.int .u8 (a / 256 % 256))
  have k2 := grownBy_set' G1.out (off + 1) (.int .u8 (a / 256 % 256))
  generalize w1.setCell ⟨b, off + 1, none⟩ (.int .u8 (a / 256 % 256)) = w2 at *
  have H2 := Aside0.mk h2
  have G2 := Aside0.mk k2
  clear h2 k2 g1 e1 H1 G1
  have g2 := own_free H2.out (off + 2)
  have e2 := own_cell H2.out (List.getElem?_eq_getElem (show off + 2 < _ by simp; omega))
  rw [rounds_succ]
  go_wp2
  have h3 := own_put H2.out (off + 2) (by omega) (.int .u8 (a / 65536 % 256))
  have k3 := grownBy_set' G2.out (off + 2) (.int .u8 (a / 65536 % 256))
  generalize w2.setCell ⟨b, off + 2, none⟩ (.int .u8 (a / 65536 % 256)) = w3 at *
  have H3 := Aside0.mk h3
  have G3 := Aside0.mk k3
  clear h3 k3 g2 e2 H2 G2
  have g3 := own_free H3.out (off + 3)
  have e3 := own_cell H3.out (List.getElem?_eq_getElem (show off + 3 < _ by simp; omega))
  rw [rounds_succ]
  go_wp2
  have h4 := own_put H3.out (off + 3) (by omega) (.int .u8 (a / 16777216 % 256))
  have k4 := grownBy_set' G3.out (off + 3) (.int .u8 (a / 16777216 % 256))
  generalize w3.setCell ⟨b, off + 3, none⟩ (.int .u8 (a / 16777216 % 256)) = w4 at *
  have H4 := Aside0.mk h4
  have G4 := Aside0.mk k4
  clear h4 k4 g3 e3 H3 G3
  rw [rounds_succ]
  go_wp2
  exact bodyPost_end (results_none rfl _ _ _) rfl ⟨rfl, H4.out, G4.out⟩

theorem own_of_block {w : World} {g e base : Nat} {cur : Array Value} (h : w.heap[g]? = some (.cells cur e (0, 0))) (hb : base ≤ g) (hm : cur.size ≤ maxLen) : w.ownsRow base e 1 (.slice (some ⟨g, 0, none⟩) cur.size cur.size) cur.size cur.toList :=
  ⟨by simp, .inr ⟨g, cur.size, cur, rfl, hb, h, Nat.le_refl _, hm, by simp, by rw [Nat.mul_one, ← Array.length_toList, List.take_length]⟩⟩

theorem C_adr {w : World} {k : IntKind} {A : Option Addr} {n : Nat} {xs : List Int} (h : (Kd.int k).C w A n xs) (hp : 0 < xs.length) : ∃ ad, A = some ad ∧ ∀ (j : Nat) (v : Value), (xs.map (Value.int k))[j]? = some v → w.cell? (ad.add j) = some v := by
  obtain ⟨hn, _, h2⟩ := h
  obtain ⟨ad, rfl, hc⟩ := h2 (by omega)
  refine ⟨ad, rfl, fun j v hv => ?_⟩
  rw [List.getElem?_map, Option.map_eq_some_iff] at hv
  obtain ⟨x, hx, rfl⟩ := hv
  obtain ⟨cs, h3, h4, h5⟩ := hc j x hx
  have h6 : cs = [.int k x] := h4
  have := h5 0 (.int k x) (by rw [h6]; rfl)
  have hsz : (Kd.int k).sz = 1 := rfl
  rwa [hsz, Nat.mul_one, Nat.add_zero] at this

/-- Bytes copied into a row of the call's own. -/
theorem wpList_copy_into {P : Program} {w : World} {ops : Array Oper} {rest : List Oper} {o : Oper} {a : Act} {Q : Exit → Act → World → Prop} (hgd : o.guard = none) (d s : Operand) (dT sT : TypeId)
    (ho : o.op = .call { callee := .builtin .copy, args := #[d, s], argTypes := #[dT, sT] }) (elem : TypeId) (hu : P.underlying dT = some (.slice elem)) (hsz : (P.info? elem).map (·.size) = some 1)
    (k : IntKind) (base g N c off dLen dCap sCap : Nat) (A : Option Addr) (xs : List Int) (cs : List Value) (hd : a.eval d = .slice (some ⟨g, off, none⟩) dLen dCap) (hs : a.eval s = .slice A xs.length sCap)
    (h : w.ownsRow base elem 1 (.slice (some ⟨g, 0, none⟩) N c) N cs) (hc : (Kd.int k).C w A xs.length xs) (hfit : xs.length ≤ dLen) (hN : off + xs.length ≤ N)
    (hK : ∀ w', w'.ownsRow base elem 1 (.slice (some ⟨g, 0, none⟩) N c) N (splice cs off (xs.map (Value.int k))) → w.grownBy w' (some g) → wpList P ops Q rest (a.put o.dst (goInt xs.length)) w') : wpList P ops Q (o :: rest) a w := by
  by_cases h0 : xs.length = 0
  · obtain rfl : xs = [] := List.eq_nil_of_length_eq_zero h0
    refine wpList_copy_nothing hgd d s dT sT ho elem hu hsz _ A dLen dCap 0 sCap hd hs (by simp) ?_
    exact hK w (by simpa [splice] using h) (grownBy_refl' w _)
  · obtain ⟨ad, rfl, hcell⟩ := C_adr hc (by omega)
    obtain ⟨hl, h2⟩ := h
    rcases h2 with ⟨h2, _⟩ | ⟨g', cap', cur, hv, hb, hh, hn, hm, hsz2, ht⟩
    · simp at h2
    · simp only [Value.slice.injEq, Option.some.injEq, Addr.mk.injEq, and_true, true_and] at hv
      obtain ⟨rfl, rfl⟩ := hv
      have hlc : cs.length = N := by omega
      have hsz3 : cur.size = c := by omega
      have htk : cur.toList.take N = cs := by rw [Nat.mul_one] at ht; exact ht
      refine wpList_copy_own hgd d s dT sT ho elem hu hsz g off dLen dCap ad xs.length sCap hd hs cur elem hh (xs.map (Value.int k)) (by simp only [List.length_map]; exact (Nat.min_eq_left hfit).symm) hcell (by simp only [List.length_map]; omega) (by intro v hv; obtain ⟨x, _, rfl⟩ := List.mem_map.1 hv; rfl) ?_
      rw [List.length_map]
      refine hK _ ⟨by rw [length_splice _ _ _ (by simp only [List.length_map]; omega)]; omega, .inr ⟨g, c, _, rfl, hb, setRow_heap w g cur _ elem _ hh, hn, hm, ?_, ?_⟩⟩ ⟨rfl, rfl, rfl, by simp, fun k2 _ hk2 => setRow_other w g k2 _ (fun e => hk2 (by rw [e]))⟩
      · simp only [List.size_toArray, List.length_append, List.length_take, List.length_drop, Array.length_toList, List.length_map]
        omega
      · rw [Nat.mul_one, splice, ← htk, List.length_map]
        apply List.ext_getElem?
        intro j
        simp only [List.getElem?_take, List.getElem?_append, List.length_take, Array.length_toList, List.length_map, List.getElem?_drop]
        have e1 : min off (min N cur.size) = off := by omega
        have e2 : min off cur.size = off := by omega
        rw [e1, e2]
        by_cases hj : j < N
        · rw [if_pos hj]
          by_cases h3 : j < off
          · simp [h3, hj]
          · by_cases h4 : j - off < xs.length
            · simp [h3, h4]
            · have e4 : off + xs.length + (j - off - xs.length) = j := by omega
              simp [h3, h4, e4, hj]
        · rw [if_neg hj]
          have h3 : ¬ j < off := by omega
          have h4 : ¬ j - off < xs.length := by omega
          have e4 : off + xs.length + (j - off - xs.length) = j := by omega
          simp [h3, h4, e4, hj]
end Go.Proofs.Ytbhiepfejlhbnaa.Q
