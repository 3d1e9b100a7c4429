/- The contract of Book.Apart over lists of bytes and of whole numbers (no words, no texts). -/
import Derived.Test.YtbhiepfejlhbnaaHApartInts
import Derived.Test.YtbhiepfejlhbnaaHApartBytes
import Derived.Deep.RegionHeld3
import Derived.Lib.Hide
namespace Go.Proofs.Ytbhiepfejlhbnaa.HApart
open Go Go.RowKit Go.Proofs.YtbhiepfejlhbnaaW.PrintWords Go.Proofs.YtbhiepfejlhbnaaW.PrintLast Go.Proofs.YtbhiepfejlhbnaaW.PrintMore Go.Proofs.Ytbhiepfejlhbnaa.ApartKit
set_option linter.unusedVariables false
set_option linter.unusedSimpArgs false

set_option maxRecDepth 100000 in
theorem apartWords_nil (w : World) : Calls Try.prog 31 #[.slice none 0 0] w fun e w' => e = .returned (.bool true) ∧ w = w' := by
  go_enter Try.func31, Try.ntmps31
  go_wp2
  refine wp_loop_rounds 1 ?_
  rw [rounds_succ]
  go_wp2
  refine wp_loop_rounds 1 ?_
  rw [rounds_succ]
  go_wp2
  go_ret
  exact ⟨rfl, rfl⟩

set_option maxRecDepth 100000 in
theorem apartTexts_nil (w : World) : Calls Try.prog 33 #[.slice none 0 0] w fun e w' => e = .returned (.bool true) ∧ w = w' := by
  go_enter Try.func33, Try.ntmps33
  go_wp2
  refine wp_loop_rounds 1 ?_
  rw [rounds_succ]
  go_wp2
  refine wp_loop_rounds 1 ?_
  rw [rounds_succ]
  go_wp2
  go_ret
  exact ⟨rfl, rfl⟩

set_option maxHeartbeats 2000000 in
set_option maxRecDepth 100000 in
theorem book_holds (w0 w : World) (HB0 : Below w0.heap.size w0 w) (g : Nat) (iv bv : Value) (VI VB : List Value) (nI nB : Nat → Nat) (fI fB : Nat → Nat)
    (hb : w.heap[g]? = some (.cells #[iv, .slice none 0 0, bv, .slice none 0 0] 46 (0, 0)))
    (hI : w.ownsRow w0.heap.size 50 1 iv VI.length VI) (hfI : Fam w w0.heap.size 3 VI [] nI (mkI nI) fI) (hlI : VI.length ≤ 10000000) (hsI : sumN nI VI.length ≤ 1000000000000)
    (hB : w.ownsRow w0.heap.size 23 1 bv VB.length VB) (hfB : Fam w w0.heap.size 5 VB [] nB (mkB 0) fB) (hlB : VB.length ≤ 10000000) (hnB : ∀ k, nB k ≤ 1000000000000) :
    Calls Try.prog 19 #[.pointer (some ⟨g, 0, none⟩)] w fun e w' => e = .returned (.bool true) ∧ Below w0.heap.size w0 w' := by
  have hAI := apartInts_holds w0 w HB0 iv VI nI fI hI hfI hlI hsI
  have HHI := Lib.hid hAI
  have hgl := blk_lt hb
  have HBK := Aside0.mk hb
  have HOB := Aside0.mk hB
  have HFB := Aside0.mk hfB
  have HFI := Aside0.mk hfI
  have c0 : w.cell? ⟨g, 0, none⟩ = some iv := by simp [World.cell?, hb]
  have c1 : w.cell? ⟨g, 1, none⟩ = some (.slice none 0 0) := by simp [World.cell?, hb]
  have c2 : w.cell? ⟨g, 2, none⟩ = some bv := by simp [World.cell?, hb]
  have c3 : w.cell? ⟨g, 3, none⟩ = some (.slice none 0 0) := by simp [World.cell?, hb]
  clear hAI hb hB hfB hfI hI
  go_enter Try.func19, Try.ntmps19
  go_wp2_with fail
  refine (HHI.out).mono ?_
  rintro e w1 ⟨rfl, hb1, hk1⟩
  have hng : ∀ v, v ∈ VI → v.ownBlock ≠ some g := fun v hv he => by
    obtain ⟨k, hk⟩ := List.getElem?_of_mem hv
    obtain ⟨⟨xs, ho, _⟩, _⟩ := HFI.out.V k v hk
    obtain ⟨cs, hc⟩ := own_typed ho g he
    rw [HBK.out] at hc
    simp at hc
  have hgb : w1.heap[g]? = w.heap[g]? := hk1.2 g hgl (fun ⟨v, hv, he⟩ => hng v hv he)
  have d0 := (World.cell?_of_block (w := w) hgb).trans c0
  have d1 := (World.cell?_of_block (w := w) (a := ⟨g, 1, none⟩) hgb).trans c1
  have d2 := (World.cell?_of_block (w := w) (a := ⟨g, 2, none⟩) hgb).trans c2
  have d3 := (World.cell?_of_block (w := w) (a := ⟨g, 3, none⟩) hgb).trans c3
  have hst : ∀ b cs, w.heap[b]? = some (Obj.cells cs 5 (0, 0)) → w1.heap[b]? = w.heap[b]? := fun b cs hc => hk1.2 b (blk_lt hc) (fun ⟨v, hv, he⟩ => by
    obtain ⟨k, hk⟩ := List.getElem?_of_mem hv
    obtain ⟨⟨xs, ho, _⟩, _⟩ := HFI.out.V k v hk
    obtain ⟨cs', hc'⟩ := own_typed ho b he
    rw [hc] at hc'
    simp at hc')
  have hf1 := HFB.out.stay hst
  have ho1 : w1.ownsRow w0.heap.size 23 1 bv VB.length VB := own_stay HOB.out (fun b hb => hk1.2 b (own_lt HOB.out b hb) (fun ⟨v, hv, he⟩ => by
    obtain ⟨k, hk⟩ := List.getElem?_of_mem hv
    obtain ⟨⟨xs, ho, _⟩, _⟩ := HFI.out.V k v hk
    exact own_ne ho HOB.out (by decide) he hb))
  have hAB := apartBytes_holds w0 w1 hb1 bv VB nB fB ho1 hf1 hlB hnB
  have HHB := Lib.hid hAB
  have HKP := Aside0.mk hk1
  have HNG := Aside0.mk hng
  clear hAB ho1 hf1 hst hb1 hk1 hgb hng c0 c1 c2 c3
  go_wp2_with fail
  refine (apartWords_nil w1).mono ?_
  rintro e w2 ⟨rfl, rfl⟩
  go_wp2_with fail
  refine (HHB.out).mono ?_
  rintro e w3 ⟨rfl, hb3, hk3⟩
  have hng3 : ¬ ∃ v, v ∈ VB ∧ v.ownBlock = some g := fun ⟨v, hv, he⟩ => by
    obtain ⟨k, hk⟩ := List.getElem?_of_mem hv
    obtain ⟨⟨xs, ho, _⟩, _⟩ := HFB.out.V k v hk
    obtain ⟨cs, hc⟩ := own_typed ho g he
    rw [HBK.out] at hc
    simp at hc
  have hgb3 : w3.heap[g]? = w1.heap[g]? := hk3.2 g (Nat.lt_of_lt_of_le hgl HKP.out.1) hng3
  have e3 := (World.cell?_of_block (w := w1) (a := ⟨g, 3, none⟩) hgb3).trans d3
  have HB3 := Aside0.mk hb3
  clear hb3 hk3 hng3 hgb3 d0 d1 d2 d3
  go_wp2_with fail
  refine (apartTexts_nil w3).mono ?_
  rintro e w4 ⟨rfl, rfl⟩
  go_wp2
  go_ret
  exact ⟨rfl, HB3.out⟩
end Go.Proofs.Ytbhiepfejlhbnaa.HApart
