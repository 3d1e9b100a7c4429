/- What a primitive has as effect: the program's table answers as the document's switch; and one effect behind another. -/
import Derived.Test.YtbhkkmjifjmpiaaDoorEPrim
namespace Go.Proofs.YtbhkkmjifjmpiaaDoor.E
open Go.RowKit Go.Proofs.YtbhkkmjifjmpiaaDoorW.PrintWords Go.Proofs.YtbhkkmjifjmpiaaDoorW.PrintLast Go.Proofs.YtbhkkmjifjmpiaaDoorW.PrintMore Go.Proofs.YtbhkkmjifjmpiaaDoor.Q
set_option linter.unusedVariables false
set_option linter.unusedSimpArgs false

def namesL : List (List UInt8) := [[100, 117, 112], [100, 114, 111, 112], [115, 119, 97, 112], [111, 118, 101, 114], [114, 111, 116], [110, 105, 112], [116, 117, 99, 107], [43], [45], [42], [47], [109, 111, 100], [110, 101, 103], [97, 98, 115], [109, 105, 110], [109, 97, 120], [60], [62], [61], [97, 110, 100], [111, 114], [110, 111, 116], [105, 110, 116, 63], [115, 116, 114, 63], [98, 111, 111, 108, 63], [108, 105, 115, 116, 63], [113, 117, 111, 116, 63], [98, 111, 120, 63], [108, 101, 110, 103, 116, 104], [97, 112, 112, 101, 110, 100], [110, 116, 104], [115, 108, 105, 99, 101], [119, 114, 97, 112], [112, 97, 105, 114], [117, 110, 112, 97, 105, 114], [114, 101, 118, 101, 114, 115, 101], [99, 117, 114, 114, 121], [99, 111, 109, 112, 111, 115, 101], [62, 115, 116, 114], [62, 105, 110, 116], [98, 111, 120], [103, 101, 116], [112, 117, 116], [46]]

theorem words_names : ∀ l ∈ words, (Lib.cut l [58]).2.2 = true → (Lib.cut l [58]).2.1 ∈ namesL := by decide +kernel

theorem lookP_none {nm : List UInt8} : ∀ (ls : List (List UInt8)), (∀ l ∈ ls, (Lib.cut l [58]).2.2 = true → (Lib.cut l [58]).2.1 ≠ nm) → lookP ls nm = (0, 0, false)
  | [], _ => rfl
  | l :: r, h => by
    unfold lookP
    rw [if_neg (fun hh => h l List.mem_cons_self hh.1 hh.2)]
    exact lookP_none r (fun x hx => h x (List.mem_cons_of_mem _ hx))

theorem prim_at0 (s : ByteArray) (h : s.toList = [100, 117, 112]) : quireref08_Prim.f 20 s = some (lookP words s.toList) := by
  rw [h, show lookP words [100, 117, 112] = (1, 2, true) by decide +kernel]
  simp [quireref08_Prim.f, quireref08_moves.f, quireref08_Prim.j0, quireref08_Prim.j1, h]
theorem prim_at1 (s : ByteArray) (h : s.toList = [100, 114, 111, 112]) : quireref08_Prim.f 20 s = some (lookP words s.toList) := by
  rw [h, show lookP words [100, 114, 111, 112] = (1, 0, true) by decide +kernel]
  simp [quireref08_Prim.f, quireref08_moves.f, quireref08_Prim.j0, quireref08_Prim.j1, h]
theorem prim_at2 (s : ByteArray) (h : s.toList = [115, 119, 97, 112]) : quireref08_Prim.f 20 s = some (lookP words s.toList) := by
  rw [h, show lookP words [115, 119, 97, 112] = (2, 2, true) by decide +kernel]
  simp [quireref08_Prim.f, quireref08_moves.f, quireref08_Prim.j0, quireref08_Prim.j1, h]
theorem prim_at3 (s : ByteArray) (h : s.toList = [111, 118, 101, 114]) : quireref08_Prim.f 20 s = some (lookP words s.toList) := by
  rw [h, show lookP words [111, 118, 101, 114] = (2, 3, true) by decide +kernel]
  simp [quireref08_Prim.f, quireref08_moves.f, quireref08_Prim.j0, quireref08_Prim.j1, h]
theorem prim_at4 (s : ByteArray) (h : s.toList = [114, 111, 116]) : quireref08_Prim.f 20 s = some (lookP words s.toList) := by
  rw [h, show lookP words [114, 111, 116] = (3, 3, true) by decide +kernel]
  simp [quireref08_Prim.f, quireref08_moves.f, quireref08_Prim.j0, quireref08_Prim.j1, h]
theorem prim_at5 (s : ByteArray) (h : s.toList = [110, 105, 112]) : quireref08_Prim.f 20 s = some (lookP words s.toList) := by
  rw [h, show lookP words [110, 105, 112] = (2, 1, true) by decide +kernel]
  simp [quireref08_Prim.f, quireref08_moves.f, quireref08_Prim.j0, quireref08_Prim.j1, h]
theorem prim_at6 (s : ByteArray) (h : s.toList = [116, 117, 99, 107]) : quireref08_Prim.f 20 s = some (lookP words s.toList) := by
  rw [h, show lookP words [116, 117, 99, 107] = (2, 3, true) by decide +kernel]
  simp [quireref08_Prim.f, quireref08_moves.f, quireref08_Prim.j0, quireref08_Prim.j1, h]
theorem prim_at7 (s : ByteArray) (h : s.toList = [43]) : quireref08_Prim.f 20 s = some (lookP words s.toList) := by
  rw [h, show lookP words [43] = (2, 1, true) by decide +kernel]
  simp [quireref08_Prim.f, quireref08_moves.f, quireref08_Prim.j0, quireref08_Prim.j1, h]
theorem prim_at8 (s : ByteArray) (h : s.toList = [45]) : quireref08_Prim.f 20 s = some (lookP words s.toList) := by
  rw [h, show lookP words [45] = (2, 1, true) by decide +kernel]
  simp [quireref08_Prim.f, quireref08_moves.f, quireref08_Prim.j0, quireref08_Prim.j1, h]
theorem prim_at9 (s : ByteArray) (h : s.toList = [42]) : quireref08_Prim.f 20 s = some (lookP words s.toList) := by
  rw [h, show lookP words [42] = (2, 1, true) by decide +kernel]
  simp [quireref08_Prim.f, quireref08_moves.f, quireref08_Prim.j0, quireref08_Prim.j1, h]
theorem prim_at10 (s : ByteArray) (h : s.toList = [47]) : quireref08_Prim.f 20 s = some (lookP words s.toList) := by
  rw [h, show lookP words [47] = (2, 1, true) by decide +kernel]
  simp [quireref08_Prim.f, quireref08_moves.f, quireref08_Prim.j0, quireref08_Prim.j1, h]
theorem prim_at11 (s : ByteArray) (h : s.toList = [109, 111, 100]) : quireref08_Prim.f 20 s = some (lookP words s.toList) := by
  rw [h, show lookP words [109, 111, 100] = (2, 1, true) by decide +kernel]
  simp [quireref08_Prim.f, quireref08_moves.f, quireref08_Prim.j0, quireref08_Prim.j1, h]
theorem prim_at12 (s : ByteArray) (h : s.toList = [110, 101, 103]) : quireref08_Prim.f 20 s = some (lookP words s.toList) := by
  rw [h, show lookP words [110, 101, 103] = (1, 1, true) by decide +kernel]
  simp [quireref08_Prim.f, quireref08_moves.f, quireref08_Prim.j0, quireref08_Prim.j1, h]
theorem prim_at13 (s : ByteArray) (h : s.toList = [97, 98, 115]) : quireref08_Prim.f 20 s = some (lookP words s.toList) := by
  rw [h, show lookP words [97, 98, 115] = (1, 1, true) by decide +kernel]
  simp [quireref08_Prim.f, quireref08_moves.f, quireref08_Prim.j0, quireref08_Prim.j1, h]
theorem prim_at14 (s : ByteArray) (h : s.toList = [109, 105, 110]) : quireref08_Prim.f 20 s = some (lookP words s.toList) := by
  rw [h, show lookP words [109, 105, 110] = (2, 1, true) by decide +kernel]
  simp [quireref08_Prim.f, quireref08_moves.f, quireref08_Prim.j0, quireref08_Prim.j1, h]
theorem prim_at15 (s : ByteArray) (h : s.toList = [109, 97, 120]) : quireref08_Prim.f 20 s = some (lookP words s.toList) := by
  rw [h, show lookP words [109, 97, 120] = (2, 1, true) by decide +kernel]
  simp [quireref08_Prim.f, quireref08_moves.f, quireref08_Prim.j0, quireref08_Prim.j1, h]
theorem prim_at16 (s : ByteArray) (h : s.toList = [60]) : quireref08_Prim.f 20 s = some (lookP words s.toList) := by
  rw [h, show lookP words [60] = (2, 1, true) by decide +kernel]
  simp [quireref08_Prim.f, quireref08_moves.f, quireref08_Prim.j0, quireref08_Prim.j1, h]
theorem prim_at17 (s : ByteArray) (h : s.toList = [62]) : quireref08_Prim.f 20 s = some (lookP words s.toList) := by
  rw [h, show lookP words [62] = (2, 1, true) by decide +kernel]
  simp [quireref08_Prim.f, quireref08_moves.f, quireref08_Prim.j0, quireref08_Prim.j1, h]
theorem prim_at18 (s : ByteArray) (h : s.toList = [61]) : quireref08_Prim.f 20 s = some (lookP words s.toList) := by
  rw [h, show lookP words [61] = (2, 1, true) by decide +kernel]
  simp [quireref08_Prim.f, quireref08_moves.f, quireref08_Prim.j0, quireref08_Prim.j1, h]
theorem prim_at19 (s : ByteArray) (h : s.toList = [97, 110, 100]) : quireref08_Prim.f 20 s = some (lookP words s.toList) := by
  rw [h, show lookP words [97, 110, 100] = (2, 1, true) by decide +kernel]
  simp [quireref08_Prim.f, quireref08_moves.f, quireref08_Prim.j0, quireref08_Prim.j1, h]
theorem prim_at20 (s : ByteArray) (h : s.toList = [111, 114]) : quireref08_Prim.f 20 s = some (lookP words s.toList) := by
  rw [h, show lookP words [111, 114] = (2, 1, true) by decide +kernel]
  simp [quireref08_Prim.f, quireref08_moves.f, quireref08_Prim.j0, quireref08_Prim.j1, h]
theorem prim_at21 (s : ByteArray) (h : s.toList = [110, 111, 116]) : quireref08_Prim.f 20 s = some (lookP words s.toList) := by
  rw [h, show lookP words [110, 111, 116] = (1, 1, true) by decide +kernel]
  simp [quireref08_Prim.f, quireref08_moves.f, quireref08_Prim.j0, quireref08_Prim.j1, h]
theorem prim_at22 (s : ByteArray) (h : s.toList = [105, 110, 116, 63]) : quireref08_Prim.f 20 s = some (lookP words s.toList) := by
  rw [h, show lookP words [105, 110, 116, 63] = (1, 1, true) by decide +kernel]
  simp [quireref08_Prim.f, quireref08_moves.f, quireref08_Prim.j0, quireref08_Prim.j1, h]
theorem prim_at23 (s : ByteArray) (h : s.toList = [115, 116, 114, 63]) : quireref08_Prim.f 20 s = some (lookP words s.toList) := by
  rw [h, show lookP words [115, 116, 114, 63] = (1, 1, true) by decide +kernel]
  simp [quireref08_Prim.f, quireref08_moves.f, quireref08_Prim.j0, quireref08_Prim.j1, h]
theorem prim_at24 (s : ByteArray) (h : s.toList = [98, 111, 111, 108, 63]) : quireref08_Prim.f 20 s = some (lookP words s.toList) := by
  rw [h, show lookP words [98, 111, 111, 108, 63] = (1, 1, true) by decide +kernel]
  simp [quireref08_Prim.f, quireref08_moves.f, quireref08_Prim.j0, quireref08_Prim.j1, h]
theorem prim_at25 (s : ByteArray) (h : s.toList = [108, 105, 115, 116, 63]) : quireref08_Prim.f 20 s = some (lookP words s.toList) := by
  rw [h, show lookP words [108, 105, 115, 116, 63] = (1, 1, true) by decide +kernel]
  simp [quireref08_Prim.f, quireref08_moves.f, quireref08_Prim.j0, quireref08_Prim.j1, h]
theorem prim_at26 (s : ByteArray) (h : s.toList = [113, 117, 111, 116, 63]) : quireref08_Prim.f 20 s = some (lookP words s.toList) := by
  rw [h, show lookP words [113, 117, 111, 116, 63] = (1, 1, true) by decide +kernel]
  simp [quireref08_Prim.f, quireref08_moves.f, quireref08_Prim.j0, quireref08_Prim.j1, h]
theorem prim_at27 (s : ByteArray) (h : s.toList = [98, 111, 120, 63]) : quireref08_Prim.f 20 s = some (lookP words s.toList) := by
  rw [h, show lookP words [98, 111, 120, 63] = (1, 1, true) by decide +kernel]
  simp [quireref08_Prim.f, quireref08_moves.f, quireref08_Prim.j0, quireref08_Prim.j1, h]
theorem prim_at28 (s : ByteArray) (h : s.toList = [108, 101, 110, 103, 116, 104]) : quireref08_Prim.f 20 s = some (lookP words s.toList) := by
  rw [h, show lookP words [108, 101, 110, 103, 116, 104] = (1, 1, true) by decide +kernel]
  simp [quireref08_Prim.f, quireref08_moves.f, quireref08_Prim.j0, quireref08_Prim.j1, h]
theorem prim_at29 (s : ByteArray) (h : s.toList = [97, 112, 112, 101, 110, 100]) : quireref08_Prim.f 20 s = some (lookP words s.toList) := by
  rw [h, show lookP words [97, 112, 112, 101, 110, 100] = (2, 1, true) by decide +kernel]
  simp [quireref08_Prim.f, quireref08_moves.f, quireref08_Prim.j0, quireref08_Prim.j1, h]
theorem prim_at30 (s : ByteArray) (h : s.toList = [110, 116, 104]) : quireref08_Prim.f 20 s = some (lookP words s.toList) := by
  rw [h, show lookP words [110, 116, 104] = (2, 1, true) by decide +kernel]
  simp [quireref08_Prim.f, quireref08_moves.f, quireref08_Prim.j0, quireref08_Prim.j1, h]
theorem prim_at31 (s : ByteArray) (h : s.toList = [115, 108, 105, 99, 101]) : quireref08_Prim.f 20 s = some (lookP words s.toList) := by
  rw [h, show lookP words [115, 108, 105, 99, 101] = (3, 1, true) by decide +kernel]
  simp [quireref08_Prim.f, quireref08_moves.f, quireref08_Prim.j0, quireref08_Prim.j1, h]
theorem prim_at32 (s : ByteArray) (h : s.toList = [119, 114, 97, 112]) : quireref08_Prim.f 20 s = some (lookP words s.toList) := by
  rw [h, show lookP words [119, 114, 97, 112] = (1, 1, true) by decide +kernel]
  simp [quireref08_Prim.f, quireref08_moves.f, quireref08_Prim.j0, quireref08_Prim.j1, h]
theorem prim_at33 (s : ByteArray) (h : s.toList = [112, 97, 105, 114]) : quireref08_Prim.f 20 s = some (lookP words s.toList) := by
  rw [h, show lookP words [112, 97, 105, 114] = (2, 1, true) by decide +kernel]
  simp [quireref08_Prim.f, quireref08_moves.f, quireref08_Prim.j0, quireref08_Prim.j1, h]
theorem prim_at34 (s : ByteArray) (h : s.toList = [117, 110, 112, 97, 105, 114]) : quireref08_Prim.f 20 s = some (lookP words s.toList) := by
  rw [h, show lookP words [117, 110, 112, 97, 105, 114] = (1, 2, true) by decide +kernel]
  simp [quireref08_Prim.f, quireref08_moves.f, quireref08_Prim.j0, quireref08_Prim.j1, h]
theorem prim_at35 (s : ByteArray) (h : s.toList = [114, 101, 118, 101, 114, 115, 101]) : quireref08_Prim.f 20 s = some (lookP words s.toList) := by
  rw [h, show lookP words [114, 101, 118, 101, 114, 115, 101] = (1, 1, true) by decide +kernel]
  simp [quireref08_Prim.f, quireref08_moves.f, quireref08_Prim.j0, quireref08_Prim.j1, h]
theorem prim_at36 (s : ByteArray) (h : s.toList = [99, 117, 114, 114, 121]) : quireref08_Prim.f 20 s = some (lookP words s.toList) := by
  rw [h, show lookP words [99, 117, 114, 114, 121] = (2, 1, true) by decide +kernel]
  simp [quireref08_Prim.f, quireref08_moves.f, quireref08_Prim.j0, quireref08_Prim.j1, h]
theorem prim_at37 (s : ByteArray) (h : s.toList = [99, 111, 109, 112, 111, 115, 101]) : quireref08_Prim.f 20 s = some (lookP words s.toList) := by
  rw [h, show lookP words [99, 111, 109, 112, 111, 115, 101] = (2, 1, true) by decide +kernel]
  simp [quireref08_Prim.f, quireref08_moves.f, quireref08_Prim.j0, quireref08_Prim.j1, h]
theorem prim_at38 (s : ByteArray) (h : s.toList = [62, 115, 116, 114]) : quireref08_Prim.f 20 s = some (lookP words s.toList) := by
  rw [h, show lookP words [62, 115, 116, 114] = (1, 1, true) by decide +kernel]
  simp [quireref08_Prim.f, quireref08_moves.f, quireref08_Prim.j0, quireref08_Prim.j1, h]
theorem prim_at39 (s : ByteArray) (h : s.toList = [62, 105, 110, 116]) : quireref08_Prim.f 20 s = some (lookP words s.toList) := by
  rw [h, show lookP words [62, 105, 110, 116] = (1, 1, true) by decide +kernel]
  simp [quireref08_Prim.f, quireref08_moves.f, quireref08_Prim.j0, quireref08_Prim.j1, h]
theorem prim_at40 (s : ByteArray) (h : s.toList = [98, 111, 120]) : quireref08_Prim.f 20 s = some (lookP words s.toList) := by
  rw [h, show lookP words [98, 111, 120] = (1, 1, true) by decide +kernel]
  simp [quireref08_Prim.f, quireref08_moves.f, quireref08_Prim.j0, quireref08_Prim.j1, h]
theorem prim_at41 (s : ByteArray) (h : s.toList = [103, 101, 116]) : quireref08_Prim.f 20 s = some (lookP words s.toList) := by
  rw [h, show lookP words [103, 101, 116] = (1, 1, true) by decide +kernel]
  simp [quireref08_Prim.f, quireref08_moves.f, quireref08_Prim.j0, quireref08_Prim.j1, h]
theorem prim_at42 (s : ByteArray) (h : s.toList = [112, 117, 116]) : quireref08_Prim.f 20 s = some (lookP words s.toList) := by
  rw [h, show lookP words [112, 117, 116] = (2, 0, true) by decide +kernel]
  simp [quireref08_Prim.f, quireref08_moves.f, quireref08_Prim.j0, quireref08_Prim.j1, h]
theorem prim_at43 (s : ByteArray) (h : s.toList = [46]) : quireref08_Prim.f 20 s = some (lookP words s.toList) := by
  rw [h, show lookP words [46] = (1, 0, true) by decide +kernel]
  simp [quireref08_Prim.f, quireref08_moves.f, quireref08_Prim.j0, quireref08_Prim.j1, h]

set_option maxRecDepth 100000 in
theorem prim_eq (s : ByteArray) : quireref08_Prim.f 20 s = some (lookP words s.toList) := by
  by_cases h0 : s.toList = [100, 117, 112]
  · exact prim_at0 s h0
  by_cases h1 : s.toList = [100, 114, 111, 112]
  · exact prim_at1 s h1
  by_cases h2 : s.toList = [115, 119, 97, 112]
  · exact prim_at2 s h2
  by_cases h3 : s.toList = [111, 118, 101, 114]
  · exact prim_at3 s h3
  by_cases h4 : s.toList = [114, 111, 116]
  · exact prim_at4 s h4
  by_cases h5 : s.toList = [110, 105, 112]
  · exact prim_at5 s h5
  by_cases h6 : s.toList = [116, 117, 99, 107]
  · exact prim_at6 s h6
  by_cases h7 : s.toList = [43]
  · exact prim_at7 s h7
  by_cases h8 : s.toList = [45]
  · exact prim_at8 s h8
  by_cases h9 : s.toList = [42]
  · exact prim_at9 s h9
  by_cases h10 : s.toList = [47]
  · exact prim_at10 s h10
  by_cases h11 : s.toList = [109, 111, 100]
  · exact prim_at11 s h11
  by_cases h12 : s.toList = [110, 101, 103]
  · exact prim_at12 s h12
  by_cases h13 : s.toList = [97, 98, 115]
  · exact prim_at13 s h13
  by_cases h14 : s.toList = [109, 105, 110]
  · exact prim_at14 s h14
  by_cases h15 : s.toList = [109, 97, 120]
  · exact prim_at15 s h15
  by_cases h16 : s.toList = [60]
  · exact prim_at16 s h16
  by_cases h17 : s.toList = [62]
  · exact prim_at17 s h17
  by_cases h18 : s.toList = [61]
  · exact prim_at18 s h18
  by_cases h19 : s.toList = [97, 110, 100]
  · exact prim_at19 s h19
  by_cases h20 : s.toList = [111, 114]
  · exact prim_at20 s h20
  by_cases h21 : s.toList = [110, 111, 116]
  · exact prim_at21 s h21
  by_cases h22 : s.toList = [105, 110, 116, 63]
  · exact prim_at22 s h22
  by_cases h23 : s.toList = [115, 116, 114, 63]
  · exact prim_at23 s h23
  by_cases h24 : s.toList = [98, 111, 111, 108, 63]
  · exact prim_at24 s h24
  by_cases h25 : s.toList = [108, 105, 115, 116, 63]
  · exact prim_at25 s h25
  by_cases h26 : s.toList = [113, 117, 111, 116, 63]
  · exact prim_at26 s h26
  by_cases h27 : s.toList = [98, 111, 120, 63]
  · exact prim_at27 s h27
  by_cases h28 : s.toList = [108, 101, 110, 103, 116, 104]
  · exact prim_at28 s h28
  by_cases h29 : s.toList = [97, 112, 112, 101, 110, 100]
  · exact prim_at29 s h29
  by_cases h30 : s.toList = [110, 116, 104]
  · exact prim_at30 s h30
  by_cases h31 : s.toList = [115, 108, 105, 99, 101]
  · exact prim_at31 s h31
  by_cases h32 : s.toList = [119, 114, 97, 112]
  · exact prim_at32 s h32
  by_cases h33 : s.toList = [112, 97, 105, 114]
  · exact prim_at33 s h33
  by_cases h34 : s.toList = [117, 110, 112, 97, 105, 114]
  · exact prim_at34 s h34
  by_cases h35 : s.toList = [114, 101, 118, 101, 114, 115, 101]
  · exact prim_at35 s h35
  by_cases h36 : s.toList = [99, 117, 114, 114, 121]
  · exact prim_at36 s h36
  by_cases h37 : s.toList = [99, 111, 109, 112, 111, 115, 101]
  · exact prim_at37 s h37
  by_cases h38 : s.toList = [62, 115, 116, 114]
  · exact prim_at38 s h38
  by_cases h39 : s.toList = [62, 105, 110, 116]
  · exact prim_at39 s h39
  by_cases h40 : s.toList = [98, 111, 120]
  · exact prim_at40 s h40
  by_cases h41 : s.toList = [103, 101, 116]
  · exact prim_at41 s h41
  by_cases h42 : s.toList = [112, 117, 116]
  · exact prim_at42 s h42
  by_cases h43 : s.toList = [46]
  · exact prim_at43 s h43
  have hn : s.toList ∉ namesL := by
    unfold namesL
    simp only [List.mem_cons, List.not_mem_nil, or_false, h0, h1, h2, h3, h4, h5, h6, h7, h8, h9, h10, h11, h12, h13, h14, h15, h16, h17, h18, h19, h20, h21, h22, h23, h24, h25, h26, h27, h28, h29, h30, h31, h32, h33, h34, h35, h36, h37, h38, h39, h40, h41, h42, h43, not_false_eq_true]
  rw [lookP_none (nm := s.toList) words (fun l hl ho e => hn (by rw [← e]; exact words_names l hl ho))]
  simp [quireref08_Prim.f, quireref08_moves.f, quireref08_Prim.j0, quireref08_Prim.j1, h0, h1, h2, h3, h4, h5, h6, h7, h8, h9, h10, h11, h12, h13, h14, h15, h16, h17, h18, h19, h20, h21, h22, h23, h24, h25, h26, h27, h28, h29, h30, h31, h32, h33, h34, h35, h36, h37, h38, h39, h40, h41, h42, h43]

theorem then_eq (a0 a1 b0 b1 : Int) : ∃ r1 r2 r3, effect_Then.f 5 a0 a1 b0 b1 = some (r1, r2, r3) ∧ quireref08_Then.f 5 a0 a1 b0 b1 = some (r1, r2, r3) := by
  have hfit : ∀ x y : Int, effect_fits.f x y = some (decide (0 ≤ x ∧ x ≤ 16 ∧ 0 ≤ y ∧ y ≤ 16)) := fun x y => by
    unfold effect_fits.f mn mx
    split <;> split <;> (try split) <;> (first | rfl | (congr 1; first | (rw [decide_eq_decide]; omega) | (symm; rw [decide_eq_false_iff_not]; omega)))
  have hin : ∀ x : Int, quireref08_in.f x = some (decide (0 ≤ x ∧ x ≤ 16)) := fun x => by
    unfold quireref08_in.f
    split <;> (congr 1; first | (rw [decide_eq_decide]; omega) | (symm; rw [decide_eq_false_iff_not]; omega))
  by_cases h : (0 ≤ a0 ∧ a0 ≤ 16 ∧ 0 ≤ a1 ∧ a1 ≤ 16) ∧ (0 ≤ b0 ∧ b0 ≤ 16 ∧ 0 ≤ b1 ∧ b1 ≤ 16)
  · obtain ⟨⟨p1, p2, p3, p4⟩, p5, p6, p7, p8⟩ := h
    obtain ⟨x, hx⟩ : ∃ x, x = a0 + mx 0 (b0 - a1) := ⟨_, rfl⟩
    obtain ⟨y, hy⟩ : ∃ y, y = b1 + mx 0 (a1 - b0) := ⟨_, rfl⟩
    have w1 : wrap64 (b0 - a1) = b0 - a1 := by unfold wrap64; omega
    have w2 : wrap64 (a1 - b0) = a1 - b0 := by unfold wrap64; omega
    have bx : 0 ≤ x ∧ x ≤ 32 := by rw [hx]; unfold mx; split <;> omega
    have by' : 0 ≤ y ∧ y ≤ 32 := by rw [hy]; unfold mx; split <;> omega
    have w3 : wrap64 (a0 + mx 0 (b0 - a1)) = x := by rw [← hx]; unfold wrap64; omega
    have w4 : wrap64 (b1 + mx 0 (a1 - b0)) = y := by rw [← hy]; unfold wrap64; omega
    have e1 : effect_Then.f 5 a0 a1 b0 b1 = if x ≤ 16 ∧ y ≤ 16 then some (x, y, 0) else some (0, 0, 11) := by
      unfold effect_Then.f
      rw [hfit, hfit, decide_eq_true (⟨p1, p2, p3, p4⟩ : 0 ≤ a0 ∧ a0 ≤ 16 ∧ 0 ≤ a1 ∧ a1 ≤ 16), decide_eq_true (⟨p5, p6, p7, p8⟩ : 0 ≤ b0 ∧ b0 ≤ 16 ∧ 0 ≤ b1 ∧ b1 ≤ 16)]
      simp only [Option.bind_some, if_true, Bool.not_true]
      simp only [effect_Then.j0, Bool.false_eq_true, if_false, w1, w2, w3, w4, hfit, Option.bind_some, decide_eq_true_eq]
      by_cases hh : x ≤ 16 ∧ y ≤ 16
      · rw [if_pos (by omega), if_pos hh]
      · rw [if_neg (by omega), if_neg hh]
    have e2 : quireref08_Then.f 5 a0 a1 b0 b1 = if x ≤ 16 ∧ y ≤ 16 then some (x, y, 0) else some (0, 0, 11) := by
      unfold quireref08_Then.f
      rw [hin, hin, hin, hin, decide_eq_true (⟨p1, p2⟩ : 0 ≤ a0 ∧ a0 ≤ 16), decide_eq_true (⟨p3, p4⟩ : 0 ≤ a1 ∧ a1 ≤ 16), decide_eq_true (⟨p5, p6⟩ : 0 ≤ b0 ∧ b0 ≤ 16), decide_eq_true (⟨p7, p8⟩ : 0 ≤ b1 ∧ b1 ≤ 16)]
      simp only [Option.bind_some, if_true, Bool.not_true]
      simp only [quireref08_Then.j0, Bool.false_eq_true, if_false, w1, w2, w3, w4]
      by_cases h1 : x ≤ 16
      · by_cases h2 : y ≤ 16
        · rw [if_neg (by omega), if_neg (by omega), if_pos ⟨h1, h2⟩]
        · rw [if_neg (by omega), if_pos (by omega), if_neg (fun h => h2 h.2)]
      · rw [if_pos (by omega), if_neg (fun h => h1 h.1)]
    by_cases hh : x ≤ 16 ∧ y ≤ 16
    · exact ⟨x, y, 0, by rw [e1, if_pos hh], by rw [e2, if_pos hh]⟩
    · exact ⟨0, 0, 11, by rw [e1, if_neg hh], by rw [e2, if_neg hh]⟩
  · refine ⟨0, 0, 2, ?_, ?_⟩
    · unfold effect_Then.f
      rw [hfit, hfit]
      simp only [Option.bind_some]
      by_cases h1 : 0 ≤ a0 ∧ a0 ≤ 16 ∧ 0 ≤ a1 ∧ a1 ≤ 16
      · have h2 : ¬ (0 ≤ b0 ∧ b0 ≤ 16 ∧ 0 ≤ b1 ∧ b1 ≤ 16) := fun h2 => h ⟨h1, h2⟩
        rw [if_pos (decide_eq_true h1), decide_eq_false h2]
        rfl
      · rw [if_neg (by rw [decide_eq_false h1]; simp)]
        rfl
    · unfold quireref08_Then.f
      rw [hin, hin, hin, hin]
      simp only [Option.bind_some]
      by_cases h1 : 0 ≤ a0 ∧ a0 ≤ 16
      · by_cases h2 : 0 ≤ a1 ∧ a1 ≤ 16
        · by_cases h3 : 0 ≤ b0 ∧ b0 ≤ 16
          · have h4 : ¬ (0 ≤ b1 ∧ b1 ≤ 16) := fun h4 => h (by omega)
            rw [if_pos (decide_eq_true h1), if_pos (decide_eq_true h2), if_pos (decide_eq_true h3), decide_eq_false h4]
            rfl
          · rw [if_pos (decide_eq_true h1), if_pos (decide_eq_true h2), if_neg (by rw [decide_eq_false h3]; simp)]
            rfl
        · rw [if_pos (decide_eq_true h1), if_neg (by rw [decide_eq_false h2]; simp)]
          rfl
      · rw [if_neg (by rw [decide_eq_false h1]; simp)]
        rfl

end Go.Proofs.YtbhkkmjifjmpiaaDoor.E
