-- Made by a program of this session (turnprint.py), after the manner of the kit's print.
import Derived.Test.YtbhkkmjifjmpiaaDoorQ0
import Derived.Test.YtbhkkmjifjmpiaaDoorQ1
namespace Go.Proofs.YtbhkkmjifjmpiaaDoor.Q
open Go.RowKit Go.Proofs.YtbhkkmjifjmpiaaDoorW.PrintWords Go.Proofs.YtbhkkmjifjmpiaaDoorW.PrintLast Go.Proofs.YtbhkkmjifjmpiaaDoorW.PrintMore
attribute [local go_sem] max2_int min2_int max_two min_two max_three min_three max_four min_four   -- for this text's walks alone
set_option linter.unusedVariables false
set_option linter.unusedSimpArgs false

/-! ### quireref08_Prim: function 6 -/
mutual
def quireref08_Prim.j0 : Nat → ByteArray → Bool → Option (Int × Int × Bool)
  | 0, _, _ => none
  | k + 1, x18, x19 => if x19 = true then (some (1, 1, true)) else (if x18.toList = ([43] : List UInt8) then (quireref08_Prim.j1 k x18 (x18.toList == ([43] : List UInt8))) else (if x18.toList = ([45] : List UInt8) then (quireref08_Prim.j1 k x18 (x18.toList == ([45] : List UInt8))) else (if x18.toList = ([42] : List UInt8) then (quireref08_Prim.j1 k x18 (x18.toList == ([42] : List UInt8))) else (if x18.toList = ([47] : List UInt8) then (quireref08_Prim.j1 k x18 (x18.toList == ([47] : List UInt8))) else (if x18.toList = ([109, 111, 100] : List UInt8) then (quireref08_Prim.j1 k x18 (x18.toList == ([109, 111, 100] : List UInt8))) else (if x18.toList = ([109, 105, 110] : List UInt8) then (quireref08_Prim.j1 k x18 (x18.toList == ([109, 105, 110] : List UInt8))) else (if x18.toList = ([109, 97, 120] : List UInt8) then (quireref08_Prim.j1 k x18 (x18.toList == ([109, 97, 120] : List UInt8))) else (if x18.toList = ([60] : List UInt8) then (quireref08_Prim.j1 k x18 (x18.toList == ([60] : List UInt8))) else (if x18.toList = ([62] : List UInt8) then (quireref08_Prim.j1 k x18 (x18.toList == ([62] : List UInt8))) else (if x18.toList = ([61] : List UInt8) then (quireref08_Prim.j1 k x18 (x18.toList == ([61] : List UInt8))) else (if x18.toList = ([97, 110, 100] : List UInt8) then (quireref08_Prim.j1 k x18 (x18.toList == ([97, 110, 100] : List UInt8))) else (if x18.toList = ([111, 114] : List UInt8) then (quireref08_Prim.j1 k x18 (x18.toList == ([111, 114] : List UInt8))) else (if x18.toList = ([97, 112, 112, 101, 110, 100] : List UInt8) then (quireref08_Prim.j1 k x18 (x18.toList == ([97, 112, 112, 101, 110, 100] : List UInt8))) else (if x18.toList = ([110, 116, 104] : List UInt8) then (quireref08_Prim.j1 k x18 (x18.toList == ([110, 116, 104] : List UInt8))) else (if x18.toList = ([112, 97, 105, 114] : List UInt8) then (quireref08_Prim.j1 k x18 (x18.toList == ([112, 97, 105, 114] : List UInt8))) else (if x18.toList = ([99, 117, 114, 114, 121] : List UInt8) then (quireref08_Prim.j1 k x18 (x18.toList == ([99, 117, 114, 114, 121] : List UInt8))) else (quireref08_Prim.j1 k x18 (x18.toList == ([99, 111, 109, 112, 111, 115, 101] : List UInt8)))))))))))))))))))
def quireref08_Prim.j1 : Nat → ByteArray → Bool → Option (Int × Int × Bool)
  | 0, _, _ => none
  | k + 1, x18, x36 => if x36 = true then (some (2, 1, true)) else (if x18.toList = ([115, 108, 105, 99, 101] : List UInt8) then (some (3, 1, true)) else (if x18.toList = ([117, 110, 112, 97, 105, 114] : List UInt8) then (some (1, 2, true)) else (if x18.toList = ([112, 117, 116] : List UInt8) then (some (2, 0, true)) else (if x18.toList = ([46] : List UInt8) then (some (1, 0, true)) else (some (0, 0, false))))))
end
def quireref08_Prim.f (k : Nat) (a0 : ByteArray) : Option (Int × Int × Bool) := (quireref08_moves.f a0).bind fun bt119 => (if bt119.2.2 = true then (some (bt119.1, (bt119.2.1.length : Int), true)) else (if a0.toList = ([110, 101, 103] : List UInt8) then (quireref08_Prim.j0 k a0 (a0.toList == ([110, 101, 103] : List UInt8))) else (if a0.toList = ([97, 98, 115] : List UInt8) then (quireref08_Prim.j0 k a0 (a0.toList == ([97, 98, 115] : List UInt8))) else (if a0.toList = ([110, 111, 116] : List UInt8) then (quireref08_Prim.j0 k a0 (a0.toList == ([110, 111, 116] : List UInt8))) else (if a0.toList = ([105, 110, 116, 63] : List UInt8) then (quireref08_Prim.j0 k a0 (a0.toList == ([105, 110, 116, 63] : List UInt8))) else (if a0.toList = ([115, 116, 114, 63] : List UInt8) then (quireref08_Prim.j0 k a0 (a0.toList == ([115, 116, 114, 63] : List UInt8))) else (if a0.toList = ([98, 111, 111, 108, 63] : List UInt8) then (quireref08_Prim.j0 k a0 (a0.toList == ([98, 111, 111, 108, 63] : List UInt8))) else (if a0.toList = ([108, 105, 115, 116, 63] : List UInt8) then (quireref08_Prim.j0 k a0 (a0.toList == ([108, 105, 115, 116, 63] : List UInt8))) else (if a0.toList = ([113, 117, 111, 116, 63] : List UInt8) then (quireref08_Prim.j0 k a0 (a0.toList == ([113, 117, 111, 116, 63] : List UInt8))) else (if a0.toList = ([98, 111, 120, 63] : List UInt8) then (quireref08_Prim.j0 k a0 (a0.toList == ([98, 111, 120, 63] : List UInt8))) else (if a0.toList = ([108, 101, 110, 103, 116, 104] : List UInt8) then (quireref08_Prim.j0 k a0 (a0.toList == ([108, 101, 110, 103, 116, 104] : List UInt8))) else (if a0.toList = ([119, 114, 97, 112] : List UInt8) then (quireref08_Prim.j0 k a0 (a0.toList == ([119, 114, 97, 112] : List UInt8))) else (if a0.toList = ([114, 101, 118, 101, 114, 115, 101] : List UInt8) then (quireref08_Prim.j0 k a0 (a0.toList == ([114, 101, 118, 101, 114, 115, 101] : List UInt8))) else (if a0.toList = ([62, 115, 116, 114] : List UInt8) then (quireref08_Prim.j0 k a0 (a0.toList == ([62, 115, 116, 114] : List UInt8))) else (if a0.toList = ([62, 105, 110, 116] : List UInt8) then (quireref08_Prim.j0 k a0 (a0.toList == ([62, 105, 110, 116] : List UInt8))) else (if a0.toList = ([98, 111, 120] : List UInt8) then (quireref08_Prim.j0 k a0 (a0.toList == ([98, 111, 120] : List UInt8))) else (quireref08_Prim.j0 k a0 (a0.toList == ([103, 101, 116] : List UInt8)))))))))))))))))))
theorem quireref08_Prim.mono_l : ∀ k, (∀ y0 y1, LeO (quireref08_Prim.j0 k y0 y1) (quireref08_Prim.j0 (k + 1) y0 y1)) ∧ (∀ y0 y1, LeO (quireref08_Prim.j1 k y0 y1) (quireref08_Prim.j1 (k + 1) y0 y1))
  | 0 => ⟨fun _ _ r h => by simp [quireref08_Prim.j0] at h, fun _ _ r h => by simp [quireref08_Prim.j1] at h⟩
  | k + 1 => by
    obtain ⟨ih0, ih1⟩ := quireref08_Prim.mono_l k
    refine ⟨?_, ?_⟩
    · intro y0 y1
      unfold quireref08_Prim.j0
      repeat' first
      | (with_reducible exact ih0 _ _)
      | (with_reducible exact ih1 _ _)
      | (with_reducible exact LeO.refl _)
      | (with_reducible exact LeO.none _)
      | (with_reducible refine LeO.ite ?_ ?_)
      | (with_reducible refine LeO.bind ?_ (fun _ => ?_))
      | exact ih0 _ _
      | exact ih1 _ _
      | exact LeO.none _
      | refine LeO.ite ?_ ?_
      | refine LeO.bind ?_ (fun _ => ?_)
    · intro y0 y1
      unfold quireref08_Prim.j1
      repeat' first
      | (with_reducible exact ih0 _ _)
      | (with_reducible exact ih1 _ _)
      | (with_reducible exact LeO.refl _)
      | (with_reducible exact LeO.none _)
      | (with_reducible refine LeO.ite ?_ ?_)
      | (with_reducible refine LeO.bind ?_ (fun _ => ?_))
      | exact ih0 _ _
      | exact ih1 _ _
      | exact LeO.none _
      | refine LeO.ite ?_ ?_
      | refine LeO.bind ?_ (fun _ => ?_)
theorem quireref08_Prim.mono : ∀ a0 k, LeO (quireref08_Prim.f k a0) (quireref08_Prim.f (k + 1) a0) := by
  intro a0 k
  obtain ⟨ih0, ih1⟩ := quireref08_Prim.mono_l k
  unfold quireref08_Prim.f
  repeat' first
      | (with_reducible exact ih0 _ _)
      | (with_reducible exact ih1 _ _)
      | (with_reducible exact LeO.refl _)
      | (with_reducible exact LeO.none _)
      | (with_reducible refine LeO.ite ?_ ?_)
      | (with_reducible refine LeO.bind ?_ (fun _ => ?_))
      | exact ih0 _ _
      | exact ih1 _ _
      | exact LeO.none _
      | refine LeO.ite ?_ ?_
      | refine LeO.bind ?_ (fun _ => ?_)
set_option maxHeartbeats 8000000 in
set_option maxRecDepth 100000 in
theorem quireref08_Prim.calls (k : Nat) (a0 : ByteArray) (r1 : Int) (r2 : Int) (r3 : Bool) (w : World) (h : quireref08_Prim.f k a0 = some (r1, r2, r3)) :
    Calls Tryd.prog 6 #[.string a0] w fun e w' => e = .returned (.tuple #[.int .i64 r1, .int .i64 r2, .bool r3]) ∧ Below w.heap.size w w' := by
  have HB := Aside0.mk (Below.refl w.heap.size w)
  have H : ((quireref08_moves.f a0).bind fun bt119 => (if bt119.2.2 = true then (some (bt119.1, (bt119.2.1.length : Int), true)) else (if a0.toList = ([110, 101, 103] : List UInt8) then (quireref08_Prim.j0 k a0 (a0.toList == ([110, 101, 103] : List UInt8))) else (if a0.toList = ([97, 98, 115] : List UInt8) then (quireref08_Prim.j0 k a0 (a0.toList == ([97, 98, 115] : List UInt8))) else (if a0.toList = ([110, 111, 116] : List UInt8) then (quireref08_Prim.j0 k a0 (a0.toList == ([110, 111, 116] : List UInt8))) else (if a0.toList = ([105, 110, 116, 63] : List UInt8) then (quireref08_Prim.j0 k a0 (a0.toList == ([105, 110, 116, 63] : List UInt8))) else (if a0.toList = ([115, 116, 114, 63] : List UInt8) then (quireref08_Prim.j0 k a0 (a0.toList == ([115, 116, 114, 63] : List UInt8))) else (if a0.toList = ([98, 111, 111, 108, 63] : List UInt8) then (quireref08_Prim.j0 k a0 (a0.toList == ([98, 111, 111, 108, 63] : List UInt8))) else (if a0.toList = ([108, 105, 115, 116, 63] : List UInt8) then (quireref08_Prim.j0 k a0 (a0.toList == ([108, 105, 115, 116, 63] : List UInt8))) else (if a0.toList = ([113, 117, 111, 116, 63] : List UInt8) then (quireref08_Prim.j0 k a0 (a0.toList == ([113, 117, 111, 116, 63] : List UInt8))) else (if a0.toList = ([98, 111, 120, 63] : List UInt8) then (quireref08_Prim.j0 k a0 (a0.toList == ([98, 111, 120, 63] : List UInt8))) else (if a0.toList = ([108, 101, 110, 103, 116, 104] : List UInt8) then (quireref08_Prim.j0 k a0 (a0.toList == ([108, 101, 110, 103, 116, 104] : List UInt8))) else (if a0.toList = ([119, 114, 97, 112] : List UInt8) then (quireref08_Prim.j0 k a0 (a0.toList == ([119, 114, 97, 112] : List UInt8))) else (if a0.toList = ([114, 101, 118, 101, 114, 115, 101] : List UInt8) then (quireref08_Prim.j0 k a0 (a0.toList == ([114, 101, 118, 101, 114, 115, 101] : List UInt8))) else (if a0.toList = ([62, 115, 116, 114] : List UInt8) then (quireref08_Prim.j0 k a0 (a0.toList == ([62, 115, 116, 114] : List UInt8))) else (if a0.toList = ([62, 105, 110, 116] : List UInt8) then (quireref08_Prim.j0 k a0 (a0.toList == ([62, 105, 110, 116] : List UInt8))) else (if a0.toList = ([98, 111, 120] : List UInt8) then (quireref08_Prim.j0 k a0 (a0.toList == ([98, 111, 120] : List UInt8))) else (quireref08_Prim.j0 k a0 (a0.toList == ([103, 101, 116] : List UInt8)))))))))))))))))))) = some (r1, r2, r3) := h
  clear h
  replace H := Option.bind_eq_some_iff.mp H
  obtain ⟨⟨t119, t120, t121⟩, A20, H⟩ := H
  replace H : (if t121 = true then (some (t119, (t120.length : Int), true)) else (if a0.toList = ([110, 101, 103] : List UInt8) then (quireref08_Prim.j0 k a0 (a0.toList == ([110, 101, 103] : List UInt8))) else (if a0.toList = ([97, 98, 115] : List UInt8) then (quireref08_Prim.j0 k a0 (a0.toList == ([97, 98, 115] : List UInt8))) else (if a0.toList = ([110, 111, 116] : List UInt8) then (quireref08_Prim.j0 k a0 (a0.toList == ([110, 111, 116] : List UInt8))) else (if a0.toList = ([105, 110, 116, 63] : List UInt8) then (quireref08_Prim.j0 k a0 (a0.toList == ([105, 110, 116, 63] : List UInt8))) else (if a0.toList = ([115, 116, 114, 63] : List UInt8) then (quireref08_Prim.j0 k a0 (a0.toList == ([115, 116, 114, 63] : List UInt8))) else (if a0.toList = ([98, 111, 111, 108, 63] : List UInt8) then (quireref08_Prim.j0 k a0 (a0.toList == ([98, 111, 111, 108, 63] : List UInt8))) else (if a0.toList = ([108, 105, 115, 116, 63] : List UInt8) then (quireref08_Prim.j0 k a0 (a0.toList == ([108, 105, 115, 116, 63] : List UInt8))) else (if a0.toList = ([113, 117, 111, 116, 63] : List UInt8) then (quireref08_Prim.j0 k a0 (a0.toList == ([113, 117, 111, 116, 63] : List UInt8))) else (if a0.toList = ([98, 111, 120, 63] : List UInt8) then (quireref08_Prim.j0 k a0 (a0.toList == ([98, 111, 120, 63] : List UInt8))) else (if a0.toList = ([108, 101, 110, 103, 116, 104] : List UInt8) then (quireref08_Prim.j0 k a0 (a0.toList == ([108, 101, 110, 103, 116, 104] : List UInt8))) else (if a0.toList = ([119, 114, 97, 112] : List UInt8) then (quireref08_Prim.j0 k a0 (a0.toList == ([119, 114, 97, 112] : List UInt8))) else (if a0.toList = ([114, 101, 118, 101, 114, 115, 101] : List UInt8) then (quireref08_Prim.j0 k a0 (a0.toList == ([114, 101, 118, 101, 114, 115, 101] : List UInt8))) else (if a0.toList = ([62, 115, 116, 114] : List UInt8) then (quireref08_Prim.j0 k a0 (a0.toList == ([62, 115, 116, 114] : List UInt8))) else (if a0.toList = ([62, 105, 110, 116] : List UInt8) then (quireref08_Prim.j0 k a0 (a0.toList == ([62, 105, 110, 116] : List UInt8))) else (if a0.toList = ([98, 111, 120] : List UInt8) then (quireref08_Prim.j0 k a0 (a0.toList == ([98, 111, 120] : List UInt8))) else (quireref08_Prim.j0 k a0 (a0.toList == ([103, 101, 116] : List UInt8))))))))))))))))))) = some (r1, r2, r3) := H
  have A2 := Aside0.mk A20
  clear A20
  by_cases c3 : t121 = true
  · subst c3
    have H1 : (some (t119, (t120.length : Int), true)) = some (r1, r2, r3) := by rw [if_pos rfl] at H; exact H
    clear H
    have H := H1
    clear H1
    simp only [Option.some.injEq, Prod.mk.injEq] at H
    obtain ⟨rfl, rfl, rfl⟩ := H
    go_enter Tryd.func6, Tryd.ntmps6
    go_wp2_with (first | ((with_reducible refine gate_callee (f := 11) rfl ?_); refine goesL_ (some 10) rfl rfl Tryd.func11 (by kernel_rfl) rfl #[.string a0] rfl (by (try simp only [List.map_toArray, List.map_cons, List.map_nil]); first | done | rfl | (simp only [List.length_drop, List.length_take]; rfl)) ?_; (with_reducible refine (quireref08_moves.calls a0 t119 t120 true _ A2.out).mono ?_); rintro e w4 ⟨v122, rfl, ho0, hb⟩; refine ⟨_, rfl, ?_⟩; have n0_ := Aside0.mk (Kd.R_lower ho0 (below_size (by repeat (first | (with_reducible first | exact HB.out | apply below_alloc | apply pw_below_drewN | apply below_drew1) | exact HB.out)))); have n1_ := Aside0.mk (below_step (by repeat (first | (with_reducible first | exact HB.out | apply below_alloc | apply pw_below_drewN | apply below_drew1) | exact HB.out)) hb); clear HB; have HO123 := n0_; have HB := n1_; clear n0_ n1_; (try clear hb); (try clear hb2); (try clear hk); (try clear hi); (try clear ho0); obtain ⟨Ao5, co5, eo5⟩ := Kd.R_slice HO123.out; subst eo5))
    go_ret3
    exact ⟨by first | rfl | (simp [errW_none, errW_some] <;> rfl) | (simp [*, errW_none, errW_some] <;> rfl), by repeat (first | (with_reducible first | exact HB.out | apply below_alloc | apply pw_below_drewN | apply below_drew1) | exact HB.out)⟩
  · replace c3 := Bool.eq_false_iff.mpr c3
    subst c3
    have H1 : (if a0.toList = ([110, 101, 103] : List UInt8) then (quireref08_Prim.j0 k a0 (a0.toList == ([110, 101, 103] : List UInt8))) else (if a0.toList = ([97, 98, 115] : List UInt8) then (quireref08_Prim.j0 k a0 (a0.toList == ([97, 98, 115] : List UInt8))) else (if a0.toList = ([110, 111, 116] : List UInt8) then (quireref08_Prim.j0 k a0 (a0.toList == ([110, 111, 116] : List UInt8))) else (if a0.toList = ([105, 110, 116, 63] : List UInt8) then (quireref08_Prim.j0 k a0 (a0.toList == ([105, 110, 116, 63] : List UInt8))) else (if a0.toList = ([115, 116, 114, 63] : List UInt8) then (quireref08_Prim.j0 k a0 (a0.toList == ([115, 116, 114, 63] : List UInt8))) else (if a0.toList = ([98, 111, 111, 108, 63] : List UInt8) then (quireref08_Prim.j0 k a0 (a0.toList == ([98, 111, 111, 108, 63] : List UInt8))) else (if a0.toList = ([108, 105, 115, 116, 63] : List UInt8) then (quireref08_Prim.j0 k a0 (a0.toList == ([108, 105, 115, 116, 63] : List UInt8))) else (if a0.toList = ([113, 117, 111, 116, 63] : List UInt8) then (quireref08_Prim.j0 k a0 (a0.toList == ([113, 117, 111, 116, 63] : List UInt8))) else (if a0.toList = ([98, 111, 120, 63] : List UInt8) then (quireref08_Prim.j0 k a0 (a0.toList == ([98, 111, 120, 63] : List UInt8))) else (if a0.toList = ([108, 101, 110, 103, 116, 104] : List UInt8) then (quireref08_Prim.j0 k a0 (a0.toList == ([108, 101, 110, 103, 116, 104] : List UInt8))) else (if a0.toList = ([119, 114, 97, 112] : List UInt8) then (quireref08_Prim.j0 k a0 (a0.toList == ([119, 114, 97, 112] : List UInt8))) else (if a0.toList = ([114, 101, 118, 101, 114, 115, 101] : List UInt8) then (quireref08_Prim.j0 k a0 (a0.toList == ([114, 101, 118, 101, 114, 115, 101] : List UInt8))) else (if a0.toList = ([62, 115, 116, 114] : List UInt8) then (quireref08_Prim.j0 k a0 (a0.toList == ([62, 115, 116, 114] : List UInt8))) else (if a0.toList = ([62, 105, 110, 116] : List UInt8) then (quireref08_Prim.j0 k a0 (a0.toList == ([62, 105, 110, 116] : List UInt8))) else (if a0.toList = ([98, 111, 120] : List UInt8) then (quireref08_Prim.j0 k a0 (a0.toList == ([98, 111, 120] : List UInt8))) else (quireref08_Prim.j0 k a0 (a0.toList == ([103, 101, 116] : List UInt8)))))))))))))))))) = some (r1, r2, r3) := by rw [if_neg (show ¬ (false = true) by decide)] at H; exact H
    clear H
    have H := H1
    clear H1
    have HC6 := Aside0.mk H
    clear H
    go_enter Tryd.func6, Tryd.ntmps6
    go_upto_if 19 with (first | ((with_reducible refine gate_callee (f := 11) rfl ?_); refine goesL_ (some 10) rfl rfl Tryd.func11 (by kernel_rfl) rfl #[.string a0] rfl (by (try simp only [List.map_toArray, List.map_cons, List.map_nil]); first | done | rfl | (simp only [List.length_drop, List.length_take]; rfl)) ?_; (with_reducible refine (quireref08_moves.calls a0 t119 t120 false _ A2.out).mono ?_); rintro e w7 ⟨v122, rfl, ho0, hb⟩; refine ⟨_, rfl, ?_⟩; have n0_ := Aside0.mk (Kd.R_lower ho0 (below_size (by repeat (first | (with_reducible first | exact HB.out | apply below_alloc | apply pw_below_drewN | apply below_drew1) | exact HB.out)))); have n1_ := Aside0.mk (below_step (by repeat (first | (with_reducible first | exact HB.out | apply below_alloc | apply pw_below_drewN | apply below_drew1) | exact HB.out)) hb); clear HB; have HO123 := n0_; have HB := n1_; clear n0_ n1_; (try clear hb); (try clear hb2); (try clear hk); (try clear hi); (try clear ho0)))
    (try simp only [Act.put, List.setIfInBounds_toArray, List.set_cons_zero, List.set_cons_succ])
    go_cut [19] (fun v19 wc => ∃ (kq : Nat) (x19_5 : Bool), v19 = .bool x19_5 ∧ Aside0 (quireref08_Prim.j0 kq a0 x19_5 = some (r1, r2, r3)) ∧ Aside0 (kq ≤ k) ∧ Aside0 (Below w.heap.size w wc))
    case first =>
      have H := HC6.out
      clear HC6
      by_cases c8 : a0.toList = ([110, 101, 103] : List UInt8)
      · rw [if_pos c8] at H
        have c8b0 : (a0.toList == ([110, 101, 103] : List UInt8)) = true := beq_iff_eq.mpr c8
        have c8b1 : (a0.toList != ([110, 101, 103] : List UInt8)) = false := bne_eq_false_iff_eq.mpr c8
        clear c8
        (first | rw [c8b0] | (simp only [i64_w, i32_w]; rw [c8b0]) | skip)
        have H' := Aside0.mk H
        clear H
        go_wp2
        go_meet
        case rel => exact ⟨_, ((a0.toList == ([110, 101, 103] : List UInt8))), (by first | rfl | (simp; done) | (simp [*]; done)), H', ⟨by first | omega | exact Nat.le_refl _⟩, ⟨by repeat (first | (with_reducible first | exact HB.out | apply below_alloc | apply pw_below_drewN | apply below_drew1) | exact HB.out)⟩⟩
      · rw [if_neg c8] at H
        have c8b0 : (a0.toList == ([110, 101, 103] : List UInt8)) = false := beq_eq_false_iff_ne.mpr c8
        have c8b1 : (a0.toList != ([110, 101, 103] : List UInt8)) = true := bne_iff_ne.mpr c8
        (first | rw [c8b0] | (simp only [i64_w, i32_w]; rw [c8b0]) | skip)
        by_cases c9 : a0.toList = ([97, 98, 115] : List UInt8)
        · rw [if_pos c9] at H
          have c9b0 : (a0.toList == ([97, 98, 115] : List UInt8)) = true := beq_iff_eq.mpr c9
          have c9b1 : (a0.toList != ([97, 98, 115] : List UInt8)) = false := bne_eq_false_iff_eq.mpr c9
          clear c9
          have H' := Aside0.mk H
          clear H
          go_wp2
          go_meet
          case rel => exact ⟨_, ((a0.toList == ([97, 98, 115] : List UInt8))), (by first | rfl | (simp; done) | (simp [*]; done)), H', ⟨by first | omega | exact Nat.le_refl _⟩, ⟨by repeat (first | (with_reducible first | exact HB.out | apply below_alloc | apply pw_below_drewN | apply below_drew1) | exact HB.out)⟩⟩
        · rw [if_neg c9] at H
          have c9b0 : (a0.toList == ([97, 98, 115] : List UInt8)) = false := beq_eq_false_iff_ne.mpr c9
          have c9b1 : (a0.toList != ([97, 98, 115] : List UInt8)) = true := bne_iff_ne.mpr c9
          by_cases c10 : a0.toList = ([110, 111, 116] : List UInt8)
          · rw [if_pos c10] at H
            have c10b0 : (a0.toList == ([110, 111, 116] : List UInt8)) = true := beq_iff_eq.mpr c10
            have c10b1 : (a0.toList != ([110, 111, 116] : List UInt8)) = false := bne_eq_false_iff_eq.mpr c10
            clear c10
            have H' := Aside0.mk H
            clear H
            go_wp2
            go_meet
            case rel => exact ⟨_, ((a0.toList == ([110, 111, 116] : List UInt8))), (by first | rfl | (simp; done) | (simp [*]; done)), H', ⟨by first | omega | exact Nat.le_refl _⟩, ⟨by repeat (first | (with_reducible first | exact HB.out | apply below_alloc | apply pw_below_drewN | apply below_drew1) | exact HB.out)⟩⟩
          · rw [if_neg c10] at H
            have c10b0 : (a0.toList == ([110, 111, 116] : List UInt8)) = false := beq_eq_false_iff_ne.mpr c10
            have c10b1 : (a0.toList != ([110, 111, 116] : List UInt8)) = true := bne_iff_ne.mpr c10
            by_cases c11 : a0.toList = ([105, 110, 116, 63] : List UInt8)
            · rw [if_pos c11] at H
              have c11b0 : (a0.toList == ([105, 110, 116, 63] : List UInt8)) = true := beq_iff_eq.mpr c11
              have c11b1 : (a0.toList != ([105, 110, 116, 63] : List UInt8)) = false := bne_eq_false_iff_eq.mpr c11
              clear c11
              have H' := Aside0.mk H
              clear H
              go_wp2
              go_meet
              case rel => exact ⟨_, ((a0.toList == ([105, 110, 116, 63] : List UInt8))), (by first | rfl | (simp; done) | (simp [*]; done)), H', ⟨by first | omega | exact Nat.le_refl _⟩, ⟨by repeat (first | (with_reducible first | exact HB.out | apply below_alloc | apply pw_below_drewN | apply below_drew1) | exact HB.out)⟩⟩
            · rw [if_neg c11] at H
              have c11b0 : (a0.toList == ([105, 110, 116, 63] : List UInt8)) = false := beq_eq_false_iff_ne.mpr c11
              have c11b1 : (a0.toList != ([105, 110, 116, 63] : List UInt8)) = true := bne_iff_ne.mpr c11
              by_cases c12 : a0.toList = ([115, 116, 114, 63] : List UInt8)
              · rw [if_pos c12] at H
                have c12b0 : (a0.toList == ([115, 116, 114, 63] : List UInt8)) = true := beq_iff_eq.mpr c12
                have c12b1 : (a0.toList != ([115, 116, 114, 63] : List UInt8)) = false := bne_eq_false_iff_eq.mpr c12
                clear c12
                have H' := Aside0.mk H
                clear H
                go_wp2
                go_meet
                case rel => exact ⟨_, ((a0.toList == ([115, 116, 114, 63] : List UInt8))), (by first | rfl | (simp; done) | (simp [*]; done)), H', ⟨by first | omega | exact Nat.le_refl _⟩, ⟨by repeat (first | (with_reducible first | exact HB.out | apply below_alloc | apply pw_below_drewN | apply below_drew1) | exact HB.out)⟩⟩
              · rw [if_neg c12] at H
                have c12b0 : (a0.toList == ([115, 116, 114, 63] : List UInt8)) = false := beq_eq_false_iff_ne.mpr c12
                have c12b1 : (a0.toList != ([115, 116, 114, 63] : List UInt8)) = true := bne_iff_ne.mpr c12
                by_cases c13 : a0.toList = ([98, 111, 111, 108, 63] : List UInt8)
                · rw [if_pos c13] at H
                  have c13b0 : (a0.toList == ([98, 111, 111, 108, 63] : List UInt8)) = true := beq_iff_eq.mpr c13
                  have c13b1 : (a0.toList != ([98, 111, 111, 108, 63] : List UInt8)) = false := bne_eq_false_iff_eq.mpr c13
                  clear c13
                  have H' := Aside0.mk H
                  clear H
                  go_wp2
                  go_meet
                  case rel => exact ⟨_, ((a0.toList == ([98, 111, 111, 108, 63] : List UInt8))), (by first | rfl | (simp; done) | (simp [*]; done)), H', ⟨by first | omega | exact Nat.le_refl _⟩, ⟨by repeat (first | (with_reducible first | exact HB.out | apply below_alloc | apply pw_below_drewN | apply below_drew1) | exact HB.out)⟩⟩
                · rw [if_neg c13] at H
                  have c13b0 : (a0.toList == ([98, 111, 111, 108, 63] : List UInt8)) = false := beq_eq_false_iff_ne.mpr c13
                  have c13b1 : (a0.toList != ([98, 111, 111, 108, 63] : List UInt8)) = true := bne_iff_ne.mpr c13
                  by_cases c14 : a0.toList = ([108, 105, 115, 116, 63] : List UInt8)
                  · rw [if_pos c14] at H
                    have c14b0 : (a0.toList == ([108, 105, 115, 116, 63] : List UInt8)) = true := beq_iff_eq.mpr c14
                    have c14b1 : (a0.toList != ([108, 105, 115, 116, 63] : List UInt8)) = false := bne_eq_false_iff_eq.mpr c14
                    clear c14
                    have H' := Aside0.mk H
                    clear H
                    go_wp2
                    go_meet
                    case rel => exact ⟨_, ((a0.toList == ([108, 105, 115, 116, 63] : List UInt8))), (by first | rfl | (simp; done) | (simp [*]; done)), H', ⟨by first | omega | exact Nat.le_refl _⟩, ⟨by repeat (first | (with_reducible first | exact HB.out | apply below_alloc | apply pw_below_drewN | apply below_drew1) | exact HB.out)⟩⟩
                  · rw [if_neg c14] at H
                    have c14b0 : (a0.toList == ([108, 105, 115, 116, 63] : List UInt8)) = false := beq_eq_false_iff_ne.mpr c14
                    have c14b1 : (a0.toList != ([108, 105, 115, 116, 63] : List UInt8)) = true := bne_iff_ne.mpr c14
                    by_cases c15 : a0.toList = ([113, 117, 111, 116, 63] : List UInt8)
                    · rw [if_pos c15] at H
                      have c15b0 : (a0.toList == ([113, 117, 111, 116, 63] : List UInt8)) = true := beq_iff_eq.mpr c15
                      have c15b1 : (a0.toList != ([113, 117, 111, 116, 63] : List UInt8)) = false := bne_eq_false_iff_eq.mpr c15
                      clear c15
                      have H' := Aside0.mk H
                      clear H
                      go_wp2
                      go_meet
                      case rel => exact ⟨_, ((a0.toList == ([113, 117, 111, 116, 63] : List UInt8))), (by first | rfl | (simp; done) | (simp [*]; done)), H', ⟨by first | omega | exact Nat.le_refl _⟩, ⟨by repeat (first | (with_reducible first | exact HB.out | apply below_alloc | apply pw_below_drewN | apply below_drew1) | exact HB.out)⟩⟩
                    · rw [if_neg c15] at H
                      have c15b0 : (a0.toList == ([113, 117, 111, 116, 63] : List UInt8)) = false := beq_eq_false_iff_ne.mpr c15
                      have c15b1 : (a0.toList != ([113, 117, 111, 116, 63] : List UInt8)) = true := bne_iff_ne.mpr c15
                      by_cases c16 : a0.toList = ([98, 111, 120, 63] : List UInt8)
                      · rw [if_pos c16] at H
                        have c16b0 : (a0.toList == ([98, 111, 120, 63] : List UInt8)) = true := beq_iff_eq.mpr c16
                        have c16b1 : (a0.toList != ([98, 111, 120, 63] : List UInt8)) = false := bne_eq_false_iff_eq.mpr c16
                        clear c16
                        have H' := Aside0.mk H
                        clear H
                        go_wp2
                        go_meet
                        case rel => exact ⟨_, ((a0.toList == ([98, 111, 120, 63] : List UInt8))), (by first | rfl | (simp; done) | (simp [*]; done)), H', ⟨by first | omega | exact Nat.le_refl _⟩, ⟨by repeat (first | (with_reducible first | exact HB.out | apply below_alloc | apply pw_below_drewN | apply below_drew1) | exact HB.out)⟩⟩
                      · rw [if_neg c16] at H
                        have c16b0 : (a0.toList == ([98, 111, 120, 63] : List UInt8)) = false := beq_eq_false_iff_ne.mpr c16
                        have c16b1 : (a0.toList != ([98, 111, 120, 63] : List UInt8)) = true := bne_iff_ne.mpr c16
                        by_cases c17 : a0.toList = ([108, 101, 110, 103, 116, 104] : List UInt8)
                        · rw [if_pos c17] at H
                          have c17b0 : (a0.toList == ([108, 101, 110, 103, 116, 104] : List UInt8)) = true := beq_iff_eq.mpr c17
                          have c17b1 : (a0.toList != ([108, 101, 110, 103, 116, 104] : List UInt8)) = false := bne_eq_false_iff_eq.mpr c17
                          clear c17
                          have H' := Aside0.mk H
                          clear H
                          go_wp2
                          go_meet
                          case rel => exact ⟨_, ((a0.toList == ([108, 101, 110, 103, 116, 104] : List UInt8))), (by first | rfl | (simp; done) | (simp [*]; done)), H', ⟨by first | omega | exact Nat.le_refl _⟩, ⟨by repeat (first | (with_reducible first | exact HB.out | apply below_alloc | apply pw_below_drewN | apply below_drew1) | exact HB.out)⟩⟩
                        · rw [if_neg c17] at H
                          have c17b0 : (a0.toList == ([108, 101, 110, 103, 116, 104] : List UInt8)) = false := beq_eq_false_iff_ne.mpr c17
                          have c17b1 : (a0.toList != ([108, 101, 110, 103, 116, 104] : List UInt8)) = true := bne_iff_ne.mpr c17
                          by_cases c18 : a0.toList = ([119, 114, 97, 112] : List UInt8)
                          · rw [if_pos c18] at H
                            have c18b0 : (a0.toList == ([119, 114, 97, 112] : List UInt8)) = true := beq_iff_eq.mpr c18
                            have c18b1 : (a0.toList != ([119, 114, 97, 112] : List UInt8)) = false := bne_eq_false_iff_eq.mpr c18
                            clear c18
                            have H' := Aside0.mk H
                            clear H
                            go_wp2
                            go_meet
                            case rel => exact ⟨_, ((a0.toList == ([119, 114, 97, 112] : List UInt8))), (by first | rfl | (simp; done) | (simp [*]; done)), H', ⟨by first | omega | exact Nat.le_refl _⟩, ⟨by repeat (first | (with_reducible first | exact HB.out | apply below_alloc | apply pw_below_drewN | apply below_drew1) | exact HB.out)⟩⟩
                          · rw [if_neg c18] at H
                            have c18b0 : (a0.toList == ([119, 114, 97, 112] : List UInt8)) = false := beq_eq_false_iff_ne.mpr c18
                            have c18b1 : (a0.toList != ([119, 114, 97, 112] : List UInt8)) = true := bne_iff_ne.mpr c18
                            by_cases c19 : a0.toList = ([114, 101, 118, 101, 114, 115, 101] : List UInt8)
                            · rw [if_pos c19] at H
                              have c19b0 : (a0.toList == ([114, 101, 118, 101, 114, 115, 101] : List UInt8)) = true := beq_iff_eq.mpr c19
                              have c19b1 : (a0.toList != ([114, 101, 118, 101, 114, 115, 101] : List UInt8)) = false := bne_eq_false_iff_eq.mpr c19
                              clear c19
                              have H' := Aside0.mk H
                              clear H
                              go_wp2
                              go_meet
                              case rel => exact ⟨_, ((a0.toList == ([114, 101, 118, 101, 114, 115, 101] : List UInt8))), (by first | rfl | (simp; done) | (simp [*]; done)), H', ⟨by first | omega | exact Nat.le_refl _⟩, ⟨by repeat (first | (with_reducible first | exact HB.out | apply below_alloc | apply pw_below_drewN | apply below_drew1) | exact HB.out)⟩⟩
                            · rw [if_neg c19] at H
                              have c19b0 : (a0.toList == ([114, 101, 118, 101, 114, 115, 101] : List UInt8)) = false := beq_eq_false_iff_ne.mpr c19
                              have c19b1 : (a0.toList != ([114, 101, 118, 101, 114, 115, 101] : List UInt8)) = true := bne_iff_ne.mpr c19
                              by_cases c20 : a0.toList = ([62, 115, 116, 114] : List UInt8)
                              · rw [if_pos c20] at H
                                have c20b0 : (a0.toList == ([62, 115, 116, 114] : List UInt8)) = true := beq_iff_eq.mpr c20
                                have c20b1 : (a0.toList != ([62, 115, 116, 114] : List UInt8)) = false := bne_eq_false_iff_eq.mpr c20
                                clear c20
                                have H' := Aside0.mk H
                                clear H
                                go_wp2
                                go_meet
                                case rel => exact ⟨_, ((a0.toList == ([62, 115, 116, 114] : List UInt8))), (by first | rfl | (simp; done) | (simp [*]; done)), H', ⟨by first | omega | exact Nat.le_refl _⟩, ⟨by repeat (first | (with_reducible first | exact HB.out | apply below_alloc | apply pw_below_drewN | apply below_drew1) | exact HB.out)⟩⟩
                              · rw [if_neg c20] at H
                                have c20b0 : (a0.toList == ([62, 115, 116, 114] : List UInt8)) = false := beq_eq_false_iff_ne.mpr c20
                                have c20b1 : (a0.toList != ([62, 115, 116, 114] : List UInt8)) = true := bne_iff_ne.mpr c20
                                by_cases c21 : a0.toList = ([62, 105, 110, 116] : List UInt8)
                                · rw [if_pos c21] at H
                                  have c21b0 : (a0.toList == ([62, 105, 110, 116] : List UInt8)) = true := beq_iff_eq.mpr c21
                                  have c21b1 : (a0.toList != ([62, 105, 110, 116] : List UInt8)) = false := bne_eq_false_iff_eq.mpr c21
                                  clear c21
                                  have H' := Aside0.mk H
                                  clear H
                                  go_wp2
                                  go_meet
                                  case rel => exact ⟨_, ((a0.toList == ([62, 105, 110, 116] : List UInt8))), (by first | rfl | (simp; done) | (simp [*]; done)), H', ⟨by first | omega | exact Nat.le_refl _⟩, ⟨by repeat (first | (with_reducible first | exact HB.out | apply below_alloc | apply pw_below_drewN | apply below_drew1) | exact HB.out)⟩⟩
                                · rw [if_neg c21] at H
                                  have c21b0 : (a0.toList == ([62, 105, 110, 116] : List UInt8)) = false := beq_eq_false_iff_ne.mpr c21
                                  have c21b1 : (a0.toList != ([62, 105, 110, 116] : List UInt8)) = true := bne_iff_ne.mpr c21
                                  by_cases c22 : a0.toList = ([98, 111, 120] : List UInt8)
                                  · rw [if_pos c22] at H
                                    have c22b0 : (a0.toList == ([98, 111, 120] : List UInt8)) = true := beq_iff_eq.mpr c22
                                    have c22b1 : (a0.toList != ([98, 111, 120] : List UInt8)) = false := bne_eq_false_iff_eq.mpr c22
                                    clear c22
                                    have H' := Aside0.mk H
                                    clear H
                                    go_wp2
                                    go_meet
                                    case rel => exact ⟨_, ((a0.toList == ([98, 111, 120] : List UInt8))), (by first | rfl | (simp; done) | (simp [*]; done)), H', ⟨by first | omega | exact Nat.le_refl _⟩, ⟨by repeat (first | (with_reducible first | exact HB.out | apply below_alloc | apply pw_below_drewN | apply below_drew1) | exact HB.out)⟩⟩
                                  · rw [if_neg c22] at H
                                    have c22b0 : (a0.toList == ([98, 111, 120] : List UInt8)) = false := beq_eq_false_iff_ne.mpr c22
                                    have c22b1 : (a0.toList != ([98, 111, 120] : List UInt8)) = true := bne_iff_ne.mpr c22
                                    have H' := Aside0.mk H
                                    clear H
                                    go_wp2
                                    go_meet
                                    case rel => exact ⟨_, ((a0.toList == ([103, 101, 116] : List UInt8))), (by first | rfl | (simp; done) | (simp [*]; done)), H', ⟨by first | omega | exact Nat.le_refl _⟩, ⟨by repeat (first | (with_reducible first | exact HB.out | apply below_alloc | apply pw_below_drewN | apply below_drew1) | exact HB.out)⟩⟩
    case rest =>
      clear HC6
      try clear c1
      try clear c2
      try clear p2
      try clear c3
      try clear c6
      try clear c8
      try clear c8b0
      try clear c8b1
      try clear c9
      try clear c9b0
      try clear c9b1
      try clear c10
      try clear c10b0
      try clear c10b1
      try clear c11
      try clear c11b0
      try clear c11b1
      try clear c12
      try clear c12b0
      try clear c12b1
      try clear c13
      try clear c13b0
      try clear c13b1
      try clear c14
      try clear c14b0
      try clear c14b1
      try clear c15
      try clear c15b0
      try clear c15b1
      try clear c16
      try clear c16b0
      try clear c16b1
      try clear c17
      try clear c17b0
      try clear c17b1
      try clear c18
      try clear c18b0
      try clear c18b1
      try clear c19
      try clear c19b0
      try clear c19b1
      try clear c20
      try clear c20b0
      try clear c20b1
      try clear c21
      try clear c21b0
      try clear c21b1
      try clear c22
      try clear c22b0
      try clear c22b1
      obtain ⟨kq, x19_5, rfl, HA, HJ5, HB⟩ := hcut
      cases kq with
      | zero => exact absurd HA.out (by simp [quireref08_Prim.j0])
      | succ kj5 =>
        have H := HA.out
        clear HA
        simp only [quireref08_Prim.j0] at H
        by_cases c23 : x19_5 = true
        · subst c23
          have H1 : (some (1, 1, true)) = some (r1, r2, r3) := by rw [if_pos rfl] at H; exact H
          clear H
          have H := H1
          clear H1
          simp only [Option.some.injEq, Prod.mk.injEq] at H
          obtain ⟨rfl, rfl, rfl⟩ := H
          go_wp2
          go_ret3
          exact ⟨by first | rfl | (simp [errW_none, errW_some] <;> rfl) | (simp [*, errW_none, errW_some] <;> rfl), by repeat (first | (with_reducible first | exact HB.out | apply below_alloc | apply pw_below_drewN | apply below_drew1) | exact HB.out)⟩
        · replace c23 := Bool.eq_false_iff.mpr c23
          subst c23
          have H1 : (if a0.toList = ([43] : List UInt8) then (quireref08_Prim.j1 kj5 a0 (a0.toList == ([43] : List UInt8))) else (if a0.toList = ([45] : List UInt8) then (quireref08_Prim.j1 kj5 a0 (a0.toList == ([45] : List UInt8))) else (if a0.toList = ([42] : List UInt8) then (quireref08_Prim.j1 kj5 a0 (a0.toList == ([42] : List UInt8))) else (if a0.toList = ([47] : List UInt8) then (quireref08_Prim.j1 kj5 a0 (a0.toList == ([47] : List UInt8))) else (if a0.toList = ([109, 111, 100] : List UInt8) then (quireref08_Prim.j1 kj5 a0 (a0.toList == ([109, 111, 100] : List UInt8))) else (if a0.toList = ([109, 105, 110] : List UInt8) then (quireref08_Prim.j1 kj5 a0 (a0.toList == ([109, 105, 110] : List UInt8))) else (if a0.toList = ([109, 97, 120] : List UInt8) then (quireref08_Prim.j1 kj5 a0 (a0.toList == ([109, 97, 120] : List UInt8))) else (if a0.toList = ([60] : List UInt8) then (quireref08_Prim.j1 kj5 a0 (a0.toList == ([60] : List UInt8))) else (if a0.toList = ([62] : List UInt8) then (quireref08_Prim.j1 kj5 a0 (a0.toList == ([62] : List UInt8))) else (if a0.toList = ([61] : List UInt8) then (quireref08_Prim.j1 kj5 a0 (a0.toList == ([61] : List UInt8))) else (if a0.toList = ([97, 110, 100] : List UInt8) then (quireref08_Prim.j1 kj5 a0 (a0.toList == ([97, 110, 100] : List UInt8))) else (if a0.toList = ([111, 114] : List UInt8) then (quireref08_Prim.j1 kj5 a0 (a0.toList == ([111, 114] : List UInt8))) else (if a0.toList = ([97, 112, 112, 101, 110, 100] : List UInt8) then (quireref08_Prim.j1 kj5 a0 (a0.toList == ([97, 112, 112, 101, 110, 100] : List UInt8))) else (if a0.toList = ([110, 116, 104] : List UInt8) then (quireref08_Prim.j1 kj5 a0 (a0.toList == ([110, 116, 104] : List UInt8))) else (if a0.toList = ([112, 97, 105, 114] : List UInt8) then (quireref08_Prim.j1 kj5 a0 (a0.toList == ([112, 97, 105, 114] : List UInt8))) else (if a0.toList = ([99, 117, 114, 114, 121] : List UInt8) then (quireref08_Prim.j1 kj5 a0 (a0.toList == ([99, 117, 114, 114, 121] : List UInt8))) else (quireref08_Prim.j1 kj5 a0 (a0.toList == ([99, 111, 109, 112, 111, 115, 101] : List UInt8))))))))))))))))))) = some (r1, r2, r3) := by rw [if_neg (show ¬ (false = true) by decide)] at H; exact H
          clear H
          have H := H1
          clear H1
          have HC24 := Aside0.mk H
          clear H
          go_upto_if 36 with (fail)
          go_cut [36] (fun v36 wc => ∃ (kq : Nat) (x36_23 : Bool), v36 = .bool x36_23 ∧ Aside0 (quireref08_Prim.j1 kq a0 x36_23 = some (r1, r2, r3)) ∧ Aside0 (kq ≤ kj5) ∧ Aside0 (Below w.heap.size w wc))
          case first =>
            have H := HC24.out
            clear HC24
            by_cases c25 : a0.toList = ([43] : List UInt8)
            · rw [if_pos c25] at H
              have c25b0 : (a0.toList == ([43] : List UInt8)) = true := beq_iff_eq.mpr c25
              have c25b1 : (a0.toList != ([43] : List UInt8)) = false := bne_eq_false_iff_eq.mpr c25
              clear c25
              (first | rw [c25b0] | (simp only [i64_w, i32_w]; rw [c25b0]) | skip)
              have H' := Aside0.mk H
              clear H
              go_wp2
              go_meet
              case rel => exact ⟨_, ((a0.toList == ([43] : List UInt8))), (by first | rfl | (simp; done) | (simp [*]; done)), H', ⟨by have := HJ5.out; first | omega | exact Nat.le_refl _⟩, ⟨by repeat (first | (with_reducible first | exact HB.out | apply below_alloc | apply pw_below_drewN | apply below_drew1) | exact HB.out)⟩⟩
            · rw [if_neg c25] at H
              have c25b0 : (a0.toList == ([43] : List UInt8)) = false := beq_eq_false_iff_ne.mpr c25
              have c25b1 : (a0.toList != ([43] : List UInt8)) = true := bne_iff_ne.mpr c25
              (first | rw [c25b0] | (simp only [i64_w, i32_w]; rw [c25b0]) | skip)
              by_cases c26 : a0.toList = ([45] : List UInt8)
              · rw [if_pos c26] at H
                have c26b0 : (a0.toList == ([45] : List UInt8)) = true := beq_iff_eq.mpr c26
                have c26b1 : (a0.toList != ([45] : List UInt8)) = false := bne_eq_false_iff_eq.mpr c26
                clear c26
                have H' := Aside0.mk H
                clear H
                go_wp2
                go_meet
                case rel => exact ⟨_, ((a0.toList == ([45] : List UInt8))), (by first | rfl | (simp; done) | (simp [*]; done)), H', ⟨by have := HJ5.out; first | omega | exact Nat.le_refl _⟩, ⟨by repeat (first | (with_reducible first | exact HB.out | apply below_alloc | apply pw_below_drewN | apply below_drew1) | exact HB.out)⟩⟩
              · rw [if_neg c26] at H
                have c26b0 : (a0.toList == ([45] : List UInt8)) = false := beq_eq_false_iff_ne.mpr c26
                have c26b1 : (a0.toList != ([45] : List UInt8)) = true := bne_iff_ne.mpr c26
                by_cases c27 : a0.toList = ([42] : List UInt8)
                · rw [if_pos c27] at H
                  have c27b0 : (a0.toList == ([42] : List UInt8)) = true := beq_iff_eq.mpr c27
                  have c27b1 : (a0.toList != ([42] : List UInt8)) = false := bne_eq_false_iff_eq.mpr c27
                  clear c27
                  have H' := Aside0.mk H
                  clear H
                  go_wp2
                  go_meet
                  case rel => exact ⟨_, ((a0.toList == ([42] : List UInt8))), (by first | rfl | (simp; done) | (simp [*]; done)), H', ⟨by have := HJ5.out; first | omega | exact Nat.le_refl _⟩, ⟨by repeat (first | (with_reducible first | exact HB.out | apply below_alloc | apply pw_below_drewN | apply below_drew1) | exact HB.out)⟩⟩
                · rw [if_neg c27] at H
                  have c27b0 : (a0.toList == ([42] : List UInt8)) = false := beq_eq_false_iff_ne.mpr c27
                  have c27b1 : (a0.toList != ([42] : List UInt8)) = true := bne_iff_ne.mpr c27
                  by_cases c28 : a0.toList = ([47] : List UInt8)
                  · rw [if_pos c28] at H
                    have c28b0 : (a0.toList == ([47] : List UInt8)) = true := beq_iff_eq.mpr c28
                    have c28b1 : (a0.toList != ([47] : List UInt8)) = false := bne_eq_false_iff_eq.mpr c28
                    clear c28
                    have H' := Aside0.mk H
                    clear H
                    go_wp2
                    go_meet
                    case rel => exact ⟨_, ((a0.toList == ([47] : List UInt8))), (by first | rfl | (simp; done) | (simp [*]; done)), H', ⟨by have := HJ5.out; first | omega | exact Nat.le_refl _⟩, ⟨by repeat (first | (with_reducible first | exact HB.out | apply below_alloc | apply pw_below_drewN | apply below_drew1) | exact HB.out)⟩⟩
                  · rw [if_neg c28] at H
                    have c28b0 : (a0.toList == ([47] : List UInt8)) = false := beq_eq_false_iff_ne.mpr c28
                    have c28b1 : (a0.toList != ([47] : List UInt8)) = true := bne_iff_ne.mpr c28
                    by_cases c29 : a0.toList = ([109, 111, 100] : List UInt8)
                    · rw [if_pos c29] at H
                      have c29b0 : (a0.toList == ([109, 111, 100] : List UInt8)) = true := beq_iff_eq.mpr c29
                      have c29b1 : (a0.toList != ([109, 111, 100] : List UInt8)) = false := bne_eq_false_iff_eq.mpr c29
                      clear c29
                      have H' := Aside0.mk H
                      clear H
                      go_wp2
                      go_meet
                      case rel => exact ⟨_, ((a0.toList == ([109, 111, 100] : List UInt8))), (by first | rfl | (simp; done) | (simp [*]; done)), H', ⟨by have := HJ5.out; first | omega | exact Nat.le_refl _⟩, ⟨by repeat (first | (with_reducible first | exact HB.out | apply below_alloc | apply pw_below_drewN | apply below_drew1) | exact HB.out)⟩⟩
                    · rw [if_neg c29] at H
                      have c29b0 : (a0.toList == ([109, 111, 100] : List UInt8)) = false := beq_eq_false_iff_ne.mpr c29
                      have c29b1 : (a0.toList != ([109, 111, 100] : List UInt8)) = true := bne_iff_ne.mpr c29
                      by_cases c30 : a0.toList = ([109, 105, 110] : List UInt8)
                      · rw [if_pos c30] at H
                        have c30b0 : (a0.toList == ([109, 105, 110] : List UInt8)) = true := beq_iff_eq.mpr c30
                        have c30b1 : (a0.toList != ([109, 105, 110] : List UInt8)) = false := bne_eq_false_iff_eq.mpr c30
                        clear c30
                        have H' := Aside0.mk H
                        clear H
                        go_wp2
                        go_meet
                        case rel => exact ⟨_, ((a0.toList == ([109, 105, 110] : List UInt8))), (by first | rfl | (simp; done) | (simp [*]; done)), H', ⟨by have := HJ5.out; first | omega | exact Nat.le_refl _⟩, ⟨by repeat (first | (with_reducible first | exact HB.out | apply below_alloc | apply pw_below_drewN | apply below_drew1) | exact HB.out)⟩⟩
                      · rw [if_neg c30] at H
                        have c30b0 : (a0.toList == ([109, 105, 110] : List UInt8)) = false := beq_eq_false_iff_ne.mpr c30
                        have c30b1 : (a0.toList != ([109, 105, 110] : List UInt8)) = true := bne_iff_ne.mpr c30
                        by_cases c31 : a0.toList = ([109, 97, 120] : List UInt8)
                        · rw [if_pos c31] at H
                          have c31b0 : (a0.toList == ([109, 97, 120] : List UInt8)) = true := beq_iff_eq.mpr c31
                          have c31b1 : (a0.toList != ([109, 97, 120] : List UInt8)) = false := bne_eq_false_iff_eq.mpr c31
                          clear c31
                          have H' := Aside0.mk H
                          clear H
                          go_wp2
                          go_meet
                          case rel => exact ⟨_, ((a0.toList == ([109, 97, 120] : List UInt8))), (by first | rfl | (simp; done) | (simp [*]; done)), H', ⟨by have := HJ5.out; first | omega | exact Nat.le_refl _⟩, ⟨by repeat (first | (with_reducible first | exact HB.out | apply below_alloc | apply pw_below_drewN | apply below_drew1) | exact HB.out)⟩⟩
                        · rw [if_neg c31] at H
                          have c31b0 : (a0.toList == ([109, 97, 120] : List UInt8)) = false := beq_eq_false_iff_ne.mpr c31
                          have c31b1 : (a0.toList != ([109, 97, 120] : List UInt8)) = true := bne_iff_ne.mpr c31
                          by_cases c32 : a0.toList = ([60] : List UInt8)
                          · rw [if_pos c32] at H
                            have c32b0 : (a0.toList == ([60] : List UInt8)) = true := beq_iff_eq.mpr c32
                            have c32b1 : (a0.toList != ([60] : List UInt8)) = false := bne_eq_false_iff_eq.mpr c32
                            clear c32
                            have H' := Aside0.mk H
                            clear H
                            go_wp2
                            go_meet
                            case rel => exact ⟨_, ((a0.toList == ([60] : List UInt8))), (by first | rfl | (simp; done) | (simp [*]; done)), H', ⟨by have := HJ5.out; first | omega | exact Nat.le_refl _⟩, ⟨by repeat (first | (with_reducible first | exact HB.out | apply below_alloc | apply pw_below_drewN | apply below_drew1) | exact HB.out)⟩⟩
                          · rw [if_neg c32] at H
                            have c32b0 : (a0.toList == ([60] : List UInt8)) = false := beq_eq_false_iff_ne.mpr c32
                            have c32b1 : (a0.toList != ([60] : List UInt8)) = true := bne_iff_ne.mpr c32
                            by_cases c33 : a0.toList = ([62] : List UInt8)
                            · rw [if_pos c33] at H
                              have c33b0 : (a0.toList == ([62] : List UInt8)) = true := beq_iff_eq.mpr c33
                              have c33b1 : (a0.toList != ([62] : List UInt8)) = false := bne_eq_false_iff_eq.mpr c33
                              clear c33
                              have H' := Aside0.mk H
                              clear H
                              go_wp2
                              go_meet
                              case rel => exact ⟨_, ((a0.toList == ([62] : List UInt8))), (by first | rfl | (simp; done) | (simp [*]; done)), H', ⟨by have := HJ5.out; first | omega | exact Nat.le_refl _⟩, ⟨by repeat (first | (with_reducible first | exact HB.out | apply below_alloc | apply pw_below_drewN | apply below_drew1) | exact HB.out)⟩⟩
                            · rw [if_neg c33] at H
                              have c33b0 : (a0.toList == ([62] : List UInt8)) = false := beq_eq_false_iff_ne.mpr c33
                              have c33b1 : (a0.toList != ([62] : List UInt8)) = true := bne_iff_ne.mpr c33
                              by_cases c34 : a0.toList = ([61] : List UInt8)
                              · rw [if_pos c34] at H
                                have c34b0 : (a0.toList == ([61] : List UInt8)) = true := beq_iff_eq.mpr c34
                                have c34b1 : (a0.toList != ([61] : List UInt8)) = false := bne_eq_false_iff_eq.mpr c34
                                clear c34
                                have H' := Aside0.mk H
                                clear H
                                go_wp2
                                go_meet
                                case rel => exact ⟨_, ((a0.toList == ([61] : List UInt8))), (by first | rfl | (simp; done) | (simp [*]; done)), H', ⟨by have := HJ5.out; first | omega | exact Nat.le_refl _⟩, ⟨by repeat (first | (with_reducible first | exact HB.out | apply below_alloc | apply pw_below_drewN | apply below_drew1) | exact HB.out)⟩⟩
                              · rw [if_neg c34] at H
                                have c34b0 : (a0.toList == ([61] : List UInt8)) = false := beq_eq_false_iff_ne.mpr c34
                                have c34b1 : (a0.toList != ([61] : List UInt8)) = true := bne_iff_ne.mpr c34
                                by_cases c35 : a0.toList = ([97, 110, 100] : List UInt8)
                                · rw [if_pos c35] at H
                                  have c35b0 : (a0.toList == ([97, 110, 100] : List UInt8)) = true := beq_iff_eq.mpr c35
                                  have c35b1 : (a0.toList != ([97, 110, 100] : List UInt8)) = false := bne_eq_false_iff_eq.mpr c35
                                  clear c35
                                  have H' := Aside0.mk H
                                  clear H
                                  go_wp2
                                  go_meet
                                  case rel => exact ⟨_, ((a0.toList == ([97, 110, 100] : List UInt8))), (by first | rfl | (simp; done) | (simp [*]; done)), H', ⟨by have := HJ5.out; first | omega | exact Nat.le_refl _⟩, ⟨by repeat (first | (with_reducible first | exact HB.out | apply below_alloc | apply pw_below_drewN | apply below_drew1) | exact HB.out)⟩⟩
                                · rw [if_neg c35] at H
                                  have c35b0 : (a0.toList == ([97, 110, 100] : List UInt8)) = false := beq_eq_false_iff_ne.mpr c35
                                  have c35b1 : (a0.toList != ([97, 110, 100] : List UInt8)) = true := bne_iff_ne.mpr c35
                                  by_cases c36 : a0.toList = ([111, 114] : List UInt8)
                                  · rw [if_pos c36] at H
                                    have c36b0 : (a0.toList == ([111, 114] : List UInt8)) = true := beq_iff_eq.mpr c36
                                    have c36b1 : (a0.toList != ([111, 114] : List UInt8)) = false := bne_eq_false_iff_eq.mpr c36
                                    clear c36
                                    have H' := Aside0.mk H
                                    clear H
                                    go_wp2
                                    go_meet
                                    case rel => exact ⟨_, ((a0.toList == ([111, 114] : List UInt8))), (by first | rfl | (simp; done) | (simp [*]; done)), H', ⟨by have := HJ5.out; first | omega | exact Nat.le_refl _⟩, ⟨by repeat (first | (with_reducible first | exact HB.out | apply below_alloc | apply pw_below_drewN | apply below_drew1) | exact HB.out)⟩⟩
                                  · rw [if_neg c36] at H
                                    have c36b0 : (a0.toList == ([111, 114] : List UInt8)) = false := beq_eq_false_iff_ne.mpr c36
                                    have c36b1 : (a0.toList != ([111, 114] : List UInt8)) = true := bne_iff_ne.mpr c36
                                    by_cases c37 : a0.toList = ([97, 112, 112, 101, 110, 100] : List UInt8)
                                    · rw [if_pos c37] at H
                                      have c37b0 : (a0.toList == ([97, 112, 112, 101, 110, 100] : List UInt8)) = true := beq_iff_eq.mpr c37
                                      have c37b1 : (a0.toList != ([97, 112, 112, 101, 110, 100] : List UInt8)) = false := bne_eq_false_iff_eq.mpr c37
                                      clear c37
                                      have H' := Aside0.mk H
                                      clear H
                                      go_wp2
                                      go_meet
                                      case rel => exact ⟨_, ((a0.toList == ([97, 112, 112, 101, 110, 100] : List UInt8))), (by first | rfl | (simp; done) | (simp [*]; done)), H', ⟨by have := HJ5.out; first | omega | exact Nat.le_refl _⟩, ⟨by repeat (first | (with_reducible first | exact HB.out | apply below_alloc | apply pw_below_drewN | apply below_drew1) | exact HB.out)⟩⟩
                                    · rw [if_neg c37] at H
                                      have c37b0 : (a0.toList == ([97, 112, 112, 101, 110, 100] : List UInt8)) = false := beq_eq_false_iff_ne.mpr c37
                                      have c37b1 : (a0.toList != ([97, 112, 112, 101, 110, 100] : List UInt8)) = true := bne_iff_ne.mpr c37
                                      by_cases c38 : a0.toList = ([110, 116, 104] : List UInt8)
                                      · rw [if_pos c38] at H
                                        have c38b0 : (a0.toList == ([110, 116, 104] : List UInt8)) = true := beq_iff_eq.mpr c38
                                        have c38b1 : (a0.toList != ([110, 116, 104] : List UInt8)) = false := bne_eq_false_iff_eq.mpr c38
                                        clear c38
                                        have H' := Aside0.mk H
                                        clear H
                                        go_wp2
                                        go_meet
                                        case rel => exact ⟨_, ((a0.toList == ([110, 116, 104] : List UInt8))), (by first | rfl | (simp; done) | (simp [*]; done)), H', ⟨by have := HJ5.out; first | omega | exact Nat.le_refl _⟩, ⟨by repeat (first | (with_reducible first | exact HB.out | apply below_alloc | apply pw_below_drewN | apply below_drew1) | exact HB.out)⟩⟩
                                      · rw [if_neg c38] at H
                                        have c38b0 : (a0.toList == ([110, 116, 104] : List UInt8)) = false := beq_eq_false_iff_ne.mpr c38
                                        have c38b1 : (a0.toList != ([110, 116, 104] : List UInt8)) = true := bne_iff_ne.mpr c38
                                        by_cases c39 : a0.toList = ([112, 97, 105, 114] : List UInt8)
                                        · rw [if_pos c39] at H
                                          have c39b0 : (a0.toList == ([112, 97, 105, 114] : List UInt8)) = true := beq_iff_eq.mpr c39
                                          have c39b1 : (a0.toList != ([112, 97, 105, 114] : List UInt8)) = false := bne_eq_false_iff_eq.mpr c39
                                          clear c39
                                          have H' := Aside0.mk H
                                          clear H
                                          go_wp2
                                          go_meet
                                          case rel => exact ⟨_, ((a0.toList == ([112, 97, 105, 114] : List UInt8))), (by first | rfl | (simp; done) | (simp [*]; done)), H', ⟨by have := HJ5.out; first | omega | exact Nat.le_refl _⟩, ⟨by repeat (first | (with_reducible first | exact HB.out | apply below_alloc | apply pw_below_drewN | apply below_drew1) | exact HB.out)⟩⟩
                                        · rw [if_neg c39] at H
                                          have c39b0 : (a0.toList == ([112, 97, 105, 114] : List UInt8)) = false := beq_eq_false_iff_ne.mpr c39
                                          have c39b1 : (a0.toList != ([112, 97, 105, 114] : List UInt8)) = true := bne_iff_ne.mpr c39
                                          by_cases c40 : a0.toList = ([99, 117, 114, 114, 121] : List UInt8)
                                          · rw [if_pos c40] at H
                                            have c40b0 : (a0.toList == ([99, 117, 114, 114, 121] : List UInt8)) = true := beq_iff_eq.mpr c40
                                            have c40b1 : (a0.toList != ([99, 117, 114, 114, 121] : List UInt8)) = false := bne_eq_false_iff_eq.mpr c40
                                            clear c40
                                            have H' := Aside0.mk H
                                            clear H
                                            go_wp2
                                            go_meet
                                            case rel => exact ⟨_, ((a0.toList == ([99, 117, 114, 114, 121] : List UInt8))), (by first | rfl | (simp; done) | (simp [*]; done)), H', ⟨by have := HJ5.out; first | omega | exact Nat.le_refl _⟩, ⟨by repeat (first | (with_reducible first | exact HB.out | apply below_alloc | apply pw_below_drewN | apply below_drew1) | exact HB.out)⟩⟩
                                          · rw [if_neg c40] at H
                                            have c40b0 : (a0.toList == ([99, 117, 114, 114, 121] : List UInt8)) = false := beq_eq_false_iff_ne.mpr c40
                                            have c40b1 : (a0.toList != ([99, 117, 114, 114, 121] : List UInt8)) = true := bne_iff_ne.mpr c40
                                            have H' := Aside0.mk H
                                            clear H
                                            go_wp2
                                            go_meet
                                            case rel => exact ⟨_, ((a0.toList == ([99, 111, 109, 112, 111, 115, 101] : List UInt8))), (by first | rfl | (simp; done) | (simp [*]; done)), H', ⟨by have := HJ5.out; first | omega | exact Nat.le_refl _⟩, ⟨by repeat (first | (with_reducible first | exact HB.out | apply below_alloc | apply pw_below_drewN | apply below_drew1) | exact HB.out)⟩⟩
          case rest =>
            clear HC24
            try clear c1
            try clear c2
            try clear p2
            try clear c3
            try clear c4
            try clear c6
            try clear c8
            try clear c8b0
            try clear c8b1
            try clear c9
            try clear c9b0
            try clear c9b1
            try clear c10
            try clear c10b0
            try clear c10b1
            try clear c11
            try clear c11b0
            try clear c11b1
            try clear c12
            try clear c12b0
            try clear c12b1
            try clear c13
            try clear c13b0
            try clear c13b1
            try clear c14
            try clear c14b0
            try clear c14b1
            try clear c15
            try clear c15b0
            try clear c15b1
            try clear c16
            try clear c16b0
            try clear c16b1
            try clear c17
            try clear c17b0
            try clear c17b1
            try clear c18
            try clear c18b0
            try clear c18b1
            try clear c19
            try clear c19b0
            try clear c19b1
            try clear c20
            try clear c20b0
            try clear c20b1
            try clear c21
            try clear c21b0
            try clear c21b1
            try clear c22
            try clear c22b0
            try clear c22b1
            try clear c23
            try clear c25
            try clear c25b0
            try clear c25b1
            try clear c26
            try clear c26b0
            try clear c26b1
            try clear c27
            try clear c27b0
            try clear c27b1
            try clear c28
            try clear c28b0
            try clear c28b1
            try clear c29
            try clear c29b0
            try clear c29b1
            try clear c30
            try clear c30b0
            try clear c30b1
            try clear c31
            try clear c31b0
            try clear c31b1
            try clear c32
            try clear c32b0
            try clear c32b1
            try clear c33
            try clear c33b0
            try clear c33b1
            try clear c34
            try clear c34b0
            try clear c34b1
            try clear c35
            try clear c35b0
            try clear c35b1
            try clear c36
            try clear c36b0
            try clear c36b1
            try clear c37
            try clear c37b0
            try clear c37b1
            try clear c38
            try clear c38b0
            try clear c38b1
            try clear c39
            try clear c39b0
            try clear c39b1
            try clear c40
            try clear c40b0
            try clear c40b1
            try clear p2
            obtain ⟨kq, x36_23, rfl, HA, HJ23, HB⟩ := hcut
            cases kq with
            | zero => exact absurd HA.out (by simp [quireref08_Prim.j1])
            | succ kj23 =>
              have H := HA.out
              clear HA
              simp only [quireref08_Prim.j1] at H
              by_cases c41 : x36_23 = true
              · subst c41
                have H1 : (some (2, 1, true)) = some (r1, r2, r3) := by rw [if_pos rfl] at H; exact H
                clear H
                have H := H1
                clear H1
                simp only [Option.some.injEq, Prod.mk.injEq] at H
                obtain ⟨rfl, rfl, rfl⟩ := H
                go_wp2
                go_ret3
                exact ⟨by first | rfl | (simp [errW_none, errW_some] <;> rfl) | (simp [*, errW_none, errW_some] <;> rfl), by repeat (first | (with_reducible first | exact HB.out | apply below_alloc | apply pw_below_drewN | apply below_drew1) | exact HB.out)⟩
              · replace c41 := Bool.eq_false_iff.mpr c41
                subst c41
                have H1 : (if a0.toList = ([115, 108, 105, 99, 101] : List UInt8) then (some (3, 1, true)) else (if a0.toList = ([117, 110, 112, 97, 105, 114] : List UInt8) then (some (1, 2, true)) else (if a0.toList = ([112, 117, 116] : List UInt8) then (some (2, 0, true)) else (if a0.toList = ([46] : List UInt8) then (some (1, 0, true)) else (some (0, 0, false)))))) = some (r1, r2, r3) := by rw [if_neg (show ¬ (false = true) by decide)] at H; exact H
                clear H
                have H := H1
                clear H1
                by_cases c42 : a0.toList = ([115, 108, 105, 99, 101] : List UInt8)
                · rw [if_pos c42] at H
                  have c42b0 : (a0.toList == ([115, 108, 105, 99, 101] : List UInt8)) = true := beq_iff_eq.mpr c42
                  have c42b1 : (a0.toList != ([115, 108, 105, 99, 101] : List UInt8)) = false := bne_eq_false_iff_eq.mpr c42
                  clear c42
                  simp only [Option.some.injEq, Prod.mk.injEq] at H
                  obtain ⟨rfl, rfl, rfl⟩ := H
                  go_wp2
                  go_ret3
                  exact ⟨by first | rfl | (simp [errW_none, errW_some] <;> rfl) | (simp [*, errW_none, errW_some] <;> rfl), by repeat (first | (with_reducible first | exact HB.out | apply below_alloc | apply pw_below_drewN | apply below_drew1) | exact HB.out)⟩
                · rw [if_neg c42] at H
                  have c42b0 : (a0.toList == ([115, 108, 105, 99, 101] : List UInt8)) = false := beq_eq_false_iff_ne.mpr c42
                  have c42b1 : (a0.toList != ([115, 108, 105, 99, 101] : List UInt8)) = true := bne_iff_ne.mpr c42
                  by_cases c43 : a0.toList = ([117, 110, 112, 97, 105, 114] : List UInt8)
                  · rw [if_pos c43] at H
                    have c43b0 : (a0.toList == ([117, 110, 112, 97, 105, 114] : List UInt8)) = true := beq_iff_eq.mpr c43
                    have c43b1 : (a0.toList != ([117, 110, 112, 97, 105, 114] : List UInt8)) = false := bne_eq_false_iff_eq.mpr c43
                    clear c43
                    simp only [Option.some.injEq, Prod.mk.injEq] at H
                    obtain ⟨rfl, rfl, rfl⟩ := H
                    go_wp2
                    go_ret3
                    exact ⟨by first | rfl | (simp [errW_none, errW_some] <;> rfl) | (simp [*, errW_none, errW_some] <;> rfl), by repeat (first | (with_reducible first | exact HB.out | apply below_alloc | apply pw_below_drewN | apply below_drew1) | exact HB.out)⟩
                  · rw [if_neg c43] at H
                    have c43b0 : (a0.toList == ([117, 110, 112, 97, 105, 114] : List UInt8)) = false := beq_eq_false_iff_ne.mpr c43
                    have c43b1 : (a0.toList != ([117, 110, 112, 97, 105, 114] : List UInt8)) = true := bne_iff_ne.mpr c43
                    by_cases c44 : a0.toList = ([112, 117, 116] : List UInt8)
                    · rw [if_pos c44] at H
                      have c44b0 : (a0.toList == ([112, 117, 116] : List UInt8)) = true := beq_iff_eq.mpr c44
                      have c44b1 : (a0.toList != ([112, 117, 116] : List UInt8)) = false := bne_eq_false_iff_eq.mpr c44
                      clear c44
                      simp only [Option.some.injEq, Prod.mk.injEq] at H
                      obtain ⟨rfl, rfl, rfl⟩ := H
                      go_wp2
                      go_ret3
                      exact ⟨by first | rfl | (simp [errW_none, errW_some] <;> rfl) | (simp [*, errW_none, errW_some] <;> rfl), by repeat (first | (with_reducible first | exact HB.out | apply below_alloc | apply pw_below_drewN | apply below_drew1) | exact HB.out)⟩
                    · rw [if_neg c44] at H
                      have c44b0 : (a0.toList == ([112, 117, 116] : List UInt8)) = false := beq_eq_false_iff_ne.mpr c44
                      have c44b1 : (a0.toList != ([112, 117, 116] : List UInt8)) = true := bne_iff_ne.mpr c44
                      by_cases c45 : a0.toList = ([46] : List UInt8)
                      · rw [if_pos c45] at H
                        have c45b0 : (a0.toList == ([46] : List UInt8)) = true := beq_iff_eq.mpr c45
                        have c45b1 : (a0.toList != ([46] : List UInt8)) = false := bne_eq_false_iff_eq.mpr c45
                        clear c45
                        simp only [Option.some.injEq, Prod.mk.injEq] at H
                        obtain ⟨rfl, rfl, rfl⟩ := H
                        go_wp2
                        go_ret3
                        exact ⟨by first | rfl | (simp [errW_none, errW_some] <;> rfl) | (simp [*, errW_none, errW_some] <;> rfl), by repeat (first | (with_reducible first | exact HB.out | apply below_alloc | apply pw_below_drewN | apply below_drew1) | exact HB.out)⟩
                      · rw [if_neg c45] at H
                        have c45b0 : (a0.toList == ([46] : List UInt8)) = false := beq_eq_false_iff_ne.mpr c45
                        have c45b1 : (a0.toList != ([46] : List UInt8)) = true := bne_iff_ne.mpr c45
                        simp only [Option.some.injEq, Prod.mk.injEq] at H
                        obtain ⟨rfl, rfl, rfl⟩ := H
                        go_wp2
                        go_ret3
                        exact ⟨by first | rfl | (simp [errW_none, errW_some] <;> rfl) | (simp [*, errW_none, errW_some] <;> rfl), by repeat (first | (with_reducible first | exact HB.out | apply below_alloc | apply pw_below_drewN | apply below_drew1) | exact HB.out)⟩

/-! ### effect_fits: function 12 -/
def effect_fits.f (a0_0 : Int) (a0_1 : Int) : Option (Bool) := if (mn a0_0 a0_1) ≥ 0 then (some (decide ((mx a0_0 a0_1) ≤ 16))) else (some false)
set_option maxHeartbeats 8000000 in
set_option maxRecDepth 100000 in
theorem effect_fits.calls (a0_0 : Int) (a0_1 : Int) (r : Bool) (w : World) (h : effect_fits.f a0_0 a0_1 = some r) :
    Calls Tryd.prog 12 #[.agg #[.int .i64 a0_0, .int .i64 a0_1]] w fun e w' => e = .returned (.bool r) ∧ Below w.heap.size w w' := by
  have hu23 := Tryd.underlying23
  have HB := Aside0.mk (Below.refl w.heap.size w)
  have H : (if (mn a0_0 a0_1) ≥ 0 then (some (decide ((mx a0_0 a0_1) ≤ 16))) else (some false)) = some r := h
  clear h
  obtain ⟨ji2, hji2⟩ : ∃ j_ : Int, (mn a0_0 a0_1) = j_ := ⟨_, rfl⟩
  replace H : (if (ji2) ≥ 0 then (some (decide ((mx a0_0 a0_1) ≤ 16))) else (some false)) = some r := by first | (rw [hji2] at H; exact H) | (simp only [hji2] at H ⊢; exact H)
  have hji2_ : (if a0_1 < a0_0 then a0_1 else a0_0) = ji2 := hji2
  by_cases c3 : (ji2) ≥ 0
  · rw [if_pos c3] at H
    have c3b0 : decide (0 ≤ (ji2)) = true := decide_eq_true c3
    clear c3
    obtain ⟨ji4, hji4⟩ : ∃ j_ : Int, (mx a0_0 a0_1) = j_ := ⟨_, rfl⟩
    replace H : (some (decide ((ji4) ≤ 16))) = some r := by first | (rw [hji4] at H; exact H) | (simp only [hji4] at H ⊢; exact H)
    have hji4_ : (if a0_0 < a0_1 then a0_1 else a0_0) = ji4 := hji4
    obtain rfl := Option.some.inj H
    go_enter Tryd.func12, Tryd.ntmps12
    go_wp2_with (first | ((with_reducible refine gate_dst (N := 1) rfl ?_); (try (refine gate_guard (by rfl) ?_; dsimp only)); refine box_event ?hg (N := 1) ?hd (cs := #[.int .i64 a0_0, .int .i64 a0_1]) (t := 23) ?hr ?_; (case hd => rfl); (case hg => rfl); (case hr => first | (go_simp; done) | (go_simp; rfl)); intro gb124 hg w5 hbox hb; have n0_ := Aside0.mk (below_step (by repeat (first | (with_reducible first | exact HB.out | apply below_alloc | apply pw_below_drewN | apply below_drew1) | exact HB.out)) hb); have n1_ := Aside0.mk (hbox); have n2_ := Aside0.mk ((by rw [hg]; exact (below_size (by repeat (first | (with_reducible first | exact HB.out | apply below_alloc | apply pw_below_drewN | apply below_drew1) | exact HB.out))) : w.heap.size ≤ gb124)); have n3_ := Aside0.mk ((by rw [hg]; exact (below_size (by repeat (first | (with_reducible first | exact HB.out | apply below_alloc | apply pw_below_drewN | apply below_drew1) | exact HB.out))) : w.heap.size ≤ gb124)); clear HB; have HB := n0_; have BK124 := n1_; have GW124 := n2_; have GE124 := n3_; clear n0_ n1_ n2_ n3_; clear hb hbox hg; have hcz6_0 : w5.cell? ⟨gb124, 0, none⟩ = some (.int .i64 a0_0) := (blk_cell BK124.out 0).trans rfl; have hcz6_1 : w5.cell? ⟨gb124, 1, none⟩ = some (.int .i64 a0_1) := (blk_cell BK124.out 1).trans rfl; have hfz6_0 := blk_frozen BK124.out 0; have hfz6_1 := blk_frozen BK124.out 1))
    go_ret
    exact ⟨by first | rfl | (simp [errW_none, errW_some] <;> rfl) | (simp only [← hji2, ← hji4]; first | rfl | (simp [errW_none, errW_some] <;> rfl)) | (simp [*, errW_none, errW_some] <;> rfl), by repeat (first | (with_reducible first | exact HB.out | apply below_alloc | apply pw_below_drewN | apply below_drew1 | refine below_set ?_ GE124.out) | exact HB.out)⟩
  · rw [if_neg c3] at H
    have c3b0 : decide (0 ≤ (ji2)) = false := decide_eq_false c3
    clear c3
    obtain rfl := Option.some.inj H
    go_enter Tryd.func12, Tryd.ntmps12
    go_wp2_with (first | ((with_reducible refine gate_dst (N := 1) rfl ?_); (try (refine gate_guard (by rfl) ?_; dsimp only)); refine box_event ?hg (N := 1) ?hd (cs := #[.int .i64 a0_0, .int .i64 a0_1]) (t := 23) ?hr ?_; (case hd => rfl); (case hg => rfl); (case hr => first | (go_simp; done) | (go_simp; rfl)); intro gb124 hg w7 hbox hb; have n0_ := Aside0.mk (below_step (by repeat (first | (with_reducible first | exact HB.out | apply below_alloc | apply pw_below_drewN | apply below_drew1) | exact HB.out)) hb); have n1_ := Aside0.mk (hbox); have n2_ := Aside0.mk ((by rw [hg]; exact (below_size (by repeat (first | (with_reducible first | exact HB.out | apply below_alloc | apply pw_below_drewN | apply below_drew1) | exact HB.out))) : w.heap.size ≤ gb124)); have n3_ := Aside0.mk ((by rw [hg]; exact (below_size (by repeat (first | (with_reducible first | exact HB.out | apply below_alloc | apply pw_below_drewN | apply below_drew1) | exact HB.out))) : w.heap.size ≤ gb124)); clear HB; have HB := n0_; have BK124 := n1_; have GW124 := n2_; have GE124 := n3_; clear n0_ n1_ n2_ n3_; clear hb hbox hg; have hcz8_0 : w7.cell? ⟨gb124, 0, none⟩ = some (.int .i64 a0_0) := (blk_cell BK124.out 0).trans rfl; have hcz8_1 : w7.cell? ⟨gb124, 1, none⟩ = some (.int .i64 a0_1) := (blk_cell BK124.out 1).trans rfl; have hfz8_0 := blk_frozen BK124.out 0; have hfz8_1 := blk_frozen BK124.out 1))
    go_ret
    exact ⟨by first | rfl | (simp [errW_none, errW_some] <;> rfl) | (simp only [← hji2]; first | rfl | (simp [errW_none, errW_some] <;> rfl)) | (simp [*, errW_none, errW_some] <;> rfl), by repeat (first | (with_reducible first | exact HB.out | apply below_alloc | apply pw_below_drewN | apply below_drew1 | refine below_set ?_ GE124.out) | exact HB.out)⟩

end Go.Proofs.YtbhkkmjifjmpiaaDoor.Q
