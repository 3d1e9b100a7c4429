/- The contract of quireref01.apartBytes: rows that are told apart by their blocks are found apart. -/
import Derived.Test.YtbhiepfejlhbnaaProg
import Derived.Test.YtbhiepfejlhbnaaApartKit
import Derived.WalkKit
import Derived.Deep.LoopGhost
import Derived.Deep.QuietTactic
import Derived.BigQuiet
import Derived.Test.YtbhiepfejlhbnaaWMore
namespace Go.Proofs.Ytbhiepfejlhbnaa.HApart
open Go Go.RowKit Go.Proofs.YtbhiepfejlhbnaaW.PrintWords Go.Proofs.YtbhiepfejlhbnaaW.PrintLast Go.Proofs.YtbhiepfejlhbnaaW.PrintMore Go.Proofs.Ytbhiepfejlhbnaa.ApartKit
set_option linter.unusedVariables false
set_option linter.unusedSimpArgs false

theorem infoB : (Try.prog.info? 5).map (fun i => (i.zero, i.size, i.bytes)) = some (some (.int .u8 0), 1, 1) := by kernel_rfl
theorem infoBS : (Try.prog.info? 23).map (fun i => (i.zero, i.size, i.bytes)) = some (some (.slice none 0 0), 1, 24) := by kernel_rfl

def mkB (r k t : Nat) : Value := if r = 0 then .int .u8 ((k : Int) % 256) else .int .u8 ((k : Int) / 256 % 256)

set_option maxHeartbeats 4000000 in
set_option maxRecDepth 100000 in
theorem apartBytes_holds (w0 w : World) (HB0 : Below w0.heap.size w0 w) (lsv : Value) (VL : List Value) (n : Nat → Nat) (f : Nat → Nat) (hls : w.ownsRow w0.heap.size 23 1 lsv VL.length VL)
    (hfam : Fam w w0.heap.size 5 VL [] n (mkB 0) f) (hlen : VL.length ≤ 10000000) (hn : ∀ k, n k ≤ 1000000000000) :
    Calls Try.prog 32 #[lsv] w fun e w' => e = .returned (.bool true) ∧ Below w0.heap.size w0 w' ∧ Kept w w' (fun b => ∃ v, v ∈ VL ∧ v.ownBlock = some b) := by
  obtain ⟨Als, cls, rfl⟩ := own_val hls
  have HLS := Aside0.mk hls
  have HF := Aside0.mk hfam
  have HB := Aside0.mk HB0
  have HBW := Aside0.mk HB0.size
  have HLSW : Aside0 (∀ b, (Value.slice Als VL.length cls).ownBlock = some b → b < w.heap.size) := ⟨fun b hb => own_lt hls b hb⟩
  have HN := Aside0.mk hn
  clear hls hfam HB0 hn
  go_enter Try.func32, Try.ntmps32
  go_wp2_with fail
  go_loopg [3] 2 (fun kq v3 w' => ∃ (r : Nat) (f0 : Nat → Nat) (ri : Int), v3 = .int .i64 ri ∧ Aside0 (ri = (r : Int)) ∧ Aside0 (r + kq = 2) ∧ Aside0 (Fam w' w0.heap.size 5 VL [] n (mkB 0) f0) ∧
    Aside0 (w'.ownsRow w0.heap.size 23 1 (.slice Als VL.length cls) VL.length VL) ∧ Aside0 (Below w0.heap.size w0 w') ∧ Aside0 (Kept w w' (fun b => ∃ v, v ∈ VL ∧ v.ownBlock = some b)))
  case atStart => exact ⟨0, f, 0, rfl, ⟨rfl⟩, ⟨rfl⟩, HF, HLS, HB, ⟨Kept.refl _ _⟩⟩
  case round =>
    clear HF HLS HB
    obtain ⟨r, f0, ri, rfl, HRI, HR, HF, HLS, HB, HKP⟩ := hrel
    obtain ⟨kr, rfl⟩ : ∃ kr : Nat, kr = gk := ⟨_, rfl⟩
    by_cases hr : r < 2
    · have hfam : Fam wr w0.heap.size 5 VL [] n (mkB r) f0 := ⟨fun k v hv => ⟨by obtain ⟨⟨xs, ho, _⟩, _⟩ := HF.out.V k v hv; exact ⟨xs, ho, fun h => by simp at h⟩, (HF.out.V k v hv).2⟩, fun k g hg => by simp at hg⟩
      have HF2 := Aside0.mk hfam
      clear HF hfam
      have hr' : r = 0 ∨ r = 1 := by omega
      clear hr
      obtain ⟨ws, rfl⟩ : ∃ ws : World, ws = wr := ⟨_, rfl⟩
      rcases hr' with rfl | rfl
      · obtain rfl : ri = 0 := HRI.out
        clear HRI
        go_wp2
        go_loopg [4, 5, 7] VL.length (fun kq v4 v5 v7 w' => ∃ (GL : List Value) (f' : Nat → Nat), v5 = .int .i64 (GL.length : Int) ∧ Aside0 (GL.length + kq = VL.length) ∧
          Aside0 (Fam w' w0.heap.size 5 VL GL n (mkB 0) f') ∧ Aside0 (w'.ownsRow w.heap.size 23 1 v4 GL.length GL) ∧ Aside0 (w'.ownsRow w0.heap.size 23 1 (.slice Als VL.length cls) VL.length VL) ∧ Aside0 (Below w0.heap.size w0 w') ∧
          Aside0 (Kept w w' (fun b => ∃ v, v ∈ VL ∧ v.ownBlock = some b)))
        case atStart => exact ⟨[], f0, rfl, ⟨by simp⟩, HF2, ⟨own_nil _ _ _ _⟩, HLS, HB, HKP⟩
        case round =>
          clear HF2 HLS HB HKP
          obtain ⟨GL, f', rfl, HK, HF, HG, HLS, HB, HKP⟩ := hrel
          obtain ⟨ko, rfl⟩ : ∃ ko : Nat, ko = gk := ⟨_, rfl⟩
          by_cases hlt : GL.length < VL.length
          · obtain ⟨bl, cl, hle, hbl, _⟩ := own_head HLS.out (by omega)
            simp only [Value.slice.injEq] at hle
            obtain ⟨rfl, -, rfl⟩ := hle
            obtain ⟨v, hv⟩ : ∃ v, VL[GL.length]? = some v := ⟨_, List.getElem?_eq_getElem hlt⟩
            obtain ⟨⟨xs, hvo, _⟩, hvf⟩ := HF.out.V _ v hv
            obtain ⟨Av, cv, rfl⟩ := own_val hvo
            have hcl := own_cell HLS.out hv
            have hb1 : n GL.length ≤ 1000000000000 := HN.out _
            have HV := Aside0.mk hv
            have HVO := Aside0.mk hvo
            have HVF := Aside0.mk hvf
            have HBL := Aside0.mk hbl
            have HLOW : Aside0 (bl < w.heap.size) := ⟨HLSW.out bl (by simp [Value.ownBlock])⟩
            clear hv hvo hvf hbl
            have d0 : decide ((GL.length : Int) < (VL.length : Int)) = true := by simpa using hlt
            have hi0 : (0 : Int) ≤ (GL.length : Int) := by omega
            have hi1 : (GL.length : Int) < (VL.length : Int) := by omega
            obtain ⟨wo, rfl⟩ : ∃ wo : World, wo = wr := ⟨_, rfl⟩
            go_wp2
            go_loopg [8] (n GL.length) (fun kq v8 w' => ∃ (j : Nat) (ys : List Value), v8 = .int .i64 (j : Int) ∧ Aside0 (j + kq = n GL.length) ∧ Aside0 (w'.ownsRow w0.heap.size 5 1 (.slice Av (n GL.length) cv) (n GL.length) ys) ∧
              Aside0 (∀ t, t < j → ys[t]? = some (mkB 0 GL.length t)) ∧ Aside0 (wo.grownBy w' (Value.slice Av (n GL.length) cv).ownBlock) ∧ Aside0 (w'.ownsRow w0.heap.size 23 1 (.slice (some ⟨bl, 0, none⟩) VL.length cls) VL.length VL))
            case atStart => exact ⟨0, xs, rfl, ⟨by simp⟩, HVO, ⟨fun t ht => by omega⟩, ⟨World.grownBy.refl _ _⟩, HLS⟩
            case round =>
              clear hcl
              obtain ⟨j, ys, rfl, HK2, HY, HM, HGR, HLA⟩ := hrel
              have hcl := own_cell HLA.out HV.out
              by_cases hj : j < n GL.length
              · obtain ⟨bv, cv', hve, hbv, _⟩ := own_head HY.out (by omega)
                simp only [Value.slice.injEq] at hve
                obtain ⟨rfl, -, rfl⟩ := hve
                have hyl : ys.length = n GL.length := by have := HY.out.1; omega
                have hcj : wr.cell? ⟨bv, j, none⟩ = some (ys[j]'(by omega)) := own_cell HY.out (List.getElem?_eq_getElem (by omega))
                have hfj := own_free HY.out j
                have hj0 : (0 : Int) ≤ (j : Int) := by omega
                have hj1 : (j : Int) < (n GL.length : Int) := by omega
                have hbb : bl ≠ bv := fun e => own_ne HLA.out HY.out (by decide) (b := bl) rfl (by rw [e]; rfl)
                have HBB := Aside0.mk hbb
                generalize ys[j]'(by omega) = oldj at hcj
                clear hbb hyl
                go_wp2
                cases gk with
                | zero => have := HK2.out; omega
                | succ k2 =>
                  go_roundg k2
                  case measure => omega
                  case rel =>
                    refine ⟨j + 1, ys.set j (.int .u8 ((GL.length : Int) % 256)), by simp, ⟨by have := HK2.out; omega⟩, ⟨own_put HY.out j hj _⟩, ⟨fun t ht => ?_⟩, ⟨?_⟩, ?_⟩
                    · have hyl : ys.length = n GL.length := by have := HY.out.1; omega
                      by_cases he : t = j
                      · subst he
                        rw [List.getElem?_set_self (by omega)]
                        simp [mkB]
                      · rw [List.getElem?_set_ne (by omega)]
                        exact HM.out t (by omega)
                    · have hg := HGR.out
                      exact ⟨hg.os, hg.tape, hg.output, by simpa [World.setCell] using hg.size, fun b hb hne => (Below.heap_setCell _ ⟨bv, j, none⟩ _ b (fun e => hne (by rw [e]; rfl))).trans (hg.block b hb hne)⟩
                    · exact ⟨own_setCell HLA.out (fun e => HBB.out (by simpa [Value.ownBlock] using e.symm)) _⟩
              · have hjn : j = n GL.length := by have := HK2.out; omega
                have hd : decide ((j : Int) < (n GL.length : Int)) = false := by simp; omega
                have HJN := Aside0.mk hjn
                clear hjn
                have hwa : Below w0.heap.size w0 wr := HB.out.grown HGR.out HB.out.size (fun b hb => own_base HVO.out b hb)
                have HWA := Aside0.mk hwa
                clear hwa
                obtain ⟨wa, rfl⟩ : ∃ wa : World, wa = wr := ⟨_, rfl⟩
                go_wp2
                go_loopg [7, 9] 9 (fun kq v7 v9 w' => ∃ (j : Nat) (xs ys : List Value), v9 = .int .i64 (j : Int) ∧ Aside0 (j + kq = 9) ∧ Aside0 (w'.ownsRow w0.heap.size 5 1 (.slice Av (n GL.length) cv) (n GL.length) xs) ∧ Aside0 (∀ t, t < n GL.length → xs[t]? = some (mkB 0 GL.length t)) ∧
                  Aside0 (w'.ownsRow w0.heap.size 5 1 v7 (n GL.length + j) ys) ∧ Aside0 (∀ t, t < n GL.length + j → ys[t]? = some (mkB 0 GL.length t)) ∧
                  Aside0 (v7.ownBlock = (Value.slice Av (n GL.length) cv).ownBlock ∨ ∃ b, v7.ownBlock = some b ∧ wa.heap.size ≤ b) ∧ Aside0 (∀ b, b < wa.heap.size → (Value.slice Av (n GL.length) cv).ownBlock ≠ some b → w'.heap[b]? = wa.heap[b]?) ∧
                  Aside0 (Below w0.heap.size w0 w') ∧ Aside0 (wa.heap.size ≤ w'.heap.size) ∧ Aside0 (w'.ownsRow w0.heap.size 23 1 (.slice (some ⟨bl, 0, none⟩) VL.length cls) VL.length VL))
                case atStart => exact ⟨0, ys, ys, rfl, ⟨rfl⟩, HY, ⟨fun t ht => HM.out t (by have := HJN.out; omega)⟩, HY, ⟨fun t ht => HM.out t (by have := HJN.out; omega)⟩, ⟨.inl rfl⟩, ⟨fun _ _ _ => rfl⟩, HWA, ⟨Nat.le_refl _⟩, HLA⟩
                case round =>
                  clear hcl
                  obtain ⟨j2, xs2, ys2, rfl, HK3, HX2, HMX, HY2, HMY, HWH, HKB, HB2, HSZ, HLB⟩ := hrel
                  have hcl := own_cell HLB.out HV.out
                  by_cases hj9 : j2 < 9
                  · have hj90 : (0 : Int) ≤ (j2 : Int) := by omega
                    have hj91 : (j2 : Int) < 9 := by omega
                    go_wp2_with ((with_reducible refine gate_builtin (b := .append) (xs := #[.tmp 52, .tmp 54]) rfl ?_); at_builtin; refine wpList_append_two wr rfl (.tmp 52) (.tmp 54) _ rfl w0.heap.size 5 (.int .u8 0) 1 Try.underlying23 infoB rfl u7 (.int .u8 ((GL.length : Int) % 256)) (n GL.length + j2) ys2 rfl HY2.out rfl rfl ?aM ?aB ?aS ?_; (case aM => (simp only [maxLen]; omega)); (case aB => omega); (case aS => exact HB2.out.size); intro v' w5 ho hcase; have HO5 := Aside0.mk ho; have HC5 := Aside0.mk hcase; clear ho hcase; clear hcl)
                    cases gk with
                    | zero => have := HK3.out; omega
                    | succ k3 =>
                      have hlv : ∀ b, (Value.slice Av (n GL.length) cv).ownBlock = some b → b < wr.heap.size := fun b hb => own_lt HX2.out b hb
                      have hu7 : ∀ b, u7.ownBlock = some b → b < wr.heap.size := fun b hb => own_lt HY2.out b hb
                      have hls : bl < wr.heap.size := own_lt HLB.out bl rfl
                      have hne7 : u7.ownBlock ≠ some bl := own_ne HLB.out HY2.out (by decide) rfl
                      have hstay : ∀ b, b < wr.heap.size → u7.ownBlock ≠ some b → w5.heap[b]? = wr.heap[b]? := fun b hb hn => by
                        rcases HC5.out with ⟨g, cap, e1, e2, hg⟩ | ⟨_, hbel⟩
                        · exact hg.block b hb (fun e => hn (by rw [e1]; exact e.symm))
                        · exact hbel.block b hb
                      have hsz5 : wr.heap.size ≤ w5.heap.size := by
                        rcases HC5.out with ⟨g, cap, e1, e2, hg⟩ | ⟨_, hbel⟩
                        · exact hg.size
                        · exact hbel.size
                      have hx5 : ∃ zs, w5.ownsRow w0.heap.size 5 1 (.slice Av (n GL.length) cv) (n GL.length) zs ∧ ∀ t, t < n GL.length → zs[t]? = some (mkB 0 GL.length t) := by
                        by_cases hsame : u7.ownBlock = (Value.slice Av (n GL.length) cv).ownBlock
                        · rcases HC5.out with ⟨g, cap, e1, e2, hg⟩ | ⟨_, hbel⟩
                          · rw [e2] at HO5
                            obtain ⟨hl5, hr5⟩ := HO5.out
                            rcases hr5 with ⟨hr5, _⟩ | ⟨g', cap', cur, hv5, hb5, hh5, hn5, hm5, hs5, ht5⟩
                            · simp at hr5
                            · simp only [Value.slice.injEq, Option.some.injEq, Addr.mk.injEq, and_true, true_and] at hv5
                              obtain ⟨rfl, rfl⟩ := hv5
                              obtain ⟨hlx, hrx⟩ := HX2.out
                              have hug : u7.ownBlock = some g := by rw [e1]; rfl
                              rcases hrx with ⟨hrx, hn0⟩ | ⟨gx, capx, curx, hvx, hbx, hhx, hnx, hmx, hsx, htx⟩
                              · exact ⟨xs2, ⟨hlx, .inl ⟨hrx, hn0⟩⟩, HMX.out⟩
                              · have hgx : gx = g := by
                                  rw [hsame, hvx] at hug
                                  simpa [Value.ownBlock] using hug
                                subst hgx
                                obtain ⟨hly, hry⟩ := HY2.out
                                rw [e1] at hry
                                rcases hry with ⟨hry, _⟩ | ⟨gy, capy, cury, hvy, hby, hhy, hny, hmy, hsy, hty⟩
                                · simp at hry
                                · simp only [Value.slice.injEq, Option.some.injEq, Addr.mk.injEq, and_true, true_and] at hvy
                                  obtain ⟨rfl, rfl⟩ := hvy
                                  rw [hhx] at hhy
                                  simp only [Option.some.injEq, Obj.cells.injEq, and_true] at hhy
                                  subst hhy
                                  have hcap : capx = cap := by omega
                                  subst hcap
                                  refine ⟨cur.toList.take (n GL.length), ⟨?_, .inr ⟨gx, capx, cur, hvx, hbx, hh5, hnx, hmx, hs5, by simp⟩⟩, fun t ht => ?_⟩
                                  · rw [List.length_take]; have hcl' : cur.toList.length = cur.size := Array.length_toList; omega
                                  · rw [List.getElem?_take_of_lt ht]
                                    have h7 : (cur.toList.take ((n GL.length + j2 + 1) * 1))[t]? = some (mkB 0 GL.length t) := by
                                      rw [ht5, List.getElem?_append_left (by rw [hly]; omega)]
                                      exact HMY.out t (by omega)
                                    rwa [List.getElem?_take_of_lt (by omega)] at h7
                          · exact ⟨xs2, own_stay HX2.out (fun b hb => hbel.block b (hlv b hb)), HMX.out⟩
                        · exact ⟨xs2, own_stay HX2.out (fun b hb => hstay b (hlv b hb) (fun e => hsame (by rw [hb]; exact e))), HMX.out⟩
                      obtain ⟨zs, hzo, hzm⟩ := hx5
                      have HZO := Aside0.mk hzo
                      have HZM := Aside0.mk hzm
                      have HWH5 : Aside0 (v'.ownBlock = (Value.slice Av (n GL.length) cv).ownBlock ∨ ∃ b, v'.ownBlock = some b ∧ wa.heap.size ≤ b) := ⟨by
                        rcases HC5.out with ⟨g, cap, e1, e2, hg⟩ | ⟨⟨b, hb, hle⟩, hbel⟩
                        · have : v'.ownBlock = u7.ownBlock := by rw [e1, e2]; rfl
                          rw [this]
                          exact HWH.out
                        · exact .inr ⟨b, hb, Nat.le_trans HSZ.out hle⟩⟩
                      have HKB5 : Aside0 (∀ b, b < wa.heap.size → (Value.slice Av (n GL.length) cv).ownBlock ≠ some b → w5.heap[b]? = wa.heap[b]?) := ⟨fun b hb hn => by
                        refine (hstay b (Nat.lt_of_lt_of_le hb HSZ.out) (fun e => ?_)).trans (HKB.out b hb hn)
                        rcases HWH.out with h | ⟨b', h, hle⟩
                        · exact hn (by rw [← h]; exact e)
                        · rw [h] at e
                          injection e with e
                          omega⟩
                      have HB5 : Aside0 (Below w0.heap.size w0 w5) := ⟨by
                        rcases HC5.out with ⟨g, cap, e1, e2, hg⟩ | ⟨_, hbel⟩
                        · exact HB2.out.grown hg HB2.out.size (fun b hb => by cases hb; exact own_base HY2.out g (by rw [e1]; rfl))
                        · exact HB2.out.trans (hbel.mono HB2.out.size)⟩
                      have HLB5 : Aside0 (w5.ownsRow w0.heap.size 23 1 (.slice (some ⟨bl, 0, none⟩) VL.length cls) VL.length VL) := ⟨own_stay HLB.out (fun b hb => by
                        have : bl = b := by simpa [Value.ownBlock] using hb
                        subst this
                        exact hstay bl hls hne7)⟩
                      have HMY5 : Aside0 (∀ t, t < n GL.length + (j2 + 1) → (ys2 ++ [Value.int .u8 ((GL.length : Int) % 256)])[t]? = some (mkB 0 GL.length t)) := ⟨fun t ht => by
                        have hly := HY2.out.1
                        by_cases he : t < n GL.length + j2
                        · rw [List.getElem?_append_left (by omega)]
                          exact HMY.out t he
                        · obtain rfl : t = n GL.length + j2 := by omega
                          rw [List.getElem?_append_right (by omega)]
                          have e0 : n GL.length + j2 - ys2.length = 0 := by omega
                          rw [e0]
                          simp [mkB]⟩
                      have HSZ5 : Aside0 (wa.heap.size ≤ w5.heap.size) := ⟨Nat.le_trans HSZ.out hsz5⟩
                      clear hlv hu7 hls hne7 hstay hsz5 hzo hzm
                      go_roundg k3
                      case measure => omega
                      case rel => exact ⟨j2 + 1, zs, _, by simp, ⟨by have := HK3.out; omega⟩, HZO, HZM, ⟨by have := HO5.out; rwa [Nat.add_assoc] at this⟩, HMY5, HWH5, HKB5, HB5, HSZ5, HLB5⟩
                  · obtain rfl : j2 = 9 := by have := HK3.out; omega
                    obtain ⟨Ag, cg, hge⟩ := own_val HY2.out
                    subst hge
                    have HSTEP := Aside0.mk (HF.out.next HV.out HX2.out HMX.out HY2.out HMY.out (by
                      rcases HWH.out with h | ⟨b, hb, hle⟩
                      · exact .inl h
                      · exact .inr ⟨b, hb, Nat.le_trans HGR.out.size hle⟩) (fun b hb hn => (HKB.out b (Nat.lt_of_lt_of_le hb HGR.out.size) hn).trans (HGR.out.block b hb (fun e => hn e.symm))))
                    have hgr : wr.ownsRow w.heap.size 23 1 u4 GL.length GL := own_stay HG.out (fun b hb => by
                      have hlt := own_lt HG.out b hb
                      have hne := own_ne HG.out HVO.out (by decide) hb
                      exact (HKB.out b (Nat.lt_of_lt_of_le hlt HGR.out.size) hne).trans (HGR.out.block b hlt (fun e => hne e.symm)))
                    have HGR2 := Aside0.mk hgr
                    have hkp : Kept w wr (fun b => ∃ v, v ∈ VL ∧ v.ownBlock = some b) := HKP.out.then_ (S2 := fun b => (Value.slice Av (n GL.length) cv).ownBlock = some b) ⟨Nat.le_trans HGR.out.size HSZ.out, fun b hb hn => (HKB.out b (Nat.lt_of_lt_of_le hb HGR.out.size) hn).trans (HGR.out.block b hb (fun e => hn e.symm))⟩ (fun b hb => .inl ⟨_, List.mem_of_getElem? HV.out, hb⟩)
                    have HKP2 := Aside0.mk hkp
                    have hwsz : w.heap.size ≤ wr.heap.size := hkp.1
                    clear hgr hkp HF HG HKP HGR HWH HKB hwsz
                    have hd9 : decide ((9 : Int) < 9) = false := by decide
                    go_wp2_with ((with_reducible refine gate_builtin (b := .append) (xs := #[.tmp 56, .tmp 58]) rfl ?_); at_builtin; refine wpList_append_two wr rfl (.tmp 56) (.tmp 58) _ rfl w.heap.size 23 (.slice none 0 0) 24 Try.underlying22 infoBS rfl u4 (.slice Ag (n GL.length + 9) cg) GL.length GL rfl HGR2.out rfl rfl ?aM ?aB ?aS ?_; (case aM => (simp only [maxLen]; omega)); (case aB => omega); (case aS => exact HKP2.out.1); intro v' w5 ho hcase; have HO5 := Aside0.mk ho; have HC5 := Aside0.mk hcase; clear ho hcase hcl)
                    cases ko with
                    | zero => have := HK.out; omega
                    | succ k3 =>
                      have hstay : ∀ b, b < wr.heap.size → u4.ownBlock ≠ some b → w5.heap[b]? = wr.heap[b]? := fun b hb hn => by
                        rcases HC5.out with ⟨g, cap, e1, e2, hg⟩ | ⟨_, hbel⟩
                        · exact hg.block b hb (fun e => hn (by rw [e1]; exact e.symm))
                        · exact hbel.block b hb
                      have HF5 := Aside0.mk (HSTEP.out.stay (w' := w5) (fun b cs hc => hstay b (blk_lt hc) (fun e => by
                        obtain ⟨cs', hc'⟩ := own_typed HGR2.out b e
                        rw [hc] at hc'
                        simp at hc')))
                      have HLS5 : Aside0 (w5.ownsRow w0.heap.size 23 1 (.slice (some ⟨bl, 0, none⟩) VL.length cls) VL.length VL) := ⟨own_stay HLB.out (fun b hb => hstay b (own_lt HLB.out b hb) (fun e => by
                        have h1 := own_base HGR2.out b e
                        have h2 : bl = b := by simpa [Value.ownBlock] using hb
                        have h3 := HLOW.out
                        omega))⟩
                      have HB5 : Aside0 (Below w0.heap.size w0 w5) := ⟨by
                        rcases HC5.out with ⟨g, cap, e1, e2, hg⟩ | ⟨_, hbel⟩
                        · exact HB2.out.grown hg HB2.out.size (fun b hb => by cases hb; exact Nat.le_trans HBW.out (own_base HGR2.out g (by rw [e1]; rfl)))
                        · exact HB2.out.trans (hbel.mono HB2.out.size)⟩
                      have HKP5 : Aside0 (Kept w w5 (fun b => ∃ v, v ∈ VL ∧ v.ownBlock = some b)) := ⟨HKP2.out.then_ (S2 := fun b => u4.ownBlock = some b) ⟨by
                        rcases HC5.out with ⟨g, cap, e1, e2, hg⟩ | ⟨_, hbel⟩
                        · exact hg.size
                        · exact hbel.size, hstay⟩ (fun b hb => .inr (own_base HGR2.out b hb))⟩
                      clear hstay
                      go_roundg k3
                      case measure => omega
                      case rel =>
                        refine ⟨GL ++ [.slice Ag (n GL.length + 9) cg], _, ?_, ⟨?_⟩, HF5, ⟨?_⟩, HLS5, HB5, HKP5⟩
                        · simp
                        · have := HK.out
                          simp only [List.length_append, List.length_singleton]
                          omega
                        · have := HO5.out
                          simpa using this
          · have hge : GL.length = VL.length := by have := HK.out; omega
            have HGE := Aside0.mk hge
            have hd : decide ((GL.length : Int) < (VL.length : Int)) = false := by simp; omega
            obtain ⟨Ag, cg, hgv⟩ := own_val HG.out
            subst hgv
            clear hge
            obtain ⟨wz, rfl⟩ : ∃ wz : World, wz = wr := ⟨_, rfl⟩
            go_wp2
            go_loopg [10, 11] GL.length (fun kq v10 v11 w' => ∃ (i2 : Nat), v10 = .int .i64 (i2 : Int) ∧ Aside0 (i2 + kq = GL.length) ∧ Aside0 (wz = w'))
            case atStart => exact ⟨0, rfl, ⟨by simp⟩, ⟨rfl⟩⟩
            case round =>
              obtain ⟨i2, rfl, HK2, HW⟩ := hrel
              obtain rfl := HW.out
              clear HW
              obtain ⟨ko2, rfl⟩ : ∃ ko2 : Nat, ko2 = gk := ⟨_, rfl⟩
              by_cases hi2 : i2 < GL.length
              · have hd2 : decide ((i2 : Int) < (GL.length : Int)) = true := by simpa using hi2
                obtain ⟨bg, cg', hgh, _, _⟩ := own_head HG.out (by omega)
                simp only [Value.slice.injEq] at hgh
                obtain ⟨rfl, -, rfl⟩ := hgh
                obtain ⟨bl, cl', hlh, _, _⟩ := own_head HLS.out (by have := HGE.out; omega)
                simp only [Value.slice.injEq] at hlh
                obtain ⟨rfl, -, rfl⟩ := hlh
                obtain ⟨g, hg⟩ : ∃ g, GL[i2]? = some g := ⟨_, List.getElem?_eq_getElem hi2⟩
                obtain ⟨v, hv⟩ : ∃ v, VL[i2]? = some v := ⟨_, List.getElem?_eq_getElem (by have := HGE.out; omega)⟩
                obtain ⟨⟨ys, hgo, hgm⟩, _⟩ := HF.out.G _ g hg
                obtain ⟨⟨xs, hvo, hvm⟩, _⟩ := HF.out.V _ v hv
                have hcg := own_cell HG.out hg
                have hcv := own_cell HLS.out hv
                obtain ⟨Ai, ci, rfl⟩ := own_val hgo
                obtain ⟨Avi, cvi, rfl⟩ := own_val hvo
                obtain ⟨bgi, ci', hgih, _, _⟩ := own_head hgo (by omega)
                simp only [Value.slice.injEq] at hgih
                obtain ⟨rfl, -, rfl⟩ := hgih
                have hb1 : n i2 ≤ 1000000000000 := HN.out _
                have hi20 : (0 : Int) ≤ (i2 : Int) := by omega
                have hi21 : (i2 : Int) < (GL.length : Int) := by omega
                have hi22 : (i2 : Int) < (VL.length : Int) := by have := HGE.out; omega
                have HGO := Aside0.mk hgo
                have HGM := Aside0.mk hgm
                have HVO := Aside0.mk hvo
                have HVM := Aside0.mk (hvm hi2)
                clear hgo hgm hvo hvm hg hv
                go_wp2
                go_loopg [11] (n i2 + 9) (fun kq v11 w' => ∃ (j : Nat), v11 = .int .i64 (j : Int) ∧ Aside0 (j + kq = n i2 + 9) ∧ Aside0 (wz = w'))
                case atStart => exact ⟨0, rfl, ⟨by simp⟩, ⟨rfl⟩⟩
                case round =>
                  obtain ⟨j, rfl, HK3, HW⟩ := hrel
                  obtain rfl := HW.out
                  clear HW
                  by_cases hj : j < n i2 + 9
                  · have hd3 : decide ((j : Int) < (n i2 : Int) + 9) = true := by simp; omega
                    have hj0 : (0 : Int) ≤ (j : Int) := by omega
                    have hj1 : (j : Int) < (n i2 : Int) + 9 := by omega
                    have hcy := own_cell HGO.out (HGM.out j hj)
                    simp only [mkB, if_true, Nat.one_ne_zero, if_false] at hcy
                    cases gk with
                    | zero => have := HK3.out; omega
                    | succ k3 =>
                      go_wp2
                      go_roundg k3
                      case measure => omega
                      case rel => exact ⟨j + 1, by simp, ⟨by have := HK3.out; omega⟩, ⟨rfl⟩⟩
                  · have hd3 : decide ((j : Int) < (n i2 : Int) + 9) = false := by simp; omega
                    go_wp2
                    cases ko2 with
                    | zero => have := HK2.out; omega
                    | succ k3 =>
                      go_roundg k3
                      case measure => omega
                      case rel => exact ⟨i2 + 1, by simp, ⟨by have := HK2.out; omega⟩, ⟨rfl⟩⟩
              · have hd2 : decide ((i2 : Int) < (GL.length : Int)) = false := by simp; omega
                go_wp2
                cases kr with
                | zero => have := HR.out; omega
                | succ k3 =>
                  go_roundg k3
                  case measure => omega
                  case rel => exact ⟨1, _, 1, rfl, ⟨rfl⟩, ⟨by have := HR.out; omega⟩, ⟨⟨fun k v hv => ⟨by obtain ⟨⟨xs, ho, _⟩, _⟩ := HF.out.V k v hv; exact ⟨xs, ho, fun h => by simp at h⟩, (HF.out.V k v hv).2⟩, fun k g hg => by simp at hg⟩⟩, HLS, HB, HKP⟩
      · obtain rfl : ri = 1 := HRI.out
        clear HRI
        go_wp2
        go_loopg [4, 5, 7] VL.length (fun kq v4 v5 v7 w' => ∃ (GL : List Value) (f' : Nat → Nat), v5 = .int .i64 (GL.length : Int) ∧ Aside0 (GL.length + kq = VL.length) ∧
          Aside0 (Fam w' w0.heap.size 5 VL GL n (mkB 1) f') ∧ Aside0 (w'.ownsRow w.heap.size 23 1 v4 GL.length GL) ∧ Aside0 (w'.ownsRow w0.heap.size 23 1 (.slice Als VL.length cls) VL.length VL) ∧ Aside0 (Below w0.heap.size w0 w') ∧
          Aside0 (Kept w w' (fun b => ∃ v, v ∈ VL ∧ v.ownBlock = some b)))
        case atStart => exact ⟨[], f0, rfl, ⟨by simp⟩, HF2, ⟨own_nil _ _ _ _⟩, HLS, HB, HKP⟩
        case round =>
          clear HF2 HLS HB HKP
          obtain ⟨GL, f', rfl, HK, HF, HG, HLS, HB, HKP⟩ := hrel
          obtain ⟨ko, rfl⟩ : ∃ ko : Nat, ko = gk := ⟨_, rfl⟩
          by_cases hlt : GL.length < VL.length
          · obtain ⟨bl, cl, hle, hbl, _⟩ := own_head HLS.out (by omega)
            simp only [Value.slice.injEq] at hle
            obtain ⟨rfl, -, rfl⟩ := hle
            obtain ⟨v, hv⟩ : ∃ v, VL[GL.length]? = some v := ⟨_, List.getElem?_eq_getElem hlt⟩
            obtain ⟨⟨xs, hvo, _⟩, hvf⟩ := HF.out.V _ v hv
            obtain ⟨Av, cv, rfl⟩ := own_val hvo
            have hcl := own_cell HLS.out hv
            have hb1 : n GL.length ≤ 1000000000000 := HN.out _
            have HV := Aside0.mk hv
            have HVO := Aside0.mk hvo
            have HVF := Aside0.mk hvf
            have HBL := Aside0.mk hbl
            have HLOW : Aside0 (bl < w.heap.size) := ⟨HLSW.out bl (by simp [Value.ownBlock])⟩
            clear hv hvo hvf hbl
            have d0 : decide ((GL.length : Int) < (VL.length : Int)) = true := by simpa using hlt
            have hi0 : (0 : Int) ≤ (GL.length : Int) := by omega
            have hi1 : (GL.length : Int) < (VL.length : Int) := by omega
            obtain ⟨wo, rfl⟩ : ∃ wo : World, wo = wr := ⟨_, rfl⟩
            go_wp2
            go_loopg [8] (n GL.length) (fun kq v8 w' => ∃ (j : Nat) (ys : List Value), v8 = .int .i64 (j : Int) ∧ Aside0 (j + kq = n GL.length) ∧ Aside0 (w'.ownsRow w0.heap.size 5 1 (.slice Av (n GL.length) cv) (n GL.length) ys) ∧
              Aside0 (∀ t, t < j → ys[t]? = some (mkB 1 GL.length t)) ∧ Aside0 (wo.grownBy w' (Value.slice Av (n GL.length) cv).ownBlock) ∧ Aside0 (w'.ownsRow w0.heap.size 23 1 (.slice (some ⟨bl, 0, none⟩) VL.length cls) VL.length VL))
            case atStart => exact ⟨0, xs, rfl, ⟨by simp⟩, HVO, ⟨fun t ht => by omega⟩, ⟨World.grownBy.refl _ _⟩, HLS⟩
            case round =>
              clear hcl
              obtain ⟨j, ys, rfl, HK2, HY, HM, HGR, HLA⟩ := hrel
              have hcl := own_cell HLA.out HV.out
              by_cases hj : j < n GL.length
              · obtain ⟨bv, cv', hve, hbv, _⟩ := own_head HY.out (by omega)
                simp only [Value.slice.injEq] at hve
                obtain ⟨rfl, -, rfl⟩ := hve
                have hyl : ys.length = n GL.length := by have := HY.out.1; omega
                have hcj : wr.cell? ⟨bv, j, none⟩ = some (ys[j]'(by omega)) := own_cell HY.out (List.getElem?_eq_getElem (by omega))
                have hfj := own_free HY.out j
                have hj0 : (0 : Int) ≤ (j : Int) := by omega
                have hj1 : (j : Int) < (n GL.length : Int) := by omega
                have hbb : bl ≠ bv := fun e => own_ne HLA.out HY.out (by decide) (b := bl) rfl (by rw [e]; rfl)
                have HBB := Aside0.mk hbb
                generalize ys[j]'(by omega) = oldj at hcj
                clear hbb hyl
                go_wp2
                cases gk with
                | zero => have := HK2.out; omega
                | succ k2 =>
                  go_roundg k2
                  case measure => omega
                  case rel =>
                    refine ⟨j + 1, ys.set j (.int .u8 ((GL.length : Int) / 256 % 256)), by simp, ⟨by have := HK2.out; omega⟩, ⟨own_put HY.out j hj _⟩, ⟨fun t ht => ?_⟩, ⟨?_⟩, ?_⟩
                    · have hyl : ys.length = n GL.length := by have := HY.out.1; omega
                      by_cases he : t = j
                      · subst he
                        rw [List.getElem?_set_self (by omega)]
                        simp [mkB]
                      · rw [List.getElem?_set_ne (by omega)]
                        exact HM.out t (by omega)
                    · have hg := HGR.out
                      exact ⟨hg.os, hg.tape, hg.output, by simpa [World.setCell] using hg.size, fun b hb hne => (Below.heap_setCell _ ⟨bv, j, none⟩ _ b (fun e => hne (by rw [e]; rfl))).trans (hg.block b hb hne)⟩
                    · exact ⟨own_setCell HLA.out (fun e => HBB.out (by simpa [Value.ownBlock] using e.symm)) _⟩
              · have hjn : j = n GL.length := by have := HK2.out; omega
                have hd : decide ((j : Int) < (n GL.length : Int)) = false := by simp; omega
                have HJN := Aside0.mk hjn
                clear hjn
                have hwa : Below w0.heap.size w0 wr := HB.out.grown HGR.out HB.out.size (fun b hb => own_base HVO.out b hb)
                have HWA := Aside0.mk hwa
                clear hwa
                obtain ⟨wa, rfl⟩ : ∃ wa : World, wa = wr := ⟨_, rfl⟩
                go_wp2
                go_loopg [7, 9] 9 (fun kq v7 v9 w' => ∃ (j : Nat) (xs ys : List Value), v9 = .int .i64 (j : Int) ∧ Aside0 (j + kq = 9) ∧ Aside0 (w'.ownsRow w0.heap.size 5 1 (.slice Av (n GL.length) cv) (n GL.length) xs) ∧ Aside0 (∀ t, t < n GL.length → xs[t]? = some (mkB 1 GL.length t)) ∧
                  Aside0 (w'.ownsRow w0.heap.size 5 1 v7 (n GL.length + j) ys) ∧ Aside0 (∀ t, t < n GL.length + j → ys[t]? = some (mkB 1 GL.length t)) ∧
                  Aside0 (v7.ownBlock = (Value.slice Av (n GL.length) cv).ownBlock ∨ ∃ b, v7.ownBlock = some b ∧ wa.heap.size ≤ b) ∧ Aside0 (∀ b, b < wa.heap.size → (Value.slice Av (n GL.length) cv).ownBlock ≠ some b → w'.heap[b]? = wa.heap[b]?) ∧
                  Aside0 (Below w0.heap.size w0 w') ∧ Aside0 (wa.heap.size ≤ w'.heap.size) ∧ Aside0 (w'.ownsRow w0.heap.size 23 1 (.slice (some ⟨bl, 0, none⟩) VL.length cls) VL.length VL))
                case atStart => exact ⟨0, ys, ys, rfl, ⟨rfl⟩, HY, ⟨fun t ht => HM.out t (by have := HJN.out; omega)⟩, HY, ⟨fun t ht => HM.out t (by have := HJN.out; omega)⟩, ⟨.inl rfl⟩, ⟨fun _ _ _ => rfl⟩, HWA, ⟨Nat.le_refl _⟩, HLA⟩
                case round =>
                  clear hcl
                  obtain ⟨j2, xs2, ys2, rfl, HK3, HX2, HMX, HY2, HMY, HWH, HKB, HB2, HSZ, HLB⟩ := hrel
                  have hcl := own_cell HLB.out HV.out
                  by_cases hj9 : j2 < 9
                  · have hj90 : (0 : Int) ≤ (j2 : Int) := by omega
                    have hj91 : (j2 : Int) < 9 := by omega
                    go_wp2_with ((with_reducible refine gate_builtin (b := .append) (xs := #[.tmp 52, .tmp 54]) rfl ?_); at_builtin; refine wpList_append_two wr rfl (.tmp 52) (.tmp 54) _ rfl w0.heap.size 5 (.int .u8 0) 1 Try.underlying23 infoB rfl u7 (.int .u8 ((GL.length : Int) / 256 % 256)) (n GL.length + j2) ys2 rfl HY2.out rfl rfl ?aM ?aB ?aS ?_; (case aM => (simp only [maxLen]; omega)); (case aB => omega); (case aS => exact HB2.out.size); intro v' w5 ho hcase; have HO5 := Aside0.mk ho; have HC5 := Aside0.mk hcase; clear ho hcase; clear hcl)
                    cases gk with
                    | zero => have := HK3.out; omega
                    | succ k3 =>
                      have hlv : ∀ b, (Value.slice Av (n GL.length) cv).ownBlock = some b → b < wr.heap.size := fun b hb => own_lt HX2.out b hb
                      have hu7 : ∀ b, u7.ownBlock = some b → b < wr.heap.size := fun b hb => own_lt HY2.out b hb
                      have hls : bl < wr.heap.size := own_lt HLB.out bl rfl
                      have hne7 : u7.ownBlock ≠ some bl := own_ne HLB.out HY2.out (by decide) rfl
                      have hstay : ∀ b, b < wr.heap.size → u7.ownBlock ≠ some b → w5.heap[b]? = wr.heap[b]? := fun b hb hn => by
                        rcases HC5.out with ⟨g, cap, e1, e2, hg⟩ | ⟨_, hbel⟩
                        · exact hg.block b hb (fun e => hn (by rw [e1]; exact e.symm))
                        · exact hbel.block b hb
                      have hsz5 : wr.heap.size ≤ w5.heap.size := by
                        rcases HC5.out with ⟨g, cap, e1, e2, hg⟩ | ⟨_, hbel⟩
                        · exact hg.size
                        · exact hbel.size
                      have hx5 : ∃ zs, w5.ownsRow w0.heap.size 5 1 (.slice Av (n GL.length) cv) (n GL.length) zs ∧ ∀ t, t < n GL.length → zs[t]? = some (mkB 1 GL.length t) := by
                        by_cases hsame : u7.ownBlock = (Value.slice Av (n GL.length) cv).ownBlock
                        · rcases HC5.out with ⟨g, cap, e1, e2, hg⟩ | ⟨_, hbel⟩
                          · rw [e2] at HO5
                            obtain ⟨hl5, hr5⟩ := HO5.out
                            rcases hr5 with ⟨hr5, _⟩ | ⟨g', cap', cur, hv5, hb5, hh5, hn5, hm5, hs5, ht5⟩
                            · simp at hr5
                            · simp only [Value.slice.injEq, Option.some.injEq, Addr.mk.injEq, and_true, true_and] at hv5
                              obtain ⟨rfl, rfl⟩ := hv5
                              obtain ⟨hlx, hrx⟩ := HX2.out
                              have hug : u7.ownBlock = some g := by rw [e1]; rfl
                              rcases hrx with ⟨hrx, hn0⟩ | ⟨gx, capx, curx, hvx, hbx, hhx, hnx, hmx, hsx, htx⟩
                              · exact ⟨xs2, ⟨hlx, .inl ⟨hrx, hn0⟩⟩, HMX.out⟩
                              · have hgx : gx = g := by
                                  rw [hsame, hvx] at hug
                                  simpa [Value.ownBlock] using hug
                                subst hgx
                                obtain ⟨hly, hry⟩ := HY2.out
                                rw [e1] at hry
                                rcases hry with ⟨hry, _⟩ | ⟨gy, capy, cury, hvy, hby, hhy, hny, hmy, hsy, hty⟩
                                · simp at hry
                                · simp only [Value.slice.injEq, Option.some.injEq, Addr.mk.injEq, and_true, true_and] at hvy
                                  obtain ⟨rfl, rfl⟩ := hvy
                                  rw [hhx] at hhy
                                  simp only [Option.some.injEq, Obj.cells.injEq, and_true] at hhy
                                  subst hhy
                                  have hcap : capx = cap := by omega
                                  subst hcap
                                  refine ⟨cur.toList.take (n GL.length), ⟨?_, .inr ⟨gx, capx, cur, hvx, hbx, hh5, hnx, hmx, hs5, by simp⟩⟩, fun t ht => ?_⟩
                                  · rw [List.length_take]; have hcl' : cur.toList.length = cur.size := Array.length_toList; omega
                                  · rw [List.getElem?_take_of_lt ht]
                                    have h7 : (cur.toList.take ((n GL.length + j2 + 1) * 1))[t]? = some (mkB 1 GL.length t) := by
                                      rw [ht5, List.getElem?_append_left (by rw [hly]; omega)]
                                      exact HMY.out t (by omega)
                                    rwa [List.getElem?_take_of_lt (by omega)] at h7
                          · exact ⟨xs2, own_stay HX2.out (fun b hb => hbel.block b (hlv b hb)), HMX.out⟩
                        · exact ⟨xs2, own_stay HX2.out (fun b hb => hstay b (hlv b hb) (fun e => hsame (by rw [hb]; exact e))), HMX.out⟩
                      obtain ⟨zs, hzo, hzm⟩ := hx5
                      have HZO := Aside0.mk hzo
                      have HZM := Aside0.mk hzm
                      have HWH5 : Aside0 (v'.ownBlock = (Value.slice Av (n GL.length) cv).ownBlock ∨ ∃ b, v'.ownBlock = some b ∧ wa.heap.size ≤ b) := ⟨by
                        rcases HC5.out with ⟨g, cap, e1, e2, hg⟩ | ⟨⟨b, hb, hle⟩, hbel⟩
                        · have : v'.ownBlock = u7.ownBlock := by rw [e1, e2]; rfl
                          rw [this]
                          exact HWH.out
                        · exact .inr ⟨b, hb, Nat.le_trans HSZ.out hle⟩⟩
                      have HKB5 : Aside0 (∀ b, b < wa.heap.size → (Value.slice Av (n GL.length) cv).ownBlock ≠ some b → w5.heap[b]? = wa.heap[b]?) := ⟨fun b hb hn => by
                        refine (hstay b (Nat.lt_of_lt_of_le hb HSZ.out) (fun e => ?_)).trans (HKB.out b hb hn)
                        rcases HWH.out with h | ⟨b', h, hle⟩
                        · exact hn (by rw [← h]; exact e)
                        · rw [h] at e
                          injection e with e
                          omega⟩
                      have HB5 : Aside0 (Below w0.heap.size w0 w5) := ⟨by
                        rcases HC5.out with ⟨g, cap, e1, e2, hg⟩ | ⟨_, hbel⟩
                        · exact HB2.out.grown hg HB2.out.size (fun b hb => by cases hb; exact own_base HY2.out g (by rw [e1]; rfl))
                        · exact HB2.out.trans (hbel.mono HB2.out.size)⟩
                      have HLB5 : Aside0 (w5.ownsRow w0.heap.size 23 1 (.slice (some ⟨bl, 0, none⟩) VL.length cls) VL.length VL) := ⟨own_stay HLB.out (fun b hb => by
                        have : bl = b := by simpa [Value.ownBlock] using hb
                        subst this
                        exact hstay bl hls hne7)⟩
                      have HMY5 : Aside0 (∀ t, t < n GL.length + (j2 + 1) → (ys2 ++ [Value.int .u8 ((GL.length : Int) / 256 % 256)])[t]? = some (mkB 1 GL.length t)) := ⟨fun t ht => by
                        have hly := HY2.out.1
                        by_cases he : t < n GL.length + j2
                        · rw [List.getElem?_append_left (by omega)]
                          exact HMY.out t he
                        · obtain rfl : t = n GL.length + j2 := by omega
                          rw [List.getElem?_append_right (by omega)]
                          have e0 : n GL.length + j2 - ys2.length = 0 := by omega
                          rw [e0]
                          simp [mkB]⟩
                      have HSZ5 : Aside0 (wa.heap.size ≤ w5.heap.size) := ⟨Nat.le_trans HSZ.out hsz5⟩
                      clear hlv hu7 hls hne7 hstay hsz5 hzo hzm
                      go_roundg k3
                      case measure => omega
                      case rel => exact ⟨j2 + 1, zs, _, by simp, ⟨by have := HK3.out; omega⟩, HZO, HZM, ⟨by have := HO5.out; rwa [Nat.add_assoc] at this⟩, HMY5, HWH5, HKB5, HB5, HSZ5, HLB5⟩
                  · obtain rfl : j2 = 9 := by have := HK3.out; omega
                    obtain ⟨Ag, cg, hge⟩ := own_val HY2.out
                    subst hge
                    have HSTEP := Aside0.mk (HF.out.next HV.out HX2.out HMX.out HY2.out HMY.out (by
                      rcases HWH.out with h | ⟨b, hb, hle⟩
                      · exact .inl h
                      · exact .inr ⟨b, hb, Nat.le_trans HGR.out.size hle⟩) (fun b hb hn => (HKB.out b (Nat.lt_of_lt_of_le hb HGR.out.size) hn).trans (HGR.out.block b hb (fun e => hn e.symm))))
                    have hgr : wr.ownsRow w.heap.size 23 1 u4 GL.length GL := own_stay HG.out (fun b hb => by
                      have hlt := own_lt HG.out b hb
                      have hne := own_ne HG.out HVO.out (by decide) hb
                      exact (HKB.out b (Nat.lt_of_lt_of_le hlt HGR.out.size) hne).trans (HGR.out.block b hlt (fun e => hne e.symm)))
                    have HGR2 := Aside0.mk hgr
                    have hkp : Kept w wr (fun b => ∃ v, v ∈ VL ∧ v.ownBlock = some b) := HKP.out.then_ (S2 := fun b => (Value.slice Av (n GL.length) cv).ownBlock = some b) ⟨Nat.le_trans HGR.out.size HSZ.out, fun b hb hn => (HKB.out b (Nat.lt_of_lt_of_le hb HGR.out.size) hn).trans (HGR.out.block b hb (fun e => hn e.symm))⟩ (fun b hb => .inl ⟨_, List.mem_of_getElem? HV.out, hb⟩)
                    have HKP2 := Aside0.mk hkp
                    have hwsz : w.heap.size ≤ wr.heap.size := hkp.1
                    clear hgr hkp HF HG HKP HGR HWH HKB hwsz
                    have hd9 : decide ((9 : Int) < 9) = false := by decide
                    go_wp2_with ((with_reducible refine gate_builtin (b := .append) (xs := #[.tmp 56, .tmp 58]) rfl ?_); at_builtin; refine wpList_append_two wr rfl (.tmp 56) (.tmp 58) _ rfl w.heap.size 23 (.slice none 0 0) 24 Try.underlying22 infoBS rfl u4 (.slice Ag (n GL.length + 9) cg) GL.length GL rfl HGR2.out rfl rfl ?aM ?aB ?aS ?_; (case aM => (simp only [maxLen]; omega)); (case aB => omega); (case aS => exact HKP2.out.1); intro v' w5 ho hcase; have HO5 := Aside0.mk ho; have HC5 := Aside0.mk hcase; clear ho hcase hcl)
                    cases ko with
                    | zero => have := HK.out; omega
                    | succ k3 =>
                      have hstay : ∀ b, b < wr.heap.size → u4.ownBlock ≠ some b → w5.heap[b]? = wr.heap[b]? := fun b hb hn => by
                        rcases HC5.out with ⟨g, cap, e1, e2, hg⟩ | ⟨_, hbel⟩
                        · exact hg.block b hb (fun e => hn (by rw [e1]; exact e.symm))
                        · exact hbel.block b hb
                      have HF5 := Aside0.mk (HSTEP.out.stay (w' := w5) (fun b cs hc => hstay b (blk_lt hc) (fun e => by
                        obtain ⟨cs', hc'⟩ := own_typed HGR2.out b e
                        rw [hc] at hc'
                        simp at hc')))
                      have HLS5 : Aside0 (w5.ownsRow w0.heap.size 23 1 (.slice (some ⟨bl, 0, none⟩) VL.length cls) VL.length VL) := ⟨own_stay HLB.out (fun b hb => hstay b (own_lt HLB.out b hb) (fun e => by
                        have h1 := own_base HGR2.out b e
                        have h2 : bl = b := by simpa [Value.ownBlock] using hb
                        have h3 := HLOW.out
                        omega))⟩
                      have HB5 : Aside0 (Below w0.heap.size w0 w5) := ⟨by
                        rcases HC5.out with ⟨g, cap, e1, e2, hg⟩ | ⟨_, hbel⟩
                        · exact HB2.out.grown hg HB2.out.size (fun b hb => by cases hb; exact Nat.le_trans HBW.out (own_base HGR2.out g (by rw [e1]; rfl)))
                        · exact HB2.out.trans (hbel.mono HB2.out.size)⟩
                      have HKP5 : Aside0 (Kept w w5 (fun b => ∃ v, v ∈ VL ∧ v.ownBlock = some b)) := ⟨HKP2.out.then_ (S2 := fun b => u4.ownBlock = some b) ⟨by
                        rcases HC5.out with ⟨g, cap, e1, e2, hg⟩ | ⟨_, hbel⟩
                        · exact hg.size
                        · exact hbel.size, hstay⟩ (fun b hb => .inr (own_base HGR2.out b hb))⟩
                      clear hstay
                      go_roundg k3
                      case measure => omega
                      case rel =>
                        refine ⟨GL ++ [.slice Ag (n GL.length + 9) cg], _, ?_, ⟨?_⟩, HF5, ⟨?_⟩, HLS5, HB5, HKP5⟩
                        · simp
                        · have := HK.out
                          simp only [List.length_append, List.length_singleton]
                          omega
                        · have := HO5.out
                          simpa using this
          · have hge : GL.length = VL.length := by have := HK.out; omega
            have HGE := Aside0.mk hge
            have hd : decide ((GL.length : Int) < (VL.length : Int)) = false := by simp; omega
            obtain ⟨Ag, cg, hgv⟩ := own_val HG.out
            subst hgv
            clear hge
            obtain ⟨wz, rfl⟩ : ∃ wz : World, wz = wr := ⟨_, rfl⟩
            go_wp2
            go_loopg [10, 11] GL.length (fun kq v10 v11 w' => ∃ (i2 : Nat), v10 = .int .i64 (i2 : Int) ∧ Aside0 (i2 + kq = GL.length) ∧ Aside0 (wz = w'))
            case atStart => exact ⟨0, rfl, ⟨by simp⟩, ⟨rfl⟩⟩
            case round =>
              obtain ⟨i2, rfl, HK2, HW⟩ := hrel
              obtain rfl := HW.out
              clear HW
              obtain ⟨ko2, rfl⟩ : ∃ ko2 : Nat, ko2 = gk := ⟨_, rfl⟩
              by_cases hi2 : i2 < GL.length
              · have hd2 : decide ((i2 : Int) < (GL.length : Int)) = true := by simpa using hi2
                obtain ⟨bg, cg', hgh, _, _⟩ := own_head HG.out (by omega)
                simp only [Value.slice.injEq] at hgh
                obtain ⟨rfl, -, rfl⟩ := hgh
                obtain ⟨bl, cl', hlh, _, _⟩ := own_head HLS.out (by have := HGE.out; omega)
                simp only [Value.slice.injEq] at hlh
                obtain ⟨rfl, -, rfl⟩ := hlh
                obtain ⟨g, hg⟩ : ∃ g, GL[i2]? = some g := ⟨_, List.getElem?_eq_getElem hi2⟩
                obtain ⟨v, hv⟩ : ∃ v, VL[i2]? = some v := ⟨_, List.getElem?_eq_getElem (by have := HGE.out; omega)⟩
                obtain ⟨⟨ys, hgo, hgm⟩, _⟩ := HF.out.G _ g hg
                obtain ⟨⟨xs, hvo, hvm⟩, _⟩ := HF.out.V _ v hv
                have hcg := own_cell HG.out hg
                have hcv := own_cell HLS.out hv
                obtain ⟨Ai, ci, rfl⟩ := own_val hgo
                obtain ⟨Avi, cvi, rfl⟩ := own_val hvo
                obtain ⟨bgi, ci', hgih, _, _⟩ := own_head hgo (by omega)
                simp only [Value.slice.injEq] at hgih
                obtain ⟨rfl, -, rfl⟩ := hgih
                have hb1 : n i2 ≤ 1000000000000 := HN.out _
                have hi20 : (0 : Int) ≤ (i2 : Int) := by omega
                have hi21 : (i2 : Int) < (GL.length : Int) := by omega
                have hi22 : (i2 : Int) < (VL.length : Int) := by have := HGE.out; omega
                have HGO := Aside0.mk hgo
                have HGM := Aside0.mk hgm
                have HVO := Aside0.mk hvo
                have HVM := Aside0.mk (hvm hi2)
                clear hgo hgm hvo hvm hg hv
                go_wp2
                go_loopg [11] (n i2 + 9) (fun kq v11 w' => ∃ (j : Nat), v11 = .int .i64 (j : Int) ∧ Aside0 (j + kq = n i2 + 9) ∧ Aside0 (wz = w'))
                case atStart => exact ⟨0, rfl, ⟨by simp⟩, ⟨rfl⟩⟩
                case round =>
                  obtain ⟨j, rfl, HK3, HW⟩ := hrel
                  obtain rfl := HW.out
                  clear HW
                  by_cases hj : j < n i2 + 9
                  · have hd3 : decide ((j : Int) < (n i2 : Int) + 9) = true := by simp; omega
                    have hj0 : (0 : Int) ≤ (j : Int) := by omega
                    have hj1 : (j : Int) < (n i2 : Int) + 9 := by omega
                    have hcy := own_cell HGO.out (HGM.out j hj)
                    simp only [mkB, if_true, Nat.one_ne_zero, if_false] at hcy
                    cases gk with
                    | zero => have := HK3.out; omega
                    | succ k3 =>
                      go_wp2
                      go_roundg k3
                      case measure => omega
                      case rel => exact ⟨j + 1, by simp, ⟨by have := HK3.out; omega⟩, ⟨rfl⟩⟩
                  · have hd3 : decide ((j : Int) < (n i2 : Int) + 9) = false := by simp; omega
                    go_wp2
                    cases ko2 with
                    | zero => have := HK2.out; omega
                    | succ k3 =>
                      go_roundg k3
                      case measure => omega
                      case rel => exact ⟨i2 + 1, by simp, ⟨by have := HK2.out; omega⟩, ⟨rfl⟩⟩
              · have hd2 : decide ((i2 : Int) < (GL.length : Int)) = false := by simp; omega
                go_wp2
                cases kr with
                | zero => have := HR.out; omega
                | succ k3 =>
                  go_roundg k3
                  case measure => omega
                  case rel => exact ⟨2, _, 2, rfl, ⟨rfl⟩, ⟨by have := HR.out; omega⟩, ⟨⟨fun k v hv => ⟨by obtain ⟨⟨xs, ho, _⟩, _⟩ := HF.out.V k v hv; exact ⟨xs, ho, fun h => by simp at h⟩, (HF.out.V k v hv).2⟩, fun k g hg => by simp at hg⟩⟩, HLS, HB, HKP⟩
    · obtain rfl : r = 2 := by have := HR.out; omega
      obtain rfl : ri = 2 := HRI.out
      go_wp2
      go_ret
      exact ⟨rfl, HB.out, HKP.out⟩

end Go.Proofs.Ytbhiepfejlhbnaa.HApart
