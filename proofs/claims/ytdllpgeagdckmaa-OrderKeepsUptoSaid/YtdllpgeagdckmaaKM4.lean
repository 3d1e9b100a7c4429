/- Put together out of the texts OApart, OBook, OKeeps: what each proves stands at its head. -/
import Derived.Test.YtdllpgeagdckmaaKM3
import Derived.Test.YtdllpgeagdckmaaKM2
import Derived.Deep.RegionHeld3
import Derived.Deep.RegionLaw
import Derived.IntWalk
import Derived.RegionTactic
import Derived.Outline
import Derived.WalkKit
import Derived.Deep.LoopGhost
import Derived.Deep.QuietTactic
import Derived.BigQuiet
import Derived.Test.YtdllpgeagdckmaaWMore
import Derived.Lib.Hide

/- The contract of quireref01.apartTexts: rows of texts that are told apart by their blocks are found apart. -/
namespace Go.Proofs.Ytdllpgeagdckmaa.HApart
open Go Go.RowKit Go.Proofs.Ytdllpgeagdckmaa.Q Go.Proofs.YtdllpgeagdckmaaW.PrintWords Go.Proofs.YtdllpgeagdckmaaW.PrintLast Go.Proofs.YtdllpgeagdckmaaW.PrintMore Go.Proofs.Ytdllpgeagdckmaa.ApartKit
set_option linter.unusedVariables false
set_option linter.unusedSimpArgs false

theorem infoT : (Try.prog.info? 9).map (fun i => (i.zero, i.size, i.bytes)) = some (some (.string ⟨#[]⟩), 1, 16) := by kernel_rfl
theorem infoTS : (Try.prog.info? 23).map (fun i => (i.zero, i.size, i.bytes)) = some (some (.slice none 0 0), 1, 24) := by kernel_rfl

/-- Where the marks of row k begin. -/
def sumN (n : Nat → Nat) : Nat → Nat
  | 0 => 0
  | k + 1 => sumN n k + (n k + 9)
theorem sumN_mono (n : Nat → Nat) : ∀ {a b : Nat}, a ≤ b → sumN n a ≤ sumN n b := by
  intro a b h
  induction b with
  | zero => obtain rfl : a = 0 := by omega
            exact Nat.le_refl _
  | succ b ih =>
    rcases Nat.lt_or_ge a (b + 1) with hlt | hge
    · have := ih (by omega)
      simp only [sumN]
      omega
    · obtain rfl : a = b + 1 := by omega
      exact Nat.le_refl _
/-- A text that no other number has. -/
def txt (n : Int) : ByteArray := strOfNums [n % 256, (n / 256) % 256, (n / 65536) % 256]
theorem text_any (n : Int) (W : World) : Calls Try.prog 43 #[.int .i64 n] W fun e w' => e = .returned (.string (txt n)) ∧ Below W.heap.size W w' := quireref01_text.calls n _ W rfl
theorem frozen_below {w w1 : World} (hb : Below w.heap.size w w1) {a : Addr} {v : Value} (h : w.cell? a = some v) : w1.frozen? a = w.frozen? a := hb.frozen (World.block_lt_of_cell? w _ h)
def mkT (n : Nat → Nat) (k t : Nat) : Value := .string (txt ((sumN n k : Int) + (t : Int)))
theorem grown_below {W W' : World} (hb : Below W.heap.size W W') (row : Option Nat) : W.grownBy W' row := ⟨hb.os, hb.tape, hb.output, hb.size, fun k hk _ => hb.block k hk⟩

set_option maxHeartbeats 2000000 in
set_option maxRecDepth 100000 in
theorem apartTexts_holds (w0 w : World) (HB0 : Below w0.heap.size w0 w) (lsv : Value) (VL : List Value) (n : Nat → Nat) (f : Nat → Nat) (hls : w.ownsRow w0.heap.size 23 1 lsv VL.length VL)
    (hfam : Fam w w0.heap.size 9 VL [] n (mkT n) f) (hlen : VL.length ≤ 10000000) (hsum : sumN n VL.length ≤ 8000000000000) :
    Calls Try.prog 35 #[lsv] w fun e w' => e = .returned (.bool true) ∧ Below w0.heap.size w0 w' ∧ Kept w w' (fun b => ∃ v, v ∈ VL ∧ v.ownBlock = some b) := by
  obtain ⟨Als, cls, rfl⟩ := own_val hls
  have HLS := Aside0.mk hls
  have HF := Aside0.mk hfam
  have HB := Aside0.mk HB0
  have HSUM := Aside0.mk hsum
  have HBW := Aside0.mk HB0.size
  have HLSW : Aside0 (∀ b, (Value.slice Als VL.length cls).ownBlock = some b → b < w.heap.size) := ⟨fun b hb => own_lt hls b hb⟩
  clear hls hfam HB0 hsum
  go_enter Try.func35, Try.ntmps35
  go_wp2_with fail
  go_loopg [3, 4, 5, 6] VL.length (fun kq v3 v4 v5 v6 w' => ∃ (GL : List Value) (f' : Nat → Nat), v3 = .int .i64 ((sumN n GL.length : Int)) ∧ v5 = .int .i64 (GL.length : Int) ∧ Aside0 (GL.length + kq = VL.length) ∧
    Aside0 (Fam w' w0.heap.size 9 VL GL n (mkT n) f') ∧ Aside0 (w'.ownsRow w.heap.size 23 1 v4 GL.length GL) ∧ Aside0 (w'.ownsRow w0.heap.size 23 1 (.slice Als VL.length cls) VL.length VL) ∧ Aside0 (Below w0.heap.size w0 w') ∧
    Aside0 (Kept w w' (fun b => ∃ v, v ∈ VL ∧ v.ownBlock = some b)))
  case atStart => exact ⟨[], f, rfl, rfl, ⟨by simp⟩, HF, ⟨own_nil _ _ _ _⟩, HLS, HB, ⟨Kept.refl _ _⟩⟩
  case round =>
    clear HF HLS HB
    obtain ⟨GL, f', rfl, rfl, HK, HF, HG, HLS, HB, HKP⟩ := hrel
    obtain ⟨ko, rfl⟩ : ∃ ko : Nat, ko = gk := ⟨_, rfl⟩
    by_cases hlt : GL.length < VL.length
    · obtain ⟨bl, cl, hle, hbl, _⟩ := own_head HLS.out (by omega)
      simp only [Value.slice.injEq] at hle
      obtain ⟨rfl, -, rfl⟩ := hle
      obtain ⟨v, hv⟩ : ∃ v, VL[GL.length]? = some v := ⟨_, List.getElem?_eq_getElem hlt⟩
      obtain ⟨⟨xs, hvo, _⟩, hvf⟩ := HF.out.V _ v hv
      obtain ⟨Av, cv, rfl⟩ := own_val hvo
      have hcl := own_cell HLS.out hv
      have hsm := sumN_mono n (show GL.length + 1 ≤ VL.length by omega)
      simp only [sumN] at hsm
      have hb1 : sumN n GL.length + (n GL.length + 9) ≤ 8000000000000 := Nat.le_trans hsm HSUM.out
      have HV := Aside0.mk hv
      have HVO := Aside0.mk hvo
      have HVF := Aside0.mk hvf
      have HBL := Aside0.mk hbl
      have HLOW : Aside0 (bl < w.heap.size) := ⟨HLSW.out bl (by simp [Value.ownBlock])⟩
      clear hv hvo hvf hsm hbl
      have d0 : decide ((GL.length : Int) < (VL.length : Int)) = true := by simpa using hlt
      have hi0 : (0 : Int) ≤ (GL.length : Int) := by omega
      have hi1 : (GL.length : Int) < (VL.length : Int) := by omega
      obtain ⟨wo, rfl⟩ : ∃ wo : World, wo = wr := ⟨_, rfl⟩
      go_wp2
      go_loopg [7] (n GL.length) (fun kq v7 w' => ∃ (j : Nat) (ys : List Value), v7 = .int .i64 (j : Int) ∧ Aside0 (j + kq = n GL.length) ∧ Aside0 (w'.ownsRow w0.heap.size 9 1 (.slice Av (n GL.length) cv) (n GL.length) ys) ∧
        Aside0 (∀ t, t < j → ys[t]? = some (mkT n GL.length t)) ∧ Aside0 (wo.grownBy w' (Value.slice Av (n GL.length) cv).ownBlock) ∧ Aside0 (w'.ownsRow w0.heap.size 23 1 (.slice (some ⟨bl, 0, none⟩) VL.length cls) VL.length VL))
      case atStart => exact ⟨0, xs, rfl, ⟨by simp⟩, HVO, ⟨fun t ht => by omega⟩, ⟨World.grownBy.refl _ _⟩, HLS⟩
      case round =>
        clear hcl
        obtain ⟨j, ys, rfl, HK2, HY, HM, HGR, HLA⟩ := hrel
        have hcl := own_cell HLA.out HV.out
        by_cases hj : j < n GL.length
        · obtain ⟨bv, cv', hve, hbv, _⟩ := own_head HY.out (by omega)
          simp only [Value.slice.injEq] at hve
          obtain ⟨rfl, -, rfl⟩ := hve
          have hyl : ys.length = n GL.length := by have := HY.out.1; omega
          have hcj : wr.cell? ⟨bv, j, none⟩ = some (ys[j]'(by omega)) := own_cell HY.out (List.getElem?_eq_getElem (by omega))
          have hfj := own_free HY.out j
          have hj0 : (0 : Int) ≤ (j : Int) := by omega
          have hj1 : (j : Int) < (n GL.length : Int) := by omega
          have hbb : bl ≠ bv := fun e => own_ne HLA.out HY.out (by decide) (b := bl) rfl (by rw [e]; rfl)
          have HBB := Aside0.mk hbb
          generalize ys[j]'(by omega) = oldj at hcj
          clear hbb hyl
          have hfar : ∀ w2, Below wr.drew.heap.size wr.drew w2 → w2.cell? ⟨bl, GL.length, none⟩ = some (.slice (some ⟨bv, 0, none⟩) (n GL.length) cv) ∧ w2.cell? ⟨bv, j, none⟩ = some oldj ∧ w2.frozen? ⟨bv, j, none⟩ = false ∧ Below wr.heap.size wr w2 := fun w2 hb =>
            ⟨pw_cell_below hb hcl, pw_cell_below hb hcj, (frozen_below hb hcj).trans hfj, below_step (below_drew (Below.refl _ _)) hb⟩
          have HFAR := Aside0.mk hfar
          clear hfar
          go_wp2_with fail
          have hw1 : IntKind.i64.wrap ((sumN n GL.length : Int) + (j : Int)) = (sumN n GL.length : Int) + (j : Int) := Go.IntWalk.i64_in _ (by omega)
          go_region_law (first | (go_simp; go_at_call 43; refine (text_any _ _).mono ?_; rintro e w2 ⟨rfl, hb⟩; obtain ⟨c1', c2', f2', hb2⟩ := HFAR.out w2 hb; have HB2 := Aside0.mk hb2; clear hb hb2))
          all_goals
            clear hw1
            go_wp2_with fail
            obtain ⟨k2, rfl⟩ : ∃ k2, gk = k2 + 1 := ⟨gk - 1, by have := HK2.out; omega⟩
            go_roundg k2
            case measure => omega
            case rel =>
              have hY2 := own_stay HY.out (fun b hb => HB2.out.block b (own_lt HY.out b hb))
              have hL2 := own_stay HLA.out (fun b hb => HB2.out.block b (own_lt HLA.out b hb))
              have hG2 := World.grownBy.trans HGR.out (grown_below HB2.out _)
              refine ⟨j + 1, ys.set j (.string (txt ((sumN n GL.length : Int) + (j : Int)))), by push_cast; rfl, ⟨by have := HK2.out; omega⟩, ⟨own_put hY2 j hj _⟩, ⟨fun t ht => ?_⟩, ⟨?_⟩, ?_⟩
              · have hyl : ys.length = n GL.length := by have := HY.out.1; omega
                by_cases he : t = j
                · subst he
                  rw [List.getElem?_set_self (by omega)]
                  rfl
                · rw [List.getElem?_set_ne (by omega)]
                  exact HM.out t (by omega)
              · exact ⟨hG2.os, hG2.tape, hG2.output, by simpa [World.setCell] using hG2.size, fun b hb hne => (Below.heap_setCell _ ⟨bv, j, none⟩ _ b (fun e => hne (by rw [e]; rfl))).trans (hG2.block b hb hne)⟩
              · exact ⟨own_setCell hL2 (fun e => HBB.out (by simpa [Value.ownBlock] using e.symm)) _⟩
        · have hjn : j = n GL.length := by have := HK2.out; omega
          have hd : decide ((j : Int) < (n GL.length : Int)) = false := by simp; omega
          have HJN := Aside0.mk hjn
          clear hjn
          have hwa : Below w0.heap.size w0 wr := HB.out.grown HGR.out HB.out.size (fun b hb => own_base HVO.out b hb)
          have HWA := Aside0.mk hwa
          clear hwa
          obtain ⟨wa, rfl⟩ : ∃ wa : World, wa = wr := ⟨_, rfl⟩
          go_wp2
          go_loopg [6, 8] 9 (fun kq v6 v8 w' => ∃ (j : Nat) (xs ys : List Value), v8 = .int .i64 (j : Int) ∧ Aside0 (j + kq = 9) ∧ Aside0 (w'.ownsRow w0.heap.size 9 1 (.slice Av (n GL.length) cv) (n GL.length) xs) ∧ Aside0 (∀ t, t < n GL.length → xs[t]? = some (mkT n GL.length t)) ∧
            Aside0 (w'.ownsRow w0.heap.size 9 1 v6 (n GL.length + j) ys) ∧ Aside0 (∀ t, t < n GL.length + j → ys[t]? = some (mkT n GL.length t)) ∧
            Aside0 (v6.ownBlock = (Value.slice Av (n GL.length) cv).ownBlock ∨ ∃ b, v6.ownBlock = some b ∧ wa.heap.size ≤ b) ∧ Aside0 (∀ b, b < wa.heap.size → (Value.slice Av (n GL.length) cv).ownBlock ≠ some b → w'.heap[b]? = wa.heap[b]?) ∧
            Aside0 (Below w0.heap.size w0 w') ∧ Aside0 (wa.heap.size ≤ w'.heap.size) ∧ Aside0 (w'.ownsRow w0.heap.size 23 1 (.slice (some ⟨bl, 0, none⟩) VL.length cls) VL.length VL))
          case atStart => exact ⟨0, ys, ys, rfl, ⟨rfl⟩, HY, ⟨fun t ht => HM.out t (by have := HJN.out; omega)⟩, HY, ⟨fun t ht => HM.out t (by have := HJN.out; omega)⟩, ⟨.inl rfl⟩, ⟨fun _ _ _ => rfl⟩, HWA, ⟨Nat.le_refl _⟩, HLA⟩
          case round =>
            clear hcl
            obtain ⟨j2, xs2, ys2, rfl, HK3, HX2, HMX, HY2, HMY, HWH, HKB, HB2, HSZ, HLB⟩ := hrel
            have hcl := own_cell HLB.out HV.out
            by_cases hj9 : j2 < 9
            · have hj90 : (0 : Int) ≤ (j2 : Int) := by omega
              have hj91 : (j2 : Int) < 9 := by omega
              go_wp2_with (first | (go_at_call 43; refine (text_any _ _).mono ?_; rintro e w2 ⟨rfl, hb⟩; have hX := own_stay HX2.out (fun b hb' => hb.block b (own_lt HX2.out b hb')); have hY := own_stay HY2.out (fun b hb' => hb.block b (own_lt HY2.out b hb')); have hL := own_stay HLB.out (fun b hb' => hb.block b (own_lt HLB.out b hb')); have hK := (show ∀ b, b < wa.heap.size → (Value.slice Av (n GL.length) cv).ownBlock ≠ some b → w2.heap[b]? = wa.heap[b]? from fun b h1 h2 => (hb.block b (Nat.lt_of_lt_of_le h1 HSZ.out)).trans (HKB.out b h1 h2)); have hB := HB2.out.trans (hb.mono HB2.out.size); have hS := Nat.le_trans HSZ.out hb.size; clear HX2 HY2 HLB HKB HB2 HSZ hb hcl; have HX2 := Aside0.mk hX; have HY2 := Aside0.mk hY; have HLB := Aside0.mk hL; have HKB := Aside0.mk hK; have HB2 := Aside0.mk hB; have HSZ := Aside0.mk hS; clear hX hY hL hK hB hS) | ((with_reducible refine gate_builtin (b := .append) (xs := #[.tmp 44, .tmp 55]) rfl ?_); at_builtin; refine wpList_append_two w2 rfl (.tmp 44) (.tmp 55) _ rfl w0.heap.size 9 (.string ⟨#[]⟩) 16 Try.underlying23 infoT rfl u6 (.string (txt ((sumN n GL.length : Int) + (n GL.length : Int) + (j2 : Int)))) (n GL.length + j2) ys2 rfl HY2.out rfl rfl ?aM ?aB ?aS ?_; (case aM => (simp only [maxLen]; omega)); (case aB => omega); (case aS => exact HB2.out.size); intro v' w5 ho hcase; have HO5 := Aside0.mk ho; have HC5 := Aside0.mk hcase; clear ho hcase))
              cases gk with
              | zero => have := HK3.out; omega
              | succ k3 =>
                have hlv : ∀ b, (Value.slice Av (n GL.length) cv).ownBlock = some b → b < w2.heap.size := fun b hb => own_lt HX2.out b hb
                have hu6 : ∀ b, u6.ownBlock = some b → b < w2.heap.size := fun b hb => own_lt HY2.out b hb
                have hls : bl < w2.heap.size := own_lt HLB.out bl rfl
                have hne6 : u6.ownBlock ≠ some bl := own_ne HLB.out HY2.out (by decide) rfl
                have hstay : ∀ b, b < w2.heap.size → u6.ownBlock ≠ some b → w5.heap[b]? = w2.heap[b]? := fun b hb hn => by
                  rcases HC5.out with ⟨g, cap, e1, e2, hg⟩ | ⟨_, hbel⟩
                  · exact hg.block b hb (fun e => hn (by rw [e1]; exact e.symm))
                  · exact hbel.block b hb
                have hsz5 : w2.heap.size ≤ w5.heap.size := by
                  rcases HC5.out with ⟨g, cap, e1, e2, hg⟩ | ⟨_, hbel⟩
                  · exact hg.size
                  · exact hbel.size
                have hx5 : ∃ zs, w5.ownsRow w0.heap.size 9 1 (.slice Av (n GL.length) cv) (n GL.length) zs ∧ ∀ t, t < n GL.length → zs[t]? = some (mkT n GL.length t) := by
                  by_cases hsame : u6.ownBlock = (Value.slice Av (n GL.length) cv).ownBlock
                  · rcases HC5.out with ⟨g, cap, e1, e2, hg⟩ | ⟨_, hbel⟩
                    · rw [e2] at HO5
                      obtain ⟨hl5, hr5⟩ := HO5.out
                      rcases hr5 with ⟨hr5, _⟩ | ⟨g', cap', cur, hv5, hb5, hh5, hn5, hm5, hs5, ht5⟩
                      · simp at hr5
                      · simp only [Value.slice.injEq, Option.some.injEq, Addr.mk.injEq, and_true, true_and] at hv5
                        obtain ⟨rfl, rfl⟩ := hv5
                        obtain ⟨hlx, hrx⟩ := HX2.out
                        have hug : u6.ownBlock = some g := by rw [e1]; rfl
                        rcases hrx with ⟨hrx, hn0⟩ | ⟨gx, capx, curx, hvx, hbx, hhx, hnx, hmx, hsx, htx⟩
                        · exact ⟨xs2, ⟨hlx, .inl ⟨hrx, hn0⟩⟩, HMX.out⟩
                        · have hgx : gx = g := by
                            rw [hsame, hvx] at hug
                            simpa [Value.ownBlock] using hug
                          subst hgx
                          obtain ⟨hly, hry⟩ := HY2.out
                          rw [e1] at hry
                          rcases hry with ⟨hry, _⟩ | ⟨gy, capy, cury, hvy, hby, hhy, hny, hmy, hsy, hty⟩
                          · simp at hry
                          · simp only [Value.slice.injEq, Option.some.injEq, Addr.mk.injEq, and_true, true_and] at hvy
                            obtain ⟨rfl, rfl⟩ := hvy
                            rw [hhx] at hhy
                            simp only [Option.some.injEq, Obj.cells.injEq, and_true] at hhy
                            subst hhy
                            have hcap : capx = cap := by omega
                            subst hcap
                            refine ⟨cur.toList.take (n GL.length), ⟨?_, .inr ⟨gx, capx, cur, hvx, hbx, hh5, hnx, hmx, hs5, by simp⟩⟩, fun t ht => ?_⟩
                            · rw [List.length_take]; have hcl' : cur.toList.length = cur.size := Array.length_toList; omega
                            · rw [List.getElem?_take_of_lt ht]
                              have h7 : (cur.toList.take ((n GL.length + j2 + 1) * 1))[t]? = some (mkT n GL.length t) := by
                                rw [ht5, List.getElem?_append_left (by rw [hly]; omega)]
                                exact HMY.out t (by omega)
                              rwa [List.getElem?_take_of_lt (by omega)] at h7
                    · exact ⟨xs2, own_stay HX2.out (fun b hb => hbel.block b (hlv b hb)), HMX.out⟩
                  · exact ⟨xs2, own_stay HX2.out (fun b hb => hstay b (hlv b hb) (fun e => hsame (by rw [hb]; exact e))), HMX.out⟩
                obtain ⟨zs, hzo, hzm⟩ := hx5
                have HZO := Aside0.mk hzo
                have HZM := Aside0.mk hzm
                have HWH5 : Aside0 (v'.ownBlock = (Value.slice Av (n GL.length) cv).ownBlock ∨ ∃ b, v'.ownBlock = some b ∧ wa.heap.size ≤ b) := ⟨by
                  rcases HC5.out with ⟨g, cap, e1, e2, hg⟩ | ⟨⟨b, hb, hle⟩, hbel⟩
                  · have : v'.ownBlock = u6.ownBlock := by rw [e1, e2]; rfl
                    rw [this]
                    exact HWH.out
                  · exact .inr ⟨b, hb, Nat.le_trans HSZ.out hle⟩⟩
                have HKB5 : Aside0 (∀ b, b < wa.heap.size → (Value.slice Av (n GL.length) cv).ownBlock ≠ some b → w5.heap[b]? = wa.heap[b]?) := ⟨fun b hb hn => by
                  refine (hstay b (Nat.lt_of_lt_of_le hb HSZ.out) (fun e => ?_)).trans (HKB.out b hb hn)
                  rcases HWH.out with h | ⟨b', h, hle⟩
                  · exact hn (by rw [← h]; exact e)
                  · rw [h] at e
                    injection e with e
                    omega⟩
                have HB5 : Aside0 (Below w0.heap.size w0 w5) := ⟨by
                  rcases HC5.out with ⟨g, cap, e1, e2, hg⟩ | ⟨_, hbel⟩
                  · exact HB2.out.grown hg HB2.out.size (fun b hb => by cases hb; exact own_base HY2.out g (by rw [e1]; rfl))
                  · exact HB2.out.trans (hbel.mono HB2.out.size)⟩
                have HLB5 : Aside0 (w5.ownsRow w0.heap.size 23 1 (.slice (some ⟨bl, 0, none⟩) VL.length cls) VL.length VL) := ⟨own_stay HLB.out (fun b hb => by
                  have : bl = b := by simpa [Value.ownBlock] using hb
                  subst this
                  exact hstay bl hls hne6)⟩
                have HMY5 : Aside0 (∀ t, t < n GL.length + (j2 + 1) → (ys2 ++ [Value.string (txt ((sumN n GL.length : Int) + (n GL.length : Int) + (j2 : Int)))])[t]? = some (mkT n GL.length t)) := ⟨fun t ht => by
                  have hly := HY2.out.1
                  by_cases he : t < n GL.length + j2
                  · rw [List.getElem?_append_left (by omega)]
                    exact HMY.out t he
                  · obtain rfl : t = n GL.length + j2 := by omega
                    rw [List.getElem?_append_right (by omega)]
                    have e0 : n GL.length + j2 - ys2.length = 0 := by omega
                    rw [e0]
                    simp only [List.getElem?_cons_zero, mkT]
                    congr 3
                    push_cast
                    omega⟩
                have HSZ5 : Aside0 (wa.heap.size ≤ w5.heap.size) := ⟨Nat.le_trans HSZ.out hsz5⟩
                clear hlv hu6 hls hne6 hstay hsz5 hzo hzm
                go_roundg k3
                case measure => omega
                case rel => exact ⟨j2 + 1, zs, _, by simp, ⟨by have := HK3.out; omega⟩, HZO, HZM, ⟨by have := HO5.out; rwa [Nat.add_assoc] at this⟩, HMY5, HWH5, HKB5, HB5, HSZ5, HLB5⟩
            · obtain rfl : j2 = 9 := by have := HK3.out; omega
              obtain ⟨Ag, cg, hge⟩ := own_val HY2.out
              subst hge
              have HSTEP := Aside0.mk (HF.out.next HV.out HX2.out HMX.out HY2.out HMY.out (by
                rcases HWH.out with h | ⟨b, hb, hle⟩
                · exact .inl h
                · exact .inr ⟨b, hb, Nat.le_trans HGR.out.size hle⟩) (fun b hb hn => (HKB.out b (Nat.lt_of_lt_of_le hb HGR.out.size) hn).trans (HGR.out.block b hb (fun e => hn e.symm))))
              have hgr : wr.ownsRow w.heap.size 23 1 u4 GL.length GL := own_stay HG.out (fun b hb => by
                have hlt := own_lt HG.out b hb
                have hne := own_ne HG.out HVO.out (by decide) hb
                exact (HKB.out b (Nat.lt_of_lt_of_le hlt HGR.out.size) hne).trans (HGR.out.block b hlt (fun e => hne e.symm)))
              have HGR2 := Aside0.mk hgr
              have hkp : Kept w wr (fun b => ∃ v, v ∈ VL ∧ v.ownBlock = some b) := HKP.out.then_ (S2 := fun b => (Value.slice Av (n GL.length) cv).ownBlock = some b) ⟨Nat.le_trans HGR.out.size HSZ.out, fun b hb hn => (HKB.out b (Nat.lt_of_lt_of_le hb HGR.out.size) hn).trans (HGR.out.block b hb (fun e => hn e.symm))⟩ (fun b hb => .inl ⟨_, List.mem_of_getElem? HV.out, hb⟩)
              have HKP2 := Aside0.mk hkp
              have hwsz : w.heap.size ≤ wr.heap.size := hkp.1
              clear hgr hkp HF HG HKP HGR HWH HKB hwsz
              have hd9 : decide ((9 : Int) < 9) = false := by decide
              go_wp2_with ((with_reducible refine gate_builtin (b := .append) (xs := #[.tmp 57, .tmp 59]) rfl ?_); at_builtin; refine wpList_append_two wr rfl (.tmp 57) (.tmp 59) _ rfl w.heap.size 23 (.slice none 0 0) 24 Try.underlying37 infoTS rfl u4 (.slice Ag (n GL.length + 9) cg) GL.length GL rfl HGR2.out rfl rfl ?aM ?aB ?aS ?_; (case aM => (simp only [maxLen]; omega)); (case aB => omega); (case aS => exact HKP2.out.1); intro v' w5 ho hcase; have HO5 := Aside0.mk ho; have HC5 := Aside0.mk hcase; clear ho hcase hcl)
              cases ko with
              | zero => have := HK.out; omega
              | succ k3 =>
                have hstay : ∀ b, b < wr.heap.size → u4.ownBlock ≠ some b → w5.heap[b]? = wr.heap[b]? := fun b hb hn => by
                  rcases HC5.out with ⟨g, cap, e1, e2, hg⟩ | ⟨_, hbel⟩
                  · exact hg.block b hb (fun e => hn (by rw [e1]; exact e.symm))
                  · exact hbel.block b hb
                have HF5 := Aside0.mk (HSTEP.out.stay (w' := w5) (fun b cs hc => hstay b (blk_lt hc) (fun e => by
                  obtain ⟨cs', hc'⟩ := own_typed HGR2.out b e
                  rw [hc] at hc'
                  simp at hc')))
                have HLS5 : Aside0 (w5.ownsRow w0.heap.size 23 1 (.slice (some ⟨bl, 0, none⟩) VL.length cls) VL.length VL) := ⟨own_stay HLB.out (fun b hb => hstay b (own_lt HLB.out b hb) (fun e => by
                  have h1 := own_base HGR2.out b e
                  have h2 : bl = b := by simpa [Value.ownBlock] using hb
                  have h3 := HLOW.out
                  omega))⟩
                have HB5 : Aside0 (Below w0.heap.size w0 w5) := ⟨by
                  rcases HC5.out with ⟨g, cap, e1, e2, hg⟩ | ⟨_, hbel⟩
                  · exact HB2.out.grown hg HB2.out.size (fun b hb => by cases hb; exact Nat.le_trans HBW.out (own_base HGR2.out g (by rw [e1]; rfl)))
                  · exact HB2.out.trans (hbel.mono HB2.out.size)⟩
                have HKP5 : Aside0 (Kept w w5 (fun b => ∃ v, v ∈ VL ∧ v.ownBlock = some b)) := ⟨HKP2.out.then_ (S2 := fun b => u4.ownBlock = some b) ⟨by
                  rcases HC5.out with ⟨g, cap, e1, e2, hg⟩ | ⟨_, hbel⟩
                  · exact hg.size
                  · exact hbel.size, hstay⟩ (fun b hb => .inr (own_base HGR2.out b hb))⟩
                clear hstay
                go_roundg k3
                case measure => omega
                case rel =>
                  refine ⟨GL ++ [.slice Ag (n GL.length + 9) cg], _, ?_, ?_, ⟨?_⟩, HF5, ⟨?_⟩, HLS5, HB5, HKP5⟩
                  · simp only [List.length_append, List.length_singleton, sumN]
                    exact congrArg _ (by push_cast; omega)
                  · simp
                  · have := HK.out
                    simp only [List.length_append, List.length_singleton]
                    omega
                  · have := HO5.out
                    simpa using this
    · have hge : GL.length = VL.length := by have := HK.out; omega
      have HGE := Aside0.mk hge
      have hd : decide ((GL.length : Int) < (VL.length : Int)) = false := by simp; omega
      obtain ⟨Ag, cg, hgv⟩ := own_val HG.out
      subst hgv
      clear hge
      obtain ⟨wz, rfl⟩ : ∃ wz : World, wz = wr := ⟨_, rfl⟩
      go_wp2
      go_loopg [3, 9, 10] GL.length (fun kq v3 v9 v10 w' => ∃ (i2 : Nat), v3 = .int .i64 ((sumN n i2 : Int)) ∧ v9 = .int .i64 (i2 : Int) ∧ Aside0 (i2 + kq = GL.length) ∧ Aside0 (Below wz.heap.size wz w'))
      case atStart => exact ⟨0, rfl, rfl, ⟨by simp⟩, ⟨Below.refl _ _⟩⟩
      case round =>
        obtain ⟨i2, rfl, rfl, HK2, HW⟩ := hrel
        obtain ⟨ko2, rfl⟩ : ∃ ko2 : Nat, ko2 = gk := ⟨_, rfl⟩
        by_cases hi2 : i2 < GL.length
        · have hd2 : decide ((i2 : Int) < (GL.length : Int)) = true := by simpa using hi2
          obtain ⟨bg, cg', hgh, _, _⟩ := own_head HG.out (by omega)
          simp only [Value.slice.injEq] at hgh
          obtain ⟨rfl, -, rfl⟩ := hgh
          obtain ⟨bl, cl', hlh, _, _⟩ := own_head HLS.out (by have := HGE.out; omega)
          simp only [Value.slice.injEq] at hlh
          obtain ⟨rfl, -, rfl⟩ := hlh
          obtain ⟨g, hg⟩ : ∃ g, GL[i2]? = some g := ⟨_, List.getElem?_eq_getElem hi2⟩
          obtain ⟨v, hv⟩ : ∃ v, VL[i2]? = some v := ⟨_, List.getElem?_eq_getElem (by have := HGE.out; omega)⟩
          obtain ⟨⟨ys, hgo, hgm⟩, _⟩ := HF.out.G _ g hg
          obtain ⟨⟨xs, hvo, hvm⟩, _⟩ := HF.out.V _ v hv
          have hcg := pw_cell_below HW.out (own_cell HG.out hg)
          have hcv := pw_cell_below HW.out (own_cell HLS.out hv)
          have HCG := Aside0.mk (own_cell HG.out hg)
          have HCV := Aside0.mk (own_cell HLS.out hv)
          obtain ⟨Ai, ci, rfl⟩ := own_val hgo
          obtain ⟨Avi, cvi, rfl⟩ := own_val hvo
          obtain ⟨bgi, ci', hgih, _, _⟩ := own_head hgo (by omega)
          simp only [Value.slice.injEq] at hgih
          obtain ⟨rfl, -, rfl⟩ := hgih
          have hsm := sumN_mono n (show i2 + 1 ≤ VL.length by have := HGE.out; omega)
          simp only [sumN] at hsm
          have hb1 : sumN n i2 + (n i2 + 9) ≤ 8000000000000 := Nat.le_trans hsm HSUM.out
          have hi20 : (0 : Int) ≤ (i2 : Int) := by omega
          have hi21 : (i2 : Int) < (GL.length : Int) := by omega
          have hi22 : (i2 : Int) < (VL.length : Int) := by have := HGE.out; omega
          have HGO := Aside0.mk hgo
          have HGM := Aside0.mk hgm
          have HVO := Aside0.mk hvo
          have HVM := Aside0.mk (hvm hi2)
          clear hgo hgm hvo hvm hsm hg hv
          go_wp2
          obtain ⟨wy, rfl⟩ : ∃ wy : World, wy = wr := ⟨_, rfl⟩
          go_loopg [10] (n i2 + 9) (fun kq v10 w' => ∃ (j : Nat), v10 = .int .i64 (j : Int) ∧ Aside0 (j + kq = n i2 + 9) ∧ Aside0 (Below wz.heap.size wz w'))
          case atStart => exact ⟨0, rfl, ⟨by simp⟩, HW⟩
          case round =>
            clear hcg hcv HW
            obtain ⟨j, rfl, HK3, HW⟩ := hrel
            have hcg := pw_cell_below HW.out HCG.out
            have hcv := pw_cell_below HW.out HCV.out
            by_cases hj : j < n i2 + 9
            · have hd3 : decide ((j : Int) < (n i2 : Int) + 9) = true := by simp; omega
              have hj0 : (0 : Int) ≤ (j : Int) := by omega
              have hj1 : (j : Int) < (n i2 : Int) + 9 := by omega
              have hcy := pw_cell_below HW.out (own_cell HGO.out (HGM.out j hj))
              unfold mkT at hcy
              obtain ⟨k3, rfl⟩ : ∃ k3, gk = k3 + 1 := ⟨gk - 1, by have := HK3.out; omega⟩
              have hBd : Below wz.heap.size wz wr.drew := below_drew HW.out
              by_cases hjn : j < n i2
              · obtain ⟨bvi, cvi', hvih, _, _⟩ := own_head HVO.out (by omega)
                simp only [Value.slice.injEq] at hvih
                obtain ⟨rfl, -, rfl⟩ := hvih
                have hcx := pw_cell_below HW.out (own_cell HVO.out (HVM.out j hjn))
                unfold mkT at hcx
                have hd4 : decide ((j : Int) < (n i2 : Int)) = true := by simpa using hjn
                have hd5 : decide (j < n i2) = true := decide_eq_true hjn
                have hj2 : (j : Int) < (n i2 : Int) := by omega
                go_wp2_with fail
                have hw1 : IntKind.i64.wrap ((sumN n i2 : Int) + (j : Int)) = (sumN n i2 : Int) + (j : Int) := Go.IntWalk.i64_in _ (by omega)
                refine start_ (n := 35) (S := (fun w' => w'.cell? ⟨bg, i2, none⟩ = some (.slice (some ⟨bgi, 0, none⟩) (n i2 + 9) ci) ∧ w'.cell? ⟨bgi, j, none⟩ = some (.string (txt ((sumN n i2 : Int) + (j : Int)))) ∧ w'.cell? ⟨bl, i2, none⟩ = some (.slice (some ⟨bvi, 0, none⟩) (n i2) cvi) ∧ w'.cell? ⟨bvi, j, none⟩ = some (.string (txt ((sumN n i2 : Int) + (j : Int)))) ∧ Below wz.heap.size wz w')) (ds := []) #[false, false, false, false, false, false, false, false, false, false, false, false, false, false, false, false, false, false, false, false, false, false, false, false, false, false, false, false, false, false, false, false, false, false, false] (by kernel_rfl) rfl rfl ⟨hcg, hcy, hcv, hcx, hBd⟩ (fun hHeld => ?_)
                refine pure_ (i := 0) (N := some 80) (v := ?_) (a' := ?_) #[true, false, false, false, false, false, false, false, false, false, false, false, false, false, false, false, false, false, false, false, false, false, false, false, false, false, false, false, false, false, false, false, false, false, false] rfl rfl (by kernel_rfl) (fun _ _ _ h => h) (Or.inl ⟨by rfl, ?_⟩) ?_ ?_
                rotate_left
                · intro w'
                  go_simp
                  with_reducible rfl
                rotate_left
                · simp only [Act.put, List.setIfInBounds_toArray, List.set_cons_zero, List.set_cons_succ]
                  rfl
                refine pure_ (i := 1) (N := some 81) (v := ?_) (a' := ?_) #[true, true, false, false, false, false, false, false, false, false, false, false, false, false, false, false, false, false, false, false, false, false, false, false, false, false, false, false, false, false, false, false, false, false, false] rfl rfl (by kernel_rfl) (fun _ _ _ h => h) (Or.inl ⟨by rfl, ?_⟩) ?_ ?_
                rotate_left
                · intro w'
                  go_simp
                  with_reducible rfl
                rotate_left
                · simp only [Act.put, List.setIfInBounds_toArray, List.set_cons_zero, List.set_cons_succ]
                  rfl
                refine pure_ (i := 2) (N := some 82) (v := ?_) (a' := ?_) #[true, true, true, false, false, false, false, false, false, false, false, false, false, false, false, false, false, false, false, false, false, false, false, false, false, false, false, false, false, false, false, false, false, false, false] rfl rfl (by kernel_rfl) (fun _ _ _ h => h) (Or.inl ⟨by rfl, ?_⟩) ?_ ?_
                rotate_left
                · intro w'
                  go_simp
                  with_reducible rfl
                rotate_left
                · simp only [Act.put, List.setIfInBounds_toArray, List.set_cons_zero, List.set_cons_succ]
                  rfl
                refine take_ (i := 3) (N := some 83) (v := ?_) (a' := ?_) #[true, true, true, true, false, false, false, false, false, false, false, false, false, false, false, false, false, false, false, false, false, false, false, false, false, false, false, false, false, false, false, false, false, false, false] rfl rfl (by kernel_rfl) (fun _ _ _ h => h) (Or.inl ⟨by rfl, ?_⟩) hHeld ?_ ?_
                rotate_left
                · rintro w' ⟨s0, s1, s2, s3, s4⟩
                  go_simp
                  with_reducible rfl
                rotate_left
                · simp only [Act.put, List.setIfInBounds_toArray, List.set_cons_zero, List.set_cons_succ]
                  rfl
                refine pure_ (i := 4) (N := some 84) (v := ?_) (a' := ?_) #[true, true, true, true, true, false, false, false, false, false, false, false, false, false, false, false, false, false, false, false, false, false, false, false, false, false, false, false, false, false, false, false, false, false, false] rfl rfl (by kernel_rfl) (fun _ _ _ h => h) (Or.inl ⟨by rfl, ?_⟩) ?_ ?_
                rotate_left
                · intro w'
                  go_simp
                  with_reducible rfl
                rotate_left
                · simp only [Act.put, List.setIfInBounds_toArray, List.set_cons_zero, List.set_cons_succ]
                  rfl
                refine pure_ (i := 5) (N := some 85) (v := ?_) (a' := ?_) #[true, true, true, true, true, true, false, false, false, false, false, false, false, false, false, false, false, false, false, false, false, false, false, false, false, false, false, false, false, false, false, false, false, false, false] rfl rfl (by kernel_rfl) (fun _ _ _ h => h) (Or.inl ⟨by rfl, ?_⟩) ?_ ?_
                rotate_left
                · intro w'
                  go_simp
                  with_reducible rfl
                rotate_left
                · simp only [Act.put, List.setIfInBounds_toArray, List.set_cons_zero, List.set_cons_succ]
                  rfl
                refine take_ (i := 6) (N := some 86) (v := ?_) (a' := ?_) #[true, true, true, true, true, true, true, false, false, false, false, false, false, false, false, false, false, false, false, false, false, false, false, false, false, false, false, false, false, false, false, false, false, false, false] rfl rfl (by kernel_rfl) (fun _ _ _ h => h) (Or.inl ⟨by rfl, ?_⟩) hHeld ?_ ?_
                rotate_left
                · rintro w' ⟨s0, s1, s2, s3, s4⟩
                  go_simp
                  with_reducible rfl
                rotate_left
                · simp only [Act.put, List.setIfInBounds_toArray, List.set_cons_zero, List.set_cons_succ]
                  rfl
                refine pure_ (i := 7) (N := some 87) (v := ?_) (a' := ?_) #[true, true, true, true, true, true, true, true, false, false, false, false, false, false, false, false, false, false, false, false, false, false, false, false, false, false, false, false, false, false, false, false, false, false, false] rfl rfl (by kernel_rfl) (fun _ _ _ h => h) (Or.inl ⟨by rfl, ?_⟩) ?_ ?_
                rotate_left
                · intro w'
                  go_simp
                  with_reducible rfl
                rotate_left
                · simp only [Act.put, List.setIfInBounds_toArray, List.set_cons_zero, List.set_cons_succ]
                  rfl
                refine pure_ (i := 8) (N := some 88) (v := ?_) (a' := ?_) #[true, true, true, true, true, true, true, true, true, false, false, false, false, false, false, false, false, false, false, false, false, false, false, false, false, false, false, false, false, false, false, false, false, false, false] rfl rfl (by kernel_rfl) (fun _ _ _ h => h) (Or.inl ⟨by rfl, ?_⟩) ?_ ?_
                rotate_left
                · intro w'
                  go_simp
                  with_reducible rfl
                rotate_left
                · simp only [Act.put, List.setIfInBounds_toArray, List.set_cons_zero, List.set_cons_succ]
                  rfl
                refine pure_ (i := 9) (N := some 89) (v := .int .i64 ((sumN n i2 : Int) + (j : Int))) (a' := ?_) #[true, true, true, true, true, true, true, true, true, true, false, false, false, false, false, false, false, false, false, false, false, false, false, false, false, false, false, false, false, false, false, false, false, false, false] rfl rfl (by kernel_rfl) (fun _ _ _ h => h) (Or.inl ⟨by rfl, fun w' => ?_⟩) ?_ ?_
                · go_simp
                rotate_left
                · simp only [Act.put, List.setIfInBounds_toArray, List.set_cons_zero, List.set_cons_succ]
                  rfl
                refine one_ (i := 10) (N := some 90) #[true, true, true, true, true, true, true, true, true, true, true, false, false, false, false, false, false, false, false, false, false, false, false, false, false, false, false, false, false, false, false, false, false, false, false] rfl rfl (by kernel_rfl) (by decide) (fun K hK => ?_)
                refine goes_ Try.func43 (by kernel_rfl) rfl #[.int .i64 ((sumN n i2 : Int) + (j : Int))] (by rfl) rfl rfl (by first | rfl | simp [Act.eval]) ?_
                refine (text_any _ _).mono ?_
                rintro e w2 ⟨rfl, hb⟩
                refine ⟨_, rfl, ?_⟩
                refine hK.out _ _ (⟨pw_cell_below hb hHeld.1, pw_cell_below hb hHeld.2.1, pw_cell_below hb hHeld.2.2.1, pw_cell_below hb hHeld.2.2.2.1, below_step hHeld.2.2.2.2 hb⟩) (fun hHeld => ?_)
                clear hK K
                refine norm_ (a' := ?_) ?_ ?_
                rotate_left
                · show Act.put _ (some 90) _ = _
                  simp only [Act.put, List.setIfInBounds_toArray, List.set_cons_zero, List.set_cons_succ]
                  rfl
                refine pure_ (i := 11) (N := some 91) (v := .bool false) (a' := ?_) #[true, true, true, true, true, true, true, true, true, true, true, true, false, false, false, false, false, false, false, false, false, false, false, false, false, false, false, false, false, false, false, false, false, false, false] rfl rfl (by kernel_rfl) (fun _ _ _ h => h) (Or.inl ⟨by rfl, fun w' => ?_⟩) ?_ ?_
                · go_simp
                rotate_left
                · simp only [Act.put, List.setIfInBounds_toArray, List.set_cons_zero, List.set_cons_succ]
                  rfl
                refine pure_ (i := 12) (N := some 92) (v := ?_) (a' := ?_) #[true, true, true, true, true, true, true, true, true, true, true, true, true, false, false, false, false, false, false, false, false, false, false, false, false, false, false, false, false, false, false, false, false, false, false] rfl rfl (by kernel_rfl) (fun _ _ _ h => h) (Or.inl ⟨by rfl, ?_⟩) ?_ ?_
                rotate_left
                · intro w'
                  go_simp
                  with_reducible rfl
                rotate_left
                · simp only [Act.put, List.setIfInBounds_toArray, List.set_cons_zero, List.set_cons_succ]
                  rfl
                refine pure_ (i := 13) (N := some 93) (v := ?_) (a' := ?_) #[true, true, true, true, true, true, true, true, true, true, true, true, true, true, false, false, false, false, false, false, false, false, false, false, false, false, false, false, false, false, false, false, false, false, false] rfl rfl (by kernel_rfl) (fun _ _ _ h => h) (Or.inl ⟨by rfl, ?_⟩) ?_ ?_
                rotate_left
                · intro w'
                  go_simp
                  with_reducible rfl
                rotate_left
                · simp only [Act.put, List.setIfInBounds_toArray, List.set_cons_zero, List.set_cons_succ]
                  rfl
                refine pure_ (i := 14) (N := some 94) (v := ?_) (a' := ?_) #[true, true, true, true, true, true, true, true, true, true, true, true, true, true, true, false, false, false, false, false, false, false, false, false, false, false, false, false, false, false, false, false, false, false, false] rfl rfl (by kernel_rfl) (fun _ _ _ h => h) (Or.inl ⟨by rfl, ?_⟩) ?_ ?_
                rotate_left
                · intro w'
                  go_simp
                  with_reducible rfl
                rotate_left
                · simp only [Act.put, List.setIfInBounds_toArray, List.set_cons_zero, List.set_cons_succ]
                  rfl
                refine pure_ (i := 15) (N := some 95) (v := ?_) (a' := ?_) #[true, true, true, true, true, true, true, true, true, true, true, true, true, true, true, true, false, false, false, false, false, false, false, false, false, false, false, false, false, false, false, false, false, false, false] rfl rfl (by kernel_rfl) (fun _ _ _ h => h) (Or.inl ⟨by rfl, ?_⟩) ?_ ?_
                rotate_left
                · intro w'
                  go_simp
                  with_reducible rfl
                rotate_left
                · simp only [Act.put, List.setIfInBounds_toArray, List.set_cons_zero, List.set_cons_succ]
                  rfl
                refine pure_ (i := 16) (N := some 96) (v := ?_) (a' := ?_) #[true, true, true, true, true, true, true, true, true, true, true, true, true, true, true, true, true, false, false, false, false, false, false, false, false, false, false, false, false, false, false, false, false, false, false] rfl rfl (by kernel_rfl) (fun _ _ _ h => h) (Or.inl ⟨by rfl, ?_⟩) ?_ ?_
                rotate_left
                · intro w'
                  go_simp
                  with_reducible rfl
                rotate_left
                · simp only [Act.put, List.setIfInBounds_toArray, List.set_cons_zero, List.set_cons_succ]
                  rfl
                refine take_ (i := 17) (N := some 97) (v := ?_) (a' := ?_) #[true, true, true, true, true, true, true, true, true, true, true, true, true, true, true, true, true, true, false, false, false, false, false, false, false, false, false, false, false, false, false, false, false, false, false] rfl rfl (by kernel_rfl) (fun _ _ _ h => h) (Or.inl ⟨by rfl, ?_⟩) hHeld ?_ ?_
                rotate_left
                · rintro w' ⟨s0, s1, s2, s3, s4⟩
                  go_simp
                  with_reducible rfl
                rotate_left
                · simp only [Act.put, List.setIfInBounds_toArray, List.set_cons_zero, List.set_cons_succ]
                  rfl
                refine pure_ (i := 18) (N := some 98) (v := ?_) (a' := ?_) #[true, true, true, true, true, true, true, true, true, true, true, true, true, true, true, true, true, true, true, false, false, false, false, false, false, false, false, false, false, false, false, false, false, false, false] rfl rfl (by kernel_rfl) (fun _ _ _ h => h) (Or.inl ⟨by rfl, ?_⟩) ?_ ?_
                rotate_left
                · intro w'
                  go_simp
                  with_reducible rfl
                rotate_left
                · simp only [Act.put, List.setIfInBounds_toArray, List.set_cons_zero, List.set_cons_succ]
                  rfl
                refine pure_ (i := 19) (N := some 99) (v := .bool true) (a' := ?_) #[true, true, true, true, true, true, true, true, true, true, true, true, true, true, true, true, true, true, true, true, false, false, false, false, false, false, false, false, false, false, false, false, false, false, false] rfl rfl (by kernel_rfl) (fun _ _ _ h => h) (Or.inl ⟨by rfl, fun w' => ?_⟩) ?_ ?_
                · go_simp
                rotate_left
                · simp only [Act.put, List.setIfInBounds_toArray, List.set_cons_zero, List.set_cons_succ]
                  rfl
                refine pure_ (i := 20) (N := some 100) (v := ?_) (a' := ?_) #[true, true, true, true, true, true, true, true, true, true, true, true, true, true, true, true, true, true, true, true, true, false, false, false, false, false, false, false, false, false, false, false, false, false, false] rfl rfl (by kernel_rfl) (fun _ _ _ h => h) (Or.inl ⟨by rfl, ?_⟩) ?_ ?_
                rotate_left
                · intro w'
                  go_simp
                  with_reducible rfl
                rotate_left
                · simp only [Act.put, List.setIfInBounds_toArray, List.set_cons_zero, List.set_cons_succ]
                  rfl
                refine pure_ (i := 21) (N := some 101) (v := ?_) (a' := ?_) #[true, true, true, true, true, true, true, true, true, true, true, true, true, true, true, true, true, true, true, true, true, true, false, false, false, false, false, false, false, false, false, false, false, false, false] rfl rfl (by kernel_rfl) (fun _ _ _ h => h) (Or.inl ⟨by rfl, ?_⟩) ?_ ?_
                rotate_left
                · intro w'
                  go_simp
                  with_reducible rfl
                rotate_left
                · simp only [Act.put, List.setIfInBounds_toArray, List.set_cons_zero, List.set_cons_succ]
                  rfl
                refine pure_ (i := 22) (N := some 102) (v := ?_) (a' := ?_) #[true, true, true, true, true, true, true, true, true, true, true, true, true, true, true, true, true, true, true, true, true, true, true, false, false, false, false, false, false, false, false, false, false, false, false] rfl rfl (by kernel_rfl) (fun _ _ _ h => h) (Or.inl ⟨by rfl, ?_⟩) ?_ ?_
                rotate_left
                · intro w'
                  go_simp
                  with_reducible rfl
                rotate_left
                · simp only [Act.put, List.setIfInBounds_toArray, List.set_cons_zero, List.set_cons_succ]
                  rfl
                refine pure_ (i := 23) (N := some 103) (v := ?_) (a' := ?_) #[true, true, true, true, true, true, true, true, true, true, true, true, true, true, true, true, true, true, true, true, true, true, true, true, false, false, false, false, false, false, false, false, false, false, false] rfl rfl (by kernel_rfl) (fun _ _ _ h => h) (Or.inl ⟨by rfl, ?_⟩) ?_ ?_
                rotate_left
                · intro w'
                  go_simp
                  with_reducible rfl
                rotate_left
                · simp only [Act.put, List.setIfInBounds_toArray, List.set_cons_zero, List.set_cons_succ]
                  rfl
                refine take_ (i := 24) (N := some 104) (v := ?_) (a' := ?_) #[true, true, true, true, true, true, true, true, true, true, true, true, true, true, true, true, true, true, true, true, true, true, true, true, true, false, false, false, false, false, false, false, false, false, false] rfl rfl (by kernel_rfl) (fun _ _ _ h => h) (Or.inl ⟨by rfl, ?_⟩) hHeld ?_ ?_
                rotate_left
                · rintro w' ⟨s0, s1, s2, s3, s4⟩
                  go_simp
                  with_reducible rfl
                rotate_left
                · simp only [Act.put, List.setIfInBounds_toArray, List.set_cons_zero, List.set_cons_succ]
                  rfl
                refine pure_ (i := 25) (N := some 105) (v := ?_) (a' := ?_) #[true, true, true, true, true, true, true, true, true, true, true, true, true, true, true, true, true, true, true, true, true, true, true, true, true, true, false, false, false, false, false, false, false, false, false] rfl rfl (by kernel_rfl) (fun _ _ _ h => h) (Or.inl ⟨by rfl, ?_⟩) ?_ ?_
                rotate_left
                · intro w'
                  go_simp
                  with_reducible rfl
                rotate_left
                · simp only [Act.put, List.setIfInBounds_toArray, List.set_cons_zero, List.set_cons_succ]
                  rfl
                refine pure_ (i := 26) (N := some 106) (v := ?_) (a' := ?_) #[true, true, true, true, true, true, true, true, true, true, true, true, true, true, true, true, true, true, true, true, true, true, true, true, true, true, true, false, false, false, false, false, false, false, false] rfl rfl (by kernel_rfl) (fun _ _ _ h => h) (Or.inl ⟨by rfl, ?_⟩) ?_ ?_
                rotate_left
                · intro w'
                  go_simp
                  with_reducible rfl
                rotate_left
                · simp only [Act.put, List.setIfInBounds_toArray, List.set_cons_zero, List.set_cons_succ]
                  rfl
                refine take_ (i := 27) (N := some 107) (v := ?_) (a' := ?_) #[true, true, true, true, true, true, true, true, true, true, true, true, true, true, true, true, true, true, true, true, true, true, true, true, true, true, true, true, false, false, false, false, false, false, false] rfl rfl (by kernel_rfl) (fun _ _ _ h => h) (Or.inl ⟨by rfl, ?_⟩) hHeld ?_ ?_
                rotate_left
                · rintro w' ⟨s0, s1, s2, s3, s4⟩
                  go_simp
                  with_reducible rfl
                rotate_left
                · simp only [Act.put, List.setIfInBounds_toArray, List.set_cons_zero, List.set_cons_succ]
                  rfl
                refine pure_ (i := 28) (N := some 108) (v := ?_) (a' := ?_) #[true, true, true, true, true, true, true, true, true, true, true, true, true, true, true, true, true, true, true, true, true, true, true, true, true, true, true, true, true, false, false, false, false, false, false] rfl rfl (by kernel_rfl) (fun _ _ _ h => h) (Or.inl ⟨by rfl, ?_⟩) ?_ ?_
                rotate_left
                · intro w'
                  go_simp
                  with_reducible rfl
                rotate_left
                · simp only [Act.put, List.setIfInBounds_toArray, List.set_cons_zero, List.set_cons_succ]
                  rfl
                refine pure_ (i := 29) (N := some 109) (v := ?_) (a' := ?_) #[true, true, true, true, true, true, true, true, true, true, true, true, true, true, true, true, true, true, true, true, true, true, true, true, true, true, true, true, true, true, false, false, false, false, false] rfl rfl (by kernel_rfl) (fun _ _ _ h => h) (Or.inl ⟨by rfl, ?_⟩) ?_ ?_
                rotate_left
                · intro w'
                  go_simp
                  with_reducible rfl
                rotate_left
                · simp only [Act.put, List.setIfInBounds_toArray, List.set_cons_zero, List.set_cons_succ]
                  rfl
                refine pure_ (i := 30) (N := some 110) (v := .int .i64 ((sumN n i2 : Int) + (j : Int))) (a' := ?_) #[true, true, true, true, true, true, true, true, true, true, true, true, true, true, true, true, true, true, true, true, true, true, true, true, true, true, true, true, true, true, true, false, false, false, false] rfl rfl (by kernel_rfl) (fun _ _ _ h => h) (Or.inl ⟨by rfl, fun w' => ?_⟩) ?_ ?_
                · go_simp
                rotate_left
                · simp only [Act.put, List.setIfInBounds_toArray, List.set_cons_zero, List.set_cons_succ]
                  rfl
                refine one_ (i := 31) (N := some 111) #[true, true, true, true, true, true, true, true, true, true, true, true, true, true, true, true, true, true, true, true, true, true, true, true, true, true, true, true, true, true, true, true, false, false, false] rfl rfl (by kernel_rfl) (by decide) (fun K hK => ?_)
                refine goes_ Try.func43 (by kernel_rfl) rfl #[.int .i64 ((sumN n i2 : Int) + (j : Int))] (by rfl) rfl rfl (by first | rfl | simp [Act.eval]) ?_
                refine (text_any _ _).mono ?_
                rintro e w2 ⟨rfl, hb⟩
                refine ⟨_, rfl, ?_⟩
                refine hK.out _ _ (⟨pw_cell_below hb hHeld.1, pw_cell_below hb hHeld.2.1, pw_cell_below hb hHeld.2.2.1, pw_cell_below hb hHeld.2.2.2.1, below_step hHeld.2.2.2.2 hb⟩) (fun hHeld => ?_)
                clear hK K
                refine norm_ (a' := ?_) ?_ ?_
                rotate_left
                · show Act.put _ (some 111) _ = _
                  simp only [Act.put, List.setIfInBounds_toArray, List.set_cons_zero, List.set_cons_succ]
                  rfl
                refine pure_ (i := 32) (N := some 112) (v := .bool false) (a' := ?_) #[true, true, true, true, true, true, true, true, true, true, true, true, true, true, true, true, true, true, true, true, true, true, true, true, true, true, true, true, true, true, true, true, true, false, false] rfl rfl (by kernel_rfl) (fun _ _ _ h => h) (Or.inl ⟨by rfl, fun w' => ?_⟩) ?_ ?_
                · go_simp
                rotate_left
                · simp only [Act.put, List.setIfInBounds_toArray, List.set_cons_zero, List.set_cons_succ]
                  rfl
                refine pure_ (i := 33) (N := some 113) (v := ?_) (a' := ?_) #[true, true, true, true, true, true, true, true, true, true, true, true, true, true, true, true, true, true, true, true, true, true, true, true, true, true, true, true, true, true, true, true, true, true, false] rfl rfl (by kernel_rfl) (fun _ _ _ h => h) (Or.inl ⟨by rfl, ?_⟩) ?_ ?_
                rotate_left
                · intro w'
                  go_simp
                  with_reducible rfl
                rotate_left
                · simp only [Act.put, List.setIfInBounds_toArray, List.set_cons_zero, List.set_cons_succ]
                  rfl
                refine pure_ (i := 34) (N := some 114) (v := ?_) (a' := ?_) #[true, true, true, true, true, true, true, true, true, true, true, true, true, true, true, true, true, true, true, true, true, true, true, true, true, true, true, true, true, true, true, true, true, true, true] rfl rfl (by kernel_rfl) (fun _ _ _ h => h) (Or.inl ⟨by rfl, ?_⟩) ?_ ?_
                rotate_left
                · intro w'
                  go_simp
                  with_reducible rfl
                rotate_left
                · simp only [Act.put, List.setIfInBounds_toArray, List.set_cons_zero, List.set_cons_succ]
                  rfl
                refine done_ (by kernel_rfl) ?_
                clear hw1
                go_wp2_with fail
                go_roundg k3
                case measure => omega
                case rel => exact ⟨j + 1, by push_cast; rfl, ⟨by have := HK3.out; omega⟩, ⟨hHeld.2.2.2.2⟩⟩
              · have hd4 : decide ((j : Int) < (n i2 : Int)) = false := by simp; omega
                have hd5 : decide (j < n i2) = false := decide_eq_false hjn
                go_wp2_with fail
                have hw1 : IntKind.i64.wrap ((sumN n i2 : Int) + (j : Int)) = (sumN n i2 : Int) + (j : Int) := Go.IntWalk.i64_in _ (by omega)
                refine start_ (n := 35) (S := (fun w' => w'.cell? ⟨bg, i2, none⟩ = some (.slice (some ⟨bgi, 0, none⟩) (n i2 + 9) ci) ∧ w'.cell? ⟨bgi, j, none⟩ = some (.string (txt ((sumN n i2 : Int) + (j : Int)))) ∧ w'.cell? ⟨bl, i2, none⟩ = some (.slice Avi (n i2) cvi) ∧ Below wz.heap.size wz w')) (ds := []) #[false, false, false, false, false, false, false, false, false, false, false, false, false, false, false, false, false, false, false, false, false, false, false, false, false, false, false, false, false, false, false, false, false, false, false] (by kernel_rfl) rfl rfl ⟨hcg, hcy, hcv, hBd⟩ (fun hHeld => ?_)
                refine pure_ (i := 0) (N := some 80) (v := ?_) (a' := ?_) #[true, false, false, false, false, false, false, false, false, false, false, false, false, false, false, false, false, false, false, false, false, false, false, false, false, false, false, false, false, false, false, false, false, false, false] rfl rfl (by kernel_rfl) (fun _ _ _ h => h) (Or.inl ⟨by rfl, ?_⟩) ?_ ?_
                rotate_left
                · intro w'
                  go_simp
                  with_reducible rfl
                rotate_left
                · simp only [Act.put, List.setIfInBounds_toArray, List.set_cons_zero, List.set_cons_succ]
                  rfl
                refine pure_ (i := 1) (N := some 81) (v := ?_) (a' := ?_) #[true, true, false, false, false, false, false, false, false, false, false, false, false, false, false, false, false, false, false, false, false, false, false, false, false, false, false, false, false, false, false, false, false, false, false] rfl rfl (by kernel_rfl) (fun _ _ _ h => h) (Or.inl ⟨by rfl, ?_⟩) ?_ ?_
                rotate_left
                · intro w'
                  go_simp
                  with_reducible rfl
                rotate_left
                · simp only [Act.put, List.setIfInBounds_toArray, List.set_cons_zero, List.set_cons_succ]
                  rfl
                refine pure_ (i := 2) (N := some 82) (v := ?_) (a' := ?_) #[true, true, true, false, false, false, false, false, false, false, false, false, false, false, false, false, false, false, false, false, false, false, false, false, false, false, false, false, false, false, false, false, false, false, false] rfl rfl (by kernel_rfl) (fun _ _ _ h => h) (Or.inl ⟨by rfl, ?_⟩) ?_ ?_
                rotate_left
                · intro w'
                  go_simp
                  with_reducible rfl
                rotate_left
                · simp only [Act.put, List.setIfInBounds_toArray, List.set_cons_zero, List.set_cons_succ]
                  rfl
                refine take_ (i := 3) (N := some 83) (v := ?_) (a' := ?_) #[true, true, true, true, false, false, false, false, false, false, false, false, false, false, false, false, false, false, false, false, false, false, false, false, false, false, false, false, false, false, false, false, false, false, false] rfl rfl (by kernel_rfl) (fun _ _ _ h => h) (Or.inl ⟨by rfl, ?_⟩) hHeld ?_ ?_
                rotate_left
                · rintro w' ⟨s0, s1, s2, s3⟩
                  go_simp
                  with_reducible rfl
                rotate_left
                · simp only [Act.put, List.setIfInBounds_toArray, List.set_cons_zero, List.set_cons_succ]
                  rfl
                refine pure_ (i := 4) (N := some 84) (v := ?_) (a' := ?_) #[true, true, true, true, true, false, false, false, false, false, false, false, false, false, false, false, false, false, false, false, false, false, false, false, false, false, false, false, false, false, false, false, false, false, false] rfl rfl (by kernel_rfl) (fun _ _ _ h => h) (Or.inl ⟨by rfl, ?_⟩) ?_ ?_
                rotate_left
                · intro w'
                  go_simp
                  with_reducible rfl
                rotate_left
                · simp only [Act.put, List.setIfInBounds_toArray, List.set_cons_zero, List.set_cons_succ]
                  rfl
                refine pure_ (i := 5) (N := some 85) (v := ?_) (a' := ?_) #[true, true, true, true, true, true, false, false, false, false, false, false, false, false, false, false, false, false, false, false, false, false, false, false, false, false, false, false, false, false, false, false, false, false, false] rfl rfl (by kernel_rfl) (fun _ _ _ h => h) (Or.inl ⟨by rfl, ?_⟩) ?_ ?_
                rotate_left
                · intro w'
                  go_simp
                  with_reducible rfl
                rotate_left
                · simp only [Act.put, List.setIfInBounds_toArray, List.set_cons_zero, List.set_cons_succ]
                  rfl
                refine take_ (i := 6) (N := some 86) (v := ?_) (a' := ?_) #[true, true, true, true, true, true, true, false, false, false, false, false, false, false, false, false, false, false, false, false, false, false, false, false, false, false, false, false, false, false, false, false, false, false, false] rfl rfl (by kernel_rfl) (fun _ _ _ h => h) (Or.inl ⟨by rfl, ?_⟩) hHeld ?_ ?_
                rotate_left
                · rintro w' ⟨s0, s1, s2, s3⟩
                  go_simp
                  with_reducible rfl
                rotate_left
                · simp only [Act.put, List.setIfInBounds_toArray, List.set_cons_zero, List.set_cons_succ]
                  rfl
                refine pure_ (i := 7) (N := some 87) (v := ?_) (a' := ?_) #[true, true, true, true, true, true, true, true, false, false, false, false, false, false, false, false, false, false, false, false, false, false, false, false, false, false, false, false, false, false, false, false, false, false, false] rfl rfl (by kernel_rfl) (fun _ _ _ h => h) (Or.inl ⟨by rfl, ?_⟩) ?_ ?_
                rotate_left
                · intro w'
                  go_simp
                  with_reducible rfl
                rotate_left
                · simp only [Act.put, List.setIfInBounds_toArray, List.set_cons_zero, List.set_cons_succ]
                  rfl
                refine pure_ (i := 8) (N := some 88) (v := ?_) (a' := ?_) #[true, true, true, true, true, true, true, true, true, false, false, false, false, false, false, false, false, false, false, false, false, false, false, false, false, false, false, false, false, false, false, false, false, false, false] rfl rfl (by kernel_rfl) (fun _ _ _ h => h) (Or.inl ⟨by rfl, ?_⟩) ?_ ?_
                rotate_left
                · intro w'
                  go_simp
                  with_reducible rfl
                rotate_left
                · simp only [Act.put, List.setIfInBounds_toArray, List.set_cons_zero, List.set_cons_succ]
                  rfl
                refine pure_ (i := 9) (N := some 89) (v := .int .i64 ((sumN n i2 : Int) + (j : Int))) (a' := ?_) #[true, true, true, true, true, true, true, true, true, true, false, false, false, false, false, false, false, false, false, false, false, false, false, false, false, false, false, false, false, false, false, false, false, false, false] rfl rfl (by kernel_rfl) (fun _ _ _ h => h) (Or.inl ⟨by rfl, fun w' => ?_⟩) ?_ ?_
                · go_simp
                rotate_left
                · simp only [Act.put, List.setIfInBounds_toArray, List.set_cons_zero, List.set_cons_succ]
                  rfl
                refine one_ (i := 10) (N := some 90) #[true, true, true, true, true, true, true, true, true, true, true, false, false, false, false, false, false, false, false, false, false, false, false, false, false, false, false, false, false, false, false, false, false, false, false] rfl rfl (by kernel_rfl) (by decide) (fun K hK => ?_)
                refine goes_ Try.func43 (by kernel_rfl) rfl #[.int .i64 ((sumN n i2 : Int) + (j : Int))] (by rfl) rfl rfl (by first | rfl | simp [Act.eval]) ?_
                refine (text_any _ _).mono ?_
                rintro e w2 ⟨rfl, hb⟩
                refine ⟨_, rfl, ?_⟩
                refine hK.out _ _ (⟨pw_cell_below hb hHeld.1, pw_cell_below hb hHeld.2.1, pw_cell_below hb hHeld.2.2.1, below_step hHeld.2.2.2 hb⟩) (fun hHeld => ?_)
                clear hK K
                refine norm_ (a' := ?_) ?_ ?_
                rotate_left
                · show Act.put _ (some 90) _ = _
                  simp only [Act.put, List.setIfInBounds_toArray, List.set_cons_zero, List.set_cons_succ]
                  rfl
                refine pure_ (i := 11) (N := some 91) (v := .bool false) (a' := ?_) #[true, true, true, true, true, true, true, true, true, true, true, true, false, false, false, false, false, false, false, false, false, false, false, false, false, false, false, false, false, false, false, false, false, false, false] rfl rfl (by kernel_rfl) (fun _ _ _ h => h) (Or.inl ⟨by rfl, fun w' => ?_⟩) ?_ ?_
                · go_simp
                rotate_left
                · simp only [Act.put, List.setIfInBounds_toArray, List.set_cons_zero, List.set_cons_succ]
                  rfl
                refine pure_ (i := 12) (N := some 92) (v := ?_) (a' := ?_) #[true, true, true, true, true, true, true, true, true, true, true, true, true, false, false, false, false, false, false, false, false, false, false, false, false, false, false, false, false, false, false, false, false, false, false] rfl rfl (by kernel_rfl) (fun _ _ _ h => h) (Or.inl ⟨by rfl, ?_⟩) ?_ ?_
                rotate_left
                · intro w'
                  go_simp
                  with_reducible rfl
                rotate_left
                · simp only [Act.put, List.setIfInBounds_toArray, List.set_cons_zero, List.set_cons_succ]
                  rfl
                refine pure_ (i := 13) (N := some 93) (v := ?_) (a' := ?_) #[true, true, true, true, true, true, true, true, true, true, true, true, true, true, false, false, false, false, false, false, false, false, false, false, false, false, false, false, false, false, false, false, false, false, false] rfl rfl (by kernel_rfl) (fun _ _ _ h => h) (Or.inl ⟨by rfl, ?_⟩) ?_ ?_
                rotate_left
                · intro w'
                  go_simp
                  with_reducible rfl
                rotate_left
                · simp only [Act.put, List.setIfInBounds_toArray, List.set_cons_zero, List.set_cons_succ]
                  rfl
                refine pure_ (i := 14) (N := some 94) (v := ?_) (a' := ?_) #[true, true, true, true, true, true, true, true, true, true, true, true, true, true, true, false, false, false, false, false, false, false, false, false, false, false, false, false, false, false, false, false, false, false, false] rfl rfl (by kernel_rfl) (fun _ _ _ h => h) (Or.inl ⟨by rfl, ?_⟩) ?_ ?_
                rotate_left
                · intro w'
                  go_simp
                  with_reducible rfl
                rotate_left
                · simp only [Act.put, List.setIfInBounds_toArray, List.set_cons_zero, List.set_cons_succ]
                  rfl
                refine pure_ (i := 15) (N := some 95) (v := ?_) (a' := ?_) #[true, true, true, true, true, true, true, true, true, true, true, true, true, true, true, true, false, false, false, false, false, false, false, false, false, false, false, false, false, false, false, false, false, false, false] rfl rfl (by kernel_rfl) (fun _ _ _ h => h) (Or.inl ⟨by rfl, ?_⟩) ?_ ?_
                rotate_left
                · intro w'
                  go_simp
                  with_reducible rfl
                rotate_left
                · simp only [Act.put, List.setIfInBounds_toArray, List.set_cons_zero, List.set_cons_succ]
                  rfl
                refine pure_ (i := 16) (N := some 96) (v := ?_) (a' := ?_) #[true, true, true, true, true, true, true, true, true, true, true, true, true, true, true, true, true, false, false, false, false, false, false, false, false, false, false, false, false, false, false, false, false, false, false] rfl rfl (by kernel_rfl) (fun _ _ _ h => h) (Or.inl ⟨by rfl, ?_⟩) ?_ ?_
                rotate_left
                · intro w'
                  go_simp
                  with_reducible rfl
                rotate_left
                · simp only [Act.put, List.setIfInBounds_toArray, List.set_cons_zero, List.set_cons_succ]
                  rfl
                refine take_ (i := 17) (N := some 97) (v := ?_) (a' := ?_) #[true, true, true, true, true, true, true, true, true, true, true, true, true, true, true, true, true, true, false, false, false, false, false, false, false, false, false, false, false, false, false, false, false, false, false] rfl rfl (by kernel_rfl) (fun _ _ _ h => h) (Or.inl ⟨by rfl, ?_⟩) hHeld ?_ ?_
                rotate_left
                · rintro w' ⟨s0, s1, s2, s3⟩
                  go_simp
                  with_reducible rfl
                rotate_left
                · simp only [Act.put, List.setIfInBounds_toArray, List.set_cons_zero, List.set_cons_succ]
                  rfl
                refine pure_ (i := 18) (N := some 98) (v := ?_) (a' := ?_) #[true, true, true, true, true, true, true, true, true, true, true, true, true, true, true, true, true, true, true, false, false, false, false, false, false, false, false, false, false, false, false, false, false, false, false] rfl rfl (by kernel_rfl) (fun _ _ _ h => h) (Or.inl ⟨by rfl, ?_⟩) ?_ ?_
                rotate_left
                · intro w'
                  go_simp
                  with_reducible rfl
                rotate_left
                · simp only [Act.put, List.setIfInBounds_toArray, List.set_cons_zero, List.set_cons_succ]
                  rfl
                refine pure_ (i := 19) (N := some 99) (v := .bool false) (a' := ?_) #[true, true, true, true, true, true, true, true, true, true, true, true, true, true, true, true, true, true, true, true, false, false, false, false, false, false, false, false, false, false, false, false, false, false, false] rfl rfl (by kernel_rfl) (fun _ _ _ h => h) (Or.inl ⟨by rfl, fun w' => ?_⟩) ?_ ?_
                · go_simp
                rotate_left
                · simp only [Act.put, List.setIfInBounds_toArray, List.set_cons_zero, List.set_cons_succ]
                  rfl
                refine pure_ (i := 20) (N := some 100) (v := ?_) (a' := ?_) #[true, true, true, true, true, true, true, true, true, true, true, true, true, true, true, true, true, true, true, true, true, false, false, false, false, false, false, false, false, false, false, false, false, false, false] rfl rfl (by kernel_rfl) (fun _ _ _ h => h) (Or.inl ⟨by rfl, ?_⟩) ?_ ?_
                rotate_left
                · intro w'
                  go_simp
                  with_reducible rfl
                rotate_left
                · simp only [Act.put, List.setIfInBounds_toArray, List.set_cons_zero, List.set_cons_succ]
                  rfl
                refine pure_ (i := 21) (N := some 101) (v := undef) (a' := ?_) #[true, true, true, true, true, true, true, true, true, true, true, true, true, true, true, true, true, true, true, true, true, true, false, false, false, false, false, false, false, false, false, false, false, false, false] rfl rfl (by kernel_rfl) (fun _ _ _ h => h) (Or.inr ⟨by rfl, rfl⟩) ?_ ?_
                rotate_left
                · simp only [Act.put, List.setIfInBounds_toArray, List.set_cons_zero, List.set_cons_succ]
                  rfl
                refine pure_ (i := 22) (N := some 102) (v := undef) (a' := ?_) #[true, true, true, true, true, true, true, true, true, true, true, true, true, true, true, true, true, true, true, true, true, true, true, false, false, false, false, false, false, false, false, false, false, false, false] rfl rfl (by kernel_rfl) (fun _ _ _ h => h) (Or.inr ⟨by rfl, rfl⟩) ?_ ?_
                rotate_left
                · simp only [Act.put, List.setIfInBounds_toArray, List.set_cons_zero, List.set_cons_succ]
                  rfl
                refine pure_ (i := 23) (N := some 103) (v := undef) (a' := ?_) #[true, true, true, true, true, true, true, true, true, true, true, true, true, true, true, true, true, true, true, true, true, true, true, true, false, false, false, false, false, false, false, false, false, false, false] rfl rfl (by kernel_rfl) (fun _ _ _ h => h) (Or.inr ⟨by rfl, rfl⟩) ?_ ?_
                rotate_left
                · simp only [Act.put, List.setIfInBounds_toArray, List.set_cons_zero, List.set_cons_succ]
                  rfl
                refine pure_ (i := 24) (N := some 104) (v := undef) (a' := ?_) #[true, true, true, true, true, true, true, true, true, true, true, true, true, true, true, true, true, true, true, true, true, true, true, true, true, false, false, false, false, false, false, false, false, false, false] rfl rfl (by kernel_rfl) (fun _ _ _ h => h) (Or.inr ⟨by rfl, rfl⟩) ?_ ?_
                rotate_left
                · simp only [Act.put, List.setIfInBounds_toArray, List.set_cons_zero, List.set_cons_succ]
                  rfl
                refine pure_ (i := 25) (N := some 105) (v := undef) (a' := ?_) #[true, true, true, true, true, true, true, true, true, true, true, true, true, true, true, true, true, true, true, true, true, true, true, true, true, true, false, false, false, false, false, false, false, false, false] rfl rfl (by kernel_rfl) (fun _ _ _ h => h) (Or.inr ⟨by rfl, rfl⟩) ?_ ?_
                rotate_left
                · simp only [Act.put, List.setIfInBounds_toArray, List.set_cons_zero, List.set_cons_succ]
                  rfl
                refine pure_ (i := 26) (N := some 106) (v := undef) (a' := ?_) #[true, true, true, true, true, true, true, true, true, true, true, true, true, true, true, true, true, true, true, true, true, true, true, true, true, true, true, false, false, false, false, false, false, false, false] rfl rfl (by kernel_rfl) (fun _ _ _ h => h) (Or.inr ⟨by rfl, rfl⟩) ?_ ?_
                rotate_left
                · simp only [Act.put, List.setIfInBounds_toArray, List.set_cons_zero, List.set_cons_succ]
                  rfl
                refine pure_ (i := 27) (N := some 107) (v := undef) (a' := ?_) #[true, true, true, true, true, true, true, true, true, true, true, true, true, true, true, true, true, true, true, true, true, true, true, true, true, true, true, true, false, false, false, false, false, false, false] rfl rfl (by kernel_rfl) (fun _ _ _ h => h) (Or.inr ⟨by rfl, rfl⟩) ?_ ?_
                rotate_left
                · simp only [Act.put, List.setIfInBounds_toArray, List.set_cons_zero, List.set_cons_succ]
                  rfl
                refine pure_ (i := 28) (N := some 108) (v := undef) (a' := ?_) #[true, true, true, true, true, true, true, true, true, true, true, true, true, true, true, true, true, true, true, true, true, true, true, true, true, true, true, true, true, false, false, false, false, false, false] rfl rfl (by kernel_rfl) (fun _ _ _ h => h) (Or.inr ⟨by rfl, rfl⟩) ?_ ?_
                rotate_left
                · simp only [Act.put, List.setIfInBounds_toArray, List.set_cons_zero, List.set_cons_succ]
                  rfl
                refine pure_ (i := 29) (N := some 109) (v := undef) (a' := ?_) #[true, true, true, true, true, true, true, true, true, true, true, true, true, true, true, true, true, true, true, true, true, true, true, true, true, true, true, true, true, true, false, false, false, false, false] rfl rfl (by kernel_rfl) (fun _ _ _ h => h) (Or.inr ⟨by rfl, rfl⟩) ?_ ?_
                rotate_left
                · simp only [Act.put, List.setIfInBounds_toArray, List.set_cons_zero, List.set_cons_succ]
                  rfl
                refine pure_ (i := 30) (N := some 110) (v := undef) (a' := ?_) #[true, true, true, true, true, true, true, true, true, true, true, true, true, true, true, true, true, true, true, true, true, true, true, true, true, true, true, true, true, true, true, false, false, false, false] rfl rfl (by kernel_rfl) (fun _ _ _ h => h) (Or.inr ⟨by rfl, rfl⟩) ?_ ?_
                rotate_left
                · simp only [Act.put, List.setIfInBounds_toArray, List.set_cons_zero, List.set_cons_succ]
                  rfl
                refine pure_ (i := 31) (N := some 111) (v := undef) (a' := ?_) #[true, true, true, true, true, true, true, true, true, true, true, true, true, true, true, true, true, true, true, true, true, true, true, true, true, true, true, true, true, true, true, true, false, false, false] rfl rfl (by kernel_rfl) (fun _ _ _ h => h) (Or.inr ⟨by rfl, rfl⟩) ?_ ?_
                rotate_left
                · simp only [Act.put, List.setIfInBounds_toArray, List.set_cons_zero, List.set_cons_succ]
                  rfl
                refine pure_ (i := 32) (N := some 112) (v := undef) (a' := ?_) #[true, true, true, true, true, true, true, true, true, true, true, true, true, true, true, true, true, true, true, true, true, true, true, true, true, true, true, true, true, true, true, true, true, false, false] rfl rfl (by kernel_rfl) (fun _ _ _ h => h) (Or.inr ⟨by rfl, rfl⟩) ?_ ?_
                rotate_left
                · simp only [Act.put, List.setIfInBounds_toArray, List.set_cons_zero, List.set_cons_succ]
                  rfl
                refine pure_ (i := 33) (N := some 113) (v := ?_) (a' := ?_) #[true, true, true, true, true, true, true, true, true, true, true, true, true, true, true, true, true, true, true, true, true, true, true, true, true, true, true, true, true, true, true, true, true, true, false] rfl rfl (by kernel_rfl) (fun _ _ _ h => h) (Or.inl ⟨by rfl, ?_⟩) ?_ ?_
                rotate_left
                · intro w'
                  go_simp
                  with_reducible rfl
                rotate_left
                · simp only [Act.put, List.setIfInBounds_toArray, List.set_cons_zero, List.set_cons_succ]
                  rfl
                refine pure_ (i := 34) (N := some 114) (v := ?_) (a' := ?_) #[true, true, true, true, true, true, true, true, true, true, true, true, true, true, true, true, true, true, true, true, true, true, true, true, true, true, true, true, true, true, true, true, true, true, true] rfl rfl (by kernel_rfl) (fun _ _ _ h => h) (Or.inl ⟨by rfl, ?_⟩) ?_ ?_
                rotate_left
                · intro w'
                  go_simp
                  with_reducible rfl
                rotate_left
                · simp only [Act.put, List.setIfInBounds_toArray, List.set_cons_zero, List.set_cons_succ]
                  rfl
                refine done_ (by kernel_rfl) ?_
                clear hw1
                go_wp2_with fail
                go_roundg k3
                case measure => omega
                case rel => exact ⟨j + 1, by push_cast; rfl, ⟨by have := HK3.out; omega⟩, ⟨hHeld.2.2.2⟩⟩
            · have hd3 : decide ((j : Int) < (n i2 : Int) + 9) = false := by simp; omega
              go_wp2
              obtain ⟨k3, rfl⟩ : ∃ k3, ko2 = k3 + 1 := ⟨ko2 - 1, by have := HK2.out; omega⟩
              go_roundg k3
              case measure => omega
              case rel => exact ⟨i2 + 1, by simp only [sumN]; exact congrArg _ (by push_cast; omega), by simp, ⟨by have := HK2.out; omega⟩, HW⟩
        · have hd2 : decide ((i2 : Int) < (GL.length : Int)) = false := by simp; omega
          go_wp2
          go_ret
          exact ⟨rfl, HB.out.trans (HW.out.mono HB.out.size), HKP.out.below HW.out⟩

end Go.Proofs.Ytdllpgeagdckmaa.HApart

/- The contract of Book.Apart over lists of texts alone. -/
namespace Go.Proofs.Ytdllpgeagdckmaa.HApart
open Go Go.RowKit Go.Proofs.YtdllpgeagdckmaaW.PrintWords Go.Proofs.YtdllpgeagdckmaaW.PrintLast Go.Proofs.YtdllpgeagdckmaaW.PrintMore Go.Proofs.Ytdllpgeagdckmaa.ApartKit
set_option linter.unusedVariables false
set_option linter.unusedSimpArgs false

set_option maxRecDepth 100000 in
theorem apartInts_nil (w : World) : Calls Try.prog 32 #[.slice none 0 0] w fun e w' => e = .returned (.bool true) ∧ w = w' := by
  go_enter Try.func32, Try.ntmps32
  go_wp2
  refine wp_loop_rounds 1 ?_
  rw [rounds_succ]
  go_wp2
  refine wp_loop_rounds 1 ?_
  rw [rounds_succ]
  go_wp2
  go_ret
  exact ⟨rfl, rfl⟩
set_option maxRecDepth 100000 in
theorem apartWords_nil (w : World) : Calls Try.prog 33 #[.slice none 0 0] w fun e w' => e = .returned (.bool true) ∧ w = w' := by
  go_enter Try.func33, Try.ntmps33
  go_wp2
  refine wp_loop_rounds 1 ?_
  rw [rounds_succ]
  go_wp2
  refine wp_loop_rounds 1 ?_
  rw [rounds_succ]
  go_wp2
  go_ret
  exact ⟨rfl, rfl⟩
set_option maxRecDepth 100000 in
theorem apartBytes_nil (w : World) : Calls Try.prog 34 #[.slice none 0 0] w fun e w' => e = .returned (.bool true) ∧ w = w' := by
  go_enter Try.func34, Try.ntmps34
  go_wp2
  refine wp_loop_rounds 3 ?_
  rw [rounds_succ]
  go_wp2
  refine wp_loop_rounds 1 ?_
  rw [rounds_succ]
  go_wp2
  refine wp_loop_rounds 1 ?_
  rw [rounds_succ]
  go_wp2
  rw [rounds_succ]
  go_wp2
  refine wp_loop_rounds 1 ?_
  rw [rounds_succ]
  go_wp2
  refine wp_loop_rounds 1 ?_
  rw [rounds_succ]
  go_wp2
  rw [rounds_succ]
  go_wp2
  go_ret
  exact ⟨rfl, rfl⟩

set_option maxHeartbeats 2000000 in
set_option maxRecDepth 100000 in
theorem book_texts (w0 w : World) (HB0 : Below w0.heap.size w0 w) (g : Nat) (tv : Value) (VL : List Value) (n f : Nat → Nat)
    (hb : w.heap[g]? = some (.cells #[.slice none 0 0, .slice none 0 0, .slice none 0 0, tv] 46 (0, 0)))
    (hT : w.ownsRow w0.heap.size 23 1 tv VL.length VL) (hfT : Fam w w0.heap.size 9 VL [] n (mkT n) f) (hlT : VL.length ≤ 10000000) (hsT : sumN n VL.length ≤ 8000000000000) :
    Calls Try.prog 16 #[.pointer (some ⟨g, 0, none⟩)] w fun e w' => e = .returned (.bool true) ∧ Below w0.heap.size w0 w' := by
  have hAT := apartTexts_holds w0 w HB0 tv VL n f hT hfT hlT hsT
  have HHT := Lib.hid hAT
  have c0 : w.cell? ⟨g, 0, none⟩ = some (.slice none 0 0) := by simp [World.cell?, hb]
  have c1 : w.cell? ⟨g, 1, none⟩ = some (.slice none 0 0) := by simp [World.cell?, hb]
  have c2 : w.cell? ⟨g, 2, none⟩ = some (.slice none 0 0) := by simp [World.cell?, hb]
  have c3 : w.cell? ⟨g, 3, none⟩ = some tv := by simp [World.cell?, hb]
  clear hAT hb hT hfT
  go_enter Try.func16, Try.ntmps16
  go_wp2_with fail
  refine (apartInts_nil w).mono ?_
  rintro e w1 ⟨rfl, rfl⟩
  go_wp2_with fail
  refine (apartWords_nil w).mono ?_
  rintro e w2 ⟨rfl, rfl⟩
  go_wp2_with fail
  refine (apartBytes_nil w).mono ?_
  rintro e w3 ⟨rfl, rfl⟩
  go_wp2_with fail
  refine (HHT.out).mono ?_
  rintro e w4 ⟨rfl, hb4, hk4⟩
  go_wp2
  go_ret
  exact ⟨rfl, hb4⟩
end Go.Proofs.Ytdllpgeagdckmaa.HApart

/- OrderKeeps: lists stay as they are; answers have memory of their own. -/
namespace Go.Proofs.Ytdllpgeagdckmaa.Q
open Go.RowKit Go.Proofs.YtdllpgeagdckmaaW.PrintWords Go.Proofs.YtdllpgeagdckmaaW.PrintLast Go.Proofs.YtdllpgeagdckmaaW.PrintMore Go.Proofs.Ytdllpgeagdckmaa.MapKit Go.Maps Go.Proofs.Ytdllpgeagdckmaa.Ord Go.Proofs.Ytdllpgeagdckmaa.ApartKit Go.Proofs.Ytdllpgeagdckmaa.HApart
attribute [local go_sem] max2_int min2_int max_two min_two max_three min_three max_four min_four
set_option linter.unusedVariables false
set_option linter.unusedSimpArgs false

theorem fam_of {w : World} {base s4 s5 s6 : Nat} {va vb vw : Value} {a b ws : List ByteArray} {VL : List Value} {rows : List (List ByteArray)} {f : Nat → Nat} (ha : SRow w base va a) (hb : SRow w base vb b) (hw : SRow w base vw ws) (hl : LRows w base VL rows f)
    (fa : ∀ x, va.ownBlock = some x → s4 ≤ x ∧ x < s5) (fb : ∀ x, vb.ownBlock = some x → s5 ≤ x ∧ x < s6) (fw : ∀ x, vw.ownBlock = some x → x < s4) (fl : ∀ (k : Nat) (v : Value) (x : Nat), VL[k]? = some v → v.ownBlock = some x → s6 ≤ x) (h45 : s4 ≤ s5) (h56 : s5 ≤ s6) :
    Fam w base 9 ([va, vb, vw] ++ VL) [] (fun k => (([a, b, ws] ++ rows).getD k []).length) (mkT (fun k => (([a, b, ws] ++ rows).getD k []).length)) (fun x => if x < s4 then 2 else if x < s5 then 0 else if x < s6 then 1 else 3 + f x) := by
  refine ⟨fun k v hv => ?_, fun k g hg => by simp at hg⟩
  match k, hv with
  | 0, hv =>
    simp at hv
    subst hv
    refine ⟨⟨_, ha, fun h => absurd h (Nat.not_lt_zero _)⟩, fun x hx => ?_⟩
    have := fa x hx
    show (if x < s4 then 2 else if x < s5 then 0 else if x < s6 then 1 else 3 + f x) = 0
    rw [if_neg (by omega), if_pos (by omega)]
  | 1, hv =>
    simp at hv
    subst hv
    refine ⟨⟨_, hb, fun h => absurd h (Nat.not_lt_zero _)⟩, fun x hx => ?_⟩
    have := fb x hx
    show (if x < s4 then 2 else if x < s5 then 0 else if x < s6 then 1 else 3 + f x) = 1
    rw [if_neg (by omega), if_neg (by omega), if_pos (by omega)]
  | 2, hv =>
    simp at hv
    subst hv
    refine ⟨⟨_, hw, fun h => absurd h (Nat.not_lt_zero _)⟩, fun x hx => ?_⟩
    have := fw x hx
    show (if x < s4 then 2 else if x < s5 then 0 else if x < s6 then 1 else 3 + f x) = 2
    rw [if_pos (by omega)]
  | k + 3, hv =>
    have hv' : VL[k]? = some v := by simpa using hv
    obtain ⟨r, hr, hs⟩ := hl.back hv'
    have e : ([a, b, ws] ++ rows).getD (k + 3) [] = r := by simp [List.getD_eq_getElem?_getD, hr]
    refine ⟨⟨r.map Value.string, ?_, fun h => absurd h (Nat.not_lt_zero _)⟩, fun x hx => ?_⟩
    · simp only [e]
      exact hs
    · have h1 := fl k v x hv' hx
      have h2 := hl.own k v x hv' hx
      show (if x < s4 then 2 else if x < s5 then 0 else if x < s6 then 1 else 3 + f x) = k + 3
      rw [if_neg (by omega), if_neg (by omega), if_neg (by omega), h2]
      omega
theorem sumN_le (n : Nat → Nat) (M : Nat) (h : ∀ k, n k ≤ M) : ∀ K, sumN n K ≤ K * (M + 9)
  | 0 => by simp [sumN]
  | K + 1 => by
    have h1 := sumN_le n M h K
    have h2 := h K
    rw [sumN, Nat.succ_mul]
    omega
theorem own_srow {w : World} {base : Nat} {v : Value} {xs : List ByteArray} (h : Kd.string.R 9 w base (fun _ => True) v xs) : SRow w base v xs := Kd.own_of_R h

set_option maxHeartbeats 4000000 in
set_option maxRecDepth 100000 in
theorem keeps_walk (w : World) (A0 : Option Addr) (c0 : Nat) (l0 : List S33) (h0 : k33.C w A0 l0.length l0) (hc0 : l0.length ≤ c0) (A1 : Option Addr) (c1 : Nat) (want : List ByteArray) (h1 : Kd.string.C w A1 want.length want) (hc1 : want.length ≤ c1)
    (A2 : Option Addr) (c2 : Nat) (hv : List ByteArray) (h2 : Kd.string.C w A2 hv.length hv) (hc2 : hv.length ≤ c2) (hN : l0.length ≤ 3000000) (hU : ∀ v ∈ l0, v.f1.length ≤ 3000000) (hW : want.length ≤ 3000000) (hH : hv.length ≤ 3000000)
    (r1 : List ByteArray) (r2 : ByteArray) (r3 : Int) (ho1 : order_Sort.f (l0.map conv) want hv = some (r1, r2, r3)) (hr1 : r1.length ≤ 6000000) (k : Nat) (hst : quireref01_SameTexts.f k r1 r1 = some true) (kw : Nat) (hsw : quireref01_SameTexts.f kw want want = some true)
    (hus : ∀ v ∈ l0, ∃ k, quireref01_SameTexts.f k v.f1 v.f1 = some true)
    (s : List ByteArray) (m : ByteArray) (e : Int) (hfit : Fit (l0.map conv) ((l0.map conv).map (·.f0)) []) (hs : order_Sort.f (l0.map conv) ((l0.map conv).map (·.f0)) [] = some (s, m, e))
    (hsz : ∀ (R : List (List ByteArray)) (x : Int), LevelsB (netOf (l0.map conv)) (R, x) → R.length ≤ 1100000 ∧ ∀ r ∈ R, r.length ≤ 6000000) :
    Calls Try.prog 6 #[.slice A0 l0.length c0, .slice A1 want.length c1, .slice A2 hv.length c2] w fun e w' => e = .returned (.bool true) ∧ Below w.heap.size w w' := by
  have H0 := Aside0.mk h0
  have H1 := Aside0.mk h1
  have H2 := Aside0.mk h2
  have HU := Aside0.mk hU
  have HO1 := Aside0.mk ho1
  have HST := Aside0.mk hst
  have HSW := Aside0.mk hsw
  have HUS := Aside0.mk hus
  have HC0 := Aside0.mk hc0
  have HC1 := Aside0.mk hc1
  have HC2 := Aside0.mk hc2
  have HFIT := Aside0.mk hfit
  have HS := Aside0.mk hs
  have HSZ := Aside0.mk hsz
  clear h0 h1 h2 hU ho1 hst hsw hus hc0 hc1 hc2 hfit hs hsz
  go_enter Try.func6, Try.ntmps6
  go_wp2_with fail
  refine (quirelaw15_awake.calls true _ awake_true).mono ?_
  rintro e w1 ⟨rfl, hb1⟩
  have HB1 := Aside0.mk hb1
  clear hb1
  go_wp2_with fail
  refine (quirelaw15_vocabs.calls A0 c0 l0 _ w1 (Kd.C_below H0.out HB1.out) HC0.out (vocabs_all hN HU.out)).mono ?_
  rintro e w2 ⟨v, rfl, hs, hb⟩
  obtain ⟨Av, cv, rfl, hlv, hCv⟩ := Kd.R_reads (Kd.S_R hs)
  have HB2 := Aside0.mk (below_step HB1.out hb)
  have HCV := Aside0.mk hCv
  have HLV := Aside0.mk hlv
  clear hs hb hCv hlv
  go_wp2_with fail
  refine (quirelaw15_own.calls A1 c1 want _ w2 (Kd.C_below H1.out HB2.out) HC1.out (own_all hW)).mono ?_
  rintro e w3 ⟨v, rfl, hs, hb⟩
  have hw3 := own_srow hs
  obtain ⟨Aw, cw, rfl⟩ := hw3.shape
  have HB3 := Aside0.mk (below_step HB2.out hb)
  have HW3 := Aside0.mk (hw3.weak HB2.out.size)
  have HW23 := Aside0.mk hw3
  have HB23 := Aside0.mk hb
  have HCV2 := Aside0.mk HCV.out
  have HCV3 := Aside0.mk (Kd.C_below HCV.out hb)
  obtain ⟨n4, hn4⟩ : ∃ z, z = want.length + 1 := ⟨_, rfl⟩
  have HN4 := Aside0.mk hn4
  have HWL := Aside0.mk (show want.length ≤ 8000000 by omega)
  clear hs hb hw3 HCV hn4
  go_upto_region 5 with (at_builtin; refine srow_append w.heap.size rfl (.tmp 24) (.tmp 25) rfl (v := .slice Aw want.length cw) (xs := want) rfl ⟨#[115, 112, 97, 114, 101]⟩ rfl HW3.out HWL.out HB3.out.size ?_; intro A4 c4 w4 hr4 hg4 hat4; rw [← HN4.out] at hr4 ⊢; have HR4 := Aside0.mk hr4; have HG4 := Aside0.mk hg4; clear hr4 hg4 hat4)
  have HB24 := Aside0.mk (pw_below_grown HB23.out _ HB23.out.size HG4.out (fun k e => HW23.out.base_le k e))
  have HB4 := Aside0.mk (below_step HB2.out HB24.out)
  have HCV4 := Aside0.mk (Kd.C_below HCV2.out HB24.out)
  have hrt := HR4.out.take (m := want.length) (by simp)
  rw [List.take_left] at hrt
  obtain ⟨Ax, cx, hx, hle4, hCw⟩ := hrt.reads
  injection hx with e1 e2 e3
  subst e1 e3
  clear e2
  have HSL := Aside0.mk (slice_take A4 n4 c4 want.length hle4)
  have HCW := Aside0.mk hCw
  have HLE4 := Aside0.mk hle4
  have hC4 := (SRow.reads HR4.out)
  obtain ⟨Ax, cx, hx, _, hCfull⟩ := hC4
  injection hx with e1 e2 e3
  subst e1 e3
  clear e2
  have HCF := Aside0.mk hCfull
  have hsl := HSL.out
  clear hrt hle4 hCw hCfull HW23 HB23 HB24 HCV2 HCV3 HB3 HW3 HG4
  go_wp2_with fail
  have hcall := order_Sort.calls Av cv (l0.map conv) A4 c4 want A2 c2 hv r1 r2 r3 w4 HCV4.out HLV.out HCW.out HLE4.out (Kd.C_below H2.out HB4.out) HC2.out HO1.out
  rw [List.length_map] at hcall
  refine hcall.mono ?_
  clear hcall
  rintro e w5 ⟨va, rfl, hs, hb⟩
  have hr5 := own_srow hs
  obtain ⟨A5, c5, rfl⟩ := hr5.shape
  have HR5 := Aside0.mk hr5
  have HB45 := Aside0.mk hb
  have HB5 := Aside0.mk (below_step HB4.out hb)
  clear hs hb hr5
  go_wp2_with fail
  have hcall := order_Sort.calls Av cv (l0.map conv) A4 c4 want A2 c2 hv r1 r2 r3 w5 (Kd.C_below HCV4.out HB45.out) HLV.out (Kd.C_below HCW.out HB45.out) HLE4.out (Kd.C_below H2.out HB5.out) HC2.out HO1.out
  rw [List.length_map] at hcall
  refine hcall.mono ?_
  clear hcall
  rintro e w6 ⟨vb, rfl, hs, hb⟩
  have hr6 := own_srow hs
  obtain ⟨A6, c6, rfl⟩ := hr6.shape
  have HR6 := Aside0.mk hr6
  have HB56 := Aside0.mk hb
  have HB46 := Aside0.mk (below_step HB45.out hb)
  have HB6 := Aside0.mk (below_step HB5.out hb)
  clear hs hb hr6
  go_wp2_with fail
  have hcall := levels_walk w6 Av cv (l0.map conv) (Kd.C_below HCV4.out HB46.out) HLV.out HFIT.out s m e HS.out
  rw [List.length_map] at hcall
  refine hcall.mono ?_
  clear hcall
  rintro e w7 ⟨vl, VL, R, x, f, rfl, hlev, hown, hlr, hb⟩
  obtain ⟨A7, c7, rfl⟩ := own_slice hown
  have HB67 := Aside0.mk hb
  have HB47 := Aside0.mk (below_step HB46.out hb)
  have HB57 := Aside0.mk (below_step HB56.out hb)
  have HB7 := Aside0.mk (below_step HB6.out hb)
  have HLEV := Aside0.mk hlev
  have HOWN := Aside0.mk hown
  have HLR := Aside0.mk hlr
  obtain ⟨n7, hn7⟩ : ∃ z, z = VL.length := ⟨_, rfl⟩
  rw [← hn7]
  have HN7 := Aside0.mk hn7
  clear hlev hown hlr hb hn7
  obtain ⟨adw, rfl, z4⟩ := name_at (Kd.C_below HCF.out HB47.out) want.length (by simp)
  have z4' : w7.cell? (adw.add want.length) = some (.string ⟨#[115, 112, 97, 114, 101]⟩) := by rw [z4]; simp
  obtain ⟨A5', c5', hx, hl5, hC5⟩ := HR5.out.reads
  injection hx with e1 e2 e3
  subst e1 e3
  clear e2
  obtain ⟨A6', c6', hx, hl6, hC6⟩ := HR6.out.reads
  injection hx with e1 e2 e3
  subst e1 e3
  clear e2
  have HC5 := Aside0.mk (Kd.C_below hC5 HB57.out)
  have HL5 := Aside0.mk hl5
  have HC6 := Aside0.mk (Kd.C_below hC6 HB67.out)
  have HL6 := Aside0.mk hl6
  have hi4 : (want.length : Int) < (n4 : Int) := by have := HN4.out; omega
  clear z4 hC5 hl5 hC6 hl6
  go_wp2_with fail
  refine (quireref01_SameTexts.calls kw (some adw) c4 want A1 c1 want true w7 (Kd.C_below HCW.out HB47.out) HLE4.out (Kd.C_below H1.out HB7.out) HC1.out HSW.out).mono ?_
  rintro e w8 ⟨rfl, nd, rfl⟩
  go_wp2_with fail
  refine (quireref01_SameTexts.calls k A5 c5 r1 A6 c6 r1 true (w7.drewN nd) (Kd.C_drewN HC5.out _) HL5.out (Kd.C_drewN HC6.out _) HL6.out HST.out).mono ?_
  rintro e w9 ⟨rfl, nd2, rfl⟩
  have HB79 := Aside0.mk (pw_below_drewN (pw_below_drewN (Below.refl w7.heap.size w7) nd) nd2)
  generalize (w7.drewN nd).drewN nd2 = w9 at *
  have HB9 := Aside0.mk (below_step HB7.out HB79.out)
  have HB49 := Aside0.mk (below_step HB47.out HB79.out)
  clear z4' HC5 HC6 HCW HCF hsl HSL hi4
  go_wp2_with fail
  go_loopg [17] (l0.length + 1) (fun kq v17 w' => ∃ i : Nat, v17 = .int .i64 (i : Int) ∧ Aside0 (i ≤ l0.length) ∧ Aside0 (kq + i = l0.length + 1) ∧ Aside0 (Below w9.heap.size w9 w'))
  case atStart => exact ⟨0, rfl, ⟨Nat.zero_le _⟩, ⟨by omega⟩, ⟨Below.refl _ _⟩⟩
  obtain ⟨i, rfl, HI, HK, HBE⟩ := hrel
  have hi := HI.out
  have hk := HK.out
  by_cases hlt : i < l0.length
  · have hz : decide ((i : Int) < (l0.length : Int)) = true := decide_eq_true (by omega)
    obtain ⟨kk, rfl⟩ : ∃ k1, gk = k1 + 1 := ⟨gk - 1, by omega⟩
    obtain ⟨ad, B1, d1, rfl, y0, y1, hd1, hC1⟩ := vocab_at (Kd.C_below HCV4.out (below_step HB49.out HBE.out)) i (by rw [List.length_map]; exact hlt)
    obtain ⟨ad2, B2, d2, rfl, z0, z1, hd2, hC2⟩ := voc33_at (Kd.C_below H0.out (below_step HB9.out HBE.out)) i hlt
    rw [List.getElem_map] at y0 y1 hd1 hC1
    obtain ⟨u, hu⟩ : ∃ u, u = l0[i] := ⟨_, rfl⟩
    rw [← hu] at y0 y1 hd1 hC1 z0 z1 hd2 hC2
    obtain ⟨kr, hkr⟩ := HUS.out u (by rw [hu]; exact List.getElem_mem hlt)
    have y0' : wr.cell? (ad.add (i * 2)) = some (.string u.f0) := y0
    have y1' : wr.cell? ⟨(ad.add (i * 2)).block, (ad.add (i * 2)).off + 1, none⟩ = some (.slice B1 u.f1.length d1) := y1
    have hcall : ∀ W, Below wr.heap.size wr W → Calls Try.prog 12 #[.slice B1 u.f1.length d1, .slice B2 u.f1.length d2] W fun e w' => e = .returned (.bool true) ∧ Drawn0 W w' := fun W hb =>
      quireref01_SameTexts.calls kr B1 d1 u.f1 B2 d2 u.f1 true W (Kd.C_below hC1 hb) hd1 (Kd.C_below hC2 hb) hd2 hkr
    have HCALL := Aside0.mk hcall
    clear hu hkr hcall hC1 hC2 hd1 hd2 hi hk y0 y1
    go_wp2_with fail
    go_quiet (first | (go_at_call 12; refine (HCALL.out _ (pw_below_drewN (Below.refl _ _) _)).mono ?_; rintro e w' ⟨rfl, ⟨nd, rfl⟩⟩; (try first | exact ⟨rfl, _, World.drewN_drewN _ _ _⟩ | exact ⟨rfl, _, Eq.trans (World.drewN_drewN _ _ _) (congrArg (World.drewN _) (Nat.add_assoc _ _ _))⟩)))
    go_wp2_with fail
    go_roundg kk
    case measure => have := HK.out; omega
    case rel => exact ⟨i + 1, by push_cast; rfl, ⟨by omega⟩, ⟨by have := HK.out; omega⟩, ⟨pw_below_drewN HBE.out _⟩⟩
  · have hz : decide ((i : Int) < (l0.length : Int)) = false := decide_eq_false (by omega)
    have HB9e := Aside0.mk (below_step HB9.out HBE.out)
    have ha9 : SRow wr w.heap.size (.slice A5 r1.length c5) r1 := (HR5.out.below (below_step (below_step HB57.out HB79.out) HBE.out)).weak HB4.out.size
    have hb9 : SRow wr w.heap.size (.slice A6 r1.length c6) r1 := (HR6.out.below (below_step (below_step HB67.out HB79.out) HBE.out)).weak HB5.out.size
    have hw9 : SRow wr w.heap.size (.slice (some adw) n4 c4) (want ++ [⟨#[115, 112, 97, 114, 101]⟩]) := HR4.out.below (below_step HB49.out HBE.out)
    have hl9 : LRows wr w.heap.size VL R f := (HLR.out.below (below_step HB79.out HBE.out)).weak HB6.out.size
    have ho9 : wr.ownsRow w.heap.size 23 1 (.slice A7 n7 c7) VL.length VL := pw_own_below (own_weak (by rw [HN7.out]; exact HOWN.out) HB6.out.size) (below_step HB79.out HBE.out)
    have hone : ∀ y ∈ VL, y.oneCell' = true := fun y hy => by
      obtain ⟨k, hk⟩ := List.getElem?_of_mem hy
      obtain ⟨r, _, hs⟩ := HLR.out.back hk
      obtain ⟨A, c, rfl⟩ := hs.shape
      rfl
    have HA9 := Aside0.mk ha9
    have HBB9 := Aside0.mk hb9
    have HW9 := Aside0.mk hw9
    have HL9 := Aside0.mk hl9
    have HO9 := Aside0.mk ho9
    have HONE := Aside0.mk hone
    have hszR := HSZ.out R x HLEV.out
    have hVR := HLR.out.len
    have HSM := Aside0.mk (show VL.length ≤ 1100000 by omega)
    have HRS := Aside0.mk hszR.2
    clear ha9 hb9 hw9 hl9 ho9 hone hszR hVR
    go_upto_region 16 with fail
    obtain ⟨va, hva⟩ : ∃ v, v = Value.slice A5 r1.length c5 := ⟨_, rfl⟩
    obtain ⟨vb, hvb⟩ : ∃ v, v = Value.slice A6 r1.length c6 := ⟨_, rfl⟩
    obtain ⟨vw, hvw⟩ : ∃ v, v = Value.slice (some adw) n4 c4 := ⟨_, rfl⟩
    obtain ⟨g, hg⟩ : ∃ g, g = wr.heap.size + 1 := ⟨_, rfl⟩
    have hbk : ((wr.alloc (.cells #[va, vb, vw] 23)).alloc (.cells #[.slice none 0 0, .slice none 0 0, .slice none 0 0, .slice (some ⟨wr.heap.size, 0, none⟩) 3 3] 46)).heap[g]? = some (.cells #[.slice none 0 0, .slice none 0 0, .slice none 0 0, .slice (some ⟨wr.heap.size, 0, none⟩) 3 3] 46 (0, 0)) := by
      have := heap_alloc_new (wr.alloc (.cells #[va, vb, vw] 23)) (.cells #[.slice none 0 0, .slice none 0 0, .slice none 0 0, .slice (some ⟨wr.heap.size, 0, none⟩) 3 3] 46)
      rw [hg]
      simpa using this
    have hrow : ((wr.alloc (.cells #[va, vb, vw] 23)).alloc (.cells #[.slice none 0 0, .slice none 0 0, .slice none 0 0, .slice (some ⟨wr.heap.size, 0, none⟩) 3 3] 46)).ownsRow w.heap.size 23 1 (.slice (some ⟨wr.heap.size, 0, none⟩) 3 3) 3 [va, vb, vw] :=
      pw_own_below (w := wr.alloc (.cells #[va, vb, vw] 23)) ⟨rfl, .inr ⟨wr.heap.size, 3, _, rfl, HB9e.out.size, heap_alloc_new wr _, Nat.le_refl _, by unfold maxLen; omega, rfl, rfl⟩⟩ (below_alloc (Below.refl _ _) _)
    have hbe : Below wr.heap.size wr ((wr.alloc (.cells #[va, vb, vw] 23)).alloc (.cells #[.slice none 0 0, .slice none 0 0, .slice none 0 0, .slice (some ⟨wr.heap.size, 0, none⟩) 3 3] 46)) := below_alloc (below_alloc (Below.refl _ _) _) _
    rw [← hva, ← hvb, ← hvw, ← hg]
    obtain ⟨bb, hbb⟩ : ∃ b, b = wr.heap.size := ⟨_, rfl⟩
    rw [← hbb] at hbk hrow ⊢
    have hbbe : Below wr.heap.size wr ((wr.alloc (.cells #[va, vb, vw] 23)).alloc (.cells #[.slice none 0 0, .slice none 0 0, .slice none 0 0, .slice (some ⟨bb, 0, none⟩) 3 3] 46)) := by rw [hbb]; exact hbe
    generalize (wr.alloc (.cells #[va, vb, vw] 23)).alloc (.cells #[.slice none 0 0, .slice none 0 0, .slice none 0 0, .slice (some ⟨bb, 0, none⟩) 3 3] 46) = wA at *
    have c3 : wA.cell? ⟨g, 3, none⟩ = some (.slice (some ⟨bb, 0, none⟩) 3 3) := (blk_cell hbk 3).trans rfl
    have HBK := Aside0.mk hbk
    have HROW := Aside0.mk hrow
    have HBA := Aside0.mk hbbe
    have HVA := Aside0.mk hva
    have HVB := Aside0.mk hvb
    have HVW := Aside0.mk hvw
    have HGB := Aside0.mk (show g ≠ bb by omega)
    have HGG := Aside0.mk (show wr.heap.size ≤ g ∧ wr.heap.size ≤ bb by omega)
    have HGW := Aside0.mk (show w.heap.size ≤ g by have := HB9e.out.size; omega)
    have HBW := Aside0.mk (below_step HB9e.out hbbe)
    have hfarg : ∀ w2, wA.grownBy w2 (some bb) → w2.cell? ⟨g, 3, none⟩ = some (.slice (some ⟨bb, 0, none⟩) 3 3) ∧ w2.frozen? ⟨g, 3, none⟩ = false := fun w2 hg2 =>
      ⟨(blk_cell (blk_grown HBK.out hg2 (fun e => HGB.out (Option.some.inj e))) 3).trans rfl, blk_frozen (blk_grown HBK.out hg2 (fun e => HGB.out (Option.some.inj e))) 3⟩
    have HFARG := Aside0.mk hfarg
    clear hbk hrow hbe hbbe hva hvb hvw hg hbb hfarg
    go_upto_region 17 with ((with_reducible refine gate_builtin (b := .append) (xs := #[.tmp 119, .tmp 120]) rfl ?_); at_builtin; refine wpList_append_row wA rfl (.tmp 119) (.tmp 120) 37 rfl w.heap.size w.heap.size 23 (.slice none 0 0) 24 Try.underlying37 info23 rfl (.slice (some ⟨bb, 0, none⟩) 3 3) (.slice A7 n7 c7) 3 VL.length [va, vb, vw] VL rfl HROW.out rfl (pw_own_below HO9.out HBA.out) HONE.out ?aM ?aB ?aS ?_; (case aM => (have := HSM.out; simp only [maxLen]; omega)); (case aB => (have := HSM.out; omega)); (case aS => exact HBW.out.size); intro v' w2 ho2 hg2 hat2; obtain ⟨A2', c2', rfl⟩ := own_slice ho2; obtain ⟨n2, hn2⟩ : ∃ z, z = 3 + VL.length := ⟨_, rfl⟩; rw [← hn2] at ho2 hat2 ⊢; have HN2 := Aside0.mk hn2; have HAT2 := Aside0.mk hat2; obtain ⟨c3', f3'⟩ := HFARG.out w2 hg2; have HO2 := Aside0.mk ho2; have HG2 := Aside0.mk hg2; clear ho2 hg2 hat2 hn2)
    have hbF := blk_put (blk_grown HBK.out HG2.out (fun e => HGB.out (Option.some.inj e))) 3 (.slice A2' n2 c2') rfl
    have hgA := blk_lt HBK.out
    have hTF := own_setCell HO2.out (p := ⟨g, 3, none⟩) (fun e => by
      rcases HAT2.out with h | h
      · rw [h] at e; exact HGB.out (Option.some.inj e)
      · rw [h] at e; have := Option.some.inj e; simp only at this; omega) (.slice A2' n2 c2')
    have hst : ∀ (b : Nat) (cs : Array Value), wr.heap[b]? = some (Obj.cells cs 9 (0, 0)) → (w2.setCell ⟨g, 3, none⟩ (.slice A2' n2 c2')).heap[b]? = wr.heap[b]? := fun b cs hc => by
      have h1 := blk_lt hc
      have h2 := HGG.out
      have h3 := HBA.out.size
      rw [Below.heap_setCell w2 ⟨g, 3, none⟩ _ b (show b ≠ g by omega), HG2.out.block b (by omega) (fun e => by have e1 : b = bb := Option.some.inj e; omega), HBA.out.block b h1]
    have hsv : ∀ {v : Value} {xs : List ByteArray}, SRow wr w.heap.size v xs → SRow (w2.setCell ⟨g, 3, none⟩ (.slice A2' n2 c2')) w.heap.size v xs := fun h => h.stay fun b hb => by
      obtain ⟨cs, hc⟩ := h.block hb
      exact hst b cs hc
    have hBF : Below w.heap.size w (w2.setCell ⟨g, 3, none⟩ (.slice A2' n2 c2')) := (pw_below_grown HBW.out _ HBW.out.size HG2.out (fun k e => by have e1 : bb = k := Option.some.inj e; have h1 := HGG.out; have h2 := HB9e.out.size; omega)).setCell HGW.out _
    have hfam := fam_of (s4 := w4.heap.size) (s5 := w5.heap.size) (s6 := w6.heap.size) (va := va) (vb := vb) (vw := vw) (hsv (by rw [HVA.out]; exact HA9.out)) (hsv (by rw [HVB.out]; exact HBB9.out)) (hsv (by rw [HVW.out]; exact HW9.out)) (HL9.out.stay hst)
      (fun x hx => by rw [HVA.out] at hx; exact ⟨HR5.out.base_le x hx, HR5.out.lt hx⟩) (fun x hx => by rw [HVB.out] at hx; exact ⟨HR6.out.base_le x hx, HR6.out.lt hx⟩) (fun x hx => by rw [HVW.out] at hx; exact HR4.out.lt hx)
      (fun k v x hv hx => by obtain ⟨r, _, hs⟩ := HLR.out.back hv; exact hs.base_le x hx) HB45.out.size HB56.out.size
    have hln : ([va, vb, vw] ++ VL).length = n2 := by rw [HN2.out]; simp; omega
    have hsum : ∀ k, (([r1, r1, want ++ [⟨#[115, 112, 97, 114, 101]⟩]] ++ R).getD k []).length ≤ 6000001 := fun k => by
      match k with
      | 0 => simp; omega
      | 1 => simp; omega
      | 2 => simp; omega
      | k + 3 =>
        have e : (([r1, r1, want ++ [⟨#[115, 112, 97, 114, 101]⟩]] ++ R).getD (k + 3) []) = R.getD k [] := by simp [List.getD_eq_getElem?_getD]
        rw [e, List.getD_eq_getElem?_getD]
        cases hk : R[k]? with
        | none => simp
        | some r =>
          have := HRS.out r (List.mem_of_getElem? hk)
          simp only [Option.getD_some]
          omega
    have hS := sumN_le _ 6000001 hsum ([va, vb, vw] ++ VL).length
    have hVS := HSM.out
    have hS2 : sumN (fun k => (([r1, r1, want ++ [⟨#[115, 112, 97, 114, 101]⟩]] ++ R).getD k []).length) ([va, vb, vw] ++ VL).length ≤ 8000000000000 := by
      refine Nat.le_trans hS (Nat.le_trans (Nat.mul_le_mul_right _ (show ([va, vb, vw] ++ VL).length ≤ 1100003 by simp; omega)) (by omega))
    have HCALL := Aside0.mk (book_texts w _ hBF g (.slice A2' n2 c2') ([va, vb, vw] ++ VL) _ _ hbF (by rw [hln]; exact hTF) hfam (by rw [List.length_append]; simp; omega) hS2)
    clear hbF hgA hTF hst hsv hBF hfam hln hsum hS hVS hS2 c3' f3'
    go_wp2_with fail
    refine HCALL.out.mono ?_
    rintro e w9 ⟨rfl, hb⟩
    go_wp2_with fail
    go_ret
    exact ⟨rfl, hb⟩

/-! ### The law -/
theorem levels_small {l : List S41} {R : List (List ByteArray)} {x : Int} (h : LevelsB (netOf l) (R, x)) : R.length ≤ l.length ∧ ∀ r ∈ R, r.length ≤ l.length := by
  obtain ⟨s, m, e, hs, hx, hr⟩ := h
  have hsl : s.length ≤ l.length := by
    cases hs with
    | ok s h0 h1 h2 h =>
      have h3 := subset_length h.nodup (m := (netOf l).map (·.1)) fun y hy => by
        have h4 := h1 y ((h.mem y).1 hy)
        rw [Ne, usesOf_none, Classical.not_not] at h4
        exact h4
      simpa [netOf] using h3
    | _ => simp
  rcases hr with ⟨_, h0⟩ | ⟨_, F, hL⟩
  · dsimp only at h0
    subst h0
    simp
  · dsimp only at hL
    constructor
    · have h1 : (List.range R.length).length ≤ (s.map F).length := subset_length List.nodup_range fun k hk => by
        have hk' := List.mem_range.1 hk
        obtain ⟨y, hy⟩ := List.exists_mem_of_ne_nil _ (hL.ne R[k] (List.getElem_mem hk'))
        have h2 := (hL.mem k _ (List.getElem?_eq_getElem hk') y).1 hy
        exact List.mem_map.2 ⟨y, h2.1, h2.2⟩
      simp at h1
      omega
    · intro r hr
      obtain ⟨k, hk⟩ := List.getElem?_of_mem hr
      have h1 : r.Nodup := (hL.ri r hr).imp fun {a b} hl e => by rw [e, totN.irr] at hl; cases hl
      have h2 := subset_length h1 fun y hy => ((hL.mem k r hk y).1 hy).1
      omega
theorem fit_namesK {l : List S41} {want hv : List ByteArray} (hf : Fit l want hv) : Fit l (l.map (·.f0)) [] := by
  refine ⟨hf.tot_, ?_, by simp, hf.names, hf.uses, fun u hu => ?_, by simp⟩
  · have h1 := tot_ge (netOf l)
    have h2 : (netOf l).length = l.length := by simp [netOf]
    have h3 := hf.tot_
    rw [List.length_map]
    omega
  · obtain ⟨v, hv1, rfl⟩ := List.mem_map.1 hu
    exact hf.names v hv1

theorem orderKeeps_holds (w : World) (A0 : Option Addr) (c0 : Nat) (l0 : List S33) (h0 : k33.C w A0 l0.length l0) (hc0 : l0.length ≤ c0) (q0 : ∀ v ∈ l0, Okv v)
    (A1 : Option Addr) (c1 : Nat) (l1 : List ByteArray) (h1 : Kd.string.C w A1 l1.length l1) (hc1 : l1.length ≤ c1) (q1 : ∀ p ∈ l1, p.size ≤ maxLen)
    (A2 : Option Addr) (c2 : Nat) (l2 : List ByteArray) (h2 : Kd.string.C w A2 l2.length l2) (hc2 : l2.length ≤ c2) (q2 : ∀ p ∈ l2, p.size ≤ maxLen)
    (hB : (l0.map wtv).sum + (l1.map (fun p => p.size + 1)).sum + (l2.map (fun p => p.size + 1)).sum ≤ 1048576) :
    Calls Try.prog 6 #[.slice A0 l0.length c0, .slice A1 l1.length c1, .slice A2 l2.length c2] w fun e w' => e = .returned (.bool true) ∧ Below w.heap.size w w' := by
  have h3 := vocs_sum l0
  have h4 := Opens.strs_length l1
  have h5 := Opens.strs_length l2
  have hf := fit_of q0 q1 q2 hB
  obtain ⟨r1, r2, r3, hs⟩ := sorts_exists totN noName (netOf (l0.map conv)) l1 l2
  have hl := sorts_length hf hs
  have hfit := fit_namesK hf
  obtain ⟨s, m, e, hs2⟩ := sorts_exists totN noName (netOf (l0.map conv)) ((l0.map conv).map (·.f0)) []
  obtain ⟨k, hk⟩ := (same_ev r1 (by omega)).rounds
  obtain ⟨kw, hkw⟩ := (same_ev l1 (by omega)).rounds
  exact keeps_walk w A0 c0 l0 h0 hc0 A1 c1 l1 h1 hc1 A2 c2 l2 h2 hc2 (by omega) (fun v hv1 => by have := h3.2.2 v hv1; omega) (by omega) (by omega) r1 r2 r3 (order_Sort.of hf hs) hl k hk kw hkw
    (fun v hv1 => (same_ev v.f1 (by have := h3.2.2 v hv1; omega)).rounds) s m e hfit (order_Sort.of hfit hs2)
    (fun R x hR => by have h6 := levels_small hR; rw [List.length_map] at h6; exact ⟨by omega, fun r hr => by have := h6.2 r hr; omega⟩)
end Go.Proofs.Ytdllpgeagdckmaa.Q
