/- The disk's calls: what each does. -/
import Derived.Test.YtppaainapcpnhaaSKit
import Derived.Deep.RegionHeld3
import Derived.Deep.AppendLies
namespace Go.Proofs.Ytppaainapcpnhaa.Sh
open Go Go.RowKit Go.Proofs.YtppaainapcpnhaaW.PrintWords Go.Proofs.YtppaainapcpnhaaW.PrintLast Go.Proofs.YtppaainapcpnhaaW.PrintMore Go.Proofs.Ytppaainapcpnhaa.MapKit Go.Maps Go.Proofs.Ytppaainapcpnhaa.ApartKit Go.Proofs.Ytppaainapcpnhaa.Q
attribute [local go_sem] max2_int min2_int max_two min_two max_three min_three max_four min_four
set_option linter.unusedVariables false
set_option linter.unusedSimpArgs false

/-- What an access is refused for. -/
def chk (D : Dsk) (n : Nat) (s : Int) : Int := if D.life = 0 then 3 else if s < 0 ∨ (n : Int) ≤ s then 4 else 0
theorem check_nil (w : World) (s : Int) : Calls Try.prog 63 #[.pointer none, .int .i64 s] w fun e w' => e = .returned (.int .i64 2) ∧ w = w' := by
  go_enter Try.func63, Try.ntmps63
  go_wp2
  go_ret
  exact ⟨rfl, rfl⟩
theorem check_calls (w : World) (base b kb sb : Nat) (vp : Value) (D : Dsk) (h : DskAt w base b kb sb vp D) (n : Nat) (hn : D.seen.length = 32 * n) (hl : n ≤ 8192) (s : Int) :
    Calls Try.prog 63 #[.pointer (some ⟨b, 0, none⟩), .int .i64 s] w fun e w' => e = .returned (.int .i64 (chk D n s)) ∧ w = w' := by
  have c3 : w.cell? ⟨b, 3, none⟩ = some (.int .i64 D.life) := (blk_cell h.blk 3).trans rfl
  have HLEN := Aside0.mk (len_calls w base b kb sb vp D h n hn hl)
  obtain ⟨r, hr⟩ : ∃ r, r = chk D n s := ⟨_, rfl⟩
  rw [← hr]
  unfold chk at hr
  have HR := Aside0.mk hr
  clear hr h hn
  generalize D.life = li at *
  by_cases h0 : li = 0
  · have h1 : (li == 0) = true := by simp [h0]
    obtain rfl : r = 3 := by rw [HR.out, if_pos h0]
    clear HR
    subst h0
    go_enter Try.func63, Try.ntmps63
    go_wp2
    go_ret
    exact ⟨rfl, rfl⟩
  · have h1 : (li == 0) = false := by simp [h0]
    have hr := HR.out
    rw [if_neg h0] at hr
    clear HR
    by_cases h2 : s < 0
    · have h3 : decide (s < 0) = true := decide_eq_true h2
      obtain rfl : r = 4 := by rw [hr, if_pos (.inl h2)]
      clear hr
      go_enter Try.func63, Try.ntmps63
      go_wp2
      go_ret
      exact ⟨rfl, rfl⟩
    · have h3 : decide (s < 0) = false := decide_eq_false h2
      by_cases h4 : (n : Int) ≤ s
      · have h5 : decide ((n : Int) ≤ s) = true := decide_eq_true h4
        obtain rfl : r = 4 := by rw [hr, if_pos (.inr h4)]
        clear hr
        go_enter Try.func63, Try.ntmps63
        go_wp2_with fail
        refine HLEN.out.mono ?_
        rintro e w' ⟨rfl, rfl⟩
        go_wp2
        go_ret
        exact ⟨rfl, rfl⟩
      · have h5 : decide ((n : Int) ≤ s) = false := decide_eq_false h4
        obtain rfl : r = 0 := by rw [hr, if_neg (by omega)]
        clear hr
        go_enter Try.func63, Try.ntmps63
        go_wp2_with fail
        refine HLEN.out.mono ?_
        rintro e w' ⟨rfl, rfl⟩
        go_wp2
        go_ret
        exact ⟨rfl, rfl⟩

/-- One of the life is spent. -/
def spent (l : Int) : Int := if 0 < l then l - 1 else l
theorem spend_calls (w : World) (base b kb sb : Nat) (vp : Value) (D : Dsk) (h : DskAt w base b kb sb vp D) (hl0 : -1 ≤ D.life) (hl : D.life ≤ 1000000000000) :
    Calls Try.prog 69 #[.pointer (some ⟨b, 0, none⟩)] w fun e w' => e = .returned (.tuple #[]) ∧ DskAt w' base b kb sb vp { D with life := spent D.life } ∧ KS w w' (· = b) := by
  have c3 : w.cell? ⟨b, 3, none⟩ = some (.int .i64 D.life) := (blk_cell h.blk 3).trans rfl
  have f3 : w.frozen? ⟨b, 3, none⟩ = false := blk_frozen h.blk 3
  have hbk : b ≠ kb := blk_ne h.blk h.kept (by decide)
  have hbs : b ≠ sb := blk_ne h.blk h.seen (by decide)
  have hpb : ∀ k, vp.ownBlock = some k → k ≠ b := fun k hk e => by
    obtain ⟨PV, ho, _⟩ := h.pend
    obtain ⟨cs, hc⟩ := own_typed ho k hk
    rw [e, h.blk] at hc
    simp at hc
  have H := Aside0.mk h
  have HBK := Aside0.mk hbk
  have HBS := Aside0.mk hbs
  have HPB := Aside0.mk hpb
  have key : ∀ (u : Int), DskAt (w.setCell ⟨b, 3, none⟩ (.int .i64 u)) base b kb sb vp { D with life := u } := fun u =>
    { blk := blk_put h.blk 3 _ rfl
      kept := (Below.heap_setCell w ⟨b, 3, none⟩ _ kb hbk.symm).trans h.kept
      seen := (Below.heap_setCell w ⟨b, 3, none⟩ _ sb hbs.symm).trans h.seen
      ne := h.ne, bb := h.bb, bk := h.bk, bs := h.bs, len := h.len
      pend := by
        obtain ⟨PV, ho, h1, h2⟩ := h.pend
        refine ⟨PV, own_setCell ho (fun e => hpb b e.symm rfl) _, h1, fun i s v hi => ?_⟩
        obtain ⟨xs, h3, h4⟩ := h2 i s v hi
        refine ⟨xs, h3, own_setCell h4.row (fun e => ?_) _, h4.nk, h4.ns⟩
        obtain ⟨cs, hc⟩ := h4.row.block e.symm
        rw [h.blk] at hc
        simp at hc }
  have KEY := Aside0.mk key
  clear h hbk hbs hpb key
  by_cases h0 : 0 < D.life
  · have hd : decide (0 < D.life) = true := decide_eq_true h0
    have hs : spent D.life = D.life - 1 := if_pos h0
    rw [hs]
    clear hs
    go_enter Try.func69, Try.ntmps69
    go_wp2
    refine bodyPost_end (results_none rfl _ _ _) rfl ?_
    exact ⟨rfl, KEY.out _, KS.setCell (p := ⟨b, 3, none⟩) (KS.refl w (· = b)) (.inl rfl) _⟩
  · have hd : decide (0 < D.life) = false := decide_eq_false h0
    have hs : spent D.life = D.life := if_neg h0
    rw [hs]
    clear hs
    go_enter Try.func69, Try.ntmps69
    go_wp2
    refine bodyPost_end (results_none rfl _ _ _) rfl ?_
    exact ⟨rfl, H.out, KS.refl _ _⟩

/-- A sector among bytes. -/
theorem sector_calls (w : World) (kb N i : Nat) (hi : 32 * i + 32 ≤ N) (hN : N ≤ 300000) :
    Calls Try.prog 51 #[.slice (some ⟨kb, 0, none⟩) N N, .int .i64 (i : Int)] w fun e w' => e = .returned (.slice (some ⟨kb, 32 * i, none⟩) 32 (N - 32 * i)) ∧ w = w' := by
  go_enter Try.func51, Try.ntmps51
  go_wp2
  go_ret
  refine ⟨?_, rfl⟩
  show Ending.returned (.slice (some ⟨kb, i * 32, none⟩) ((i + 1) * 32 - i * 32) (N - i * 32)) = _
  rw [show (i + 1) * 32 - i * 32 = 32 by omega, Nat.mul_comm i 32]

/-! ### slices.Clone of bytes -/
theorem nil_eq (n c : Nat) (w : World) : (binOp .eql 23 (.slice none n c) (.slice none 0 0)).run Try.prog w = .ok (.bool true) w := by kernel_rfl
theorem nil_ne (a : Addr) (n c : Nat) (w : World) : (binOp .eql 23 (.slice (some a) n c) (.slice none 0 0)).run Try.prog w = .ok (.bool false) w := by kernel_rfl
section
variable {w : World} {ops : Array Oper} {rest : List Oper} {o : Oper} {a : Act} {Q : Exit → Act → World → Prop}
/-- 'append(row, bytes...)'. -/
theorem brow_appendAll {W : World} (base : Nat) (hgd : o.guard = none) (s x : Operand) (ho : o.op = .call { callee := .builtin .append, args := #[s, x], argTypes := #[23, 23] }) {v : Value} {xs ys : List Int} {A : Option Addr} {c : Nat} (hs : a.eval s = v) (hx : a.eval x = .slice A ys.length c)
    (HO : BRow W base v xs) (HR : (Kd.int .u8).C W A ys.length ys) (hl : xs.length + ys.length ≤ 80000000) (hbase : base ≤ W.heap.size)
    (hK : ∀ A' c' w', BRow w' base (.slice A' (xs.length + ys.length) c') (xs ++ ys) → W.grownBy w' v.ownBlock → ((Value.slice A' (xs.length + ys.length) c').ownBlock = v.ownBlock ∨ ∃ k, (Value.slice A' (xs.length + ys.length) c').ownBlock = some k ∧ W.heap.size ≤ k) → wpList Try.prog ops Q rest (a.put o.dst (.slice A' (xs.length + ys.length) c')) w') :
    wpList Try.prog ops Q (o :: rest) a W := by
  refine Kd.R_append_row (w0 := W) (Value.int .u8) 0 (h1 := fun _ => rfl) base hgd s x 23 5 (.int .u8 0) 1 ho Try.underlying23 info5 rfl (by omega) v xs ys A ys.length c (fun _ => True) hs hx (fun _ _ => trivial)
    (Kd.R_of_own HO (fun _ _ => trivial)) HR ((Below.refl _ _).mono hbase) hbase (by omega) ?_
  intro v1 w1 hR _ hg hat
  have hown := Kd.own_of_R hR
  obtain ⟨A', c', rfl⟩ := own_slice hown
  rw [List.length_append] at hown hat
  have hown2 : w1.ownsRow base 5 1 (.slice A' (xs.length + ys.length) c') (xs ++ ys).length (encs (Value.int .u8) (xs ++ ys)) := by rw [List.length_append]; exact hown
  rw [List.length_append]
  exact hK A' c' w1 hown2 hg hat
end
set_option maxRecDepth 100000 in
theorem clone_calls (w : World) (A : Option Addr) (c : Nat) (xs : List Int) (hC : (Kd.int .u8).C w A xs.length xs) (hl : xs.length ≤ 10000000) :
    Calls Try.prog 33 #[.slice A xs.length c] w fun e w' => ∃ A' c', e = .returned (.slice A' xs.length c') ∧ BRow w' w.heap.size (.slice A' xs.length c') xs ∧ Below w.heap.size w w' := by
  have HC := Aside0.mk hC
  cases A with
  | none =>
    have h0 : xs.length = 0 := by
      rcases Nat.eq_zero_or_pos xs.length with h | h
      · exact h
      · obtain ⟨ad, e, _⟩ := hC.2.2 h
        cases e
    obtain rfl := List.eq_nil_of_length_eq_zero h0
    clear hC h0
    have hq := nil_eq 0 c w
    go_enter Try.func33, Try.ntmps33
    go_wp2
    go_ret
    exact ⟨none, 0, rfl, own_nil _ _ _ _, Below.refl _ _⟩
  | some ad =>
    clear hC
    have h0 : BRow (w.alloc (.cells #[] 5)) w.heap.size (.slice (some ⟨w.heap.size, 0, none⟩) 0 0) [] := ⟨rfl, .inr ⟨w.heap.size, 0, #[], rfl, Nat.le_refl _, heap_alloc_new _ _, Nat.le_refl _, Nat.zero_le _, rfl, rfl⟩⟩
    have H0 := Aside0.mk h0
    have HC1 := Aside0.mk (Kd.C_below HC.out (below_alloc (Below.refl w.heap.size w) (.cells #[] 5)))
    clear h0
    have hq := nil_ne ad xs.length c w
    go_enter Try.func33, Try.ntmps33
    go_wp2_with (at_builtin; refine brow_appendAll w.heap.size rfl (.tmp 5) (.tmp 6) rfl (v := .slice (some ⟨w.heap.size, 0, none⟩) 0 0) (xs := []) (ys := xs) (A := some ad) (c := c) rfl rfl H0.out HC1.out (by simp; omega) (by simp) ?_; intro A' c' w2 hr hg hat; rw [List.nil_append] at hr; have HR := Aside0.mk hr; have HG := Aside0.mk hg; clear hr hg hat)
    go_ret
    have hb : Below w.heap.size w w2 := pw_below_grown (below_alloc (Below.refl w.heap.size w) (.cells #[] 5)) _ (by simp) HG.out (fun k e => by cases e; exact Nat.le_refl _)
    exact ⟨A', c', by simp, by simpa using HR.out, hb⟩

/-! ### Write -/
theorem C_adr {w : World} {k : IntKind} {A : Option Addr} {n : Nat} {xs : List Int} (h : (Kd.int k).C w A n xs) (hp : 0 < xs.length) : ∃ ad, A = some ad ∧ ∀ (j : Nat) (v : Value), (xs.map (Value.int k))[j]? = some v → w.cell? (ad.add j) = some v := by
  obtain ⟨hn, _, h2⟩ := h
  obtain ⟨ad, rfl, hc⟩ := h2 (by omega)
  refine ⟨ad, rfl, fun j v hv => ?_⟩
  rw [List.getElem?_map, Option.map_eq_some_iff] at hv
  obtain ⟨x, hx, rfl⟩ := hv
  obtain ⟨cs, h3, h4, h5⟩ := hc j x hx
  have h6 : cs = [.int k x] := h4
  have := h5 0 (.int k x) (by rw [h6]; rfl)
  have hsz : (Kd.int k).sz = 1 := rfl
  rwa [hsz, Nat.mul_one, Nat.add_zero] at this

def putS (l : List Int) (i : Nat) (xs : List Int) : List Int := l.take (32 * i) ++ (xs ++ l.drop (32 * i + 32))
theorem putS_length {l : List Int} {i n : Nat} {xs : List Int} (hl : l.length = 32 * n) (hi : i < n) (hx : xs.length = 32) : (putS l i xs).length = 32 * n := by
  simp [putS]; omega
theorem DskAt.setSeen {w : World} {base b kb sb : Nat} {vp : Value} {D : Dsk} (h : DskAt w base b kb sb vp D) {ys : List Int} (hy : ys.length = D.seen.length) : DskAt (w.setRow sb (bts ys)) base b kb sb vp { D with seen := ys } := by
  have hbs : b ≠ sb := blk_ne h.blk h.seen (by decide)
  exact
  { blk := by rw [setRow_other w sb b _ hbs]; show _ = some (Obj.cells #[_, .slice (some ⟨sb, 0, none⟩) ys.length ys.length, _, _] _ _); rw [hy]; exact h.blk
    kept := by rw [setRow_other w sb kb _ h.ne]; exact h.kept
    seen := setRow_heap w sb _ _ 5 _ h.seen
    ne := h.ne, bb := h.bb, bk := h.bk, bs := h.bs, len := h.len.trans hy.symm
    pend := by
      obtain ⟨PV, ho, h1, h2⟩ := h.pend
      refine ⟨PV, own_move ho fun k hk => setRow_other w sb k _ fun e => ?_, h1, fun i s v hi => ?_⟩
      · obtain ⟨cs, hc⟩ := own_typed ho k hk
        rw [e, h.seen] at hc
        simp at hc
      · obtain ⟨xs, h3, h4⟩ := h2 i s v hi
        exact ⟨xs, h3, h4.row.stay fun k hk => setRow_other w sb k _ fun e => h4.ns (by rw [← e]; exact hk), h4.nk, h4.ns⟩ }
theorem KS.setRow {w W : World} {S : Nat → Prop} (h : KS w W S) {g : Nat} (hg : S g) (cs : Array Value) : KS w (W.setRow g cs) S :=
  ⟨⟨by simp [World.setRow]; exact h.size, fun k hk hs => (setRow_other W g k cs (fun e => hs (by rw [e]; exact hg))).trans (h.block hk hs)⟩, h.os, h.tape, h.output⟩

theorem DskAt.pushPend {w W W2 : World} {base b kb sb : Nat} {vp : Value} {D : Dsk} (h : DskAt w base b kb sb vp D) (hW : Below w.heap.size w W) {s : Int} {v : Value} {xs : List Int} (hv : BRow W w.heap.size v xs) {PV : List (Int × Value)} (h1 : PV.map (·.1) = D.pend.map (·.1))
    (h2 : ∀ (i : Nat) (s : Int) (v : Value), PV[i]? = some (s, v) → ∃ xs, D.pend[i]? = some (s, xs) ∧ Dat w base kb sb v xs) {gg cap : Nat} (ho : W2.ownsRow base 98 2 (.slice (some ⟨gg, 0, none⟩) (PV.length + 1) cap) (PV.length + 1) (pendCells PV ++ [.int .i64 s, v]))
    (hg : W.grownBy W2 vp.ownBlock) (hat : vp.ownBlock = some gg ∨ gg = W.heap.size) (hb : base ≤ w.heap.size) :
    DskAt (W2.setCell ⟨b, 2, none⟩ (.slice (some ⟨gg, 0, none⟩) (PV.length + 1) cap)) base b kb sb (.slice (some ⟨gg, 0, none⟩) (PV.length + 1) cap) { D with pend := D.pend ++ [(s, xs)] } ∧
    KS w (W2.setCell ⟨b, 2, none⟩ (.slice (some ⟨gg, 0, none⟩) (PV.length + 1) cap)) (DF b kb sb vp) ∧ (vp.ownBlock = some gg ∨ w.heap.size ≤ gg) := by
  have hvp : ∀ k, vp.ownBlock = some k → ∃ cs, w.heap[k]? = some (.cells cs 98 (0, 0)) := fun k hk => by
    obtain ⟨PV', ho', _⟩ := h.pend
    exact own_typed ho' k hk
  have hne : ∀ (k : Nat) (cs : Array Value) (t : TypeId), w.heap[k]? = some (Obj.cells cs t (0, 0)) → t ≠ 98 → vp.ownBlock ≠ some k := fun k cs t hc ht e => by
    obtain ⟨cs', hc'⟩ := hvp k e
    rw [hc] at hc'
    simp at hc'
    exact ht hc'.2
  have hkeep : ∀ (k : Nat) (cs : Array Value) (t : TypeId), w.heap[k]? = some (Obj.cells cs t (0, 0)) → t ≠ 98 → W2.heap[k]? = w.heap[k]? := fun k cs t hc ht => by
    have hlt := blk_lt hc
    rw [hg.block k (Nat.lt_of_lt_of_le hlt hW.size) (fun e => hne k cs t hc ht e.symm), hW.block k hlt]
  have hbk : b ≠ kb := blk_ne h.blk h.kept (by decide)
  have hbs : b ≠ sb := blk_ne h.blk h.seen (by decide)
  have hgb : b ≠ gg := fun e => by
    rcases hat with h3 | h3
    · exact hne b _ 93 h.blk (by decide) (by rw [e]; exact h3)
    · have := blk_lt h.blk; have := hW.size; omega
  have set_ : ∀ k, k ≠ b → (W2.setCell ⟨b, 2, none⟩ (.slice (some ⟨gg, 0, none⟩) (PV.length + 1) cap)).heap[k]? = W2.heap[k]? := fun k hk => Below.heap_setCell W2 ⟨b, 2, none⟩ _ k hk
  have hvW : BRow W2 w.heap.size v xs := hv.stay fun k hk => hg.block k (hv.lt hk) fun e => by
    have h5 := hv.base_le k hk
    obtain ⟨cs, hc⟩ := hvp k e.symm
    have := blk_lt hc
    omega
  refine ⟨?_, ?_, ?_⟩
  · exact
    { blk := blk_put ((hkeep b _ 93 h.blk (by decide)).trans h.blk) 2 _ rfl
      kept := (set_ kb hbk.symm).trans ((hkeep kb _ 5 h.kept (by decide)).trans h.kept)
      seen := (set_ sb hbs.symm).trans ((hkeep sb _ 5 h.seen (by decide)).trans h.seen)
      ne := h.ne, bb := h.bb, bk := h.bk, bs := h.bs, len := h.len
      pend := by
        refine ⟨PV ++ [(s, v)], ?_, by simp [h1], fun i s' v' hi => ?_⟩
        · rw [List.length_append, pendCells_append]
          exact own_setCell ho (p := ⟨b, 2, none⟩) (fun e => hgb (Option.some.inj e)) _
        · have hl : PV.length = D.pend.length := by have := congrArg List.length h1; simpa using this
          have hst : ∀ {v : Value} {xs : List Int} {bs : Nat}, BRow W2 bs v xs → BRow (W2.setCell ⟨b, 2, none⟩ (.slice (some ⟨gg, 0, none⟩) (PV.length + 1) cap)) bs v xs := fun {v xs bs} hr => hr.stay fun k hk => set_ k fun e => by
            obtain ⟨cs, hc⟩ := hr.block hk
            rw [e, hkeep b _ 93 h.blk (by decide), h.blk] at hc
            simp at hc
          rcases Nat.lt_or_ge i PV.length with hlt | hge
          · rw [List.getElem?_append_left hlt] at hi
            obtain ⟨ys, h3, h4⟩ := h2 i s' v' hi
            refine ⟨ys, by rw [List.getElem?_append_left (by omega)]; exact h3, hst (h4.row.stay fun k hk => ?_), h4.nk, h4.ns⟩
            obtain ⟨cs, hc⟩ := h4.row.block hk
            exact hkeep k cs 5 hc (by decide)
          · have hi2 : i = PV.length := by
              have := (List.getElem?_eq_some_iff.1 hi).1
              simp at this
              omega
            subst hi2
            rw [List.getElem?_append_right (Nat.le_refl _), Nat.sub_self] at hi
            simp at hi
            obtain ⟨rfl, rfl⟩ := hi
            refine ⟨xs, by rw [hl, List.getElem?_append_right (Nat.le_refl _), Nat.sub_self]; rfl, hst (hvW.weak hb), fun e => ?_, fun e => ?_⟩
            · have := hv.base_le _ e; have := blk_lt h.kept; omega
            · have := hv.base_le _ e; have := blk_lt h.seen; omega }
  · refine ((KS.of_below hW _).of_grown hg fun k hk => .inl (.inr (.inr (.inr hk)))).setCell (.inl (.inl rfl)) _
  · rcases hat with h3 | h3
    · exact .inl h3
    · have := hW.size; exact .inr (by omega)

theorem info98 : (Try.prog.info? 98).map (fun i => (i.zero, i.size, i.bytes)) = some (some (.agg #[.int .i64 0, .slice none 0 0]), 2, 32) := by kernel_rfl
theorem sizeB : (Try.prog.info? 5).map (·.size) = some 1 := by kernel_rfl

/-- What a write does. -/
def wrote (D : Dsk) (i : Nat) (xs : List Int) : Dsk := { D with seen := putS D.seen i xs, pend := D.pend ++ [((i : Int), xs)], life := spent D.life }
def DiskPost (w : World) (base b kb sb : Nat) (vp : Value) (D : Dsk) (r : Int) (e : Ending) (w' : World) : Prop :=
  e = .returned (.int .i64 r) ∧ ∃ vp', DskAt w' base b kb sb vp' D ∧ KS w w' (DF b kb sb vp) ∧ (vp'.ownBlock = vp.ownBlock ∨ vp'.ownBlock = none ∨ ∃ k, vp'.ownBlock = some k ∧ w.heap.size ≤ k)

set_option maxHeartbeats 4000000 in
set_option maxRecDepth 100000 in
theorem write_calls (w : World) (base b kb sb : Nat) (vp : Value) (D : Dsk) (h : DskAt w base b kb sb vp D) (hbase : base ≤ w.heap.size) (n : Nat) (hn : D.seen.length = 32 * n) (hl : n ≤ 8192) (hp : D.pend.length ≤ 4000000) (hf0 : -1 ≤ D.life) (hf : D.life ≤ 1000000000000) (i : Nat) (hi : i < n) (h0 : D.life ≠ 0)
    (A : Option Addr) (c : Nat) (xs : List Int) (hx : xs.length = 32) (hX : ∀ W, KS w W (DF b kb sb vp) → (Kd.int .u8).C W A xs.length xs) :
    Calls Try.prog 48 #[.pointer (some ⟨b, 0, none⟩), .int .i64 (i : Int), .slice A 32 c] w (DiskPost w base b kb sb vp (wrote D i xs) 0) := by
  have hchk : chk D n (i : Int) = 0 := by unfold chk; rw [if_neg h0, if_neg (by omega)]
  have hcheck := check_calls w base b kb sb vp D h n hn hl (i : Int)
  rw [hchk] at hcheck
  have HCHK := Aside0.mk hcheck
  have c1 : w.cell? ⟨b, 1, none⟩ = some (.slice (some ⟨sb, 0, none⟩) D.seen.length D.seen.length) := (blk_cell h.blk 1).trans rfl
  obtain ⟨N, hN⟩ : ∃ N, N = D.seen.length := ⟨_, rfl⟩
  rw [← hN] at c1
  have HN := Aside0.mk hN
  have hN2 : N ≤ 300000 := by omega
  have hsec := sector_calls w sb N i (by omega) hN2
  have HSEC := Aside0.mk hsec
  obtain ⟨ad, rfl⟩ : ∃ ad, A = some ad := by
    obtain ⟨ad, e, _⟩ := (hX w (KS.refl _ _)).2.2 (by omega)
    exact ⟨ad, e⟩
  have H := Aside0.mk h
  have HX := Aside0.mk hX
  have HXL := Aside0.mk hx
  have HP := Aside0.mk hp
  have HNN := Aside0.mk hn
  have hclone : ∀ W, KS w W (DF b kb sb vp) → Calls Try.prog 33 #[.slice (some ad) 32 c] W fun e w' => ∃ A' c', e = .returned (.slice A' 32 c') ∧ BRow w' W.heap.size (.slice A' 32 c') xs ∧ Below W.heap.size W w' := fun W hk => by
    have := clone_calls W (some ad) c xs (hX W hk) (by omega)
    rwa [hx] at this
  have HCLONE := Aside0.mk hclone
  clear hcheck hsec hX h hchk hn hp hN hx hclone
  go_enter Try.func48, Try.ntmps48
  go_wp2_with fail
  refine HCHK.out.mono ?_
  rintro e w' ⟨rfl, rfl⟩
  go_wp2_with fail
  refine HSEC.out.mono ?_
  rintro e w' ⟨rfl, rfl⟩
  have hadr := C_adr (HX.out w (KS.refl _ _)) (by rw [HXL.out]; omega)
  obtain ⟨ad', he, hcell⟩ := hadr
  obtain rfl : ad' = ad := (Option.some.inj he).symm
  have HCELL := Aside0.mk hcell
  have hfit : 32 * i + (xs.map (Value.int .u8)).length ≤ (bts D.seen).size := by simp only [bts, List.size_toArray, List.length_map]; have := HNN.out; have := HXL.out; omega
  have HFIT := Aside0.mk hfit
  have HMIN := Aside0.mk (show (xs.map (Value.int .u8)).length = Nat.min 32 32 by rw [List.length_map, HXL.out]; rfl)
  clear he hcell hfit
  go_upto_region 7 with ((with_reducible refine gate_builtin (b := .copy) (xs := #[.tmp 26, .tmp 27]) rfl ?_); go_loud (refine wpList_copy_own rfl (.tmp 26) (.tmp 27) 23 23 rfl 5 Try.underlying23 sizeB sb (32 * i) 32 (N - 32 * i) ad' 32 c rfl rfl (bts D.seen) 5 H.out.seen (xs.map (Value.int .u8)) HMIN.out HCELL.out HFIT.out (by intro v hv; obtain ⟨x, _, rfl⟩ := List.mem_map.1 hv; rfl) ?_))
  have hput : ((bts D.seen).toList.take (32 * i) ++ (xs.map (Value.int .u8) ++ (bts D.seen).toList.drop (32 * i + (xs.map (Value.int .u8)).length))).toArray = bts (putS D.seen i xs) := by
    simp only [bts, putS, List.length_map, HXL.out, List.map_append, List.map_take, List.map_drop]
  rw [hput]
  have hd1 := H.out.setSeen (ys := putS D.seen i xs) (by rw [HNN.out]; exact putS_length HNN.out hi HXL.out)
  have hk1 : KS w (w.setRow sb (bts (putS D.seen i xs))) (DF b kb sb vp) := (KS.refl _ _).setRow (.inr (.inr (.inl rfl))) _
  have hs1 : (w.setRow sb (bts (putS D.seen i xs))).heap.size = w.heap.size := by simp [World.setRow]
  generalize w.setRow sb (bts (putS D.seen i xs)) = w1 at *
  obtain ⟨PV, hPV, hPV1, hPV2⟩ := hd1.pend
  obtain ⟨Ap, cp, hvp⟩ := own_slice hPV
  subst hvp
  obtain ⟨i0, hi0, hzz⟩ := Option.map_eq_some_iff.1 info98
  simp only [Prod.mk.injEq] at hzz
  obtain ⟨hz0, hz1, hz2⟩ := hzz
  have c2 : w1.cell? ⟨b, 2, none⟩ = some (.slice Ap PV.length cp) := (blk_cell hd1.blk 2).trans rfl
  have c2d : w1.drew.cell? ⟨b, 2, none⟩ = some (.slice Ap PV.length cp) := c2
  have HD1 := Aside0.mk hd1
  have HKS1 := Aside0.mk hk1
  have HPV := Aside0.mk hPV
  have HPV1 := Aside0.mk hPV1
  have HPV2 := Aside0.mk hPV2
  have hpl : PV.length ≤ 4000000 := by have := congrArg List.length hPV1; simp at this; have := HP.out; omega
  have HMAX := Aside0.mk (show PV.length + 1 ≤ maxLen by unfold maxLen; omega)
  have HBYT := Aside0.mk (show (PV.length + 1) * 32 ≤ 140737488355328 by omega)
  have HBASE := Aside0.mk (show base ≤ w1.heap.size by omega)
  have HS1 := Aside0.mk hs1
  have hone : ∀ (A' : Option Addr) (c' : Nat), ∀ u ∈ [Value.int .i64 (i : Int), Value.slice A' 32 c'], u.oneCell' = true := fun A' c' u hu => by
    simp only [List.mem_cons, List.not_mem_nil, or_false] at hu
    rcases hu with rfl | rfl <;> rfl
  have HONE := Aside0.mk hone
  have hcf : ∀ w3 w5, Below w1.heap.size w1 w3 → ∀ o, (w3.alloc o).grownBy w5 (Value.slice Ap PV.length cp).ownBlock → w5.cell? ⟨b, 2, none⟩ = some (.slice Ap PV.length cp) ∧ w5.frozen? ⟨b, 2, none⟩ = false := fun w3 w5 h3 o hg => by
    have hbl : w5.heap[b]? = w1.heap[b]? := by
      have h4 := below_alloc h3 o
      have hlt := blk_lt hd1.blk
      rw [hg.block b (Nat.lt_of_lt_of_le hlt h4.size) (fun e => by
        obtain ⟨cs, hc⟩ := own_typed hPV b e.symm
        rw [hd1.blk] at hc
        simp at hc), h4.block b hlt]
    exact ⟨(World.cell?_of_block (a := ⟨b, 2, none⟩) hbl).trans c2, (World.frozen?_of_block (a := ⟨b, 2, none⟩) hbl).trans (blk_frozen hd1.blk 2)⟩
  have HCF := Aside0.mk hcf
  clear hd1 hk1 hPV hPV1 hPV2 hone hcf hput hpl hs1
  refine start_ (n := 14) (S := (fun w' => w'.cell? ⟨b, 2, none⟩ = some (.slice Ap PV.length cp))) (ds := [13]) #[false, false, false, false, false, false, false, false, false, false, false, false, false, false] (by kernel_rfl) rfl rfl c2d (fun hHeld => ?_)
  refine pure_ (i := 0) (N := some 29) (v := ?_) (a' := ?_) #[true, false, false, false, false, false, false, false, false, false, false, false, false, false] rfl rfl (by kernel_rfl) (fun _ _ _ h => h) (Or.inl ⟨by rfl, ?_⟩) ?_ ?_
  rotate_left
  · intro w'
    go_simp
    with_reducible rfl
  rotate_left
  · simp only [Act.put, List.setIfInBounds_toArray, List.set_cons_zero, List.set_cons_succ]
    rfl
  refine pure_ (i := 1) (N := some 30) (v := ?_) (a' := ?_) #[true, true, false, false, false, false, false, false, false, false, false, false, false, false] rfl rfl (by kernel_rfl) (fun _ _ _ h => h) (Or.inl ⟨by rfl, ?_⟩) ?_ ?_
  rotate_left
  · intro w'
    go_simp
    with_reducible rfl
  rotate_left
  · simp only [Act.put, List.setIfInBounds_toArray, List.set_cons_zero, List.set_cons_succ]
    rfl
  refine pure_ (i := 2) (N := some 31) (v := ?_) (a' := ?_) #[true, true, true, false, false, false, false, false, false, false, false, false, false, false] rfl rfl (by kernel_rfl) (fun _ _ _ h => h) (Or.inl ⟨by rfl, ?_⟩) ?_ ?_
  rotate_left
  · intro w'
    go_simp
    with_reducible rfl
  rotate_left
  · simp only [Act.put, List.setIfInBounds_toArray, List.set_cons_zero, List.set_cons_succ]
    rfl
  refine pure_ (i := 3) (N := some 32) (v := ?_) (a' := ?_) #[true, true, true, true, false, false, false, false, false, false, false, false, false, false] rfl rfl (by kernel_rfl) (fun _ _ _ h => h) (Or.inl ⟨by rfl, ?_⟩) ?_ ?_
  rotate_left
  · intro w'
    go_simp
    with_reducible rfl
  rotate_left
  · simp only [Act.put, List.setIfInBounds_toArray, List.set_cons_zero, List.set_cons_succ]
    rfl
  refine take_ (i := 4) (N := some 33) (v := ?_) (a' := ?_) #[true, true, true, true, true, false, false, false, false, false, false, false, false, false] rfl rfl (by kernel_rfl) (fun _ _ _ h => h) (Or.inl ⟨by rfl, ?_⟩) hHeld ?_ ?_
  rotate_left
  · rintro w' s0
    go_simp
    with_reducible rfl
  rotate_left
  · simp only [Act.put, List.setIfInBounds_toArray, List.set_cons_zero, List.set_cons_succ]
    rfl
  refine pure_ (i := 5) (N := some 34) (v := ?_) (a' := ?_) #[true, true, true, true, true, true, false, false, false, false, false, false, false, false] rfl rfl (by kernel_rfl) (fun _ _ _ h => h) (Or.inl ⟨by rfl, ?_⟩) ?_ ?_
  rotate_left
  · intro w'
    go_simp
    with_reducible rfl
  rotate_left
  · simp only [Act.put, List.setIfInBounds_toArray, List.set_cons_zero, List.set_cons_succ]
    rfl
  refine pure_ (i := 6) (N := some 35) (v := ?_) (a' := ?_) #[true, true, true, true, true, true, true, false, false, false, false, false, false, false] rfl rfl (by kernel_rfl) (fun _ _ _ h => h) (Or.inl ⟨by rfl, ?_⟩) ?_ ?_
  rotate_left
  · intro w'
    go_simp
    with_reducible rfl
  rotate_left
  · simp only [Act.put, List.setIfInBounds_toArray, List.set_cons_zero, List.set_cons_succ]
    rfl
  refine one_ (i := 7) (N := some 36) #[true, true, true, true, true, true, true, true, false, false, false, false, false, false] rfl rfl (by kernel_rfl) (by decide) (fun K hK => ?_)
  refine goes_ Try.func33 (by kernel_rfl) rfl #[.slice (some ad') 32 c] (by rfl) rfl rfl (by first | rfl | simp [Act.eval]) ?_
  refine (HCLONE.out _ (HKS1.out.below (below_drew (Below.refl _ _)))).mono ?_
  rintro e w3 ⟨A', c', rfl, hr3, hb3⟩
  refine ⟨_, rfl, ?_⟩
  have HR3 := Aside0.mk hr3
  have HB3 := Aside0.mk (below_step (below_drew (Below.refl w1.heap.size w1)) hb3)
  clear hr3 hb3
  refine hK.out _ _ (pw_cell_below HB3.out c2) (fun hHeld => ?_)
  clear hK K
  refine norm_ (a' := ?_) ?_ ?_
  rotate_left
  · show Act.put _ (some 36) _ = _
    simp only [Act.put, List.setIfInBounds_toArray, List.set_cons_zero, List.set_cons_succ]
    rfl
  refine pure_ (i := 8) (N := some 37) (v := ?_) (a' := ?_) #[true, true, true, true, true, true, true, true, true, false, false, false, false, false] rfl rfl (by kernel_rfl) (fun _ _ _ h => h) (Or.inl ⟨by rfl, ?_⟩) ?_ ?_
  rotate_left
  · intro w'
    go_simp
    with_reducible rfl
  rotate_left
  · simp only [Act.put, List.setIfInBounds_toArray, List.set_cons_zero, List.set_cons_succ]
    rfl
  refine one_ (i := 9) (N := some 38) #[true, true, true, true, true, true, true, true, true, true, false, false, false, false] rfl rfl (by kernel_rfl) (by decide) (fun K hK => ?_)
  refine value_ (v := .slice (some ⟨w3.heap.size, 0, none⟩) 1 1) (w1 := w3.alloc (.cells #[.int .i64 (i : Int), .slice A' 32 c'] 98)) (by rfl) rfl (by go_simp) ?_
  refine hK.out _ _ (pw_cell_below (below_alloc HB3.out _) c2) (fun hHeld => ?_)
  clear hK K
  refine norm_ (a' := ?_) ?_ ?_
  rotate_left
  · show Act.put _ (some 38) _ = _
    simp only [Act.put, List.setIfInBounds_toArray, List.set_cons_zero, List.set_cons_succ]
    rfl
  refine one_ (i := 10) (N := some 39) #[true, true, true, true, true, true, true, true, true, true, true, false, false, false] rfl rfl (by kernel_rfl) (by decide) (fun K hK => ?_)
  refine step_append_lies _ rfl (.tmp 33) (.tmp 38) 91 rfl base 98 i0 (.agg #[.int .i64 0, .slice none 0 0]) 2 32 Try.underlying91 hi0 hz0 hz1 hz2 rfl (by decide) (.slice Ap PV.length cp) PV.length (pendCells PV) rfl (pw_own_below HPV.out (below_alloc HB3.out _)) ⟨w3.heap.size, 0, none⟩ 1 1 [.int .i64 (i : Int), .slice A' 32 c'] rfl rfl (World.news_of_block (cs := #[.int .i64 (i : Int), .slice A' 32 c']) (t := 98) (fr := (0, 0)) (heap_alloc_new w3 _)) (HONE.out A' c') (by decide) HMAX.out HBYT.out (Nat.le_trans HBASE.out (below_alloc HB3.out _).size) _ rfl ?_
  intro gg cap w5 ho5 hg5 hat5 hlt5
  have HO5 := Aside0.mk ho5
  have HG5 := Aside0.mk hg5
  have HAT5 := Aside0.mk hat5
  obtain ⟨c5, f5⟩ := HCF.out w3 w5 HB3.out _ hg5
  clear ho5 hg5 hat5 hlt5
  refine hK.out _ _ c5 (fun hHeld => ?_)
  clear hK K
  refine norm_ (a' := ?_) ?_ ?_
  rotate_left
  · show Act.put _ (some 39) _ = _
    simp only [Act.put, List.setIfInBounds_toArray, List.set_cons_zero, List.set_cons_succ]
    rfl
  refine pure_ (i := 11) (N := some 40) (v := ?_) (a' := ?_) #[true, true, true, true, true, true, true, true, true, true, true, true, false, false] rfl rfl (by kernel_rfl) (fun _ _ _ h => h) (Or.inl ⟨by rfl, ?_⟩) ?_ ?_
  rotate_left
  · intro w'
    go_simp
    with_reducible rfl
  rotate_left
  · simp only [Act.put, List.setIfInBounds_toArray, List.set_cons_zero, List.set_cons_succ]
    rfl
  refine pure_ (i := 12) (N := some 41) (v := ?_) (a' := ?_) #[true, true, true, true, true, true, true, true, true, true, true, true, true, false] rfl rfl (by kernel_rfl) (fun _ _ _ h => h) (Or.inl ⟨by rfl, ?_⟩) ?_ ?_
  rotate_left
  · intro w'
    go_simp
    with_reducible rfl
  rotate_left
  · simp only [Act.put, List.setIfInBounds_toArray, List.set_cons_zero, List.set_cons_succ]
    rfl
  refine last_ (i := 13) (N := none) #[true, true, true, true, true, true, true, true, true, true, true, true, true, true] rfl rfl (by kernel_rfl) (by decide) (fun K hK => ?_)
  refine skip_ (w1 := ?_) (by rfl) rfl ?_ ?_
  rotate_left
  · go_simp
    rfl
  refine hK.out _ _ ?_
  clear hK K
  refine done_ (by kernel_rfl) ?_
  have hr4 : BRow (w3.alloc (.cells #[.int .i64 (i : Int), .slice A' 32 c'] 98)) w1.heap.size (.slice A' 32 c') xs := HR3.out.stay fun k hk => Below.heap_alloc w3 _ k (HR3.out.lt hk)
  obtain ⟨hd6, hk6, hat6⟩ := HD1.out.pushPend (s := (i : Int)) (below_alloc HB3.out (.cells #[.int .i64 (i : Int), .slice A' 32 c'] 98)) hr4 HPV1.out HPV2.out HO5.out HG5.out HAT5.out HBASE.out
  generalize w5.setCell ⟨b, 2, none⟩ (.slice (some ⟨gg, 0, none⟩) (PV.length + 1) cap) = w6 at *
  have HD6 := Aside0.mk hd6
  have HK6 := Aside0.mk hk6
  have HAT6 := Aside0.mk hat6
  clear hd6 hk6 hat6 hr4 HAT5 HO5 HG5 HB3 HR3
  go_wp2_with fail
  refine (spend_calls w6 base b kb sb _ _ HD6.out hf0 hf).mono ?_
  rintro e w7 ⟨rfl, hd7, hk7⟩
  have HD7 := Aside0.mk hd7
  have HK7 := Aside0.mk hk7
  clear hd7 hk7
  go_wp2_with fail
  go_ret
  refine ⟨rfl, _, HD7.out, ?_, ?_⟩
  · refine (HKS1.out.then_ HK6.out (fun k hk => .inl hk)).then_ HK7.out (fun k hk => .inl (.inl hk))
  · rcases HAT6.out with h | h
    · exact .inl h.symm
    · exact .inr (.inr ⟨gg, rfl, by have := HS1.out; omega⟩)

/-! ### Barrier -/
theorem step_copy_own {P : Program} {w : World} {ops : Array Oper} {o : Oper} {a : Act} {K : Act → World → Prop} {Q : Exit → Act → World → Prop} {E : Prop} (hgd : o.guard = none) (d s : Operand) (dT sT : TypeId)
    (ho : o.op = .call { callee := .builtin .copy, args := #[d, s], argTypes := #[dT, sT] }) (elem : TypeId) (hu : P.underlying dT = some (.slice elem)) (hsz : (P.info? elem).map (·.size) = some 1)
    (g off dLen dCap : Nat) (ad : Addr) (sLen sCap : Nat) (hd : a.eval d = .slice (some ⟨g, off, none⟩) dLen dCap) (hs : a.eval s = .slice (some ad) sLen sCap)
    (cur : Array Value) (t : TypeId) (hg : w.heap[g]? = some (.cells cur t (0, 0))) (cs : List Value) (hn : cs.length = Nat.min sLen dLen)
    (hsrc : ∀ j v, cs[j]? = some v → w.cell? (ad.add j) = some v) (hfit : off + cs.length ≤ cur.size) (h1 : ∀ v ∈ cs, v.oneCell' = true)
    (h : K (a.put o.dst (goInt cs.length)) (w.setRow g (cur.toList.take off ++ (cs ++ cur.toList.drop (off + cs.length))).toArray)) : if Region.wanted o (yielded ops a.tmps) = true then Oper.wp P o a w K Q else E := by
  rw [if_pos (by simp [Region.wanted, hgd])]
  have hrun := run_copy_row (P := P) w dT sT o.type elem g off dLen dCap ad sLen sCap cur t cs hu hsz hg hn hsrc hfit h1
  unfold Oper.wp
  simp [execOp, ho, resolve, invoke, builtin, hd, hs, hrun, Result.andThen]
  exact h
theorem DskAt.setKept {w : World} {base b kb sb : Nat} {vp : Value} {D : Dsk} (h : DskAt w base b kb sb vp D) {ys : List Int} (hy : ys.length = D.kept.length) : DskAt (w.setRow kb (bts ys)) base b kb sb vp { D with kept := ys } := by
  have hbk : b ≠ kb := blk_ne h.blk h.kept (by decide)
  exact
  { blk := by rw [setRow_other w kb b _ hbk]; show _ = some (Obj.cells #[.slice (some ⟨kb, 0, none⟩) ys.length ys.length, _, _, _] _ _); rw [hy]; exact h.blk
    kept := setRow_heap w kb _ _ 5 _ h.kept
    seen := by rw [setRow_other w kb sb _ h.ne.symm]; exact h.seen
    ne := h.ne, bb := h.bb, bk := h.bk, bs := h.bs, len := hy.trans h.len
    pend := by
      obtain ⟨PV, ho, h1, h2⟩ := h.pend
      refine ⟨PV, own_move ho fun k hk => setRow_other w kb k _ fun e => ?_, h1, fun i s v hi => ?_⟩
      · obtain ⟨cs, hc⟩ := own_typed ho k hk
        rw [e, h.kept] at hc
        simp at hc
      · obtain ⟨xs, h3, h4⟩ := h2 i s v hi
        exact ⟨xs, h3, h4.row.stay fun k hk => setRow_other w kb k _ fun e => h4.nk (by rw [← e]; exact hk), h4.nk, h4.ns⟩ }
theorem DskAt.noPend {w : World} {base b kb sb : Nat} {vp : Value} {D : Dsk} (h : DskAt w base b kb sb vp D) : DskAt (w.setCell ⟨b, 2, none⟩ (.slice none 0 0)) base b kb sb (.slice none 0 0) { D with pend := [] } := by
  have hbk : b ≠ kb := blk_ne h.blk h.kept (by decide)
  have hbs : b ≠ sb := blk_ne h.blk h.seen (by decide)
  exact
  { blk := blk_put h.blk 2 _ rfl
    kept := (Below.heap_setCell w ⟨b, 2, none⟩ _ kb hbk.symm).trans h.kept
    seen := (Below.heap_setCell w ⟨b, 2, none⟩ _ sb hbs.symm).trans h.seen
    ne := h.ne, bb := h.bb, bk := h.bk, bs := h.bs, len := h.len
    pend := ⟨[], own_nil _ _ _ _, rfl, fun i s v hi => by simp at hi⟩ }

def synced (D : Dsk) : Dsk := { kept := D.seen, seen := D.seen, pend := [], life := spent D.life }
set_option maxHeartbeats 4000000 in
set_option maxRecDepth 100000 in
theorem barrier_calls (w : World) (base b kb sb : Nat) (vp : Value) (D : Dsk) (h : DskAt w base b kb sb vp D) (n : Nat) (hn : D.seen.length = 32 * n) (hn0 : 0 < n) (hl : n ≤ 8192) (hf0 : -1 ≤ D.life) (hf : D.life ≤ 1000000000000) (h0 : D.life ≠ 0) :
    Calls Try.prog 49 #[.pointer (some ⟨b, 0, none⟩)] w (DiskPost w base b kb sb vp (synced D) 0) := by
  have hchk : chk D n 0 = 0 := by unfold chk; rw [if_neg h0, if_neg (by omega)]
  have hcheck := check_calls w base b kb sb vp D h n hn hl 0
  rw [hchk] at hcheck
  have HCHK := Aside0.mk hcheck
  have c0' : w.cell? ⟨b, 0, none⟩ = some (.slice (some ⟨kb, 0, none⟩) D.kept.length D.kept.length) := (blk_cell h.blk 0).trans rfl
  have c1' : w.cell? ⟨b, 1, none⟩ = some (.slice (some ⟨sb, 0, none⟩) D.seen.length D.seen.length) := (blk_cell h.blk 1).trans rfl
  rw [h.len] at c0'
  obtain ⟨N, hN⟩ : ∃ N, N = D.seen.length := ⟨_, rfl⟩
  rw [← hN] at c0' c1'
  have c0 : w.drew.cell? ⟨b, 0, none⟩ = some (.slice (some ⟨kb, 0, none⟩) N N) := c0'
  have c1 : w.drew.cell? ⟨b, 1, none⟩ = some (.slice (some ⟨sb, 0, none⟩) N N) := c1'
  have HMIN := Aside0.mk (show (D.seen.map (Value.int .u8)).length = Nat.min N N by rw [List.length_map, ← hN]; exact (Nat.min_self N).symm)
  have HSRC := Aside0.mk (show ∀ (j : Nat) (v : Value), (D.seen.map (Value.int .u8))[j]? = some v → w.drew.cell? ((⟨sb, 0, none⟩ : Addr).add j) = some v from fun j v hv => by
    rw [List.getElem?_map, Option.map_eq_some_iff] at hv
    obtain ⟨x, hx, rfl⟩ := hv
    obtain ⟨hj, e⟩ := List.getElem?_eq_some_iff.1 hx
    have := byte_cell h.seen j hj
    rw [e] at this
    rw [Addr.add_lit, Nat.zero_add]
    exact this)
  have HFIT := Aside0.mk (show 0 + (D.seen.map (Value.int .u8)).length ≤ (bts D.kept).size by simp [bts, h.len])
  have HONE := Aside0.mk (show ∀ v ∈ D.seen.map (Value.int .u8), v.oneCell' = true from fun v hv => by obtain ⟨x, _, rfl⟩ := List.mem_map.1 hv; rfl)
  have H := Aside0.mk h
  have HN := Aside0.mk hN
  clear hcheck h hchk hn hN c0' c1'
  go_enter Try.func49, Try.ntmps49
  go_wp2_with fail
  refine HCHK.out.mono ?_
  rintro e w' ⟨rfl, rfl⟩
  go_upto_region 4 with fail
  refine start_ (n := 9) (S := (fun w' => w'.cell? ⟨b, 0, none⟩ = some (.slice (some ⟨kb, 0, none⟩) N N) ∧ w'.cell? ⟨b, 1, none⟩ = some (.slice (some ⟨sb, 0, none⟩) N N))) (ds := [8]) #[false, false, false, false, false, false, false, false, false] (by kernel_rfl) rfl rfl ⟨c0, c1⟩ (fun hHeld => ?_)
  refine pure_ (i := 0) (N := some 9) (v := ?_) (a' := ?_) #[true, false, false, false, false, false, false, false, false] rfl rfl (by kernel_rfl) (fun _ _ _ h => h) (Or.inl ⟨by rfl, ?_⟩) ?_ ?_
  rotate_left
  · intro w'
    go_simp
    with_reducible rfl
  rotate_left
  · simp only [Act.put, List.setIfInBounds_toArray, List.set_cons_zero, List.set_cons_succ]
    rfl
  refine pure_ (i := 1) (N := some 10) (v := ?_) (a' := ?_) #[true, true, false, false, false, false, false, false, false] rfl rfl (by kernel_rfl) (fun _ _ _ h => h) (Or.inl ⟨by rfl, ?_⟩) ?_ ?_
  rotate_left
  · intro w'
    go_simp
    with_reducible rfl
  rotate_left
  · simp only [Act.put, List.setIfInBounds_toArray, List.set_cons_zero, List.set_cons_succ]
    rfl
  refine pure_ (i := 2) (N := some 11) (v := ?_) (a' := ?_) #[true, true, true, false, false, false, false, false, false] rfl rfl (by kernel_rfl) (fun _ _ _ h => h) (Or.inl ⟨by rfl, ?_⟩) ?_ ?_
  rotate_left
  · intro w'
    go_simp
    with_reducible rfl
  rotate_left
  · simp only [Act.put, List.setIfInBounds_toArray, List.set_cons_zero, List.set_cons_succ]
    rfl
  refine take_ (i := 3) (N := some 12) (v := ?_) (a' := ?_) #[true, true, true, true, false, false, false, false, false] rfl rfl (by kernel_rfl) (fun _ _ _ h => h) (Or.inl ⟨by rfl, ?_⟩) hHeld ?_ ?_
  rotate_left
  · rintro w' ⟨s0, s1⟩
    go_simp
    with_reducible rfl
  rotate_left
  · simp only [Act.put, List.setIfInBounds_toArray, List.set_cons_zero, List.set_cons_succ]
    rfl
  refine pure_ (i := 4) (N := some 13) (v := ?_) (a' := ?_) #[true, true, true, true, true, false, false, false, false] rfl rfl (by kernel_rfl) (fun _ _ _ h => h) (Or.inl ⟨by rfl, ?_⟩) ?_ ?_
  rotate_left
  · intro w'
    go_simp
    with_reducible rfl
  rotate_left
  · simp only [Act.put, List.setIfInBounds_toArray, List.set_cons_zero, List.set_cons_succ]
    rfl
  refine pure_ (i := 5) (N := some 14) (v := ?_) (a' := ?_) #[true, true, true, true, true, true, false, false, false] rfl rfl (by kernel_rfl) (fun _ _ _ h => h) (Or.inl ⟨by rfl, ?_⟩) ?_ ?_
  rotate_left
  · intro w'
    go_simp
    with_reducible rfl
  rotate_left
  · simp only [Act.put, List.setIfInBounds_toArray, List.set_cons_zero, List.set_cons_succ]
    rfl
  refine pure_ (i := 6) (N := some 15) (v := ?_) (a' := ?_) #[true, true, true, true, true, true, true, false, false] rfl rfl (by kernel_rfl) (fun _ _ _ h => h) (Or.inl ⟨by rfl, ?_⟩) ?_ ?_
  rotate_left
  · intro w'
    go_simp
    with_reducible rfl
  rotate_left
  · simp only [Act.put, List.setIfInBounds_toArray, List.set_cons_zero, List.set_cons_succ]
    rfl
  refine take_ (i := 7) (N := some 16) (v := ?_) (a' := ?_) #[true, true, true, true, true, true, true, true, false] rfl rfl (by kernel_rfl) (fun _ _ _ h => h) (Or.inl ⟨by rfl, ?_⟩) hHeld ?_ ?_
  rotate_left
  · rintro w' ⟨s0, s1⟩
    go_simp
    with_reducible rfl
  rotate_left
  · simp only [Act.put, List.setIfInBounds_toArray, List.set_cons_zero, List.set_cons_succ]
    rfl
  refine last_ (i := 8) (N := some 17) #[true, true, true, true, true, true, true, true, true] rfl rfl (by kernel_rfl) (by decide) (fun K hK => ?_)
  refine step_copy_own rfl (.tmp 12) (.tmp 16) 23 23 rfl 5 Try.underlying23 sizeB kb 0 N N ⟨sb, 0, none⟩ N N rfl rfl (bts D.kept) 5 H.out.kept (D.seen.map (.int .u8)) HMIN.out HSRC.out HFIT.out HONE.out ?_
  refine hK.out _ _ ?_
  clear hK K
  refine done_ (by kernel_rfl) ?_
  have hput : ((bts D.kept).toList.take 0 ++ (D.seen.map (Value.int .u8) ++ (bts D.kept).toList.drop (0 + (D.seen.map (Value.int .u8)).length))).toArray = bts D.seen := by
    rw [List.take_zero, List.nil_append, List.drop_eq_nil_of_le (by simp [bts, H.out.len]), List.append_nil]
    rfl
  rw [hput]
  have hsr : (w.drew.setRow kb (bts D.seen)) = (w.setRow kb (bts D.seen)).drew := rfl
  rw [hsr]
  have hd1 := H.out.setKept (ys := D.seen) H.out.len.symm
  have hk1 : KS w (w.setRow kb (bts D.seen)).drew (DF b kb sb vp) := ((KS.refl _ _).setRow (.inr (.inl rfl)) _).below (below_drew (Below.refl _ _))
  have hd1' := hd1.below (below_drew (Below.refl _ _))
  generalize (w.setRow kb (bts D.seen)).drew = w1 at *
  have HD1 := Aside0.mk hd1'
  have HK1 := Aside0.mk hk1
  have c2 : w1.cell? ⟨b, 2, none⟩ = some vp := (blk_cell hd1'.blk 2).trans rfl
  have f2 : w1.frozen? ⟨b, 2, none⟩ = false := blk_frozen hd1'.blk 2
  clear hd1 hd1' hk1 hput c0 c1 hsr
  go_wp2_with fail
  have hd2 := HD1.out.noPend
  have hk2 : KS w (w1.setCell ⟨b, 2, none⟩ (.slice none 0 0)) (DF b kb sb vp) := HK1.out.setCell (.inl (.inl rfl)) _
  generalize w1.setCell ⟨b, 2, none⟩ (.slice none 0 0) = w2 at *
  have HD2 := Aside0.mk hd2
  have HK2 := Aside0.mk hk2
  clear hd2 hk2
  refine (spend_calls w2 base b kb sb _ _ HD2.out hf0 hf).mono ?_
  rintro e w7 ⟨rfl, hd7, hk7⟩
  have HD7 := Aside0.mk hd7
  have HK7 := Aside0.mk hk7
  clear hd7 hk7
  go_wp2_with fail
  go_ret
  exact ⟨rfl, _, HD7.out, HK2.out.then_ HK7.out (fun k hk => .inl (.inl hk)), .inr (.inl rfl)⟩
end Go.Proofs.Ytppaainapcpnhaa.Sh
