/- Maps that a call makes or owns, whatever their keys and elements: what they hold is a function of the key as it reads, the elements as raw values. -/
import Derived.Maps.Own
import Derived.Maps.OwnOps
import Derived.Maps.OwnSet
import Derived.Maps.Views
import Derived.Maps.Ext
import Derived.Below
import Derived.OwnWalk
import Derived.Test.YtppaainapcpnhaaWWords
namespace Go.Proofs.Ytppaainapcpnhaa.MapKit
open Go Go.RowKit Go.Maps
set_option linter.unusedVariables false

/-- An element as it stands. -/
def rawElem (v : Value) : Option (DataW Value × List MemPlace) := some (.held v, [])

/-- What a map's datum holds. -/
def Holds (D : DataW Value) (f : Lit → Option Value) : Prop :=
  (∀ s z, D.atKey s z = match f s with | none => z | some v => .held v) ∧ ∀ s, Maps.has D s = (f s).isSome

/-- Block b is a map of at most n entries that holds f. -/
def MapIs (P : Program) (k : TypeId) (w : World) (b n : Nat) (f : Lit → Option Value) : Prop := ∃ D, w.ownsMap P k rawElem b n D ∧ Holds D f

/-- One key more (or anew). -/
noncomputable def upd (f : Lit → Option Value) (s : Lit) (v : Option Value) : Lit → Option Value := by
  classical
  exact fun x => if x = s then v else f x
theorem upd_same (f : Lit → Option Value) (s : Lit) (v : Option Value) : upd f s v s = v := by simp [upd]
theorem upd_other (f : Lit → Option Value) {s x : Lit} (v : Option Value) (h : x ≠ s) : upd f s v x = f x := by simp [upd, h]
def ofStr (F : List UInt8 → Option Value) : Lit → Option Value
  | .string l => F l
  | _ => none
def ofInt (k : IntKind) (F : Int → Option Value) : Lit → Option Value
  | .int q n => if q = k then F n else none
  | _ => none
theorem upd_str (F : List UInt8 → Option Value) (s : List UInt8) (v : Option Value) : upd (ofStr F) (.string s) v = ofStr (fun y => if y = s then v else F y) := by
  funext x
  by_cases h : x = .string s
  · subst h
    rw [upd_same]
    simp [ofStr]
  · rw [upd_other _ _ h]
    cases x with
    | string l =>
      have : l ≠ s := fun e => h (by rw [e])
      simp [ofStr, this]
    | _ => rfl
theorem upd_int (k : IntKind) (F : Int → Option Value) (s : Int) (v : Option Value) : upd (ofInt k F) (.int k s) v = ofInt k (fun y => if y = s then v else F y) := by
  funext x
  by_cases h : x = .int k s
  · subst h
    rw [upd_same]
    simp [ofInt]
  · rw [upd_other _ _ h]
    cases x with
    | int q n =>
      by_cases hq : q = k
      · subst hq
        have : n ≠ s := fun e => h (by rw [e])
        simp [ofInt, this]
      · simp [ofInt, hq]
    | _ => rfl

theorem key_lit (s : List UInt8) : WideAt.IsKeyLit (.string s) := by first | trivial | simp [WideAt.IsKeyLit]
theorem key_int (k : IntKind) (n : Int) : WideAt.IsKeyLit (.int k n) := by first | trivial | simp [WideAt.IsKeyLit]

section
variable {P : Program} {k : TypeId} {w : World} {b n : Nat} {f : Lit → Option Value}

theorem MapIs.made (w : World) (P : Program) (k : TypeId) : MapIs P k (w.alloc (.map #[] 0)) w.heap.size 0 (fun _ => none) :=
  ⟨.map [], World.ownsMap_made w P k rawElem, fun s z => rfl, fun s => rfl⟩
theorem MapIs.mono (h : MapIs P k w b n f) {n' : Nat} (hn : n ≤ n') : MapIs P k w b n' f := by
  obtain ⟨D, h1, h2⟩ := h
  exact ⟨D, h1.mono hn, h2⟩
theorem MapIs.lt (h : MapIs P k w b n f) : b < w.heap.size := by
  obtain ⟨D, h1, _⟩ := h
  exact h1.lt
theorem MapIs.move {w' : World} (h : MapIs P k w b n f) (hb : w'.heap[b]? = w.heap[b]?) : MapIs P k w' b n f := by
  obtain ⟨D, ⟨es, clock, h1, h3⟩, h2⟩ := h
  exact ⟨D, ⟨es, clock, hb.trans h1, h3⟩, h2⟩
theorem MapIs.below {w' : World} (h : MapIs P k w b n f) (hb : Below w.heap.size w w') : MapIs P k w' b n f := h.move (hb.block b h.lt)
theorem MapIs.kept {w' : World} {row : Option Nat} (h : MapIs P k w b n f) (hg : w.grownBy w' row) (hne : row ≠ some b) : MapIs P k w' b n f := h.move (hg.block b h.lt (fun e => hne e.symm))
theorem MapIs.congr {g : Lit → Option Value} (h : MapIs P k w b n f) (e : ∀ s, f s = g s) : MapIs P k w b n g := by
  obtain rfl : f = g := funext e
  exact h

theorem Holds.put {D : DataW Value} (hD : IsMap D) (h : Holds D f) (s : Lit) (hs : WideAt.IsKeyLit s) (v : Value) : Holds (D.put s (.held v)) (upd f s (some v)) := by
  refine ⟨fun x z => ?_, fun x => ?_⟩
  · by_cases hx : x = s
    · subst hx
      rw [atKey_put_same hD hs, upd_same]
    · rw [atKey_put_other hx, h.1, upd_other _ _ hx]
  · by_cases hx : x = s
    · subst hx
      rw [has_put_same hD hs, upd_same]
      rfl
    · rw [has_put_other hx, h.2, upd_other _ _ hx]
theorem Holds.del {D : DataW Value} (h : Holds D f) (s : Lit) : Holds (D.del s) (upd f s none) := by
  refine ⟨fun x z => ?_, fun x => ?_⟩
  · by_cases hx : x = s
    · subst hx
      rw [atKey_del_same, upd_same]
    · rw [atKey_del_other hx, h.1, upd_other _ _ hx]
  · by_cases hx : x = s
    · subst hx
      rw [has_del_same, upd_same]
      rfl
    · rw [has_del_other hx, h.2, upd_other _ _ hx]

variable {ops : Array Oper} {rest : List Oper} {o : Oper} {a : Act} {Q : Exit → Act → World → Prop}

/-- 'm[k] = v'. -/
theorem wpList_put (hg : o.guard = none) (m x v : Operand) (t : TypeId) (hop : o.op = Op.mapUpdate t m x v)
    (e : TypeId) (K : Keyed P k) (ht : P.underlying t = some (.map k e)) (hm : a.eval m = .map (some b)) (h : MapIs P k w b n f) (hn : n < maxLen) (key : Value) (s : Lit) (hs : WideAt.IsKeyLit s) (val : Value) (hx : a.eval x = key) (hv : a.eval v = val) (hkey : keyOf P k key = some s)
    (hK : ∀ w', MapIs P k w' b (n + 1) (upd f s (some val)) → w.grownBy w' (some b) → wpList P ops Q rest (a.put o.dst undef) w') :
    wpList P ops Q (o :: rest) a w := by
  obtain ⟨D, h1, h2⟩ := h
  exact wpList_mapUpdate_own w hg m x v t hop k e K ht rawElem b n D hm h1 hn key val s hx hv hkey (.held val) [] rfl (fun w' r1 r2 => hK w' ⟨_, r1, h2.put h1.isMap _ hs _⟩ r2)

theorem look_value {D : DataW Value} (h : Holds D f) {s : Lit} {z v : Value} {ps : List MemPlace} (hv : rawElem v = some (D.atKey s (.held z), ps)) : v = (f s).getD z := by
  rw [h.1] at hv
  unfold rawElem at hv
  cases e : f s with
  | none =>
    rw [e] at hv
    simp only [Option.some.injEq, Prod.mk.injEq, DataW.held.injEq] at hv
    exact hv.1
  | some u =>
    rw [e] at hv
    simp only [Option.some.injEq, Prod.mk.injEq, DataW.held.injEq] at hv
    exact hv.1

/-- 'm[k]'. -/
theorem wpList_look (hg : o.guard = none) (m x : Operand) (t : TypeId) (hop : o.op = Op.lookup t m x false)
    (e : TypeId) (K : Keyed P k) (ht : P.underlying t = some (.map k e)) {z : Value} (hz : (zeroValue e).run P w = .ok z w) (hm : a.eval m = .map (some b)) (h : MapIs P k w b n f) (key : Value) (s : Lit) (hx : a.eval x = key) (hkey : keyOf P k key = some s)
    (hK : wpList P ops Q rest (a.put o.dst ((f s).getD z)) w) :
    wpList P ops Q (o :: rest) a w := by
  obtain ⟨D, h1, h2⟩ := h
  refine wpList_plain hg fun K' hK' => ?_
  obtain ⟨v, ps, hrun, hv⟩ := h1.lookup K ht hz (zd := .held z) (zp := []) rfl hkey
  obtain rfl := look_value h2 hv
  unfold Oper.wp
  simp [execOp, hop, hm, hx, hrun, Result.andThen]
  exact hK' _ _ (by simpa using hK)

/-- 'm[k]' behind a guard that lets it by. -/
theorem wpList_look_w (hw : Region.wanted o (yielded ops a.tmps) = true) (m x : Operand) (t : TypeId) (hop : o.op = Op.lookup t m x false)
    (e : TypeId) (K : Keyed P k) (ht : P.underlying t = some (.map k e)) {z : Value} (hz : (zeroValue e).run P w = .ok z w) (hm : a.eval m = .map (some b)) (h : MapIs P k w b n f) (key : Value) (s : Lit) (hx : a.eval x = key) (hkey : keyOf P k key = some s)
    (hK : wpList P ops Q rest (a.put o.dst ((f s).getD z)) w) :
    wpList P ops Q (o :: rest) a w := by
  obtain ⟨D, h1, h2⟩ := h
  refine wpList_step fun K' hK' => ?_
  simp only [hw, if_true]
  obtain ⟨v, ps, hrun, hv⟩ := h1.lookup K ht hz (zd := .held z) (zp := []) rfl hkey
  obtain rfl := look_value h2 hv
  unfold Oper.wp
  simp [execOp, hop, hm, hx, hrun, Result.andThen]
  exact hK' _ _ (by simpa using hK)

/-- 'v, ok := m[k]'. -/
theorem wpList_look_ok (hg : o.guard = none) (m x : Operand) (t : TypeId) (hop : o.op = Op.lookup t m x true)
    (e : TypeId) (K : Keyed P k) (ht : P.underlying t = some (.map k e)) {z : Value} (hz : (zeroValue e).run P w = .ok z w) (hm : a.eval m = .map (some b)) (h : MapIs P k w b n f) (key : Value) (s : Lit) (hx : a.eval x = key) (hkey : keyOf P k key = some s)
    (hK : wpList P ops Q rest (a.put o.dst (.tuple #[(f s).getD z, .bool (f s).isSome])) w) :
    wpList P ops Q (o :: rest) a w := by
  obtain ⟨D, h1, h2⟩ := h
  refine wpList_lookup_own_ok w hg m x t hop k e K ht rawElem hz (.held z) [] rfl b n D hm h1 key s hx hkey (fun v ps hv => ?_)
  obtain rfl := look_value h2 hv
  rw [h2.2]
  exact hK
end
end Go.Proofs.Ytppaainapcpnhaa.MapKit
