/- The posts of a region that draws; new slices of nodes. -/
import Derived.Test.YtaggidjijekpbaaDraw
import Derived.Test.YtaggidjijekpbaaRep
import Derived.Great.FillDense
namespace Go.Proofs.Ytaggidjijekpbaa
open Go.RowKit

/-- a tree that none of the region's boxes is part of -/
abbrev Off (D : Nat → Prop) (w : World) (β : Boxes) : Nat → Prop := fun k => D k ∧ (∀ x, x ∈ β → x.2 ≠ k) ∧ k < w.heap.size
theorem Off.mono {D : Nat → Prop} {w w' : World} {β β' : Boxes} (e : Ext w w') (h : BExt w β β') : ∀ k, Off D w β k → Off D w' β' k := by
  rintro k ⟨h1, h2, h3⟩
  refine ⟨h1, fun x hx => ?_, Nat.lt_of_lt_of_le h3 e.size⟩
  rcases h.new x hx with hx | hx
  · exact h2 x hx
  · omega
def pnode (D : Nat → Prop) (T : Nd) : Post := fun v w β => ∃ l, v = .agg l.toArray ∧ NodeL (Off D w β) w l T
theorem KW_pnode (D : Nat → Prop) (T : Nd) : KW (pnode D T) := fun _ _ _ _ _ e h ⟨l, h1, h2⟩ => ⟨l, h1, (h2.ext e).dom (Off.mono e h)⟩
def pnodes (D : Nat → Prop) (ts : List Nd) : Post := fun v w β => ∃ a cap, v = .slice a ts.length cap ∧ NodesV (Off D w β) w (.slice a ts.length cap) ts
theorem KW_pnodes (D : Nat → Prop) (ts : List Nd) : KW (pnodes D ts) := fun _ _ _ _ _ e h ⟨a, c, h1, h2⟩ => ⟨a, c, h1, (h2.ext e).dom (Off.mono e h)⟩
def palloc (d : Nat) (l : List Value) (t : TypeId) : Post := fun v w β => ∃ b, v = .pointer (some ⟨b, 0, none⟩) ∧ Row w b l t ∧ (d, b) ∈ β
theorem KW_palloc (d : Nat) (l : List Value) (t : TypeId) : KW (palloc d l t) := fun _ _ _ _ _ e h ⟨b, h1, h2, h3⟩ => ⟨b, h1, h2.ext e, h.sub _ h3⟩
/-- what came of a call, laid by: it is away from the boxes that lay -/
theorem NodeL.off {D : Nat → Prop} {w0 w w' : World} {β : Boxes} {l : List Value} {T : Nd} (h : NodeL (fun k => (D k ∧ (∀ x, x ∈ β → x.2 ≠ k)) ∨ w.heap.size ≤ k) w' l T) (hb : BInv w0 w β) (hD : ∀ k, w.heap.size ≤ k → D k) : NodeL (Off D w' β) w' l T := by
  refine h.lt.dom ?_
  rintro k ⟨h1, h2⟩
  rcases h1 with ⟨h1, h3⟩ | h1
  · exact ⟨h1, h3, h2⟩
  · exact ⟨hD k h1, fun x hx => by have := hb.hi x hx; omega, h2⟩

/-! ### new slices -/
section
variable {ro : Option Nat} {P : Program} {all : Array Oper} {Q : Exit → Act → World → Prop} {N : Nat} {ds : List Deferred} {r : Reg} {w : World} {rest : List Oper}
  {ty : TypeId} {pos : String} {aft : Array Edge} {g : Option (Nat × Bool)}
theorem WL.buildSlice {d : Nat} {t e n len : Nat} {parts : Array (Nat × Operand)} {vs : List Value} {z : Value} {cells : List Value} (hw : want all r g = some true) (hd : Nat.blt d N = true) (ht : sliceB P t e n = true) (hz : zeroB P e z)
    (hp : (parts.toList.mapM fun p => (ev r p.2).map fun v => (p.1, v)) = some ((vs.zipIdx 0).map fun x => (x.2, x.1))) (hlen : vs.length = len) (hn0 : (vs.all fun v => v.cells.size == n) = true) (hc : (vs.flatMap fun v => v.cells.toList) = cells) (h0 : Nat.blt 0 (len * n) = true) (hsmall : Nat.ble (len * n) 16777216 = true)
    (next : ∀ b w', b = w.heap.size → Ext w w' → w'.heap.size = w.heap.size + 1 → Row w' b cells e → WL ro P all Q N ds rest ((d, .slice (some ⟨b, 0, none⟩) len len) :: r) w') :
    WL ro P all Q N ds (⟨some d, .buildSlice t len parts, ty, pos, aft, g⟩ :: rest) r w := by
  obtain ⟨hu, q, hq, hs⟩ := sliceB_u ht
  subst hc
  have hn : ∀ v ∈ vs, v.cells.size = n := fun v hv => by have := List.all_eq_true.1 hn0 v hv; simpa using this
  refine WL.val hw hd (by intro c h; cases h) (w' := w.alloc (.cells (vs.flatMap fun v => v.cells.toList).toArray e)) (v := .slice (some ⟨w.heap.size, 0, none⟩) len len) (fun a ha => ?_) (next _ _ rfl (Ext.alloc _ _) (by simp) (Row.new _ _ _))
  have hm : (parts.map fun (i, x) => (i, a.eval x)).toList = (vs.zipIdx 0).map fun x => (x.2, x.1) := by
    simp only [Array.toList_map]
    clear next hw hlen hn hn0 hsmall
    generalize (vs.zipIdx 0).map (fun (x : Value × Nat) => ((x.2, x.1) : Nat × Value)) = us at hp ⊢
    generalize parts.toList = q at hp
    induction q generalizing us with
    | nil => simp at hp; subst hp; rfl
    | cons x q ih =>
      simp only [List.mapM_cons, Option.bind_eq_bind, Option.bind_eq_some_iff, Option.pure_def, Option.some.injEq, Option.map_eq_some_iff] at hp
      obtain ⟨_, ⟨v, hv, rfl⟩, us', hus, rfl⟩ := hp
      simp [ha.ev hv, ih us' hus]
  have h0 : 0 < len * n := by simpa using h0
  have hsm : len * n ≤ 16777216 := Nat.le_of_ble_eq_true hsmall
  have hnp : 0 < n := Nat.pos_of_mul_pos_left h0
  have hsz : ¬ (len * n > 2 ^ 24) := by omega
  simp only [execOp, Instr.buildSlice, Sem.run_bind, run_underlying hu, Result.andThen_ok, sizeOf, typeInfo, run_program, hq, Sem.run_pure, hs, if_neg hsz, hm]
  have h1 : ¬ (len * n = 0) := by omega
  simp only [if_neg h1, Sem.run_bind, run_zeroValue hz, Result.andThen_ok, Sem.run_pure]
  have hfl := Go.Great.fill_whole hnp vs (Array.map (fun x => z.cells[x % z.cells.size]!) (Array.range (len * n))) hn (by simp [hlen])
  rw [hfl]
  simp [newRow]
end
end Go.Proofs.Ytaggidjijekpbaa
