/- What it is for a value to stand for a tree in memory. -/
import Derived.Test.YtaggidjijekpbaaSx
import Derived.Test.YtaggidjijekpbaaTree
import Derived.ChangeKeysEq
namespace Go.Proofs.Ytaggidjijekpbaa
open Go.RowKit

abbrev ncells (k : Int) (s : S4) (mn mx : Int) (sl : Value) : List Value :=
  [.int .u8 k, .int .u64 s.a, .int .u64 s.b, .int .u64 s.c, .int .u64 s.d, .int .i64 mn, .int .i64 mx, sl]

/-- a slice whose elements have these cells; its blocks are such as D says -/
def SliceV (D : Nat → Prop) (w : World) (n : Nat) (sl : Value) (vs : List (List Value)) : Prop :=
  ∃ a cap, sl = .slice a vs.length cap ∧ (vs.length ≤ cap ∧ vs.length ≤ 140737488355328) ∧ (∀ l ∈ vs, l.length = n) ∧
    (vs = [] ∨ ∃ b o, a = some ⟨b, o, none⟩ ∧ D b ∧ ∀ (i : Nat) (l : List Value), vs[i]? = some l → Reads w b (o + i * n) l)

/-- the cells of a node that stands for a tree -/
inductive NodeL (D : Nat → Prop) (w : World) : List Value → Nd → Prop
  | mk (k : Int) (s : S4) (mn mx : Int) (sl : Value) (ls : List (List Value)) (ts : List Nd) (hsl : SliceV D w 8 sl ls) (hlen : ls.length = ts.length)
      (h : ∀ (i : Nat) (l : List Value) (t : Nd), ls[i]? = some l → ts[i]? = some t → NodeL D w l t) : NodeL D w (ncells k s mn mx sl) (.mk k s mn mx ts)

/-- a slice of nodes -/
def NodesV (D : Nat → Prop) (w : World) (sl : Value) (ts : List Nd) : Prop :=
  ∃ ls, SliceV D w 8 sl ls ∧ ls.length = ts.length ∧ ∀ (i : Nat) (l : List Value) (t : Nd), ls[i]? = some l → ts[i]? = some t → NodeL D w l t

theorem NodeL.open {D w l k s mn mx ts} (h : NodeL D w l (.mk k s mn mx ts)) : ∃ sl, l = ncells k s mn mx sl ∧ NodesV D w sl ts := by
  cases h with
  | mk _ _ _ _ sl ls _ hsl hlen h => exact ⟨sl, rfl, ls, hsl, hlen, h⟩
theorem NodeL.shut {D w k s mn mx sl ts} (h : NodesV D w sl ts) : NodeL D w (ncells k s mn mx sl) (.mk k s mn mx ts) := by
  obtain ⟨ls, h1, h2, h3⟩ := h
  exact .mk k s mn mx sl ls ts h1 h2 h3
abbrev tcells (t : Nd) (sl : Value) : List Value := ncells t.kind t.set t.least t.most sl
theorem NodeL.opn {D w l t} (h : NodeL D w l t) : ∃ sl, l = tcells t sl ∧ NodesV D w sl t.subs := by
  obtain ⟨k, s, mn, mx, ts⟩ := t
  exact h.open
theorem NodeL.mk' {D w sl t} (h : NodesV D w sl t.subs) : NodeL D w (tcells t sl) t := by
  obtain ⟨k, s, mn, mx, ts⟩ := t
  exact NodeL.shut h
theorem NodeL.length {D w l t} (h : NodeL D w l t) : l.length = 8 := by cases h; rfl

theorem SliceV.step {D D' : Nat → Prop} {w w' : World} {n sl vs} (h : SliceV D w n sl vs) (hD : ∀ b, D b → D' b)
    (hw : ∀ b o l, D b → Reads w b o l → Reads w' b o l) : SliceV D' w' n sl vs := by
  obtain ⟨a, cap, rfl, hc, hn, h⟩ := h
  refine ⟨a, cap, rfl, hc, hn, ?_⟩
  rcases h with h | ⟨b, o, ha, hb, hr⟩
  · exact .inl h
  · exact .inr ⟨b, o, ha, hD b hb, fun i l hi => hw _ _ _ hb (hr i l hi)⟩
theorem NodeL.step {D D' : Nat → Prop} {w w' : World} {l t} (h : NodeL D w l t) (hD : ∀ b, D b → D' b)
    (hw : ∀ b o l, D b → Reads w b o l → Reads w' b o l) : NodeL D' w' l t := by
  induction h with
  | mk k s mn mx sl ls ts hsl hlen _ ih => exact .mk k s mn mx sl ls ts (hsl.step hD hw) hlen ih
theorem NodesV.step {D D' : Nat → Prop} {w w' : World} {sl ts} (h : NodesV D w sl ts) (hD : ∀ b, D b → D' b)
    (hw : ∀ b o l, D b → Reads w b o l → Reads w' b o l) : NodesV D' w' sl ts := by
  obtain ⟨ls, h1, h2, h3⟩ := h
  exact ⟨ls, h1.step hD hw, h2, fun i l t hl ht => (h3 i l t hl ht).step hD hw⟩
theorem NodeL.ext {D w w' l t} (h : NodeL D w l t) (e : Ext w w') : NodeL D w' l t := h.step (fun _ h => h) (fun _ _ _ _ hr => hr.ext e)
theorem NodesV.ext {D w w' sl ts} (h : NodesV D w sl ts) (e : Ext w w') : NodesV D w' sl ts := h.step (fun _ h => h) (fun _ _ _ _ hr => hr.ext e)
theorem NodeL.dom {D D' : Nat → Prop} {w l t} (h : NodeL D w l t) (hD : ∀ b, D b → D' b) : NodeL D' w l t := h.step hD (fun _ _ _ _ hr => hr)
theorem NodesV.dom {D D' : Nat → Prop} {w sl ts} (h : NodesV D w sl ts) (hD : ∀ b, D b → D' b) : NodesV D' w sl ts := h.step hD (fun _ _ _ _ hr => hr)
theorem NodeL.but {D w w' l t b} (h : NodeL D w l t) (e : But b w w') (hb : ¬ D b) : NodeL D w' l t := h.step (fun _ h => h) (fun _c _ _ hc hr => e.reads hr (fun h => hb (h ▸ hc)))
theorem NodesV.but {D w w' sl ts b} (h : NodesV D w sl ts) (e : But b w w') (hb : ¬ D b) : NodesV D w' sl ts := h.step (fun _ h => h) (fun _c _ _ hc hr => e.reads hr (fun h => hb (h ▸ hc)))

theorem Reads.lt {w b o l} (h : Reads w b o l) (hl : 0 < l.length) : b < w.heap.size := by
  have := h 0 (l[0]'hl) (by simp)
  exact World.block_lt_of_cell? w _ this
theorem SliceV.lt {D : Nat → Prop} {w n sl vs} (h : SliceV D w n sl vs) (hn : 0 < n) : SliceV (fun b => D b ∧ b < w.heap.size) w n sl vs := by
  obtain ⟨a, cap, rfl, hc, hl, h⟩ := h
  refine ⟨a, cap, rfl, hc, hl, ?_⟩
  rcases h with h | ⟨b, o, ha, hb, hr⟩
  · exact .inl h
  · cases vs with
    | nil => exact .inl rfl
    | cons x vs => exact .inr ⟨b, o, ha, ⟨hb, (hr 0 x rfl).lt (by rw [hl x (by simp)]; exact hn)⟩, hr⟩
theorem NodeL.lt {D : Nat → Prop} {w l t} (h : NodeL D w l t) : NodeL (fun b => D b ∧ b < w.heap.size) w l t := by
  induction h with
  | mk k s mn mx sl ls ts hsl hlen _ ih => exact .mk k s mn mx sl ls ts (hsl.lt (by omega)) hlen ih
theorem NodesV.lt {D : Nat → Prop} {w sl ts} (h : NodesV D w sl ts) : NodesV (fun b => D b ∧ b < w.heap.size) w sl ts := by
  obtain ⟨ls, h1, h2, h3⟩ := h
  exact ⟨ls, h1.lt (by omega), h2, fun i l t hl ht => (h3 i l t hl ht).lt⟩

/-- one element of a slice of nodes -/
theorem NodesV.get {D w sl ts} (h : NodesV D w sl ts) : ∃ a cap, sl = .slice a ts.length cap ∧ (ts.length ≤ cap ∧ ts.length ≤ 140737488355328) ∧
    ∀ (i : Nat) (t : Nd), ts[i]? = some t → ∃ b o l, a = some ⟨b, o, none⟩ ∧ D b ∧ Reads w b (o + i * 8) l ∧ l.length = 8 ∧ NodeL D w l t := by
  obtain ⟨ls, ⟨a, cap, rfl, hc, hn, h⟩, h2, h3⟩ := h
  refine ⟨a, cap, by rw [h2], by omega, fun i t ht => ?_⟩
  have hi : i < ls.length := by rw [h2]; exact (List.getElem?_eq_some_iff.1 ht).1
  rcases h with h | ⟨b, o, ha, hb, hr⟩
  · subst h; simp at hi
  · exact ⟨b, o, ls[i], ha, hb, hr i _ (by simp [hi]), hn _ (by simp), h3 i _ t (by simp [hi]) ht⟩
theorem NodesV.at {D w a n cap ts} (h : NodesV D w (.slice a n cap) ts) {i : Nat} {t : Nd} (ht : ts[i]? = some t) :
    ∃ b o l, a = some ⟨b, o, none⟩ ∧ D b ∧ Reads w b (o + i * 8) l ∧ NodeL D w l t := by
  obtain ⟨a', cap', he, _, hg⟩ := h.get
  cases he
  obtain ⟨b, o, l, ha, hb, hr, _, hn⟩ := hg i t ht
  exact ⟨b, o, l, ha, hb, hr, hn⟩
theorem NodesV.len {D w a n cap ts} (h : NodesV D w (.slice a n cap) ts) : n = ts.length ∧ ts.length ≤ cap ∧ ts.length ≤ 140737488355328 := by
  obtain ⟨a', cap', he, hc, _⟩ := h.get
  cases he
  exact ⟨rfl, hc⟩
theorem NodesV.nil (D : Nat → Prop) (w : World) (a : Option Addr) (cap : Nat) : NodesV D w (.slice a 0 cap) [] :=
  ⟨[], ⟨a, cap, rfl, by simp, by simp, .inl rfl⟩, rfl, fun i l t h => by simp at h⟩
theorem NodesV.single {D : Nat → Prop} {w : World} {b : Nat} {l : List Value} {t : Nd} {ty : TypeId} (hr : Row w b l ty) (hl : NodeL D w l t) (hb : D b) : NodesV D w (.slice (some ⟨b, 0, none⟩) 1 1) [t] := by
  refine ⟨[l], ⟨_, 1, rfl, by simp, by simp [hl.length], .inr ⟨b, 0, rfl, hb, ?_⟩⟩, rfl, ?_⟩
  · intro i l' hi
    cases i with
    | zero => simp at hi; subst hi; simpa using hr.reads0
    | succ i => simp at hi
  · intro i l' t' h1 h2
    cases i with
    | zero => simp at h1 h2; subst h1; subst h2; exact hl
    | succ i => simp at h1

/-- rows of nodes laid one behind the other -/
theorem NodesV.row {D : Nat → Prop} {w : World} {b cap : Nat} {ls : List (List Value)} {ts : List Nd} {more : List Value} {ty : TypeId} (hr : Row w b (ls.flatten ++ more) ty) (hb : D b) (hlen : ls.length = ts.length) (hcap : ls.length ≤ cap ∧ ls.length ≤ 140737488355328)
    (h8 : ∀ l ∈ ls, l.length = 8)
    (h : ∀ (i : Nat) (l : List Value) (t : Nd), ls[i]? = some l → ts[i]? = some t → NodeL D w l t) : NodesV D w (.slice (some ⟨b, 0, none⟩) ts.length cap) ts := by
  refine ⟨ls, ⟨_, cap, by rw [hlen], hcap, h8, .inr ⟨b, 0, rfl, hb, ?_⟩⟩, hlen, h⟩
  intro i l hi j v hj
  rw [hr.cell]
  have key : ∀ (ls : List (List Value)) (more : List Value), (∀ l ∈ ls, l.length = 8) → ∀ i, ls[i]? = some l → (ls.flatten ++ more)[i * 8 + j]? = some v := by
    intro ls
    induction ls with
    | nil => intro _ _ i h; simp at h
    | cons x ls ih =>
      intro more h8 i hi
      have hx := h8 x (by simp)
      simp only [List.flatten_cons, List.append_assoc]
      cases i with
      | zero =>
        simp at hi; subst hi
        have : j < x.length := (List.getElem?_eq_some_iff.1 hj).1
        rw [List.getElem?_append_left (by omega)]; simpa using hj
      | succ i =>
        rw [List.getElem?_append_right (by omega)]
        have : (i + 1) * 8 + j - x.length = i * 8 + j := by omega
        rw [this]
        exact ih more (fun l hl => h8 l (by simp [hl])) i (by simpa using hi)
  have := key ls more h8 i hi
  simpa [Nat.add_comm, Nat.add_assoc] using this

abbrev scells (s : S4) : List Value := [.int .u64 s.a, .int .u64 s.b, .int .u64 s.c, .int .u64 s.d]
section sets
variable {ro : Option Nat} {P : Program} {all : Array Oper} {Q : Exit → Act → World → Prop} {N : Nat} {ds : List Deferred} {r : Reg} {w : World} {rest : List Oper}
  {ty : TypeId} {pos : String} {aft : Array Edge} {g : Option (Nat × Bool)}
theorem run_equal_set {t e : TypeId} (d : Nat) (ht : arrayB P t e 4 1 = true) (he : P.underlying e = some (.int .u64)) (s s' : S4) :
    (Op.equalIn (d + 2) t (.agg (scells s).toArray) (.agg (scells s').toArray)).run P w = .ok (s == s') w := by
  obtain ⟨hu, q, hq, hs⟩ := arrayB_u ht
  have hc : P.cellsOf e = 1 := by simp [Program.cellsOf, hq, hs]
  rw [run_equalIn_array w (d + 1) _ _ hu hq, hc]
  have hl : List.range 4 = [0, 1, 2, 3] := rfl
  have ha : (isAgg e).run P w = .ok false w := by unfold isAgg; rw [Sem.run_bind, run_underlying he w]; rfl
  have hp : ∀ (x : S4) (j : Nat) (v : Value), (scells x)[j]? = some v → (part e (scells x).toArray (j * 1)).run P w = .ok v w := by
    intro x j v hj
    simp [part, ha, hj]
  have hi : ∀ a b : Int, (Op.equalIn (d + 1) e (.int .u64 a) (.int .u64 b)).run P w = .ok (a == b) w := fun a b => run_equalIn_int w d e .u64 .u64 a b he
  rw [hl]
  simp only [Op.eqItems, Sem.run_bind]
  have p0 := hp s 0 _ rfl
  have p1 := hp s 1 _ rfl
  have p2 := hp s 2 _ rfl
  have p3 := hp s 3 _ rfl
  have q0 := hp s' 0 _ rfl
  have q1 := hp s' 1 _ rfl
  have q2 := hp s' 2 _ rfl
  have q3 := hp s' 3 _ rfl
  simp only [p0, q0, Result.andThen_ok, hi]
  by_cases h0 : s.a = s'.a
  · by_cases h1 : s.b = s'.b
    · by_cases h2 : s.c = s'.c
      · by_cases h3 : s.d = s'.d
        · have : s = s' := by cases s; cases s'; simp_all
          subst this
          simp [p1, p2, p3, hi]
        · have : ¬ s = s' := fun h => h3 (by rw [h])
          simp [h0, h1, h2, h3, this, p1, p2, p3, q1, q2, q3, hi]
      · have : ¬ s = s' := fun h => h2 (by rw [h])
        simp [h0, h1, h2, this, p1, p2, q1, q2, hi]
    · have : ¬ s = s' := fun h => h1 (by rw [h])
      simp [h0, h1, this, p1, q1, hi]
  · have : ¬ s = s' := fun h => h0 (by rw [h])
    simp [h0, this]
theorem WL.seteql {d : Nat} {t t2 e : TypeId} {x y : Operand} {s s' : S4} {b : Bool} (hw : want all r g = some true) (hd : Nat.blt d N = true) (ht : arrayB P t e 4 1 = true) (hg : P.eqGuardType P.depth t = false) (he : P.underlying e = some (.int .u64))
    (hx : ev r x = some (.agg (scells s).toArray)) (hy : ev r y = some (.agg (scells s').toArray)) (hb : (s == s') = b)
    (next : WL ro P all Q N ds rest ((d, .bool b) :: r) w) : WL ro P all Q N ds (⟨some d, .binOp .eql t x y t2, ty, pos, aft, g⟩ :: rest) r w := by
  refine WL.val hw hd (by intro c h; cases h) (fun a ha => ?_) next
  simp only [execOp, ha.ev hx, ha.ev hy, Sem.run_bind, run_eqGuard_agg w _ _ _ _ _ _ hg, Result.andThen_ok, run_eql_struct]
  rw [run_equal_set 9998 ht he, hb]; rfl
theorem WL.setneq {d : Nat} {t t2 e : TypeId} {x y : Operand} {s s' : S4} {b : Bool} (hw : want all r g = some true) (hd : Nat.blt d N = true) (ht : arrayB P t e 4 1 = true) (hg : P.eqGuardType P.depth t = false) (he : P.underlying e = some (.int .u64))
    (hx : ev r x = some (.agg (scells s).toArray)) (hy : ev r y = some (.agg (scells s').toArray)) (hb : (s != s') = b)
    (next : WL ro P all Q N ds rest ((d, .bool b) :: r) w) : WL ro P all Q N ds (⟨some d, .binOp .neq t x y t2, ty, pos, aft, g⟩ :: rest) r w := by
  refine WL.val hw hd (by intro c h; cases h) (fun a ha => ?_) next
  simp only [execOp, ha.ev hx, ha.ev hy, Sem.run_bind, run_eqGuard_agg w _ _ _ _ _ _ hg, Result.andThen_ok, run_neq_struct]
  rw [run_equal_set 9998 ht he, ← hb]; rfl
end sets
end Go.Proofs.Ytaggidjijekpbaa
