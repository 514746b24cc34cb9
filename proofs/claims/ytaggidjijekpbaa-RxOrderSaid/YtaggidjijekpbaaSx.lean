import Derived.WalkKit
import Derived.WalkSpells
import Derived.WalkLawsBesides
import Derived.RangeFuncNested
import Derived.RangeFuncBound
import Derived.RangeFuncCalls
import Derived.RangeFuncLeaves
namespace Go.Proofs.Ytaggidjijekpbaa
open Go.RowKit

/-- the registers that are known, the newest first -/
abbrev Reg := List (Nat × Value)
def look : Reg → Nat → Option Value
  | [], _ => none
  | (k, v) :: r, t => bif Nat.beq k t then some v else look r t
def ev (r : Reg) : Operand → Option Value
  | .tmp t => look r t
  | .const v => some v
  | .func f => some (.func (.func f) #[] #[])
  | .global g => some (.pointer (some ⟨g, 0, none⟩))

abbrev Wd (ro : Option Nat) : Fence := { Fence.wide with round := ro }

structure Fits (N : Nat) (ds : List Deferred) (r : Reg) (a : Act) : Prop where
  size : a.tmps.size = N
  defers : a.defers = ds
  get : ∀ t v, look r t = some v → a.tmps[t]? = some v

theorem Fits.ev {N ds r a x v} (h : Fits N ds r a) (hx : ev r x = some v) : a.eval x = v := by
  cases x with
  | tmp t => simp only [Go.Proofs.Ytaggidjijekpbaa.ev] at hx; simp [Act.eval, h.get t v hx]
  | const c => cases hx; rfl
  | func f => cases hx; rfl
  | global g => cases hx; rfl

theorem Fits.put {N ds r a} {d : Nat} {v : Value} (h : Fits N ds r a) (hd : Nat.blt d N = true) : Fits N ds ((d, v) :: r) (a.put (some d) v) := by
  have hd' : d < N := by simpa using hd
  refine ⟨by simp [Act.put, h.size], h.defers, fun t u hu => ?_⟩
  simp only [look] at hu
  by_cases e : Nat.beq d t = true
  · rw [e] at hu; simp only [cond_true, Option.some.injEq] at hu; subst hu
    have : d = t := Nat.eq_of_beq_eq_true e
    subst this
    simp [Act.put, h.size, hd']
  · have e' : Nat.beq d t = false := Bool.eq_false_iff.2 e
    rw [e'] at hu; simp only [cond_false] at hu
    have hne : d ≠ t := fun h => by subst h; simp at e'
    simp only [Act.put, Array.getElem?_setIfInBounds, hne, if_false]
    exact h.get t u hu

theorem Fits.put_none {N ds r a} {v : Value} (h : Fits N ds r a) : Fits N ds r (a.put none v) := h

theorem Fits.weaken {N ds r r' a} (h : Fits N ds r a) (hr : ∀ t v, look r' t = some v → look r t = some v) : Fits N ds r' a :=
  ⟨h.size, h.defers, fun t v e => h.get t v (hr t v e)⟩

/-- r' says no more than r -/
def subReg (r r' : Reg) : Prop := ∀ t v, look r' t = some v → look r t = some v

theorem subReg_nil (r : Reg) : subReg r [] := fun _ _ h => by simp [look] at h
theorem subReg_cons {r r' : Reg} {k : Nat} {v : Value} (hk : look r k = some v) (h : subReg r r') : subReg r ((k, v) :: r') := by
  intro t u hu
  simp only [look] at hu
  by_cases e : Nat.beq k t = true
  · rw [e] at hu; simp only [cond_true, Option.some.injEq] at hu; subst hu
    have : k = t := Nat.eq_of_beq_eq_true e
    subst this; exact hk
  · have e' : Nat.beq k t = false := Bool.eq_false_iff.2 e
    rw [e'] at hu; exact h t u (by simpa using hu)

def WL (ro : Option Nat) (P : Program) (all : Array Oper) (Q : Exit → Act → World → Prop) (N : Nat) (ds : List Deferred) (ops : List Oper) (r : Reg) (w : World) : Prop :=
  ∀ a, Fits N ds r a → wpListIn (Wd ro) 0 P all Q ops a w
def WC (ro : Option Nat) (P : Program) (Q : Exit → Act → World → Prop) (N : Nat) (ds : List Deferred) (c : Code) (r : Reg) (w : World) : Prop :=
  ∀ a, Fits N ds r a → c.wpIn (Wd ro) 0 P Q a w

/-- is the operation wanted -/
def want (all : Array Oper) (r : Reg) : Option (Nat × Bool) → Option Bool
  | none => some true
  | some (i, b) => match (all[i]?).bind (·.dst) with
    | some t => match look r t with
      | some (.bool c) => some (c == b)
      | some _ => some false
      | none => none
    | none => none


theorem want_wanted {all : Array Oper} {N ds r a} {o : Oper} {b : Bool} (h : Fits N ds r a) (hw : want all r o.guard = some b) : Region.wanted o (yielded all a.tmps) = b := by
  unfold Region.wanted
  cases hg : o.guard with
  | none => rw [hg] at hw; simpa [want] using hw
  | some ib =>
    obtain ⟨i, c⟩ := ib
    rw [hg] at hw
    simp only [want] at hw
    simp only [yielded]
    cases hd : (all[i]?).bind (·.dst) with
    | none => rw [hd] at hw; simp at hw
    | some t =>
      rw [hd] at hw
      simp only [Option.bind_some] at hw ⊢
      cases hl : look r t with
      | none => rw [hl] at hw; simp at hw
      | some v =>
        rw [hl] at hw
        rw [h.get t v hl]
        cases v <;> simp_all <;> (rw [← hw]; first | rfl | (rename_i x; cases x <;> cases c <;> rfl))

section steps
variable {ro : Option Nat} {P : Program} {all : Array Oper} {Q : Exit → Act → World → Prop} {N : Nat} {ds : List Deferred} {r : Reg} {w : World} {rest : List Oper}
  {ty : TypeId} {pos : String} {aft : Array Edge} {g : Option (Nat × Bool)}

theorem semAt_wd {o : Oper} (ho : ∀ c, o.op ≠ .defer c) (a : Act) : o.semAt (Wd ro).round a.eval = execOp a.eval o := Oper.semAt_eq _ _ _ ho

theorem WL.nil (h : ∀ a, Fits N ds r a → Q .normal a w) : WL ro P all Q N ds [] r w := h

theorem WL.val {d : Nat} {op : Op} {v : Value} {w' : World} (hw : want all r g = some true) (hd : Nat.blt d N = true) (ho : ∀ c, op ≠ .defer c)
    (hrun : ∀ a, Fits N ds r a → (execOp a.eval ⟨some d, op, ty, pos, aft, g⟩).run P w = .ok (.value v) w')
    (next : WL ro P all Q N ds rest ((d, v) :: r) w') : WL ro P all Q N ds (⟨some d, op, ty, pos, aft, g⟩ :: rest) r w := by
  intro a ha
  unfold wpListIn
  rw [if_pos (want_wanted ha (o := ⟨some d, op, ty, pos, aft, g⟩) hw)]
  refine ⟨fun _ _ => trivial, ?_⟩
  rw [semAt_wd ho, hrun a ha, Oper.uponIn_value]
  exact next _ (ha.put hd)

theorem WL.eff {op : Op} {w' : World} (hw : want all r g = some true) (ho : ∀ c, op ≠ .defer c)
    (hrun : ∀ a, Fits N ds r a → (execOp a.eval ⟨none, op, ty, pos, aft, g⟩).run P w = .ok .skip w')
    (next : WL ro P all Q N ds rest r w') : WL ro P all Q N ds (⟨none, op, ty, pos, aft, g⟩ :: rest) r w := by
  intro a ha
  unfold wpListIn
  rw [if_pos (want_wanted ha (o := ⟨none, op, ty, pos, aft, g⟩) hw)]
  refine ⟨fun _ _ => trivial, ?_⟩
  rw [semAt_wd ho, hrun a ha, Oper.uponIn_skip]
  exact next _ ha

theorem WL.pass {d : Nat} {op : Op} (hw : want all r g = some false) (hd : Nat.blt d N = true)
    (next : WL ro P all Q N ds rest ((d, undef) :: r) w) : WL ro P all Q N ds (⟨some d, op, ty, pos, aft, g⟩ :: rest) r w := by
  intro a ha
  unfold wpListIn
  rw [if_neg (by rw [want_wanted ha (o := ⟨some d, op, ty, pos, aft, g⟩) hw]; simp)]
  exact ⟨fun _ _ => trivial, next _ (ha.put hd)⟩

theorem WL.passn {op : Op} (hw : want all r g = some false)
    (next : WL ro P all Q N ds rest r w) : WL ro P all Q N ds (⟨none, op, ty, pos, aft, g⟩ :: rest) r w := by
  intro a ha
  unfold wpListIn
  rw [if_neg (by rw [want_wanted ha (o := ⟨none, op, ty, pos, aft, g⟩) hw]; simp)]
  exact ⟨fun _ _ => trivial, next _ ha⟩

/-- the result of a call, at a contract -/
theorem CallsIn.wd {f : FuncId} {args : Array Value} {R : Ending → World → Prop} (h : Calls P f args w R) : CallsIn (Wd ro) 0 P f args w R :=
  ⟨trivial, fun cs _ => let ⟨e, w', fr, hR, hs, x⟩ := h cs; ⟨e, w', fr, hR, by
    have : Machine.fenced P (Wd ro) = Machine.fenced P Fence.wide := rfl
    rw [this]; exact comesIn_wide.2 hs, x⟩⟩

/-- a call of a function by its number -/
theorem WL.call {d : Nat} {f : FuncId} {args : Array Operand} {ats : Array TypeId} {vs : List Value} {R : Ending → World → Prop} (hw : want all r g = some true) (hd : Nat.blt d N = true)
    (hargs : args.toList.mapM (ev r) = some vs) (hf : ∀ vs w, (callFunc f vs).run P w = .ok (.enter f vs) w)
    (hc : Calls P f vs.toArray w R) (next : ∀ e w', R e w' → ∃ v, e = .returned v ∧ WL ro P all Q N ds rest ((d, v) :: r) w') :
    WL ro P all Q N ds (⟨some d, .call ⟨.value (.func f), args, ats⟩, ty, pos, aft, g⟩ :: rest) r w := by
  intro a ha
  unfold wpListIn
  rw [if_pos (want_wanted ha (o := ⟨some d, .call ⟨.value (.func f), args, ats⟩, ty, pos, aft, g⟩) hw)]
  refine ⟨fun _ _ => trivial, ?_⟩
  have hm : args.map a.eval = vs.toArray := by
    apply Array.ext'
    simp only [Array.toList_map]
    clear hc next hw
    generalize args.toList = l at hargs
    induction l generalizing vs with
    | nil => simp at hargs; subst hargs; rfl
    | cons x l ih =>
      simp only [List.mapM_cons, Option.bind_eq_bind, Option.bind_eq_some_iff, Option.pure_def, Option.some.injEq] at hargs
      obtain ⟨v, hv, vs', hvs, rfl⟩ := hargs
      simp [ha.ev hv, ih hvs]
  rw [semAt_wd (by intro c h; cases h)]
  have : (execOp a.eval ⟨some d, .call ⟨.value (.func f), args, ats⟩, ty, pos, aft, g⟩).run P w = .ok (.enter f vs.toArray) w := by
    simp [execOp, resolve, hm, Act.eval, Deferred.ofValue, invoke, hf]
  rw [this, Oper.uponIn_enter]
  refine ⟨(fun h => by cases h), (CallsIn.wd hc).mono ?_⟩
  intro e w' hR
  obtain ⟨v, rfl, hn⟩ := next e w' hR
  exact hn _ (ha.put hd)

/-- a call of a closure -/
theorem WL.callv {d : Nat} {x : Operand} {f : FuncId} {caps : Array Value} {args : Array Operand} {ats : Array TypeId} {vs : List Value} {R : Ending → World → Prop} (hw : want all r g = some true) (hd : Nat.blt d N = true)
    (hx : ev r x = some (.func (.func f) #[] caps))
    (hargs : args.toList.mapM (ev r) = some vs) (hf : ∀ vs w, (callFunc f vs).run P w = .ok (.enter f vs) w)
    (hc : Calls P f (vs.toArray ++ caps) w R) (next : ∀ e w', R e w' → ∃ v, e = .returned v ∧ WL ro P all Q N ds rest ((d, v) :: r) w') :
    WL ro P all Q N ds (⟨some d, .call ⟨.value x, args, ats⟩, ty, pos, aft, g⟩ :: rest) r w := by
  intro a ha
  unfold wpListIn
  rw [if_pos (want_wanted ha (o := ⟨some d, .call ⟨.value x, args, ats⟩, ty, pos, aft, g⟩) hw)]
  refine ⟨fun _ _ => trivial, ?_⟩
  have hm : args.map a.eval = vs.toArray := by
    apply Array.ext'
    simp only [Array.toList_map]
    clear hc next hw
    generalize args.toList = l at hargs
    induction l generalizing vs with
    | nil => simp at hargs; subst hargs; rfl
    | cons x l ih =>
      simp only [List.mapM_cons, Option.bind_eq_bind, Option.bind_eq_some_iff, Option.pure_def, Option.some.injEq] at hargs
      obtain ⟨v, hv, vs', hvs, rfl⟩ := hargs
      simp [ha.ev hv, ih hvs]
  rw [semAt_wd (by intro c h; cases h)]
  have : (execOp a.eval ⟨some d, .call ⟨.value x, args, ats⟩, ty, pos, aft, g⟩).run P w = .ok (.enter f (vs.toArray ++ caps)) w := by
    simp [execOp, resolve, hm, ha.ev hx, Deferred.ofValue, invoke, hf]
  rw [this, Oper.uponIn_enter]
  refine ⟨(fun h => by cases h), (CallsIn.wd hc).mono ?_⟩
  intro e w' hR
  obtain ⟨v, rfl, hn⟩ := next e w' hR
  exact hn _ (ha.put hd)

theorem WL.move {d : Nat} {x : Operand} {v : Value} (hw : want all r g = some true) (hd : Nat.blt d N = true) (hx : ev r x = some v)
    (next : WL ro P all Q N ds rest ((d, v) :: r) w) : WL ro P all Q N ds (⟨some d, .move x, ty, pos, aft, g⟩ :: rest) r w :=
  WL.val hw hd (by intro c h; cases h) (fun a ha => by simp [execOp, ha.ev hx]) next
theorem WL.assign {d : Nat} {x : Operand} {v : Value} (hw : want all r g = some true) (hd : Nat.blt d N = true) (hx : ev r x = some v)
    (next : WL ro P all Q N ds rest ((d, v) :: r) w) : WL ro P all Q N ds (⟨some d, .assign x, ty, pos, aft, g⟩ :: rest) r w :=
  WL.val hw hd (by intro c h; cases h) (fun a ha => by simp [execOp, ha.ev hx]) next

theorem WL.pick_t {d : Nat} {c x y : Operand} {v : Value} (hw : want all r g = some true) (hd : Nat.blt d N = true) (hc : ev r c = some (.bool true)) (hx : ev r x = some v)
    (next : WL ro P all Q N ds rest ((d, v) :: r) w) : WL ro P all Q N ds (⟨some d, .pick c x y, ty, pos, aft, g⟩ :: rest) r w :=
  WL.val hw hd (by intro c h; cases h) (fun a ha => by simp [execOp, ha.ev hc, ha.ev hx, asBool]) next
theorem WL.pick_f {d : Nat} {c x y : Operand} {v : Value} (hw : want all r g = some true) (hd : Nat.blt d N = true) (hc : ev r c = some (.bool false)) (hx : ev r y = some v)
    (next : WL ro P all Q N ds rest ((d, v) :: r) w) : WL ro P all Q N ds (⟨some d, .pick c x y, ty, pos, aft, g⟩ :: rest) r w :=
  WL.val hw hd (by intro c h; cases h) (fun a ha => by simp [execOp, ha.ev hc, ha.ev hx, asBool]) next

/-! ### memory -/
/-- block b is a row of these cells -/
def Row (w : World) (b : Nat) (l : List Value) (t : TypeId) : Prop := w.heap[b]? = some (.cells l.toArray t (0, 0))
/-- whatever lay lies -/
abbrev Ext (w w' : World) : Prop := Below w.heap.size w w'

theorem Ext.refl (w : World) : Ext w w := Below.refl _ _
theorem Ext.trans {a b c : World} (h : Ext a b) (k : Ext b c) : Ext a c := Below.trans h (Below.mono k h.size)
theorem Row.lt {w b l t} (h : Row w b l t) : b < w.heap.size := (Array.getElem?_eq_some_iff.1 h).1
theorem Row.ext {w w' b l t} (h : Row w b l t) (e : Ext w w') : Row w' b l t := (e.block b h.lt).trans h
theorem Row.cell {w b l t} (h : Row w b l t) (o : Nat) : w.cell? ⟨b, o, none⟩ = l[o]? := by
  simp only [Row] at h; simp [World.cell?, h]
theorem Ext.alloc (w : World) (o : Obj) : Ext w (w.alloc o) := (Below.refl _ w).alloc (Nat.le_refl _) o
theorem Row.new (w : World) (l : List Value) (t : TypeId) : Row (w.alloc (.cells l.toArray t)) w.heap.size l t := World.alloc_heap_new w _
theorem Ext.cell {w w' : World} (e : Ext w w') {p : Addr} {v : Value} (h : w.cell? p = some v) : w'.cell? p = some v := by
  rw [Below.cell e (World.block_lt_of_cell? w p h)]; exact h

/-- a struct or an array of n cells -/
def aggB (P : Program) (t : TypeId) (n : Nat) : Bool :=
  match P.underlying t, P.info? t with
  | some (.struct _), some i => i.size == n
  | some (.array _ _), some i => i.size == n
  | _, _ => false
/-- a type of one cell -/
def flatB (P : Program) (t : TypeId) : Bool :=
  match P.underlying t, P.info? t with
  | some (.struct _), _ => false
  | some (.array _ _), _ => false
  | some _, some i => i.size == 1
  | _, _ => false

theorem run_sizeOf_agg {t : TypeId} {n : Nat} (h : aggB P t n = true) : (sizeOf t).run P w = .ok n w := by
  unfold aggB at h
  cases hi : P.info? t with
  | none => rw [hi] at h; cases hu : P.underlying t with
    | none => rw [hu] at h; cases h
    | some d => rw [hu] at h; cases d <;> cases h
  | some i =>
    rw [hi] at h
    have : i.size = n := by
      cases hu : P.underlying t with
      | none => rw [hu] at h; cases h
      | some d => rw [hu] at h; cases d <;> first | (cases h; done) | (exact beq_iff_eq.1 h)
    simp [sizeOf, typeInfo, hi, this]
theorem run_sizeOf_flat {t : TypeId} (h : flatB P t = true) : (sizeOf t).run P w = .ok 1 w := by
  unfold flatB at h
  cases hi : P.info? t with
  | none => rw [hi] at h; cases hu : P.underlying t with
    | none => rw [hu] at h; cases h
    | some d => rw [hu] at h; cases d <;> cases h
  | some i =>
    rw [hi] at h
    have : i.size = 1 := by
      cases hu : P.underlying t with
      | none => rw [hu] at h; cases h
      | some d => rw [hu] at h; cases d <;> first | (cases h; done) | (exact beq_iff_eq.1 h)
    simp [sizeOf, typeInfo, hi, this]
theorem run_isAgg_agg {t : TypeId} {n : Nat} (h : aggB P t n = true) : (isAgg t).run P w = .ok true w := by
  unfold aggB at h
  cases hu : P.underlying t with
  | none => rw [hu] at h; cases h
  | some d => unfold isAgg; rw [Sem.run_bind, run_underlying hu w]; rw [hu] at h; cases d <;> first | rfl | (cases hi : P.info? t <;> rw [hi] at h <;> cases h)
theorem run_isAgg_flat {t : TypeId} (h : flatB P t = true) : (isAgg t).run P w = .ok false w := by
  unfold flatB at h
  cases hu : P.underlying t with
  | none => rw [hu] at h; cases h
  | some d => unfold isAgg; rw [Sem.run_bind, run_underlying hu w]; rw [hu] at h; cases d <;> first | rfl | (cases hi : P.info? t <;> rw [hi] at h <;> cases h)

theorem addr_add (b o j : Nat) : (⟨b, o, none⟩ : Addr).add j = ⟨b, o + j, none⟩ := by
  unfold Addr.add; split
  · rename_i h; subst h; rfl
  · rfl

/-- the cells of a place read so -/
def Reads (w : World) (b o : Nat) (l : List Value) : Prop := ∀ j v, l[j]? = some v → w.cell? ⟨b, o + j, none⟩ = some v
theorem Reads.ext {w w' : World} {b o l} (h : Reads w b o l) (e : Ext w w') : Reads w' b o l := fun j v hj => e.cell (h j v hj)
theorem Row.reads {w b l t} (h : Row w b l t) (o n : Nat) : Reads w b o ((l.drop o).take n) := fun j v hj => by
  rw [h.cell]
  rw [List.getElem?_take] at hj
  split at hj
  · rwa [List.getElem?_drop] at hj
  · cases hj
theorem Row.reads0 {w b l t} (h : Row w b l t) : Reads w b 0 l := fun j v hj => by rw [h.cell, Nat.zero_add]; exact hj

theorem run_loadVar_agg {t : TypeId} {b o : Nat} {l : List Value} (h : aggB P t l.length = true) (hr : Reads w b o l) : (loadVar t ⟨b, o, none⟩).run P w = .ok (.agg l.toArray) w := by
  have := run_loadCells_list (P := P) w ⟨b, o, none⟩ l (fun j v hj => by rw [addr_add]; exact hr j v hj)
  simp [loadVar, run_isAgg_agg h, run_sizeOf_agg h, this]
theorem run_loadVar_flat {t : TypeId} {b o : Nat} {v : Value} (h : flatB P t = true) (hr : w.cell? ⟨b, o, none⟩ = some v) : (loadVar t ⟨b, o, none⟩).run P w = .ok v w := by
  simp [loadVar, run_isAgg_flat h, hr]

theorem WL.load_agg {d : Nat} {t : TypeId} {x : Operand} {b o : Nat} {l : List Value} (hw : want all r g = some true) (hd : Nat.blt d N = true) (ht : aggB P t l.length = true)
    (hx : ev r x = some (.pointer (some ⟨b, o, none⟩))) (hr : Reads w b o l)
    (next : WL ro P all Q N ds rest ((d, .agg l.toArray) :: r) w) : WL ro P all Q N ds (⟨some d, .load t x, ty, pos, aft, g⟩ :: rest) r w :=
  WL.val hw hd (by intro c h; cases h) (fun a ha => by simp [execOp, ha.ev hx, Instr.loadAt, Instr.sureAddr, run_loadVar_agg ht hr]) next
theorem WL.load_flat {d : Nat} {t : TypeId} {x : Operand} {b o : Nat} {v : Value} (hw : want all r g = some true) (hd : Nat.blt d N = true) (ht : flatB P t = true)
    (hx : ev r x = some (.pointer (some ⟨b, o, none⟩))) (hr : w.cell? ⟨b, o, none⟩ = some v)
    (next : WL ro P all Q N ds rest ((d, v) :: r) w) : WL ro P all Q N ds (⟨some d, .load t x, ty, pos, aft, g⟩ :: rest) r w :=
  WL.val hw hd (by intro c h; cases h) (fun a ha => by simp [execOp, ha.ev hx, Instr.loadAt, Instr.sureAddr, run_loadVar_flat ht hr]) next
/-- the whole of a box -/
theorem WL.load_box {d : Nat} {t t' : TypeId} {x : Operand} {b : Nat} {l : List Value} (hw : want all r g = some true) (hd : Nat.blt d N = true)
    (hx : ev r x = some (.pointer (some ⟨b, 0, none⟩))) (hr : Row w b l t') (ht : aggB P t l.length = true)
    (next : WL ro P all Q N ds rest ((d, .agg l.toArray) :: r) w) : WL ro P all Q N ds (⟨some d, .load t x, ty, pos, aft, g⟩ :: rest) r w :=
  WL.load_agg hw hd ht hx hr.reads0 next
/-- a part of a box -/
theorem WL.load_part {d : Nat} {t t' : TypeId} {x : Operand} {b o : Nat} {l l' : List Value} (n : Nat) (hw : want all r g = some true) (hd : Nat.blt d N = true)
    (hx : ev r x = some (.pointer (some ⟨b, o, none⟩))) (hr : Row w b l t') (hl : (l.drop o).take n = l') (ht : aggB P t l'.length = true)
    (next : WL ro P all Q N ds rest ((d, .agg l'.toArray) :: r) w) : WL ro P all Q N ds (⟨some d, .load t x, ty, pos, aft, g⟩ :: rest) r w := by
  subst hl; exact WL.load_agg hw hd ht hx (hr.reads o n) next
theorem WL.load_fld {d : Nat} {t t' : TypeId} {x : Operand} {b o : Nat} {l : List Value} {v : Value} (hw : want all r g = some true) (hd : Nat.blt d N = true) (ht : flatB P t = true)
    (hx : ev r x = some (.pointer (some ⟨b, o, none⟩))) (hr : Row w b l t') (hv : l[o]? = some v)
    (next : WL ro P all Q N ds rest ((d, v) :: r) w) : WL ro P all Q N ds (⟨some d, .load t x, ty, pos, aft, g⟩ :: rest) r w :=
  WL.load_flat hw hd ht hx ((hr.cell o).trans hv) next

/-- a new box: an aggregate -/
theorem WL.box_agg {d : Nat} {t : TypeId} {x : Operand} {l : List Value} (hw : want all r g = some true) (hd : Nat.blt d N = true) (hx : ev r x = some (.agg l.toArray))
    (next : ∀ b w', b = w.heap.size → Ext w w' → w'.heap.size = w.heap.size + 1 → Row w' b l t → WL ro P all Q N ds rest ((d, .pointer (some ⟨b, 0, none⟩)) :: r) w') :
    WL ro P all Q N ds (⟨some d, .box t x, ty, pos, aft, g⟩ :: rest) r w :=
  WL.val hw hd (by intro c h; cases h) (w' := w.alloc (.cells l.toArray t)) (v := .pointer (some ⟨w.heap.size, 0, none⟩))
    (fun a ha => by simp [execOp, ha.ev hx, Instr.box, newVar, newRow, Value.cells]) (next _ _ rfl (Ext.alloc _ _) (by simp) (Row.new _ _ _))
/-- a new box: one cell -/
theorem WL.box_flat {d : Nat} {t : TypeId} {x : Operand} {v : Value} (hw : want all r g = some true) (hd : Nat.blt d N = true) (hx : ev r x = some v) (hv : v.cells = #[v])
    (next : ∀ b w', b = w.heap.size → Ext w w' → w'.heap.size = w.heap.size + 1 → Row w' b [v] t → WL ro P all Q N ds rest ((d, .pointer (some ⟨b, 0, none⟩)) :: r) w') :
    WL ro P all Q N ds (⟨some d, .box t x, ty, pos, aft, g⟩ :: rest) r w :=
  WL.val hw hd (by intro c h; cases h) (w' := w.alloc (.cells #[v] t)) (v := .pointer (some ⟨w.heap.size, 0, none⟩))
    (fun a ha => by simp [execOp, ha.ev hx, Instr.box, newVar, newRow, hv]) (next _ _ rfl (Ext.alloc _ _) (by simp) (Row.new _ [v] _))

/-- the zero value of a type has these cells -/
def zeroB (P : Program) (t : TypeId) (z : Value) : Prop := (P.info? t).bind (·.zero) = some z
theorem run_zeroValue {t : TypeId} {z : Value} (h : zeroB P t z) : (zeroValue t).run P w = .ok z w := by
  unfold zeroB at h
  cases hi : P.info? t with
  | none => rw [hi] at h; cases h
  | some i => rw [hi] at h; simp only [Option.bind_some] at h; simp [zeroValue, typeInfo, hi, h]
theorem WL.alloc {d : Nat} {t : TypeId} {z : Value} {l : List Value} (hw : want all r g = some true) (hd : Nat.blt d N = true) (hz : zeroB P t z) (hl : z.cells = l.toArray)
    (next : ∀ b w', b = w.heap.size → Ext w w' → w'.heap.size = w.heap.size + 1 → Row w' b l t → WL ro P all Q N ds rest ((d, .pointer (some ⟨b, 0, none⟩)) :: r) w') :
    WL ro P all Q N ds (⟨some d, .alloc t, ty, pos, aft, g⟩ :: rest) r w :=
  WL.val hw hd (by intro c h; cases h) (w' := w.alloc (.cells l.toArray t)) (v := .pointer (some ⟨w.heap.size, 0, none⟩))
    (fun a ha => by simp [execOp, Instr.alloc, run_zeroValue hz, newVar, newRow, hl]) (next _ _ rfl (Ext.alloc _ _) (by simp) (Row.new _ _ _))

/-! ### stores -/
/-- other blocks than b lie as they lay -/
structure But (b : Nat) (w w' : World) : Prop where
  os : w'.os = w.os
  tape : w'.tape = w.tape
  output : w'.output = w.output
  size : w'.heap.size = w.heap.size
  block : ∀ k, k ≠ b → w'.heap[k]? = w.heap[k]?
theorem But.refl (b : Nat) (w : World) : But b w w := ⟨rfl, rfl, rfl, rfl, fun _ _ => rfl⟩
theorem But.below {b n : Nat} {a w w' : World} (h : But b w w') (k : Below n a w) (hb : n ≤ b) : Below n a w' :=
  k.trans ⟨h.os, h.tape, h.output, by rw [h.size]; exact Nat.le_refl _, fun i hi => h.block i (by omega)⟩
theorem But.onto {b : Nat} {a w w' : World} (h : But b w w') (e : Ext a w) (hb : a.heap.size ≤ b) : Ext a w' := h.below e hb
theorem But.row {b c : Nat} {w w' : World} {l : List Value} {t : TypeId} (h : But b w w') (hr : Row w c l t) (hc : c ≠ b) : Row w' c l t := (h.block c hc).trans hr
theorem But.reads {b c o : Nat} {w w' : World} {l : List Value} (h : But b w w') (hr : Reads w c o l) (hc : c ≠ b) : Reads w' c o l := fun j v hj =>
  (World.cell?_of_block (w := w) (h.block c hc)).trans (hr j v hj)

theorem run_storeVar {t : TypeId} {b o n : Nat} {v : Value} {cur : List Value} {t' : TypeId} (hr : Row w b cur t') (hn : (sizeOf t).run P w = .ok n w) (hv : v.cells.size = n) (hfit : o + n ≤ cur.length) (h1 : ∀ u ∈ v.cells.toList, u.oneCell' = true) :
    ∃ w', (storeVar t ⟨b, o, none⟩ v).run P w = .ok () w' ∧ But b w w' ∧ Row w' b (cur.take o ++ v.cells.toList ++ cur.drop (o + n)) t' := by
  have h := run_storeCells_at P b o t' v.cells.toList 0 cur.toArray w hr (by simp only [Array.length_toList, List.size_toArray]; omega) h1
  refine ⟨w.setRow b (cur.take o ++ v.cells.toList ++ cur.drop (o + n)).toArray, ?_, ?_, ?_⟩
  · simp only [Nat.add_zero] at h
    simp [storeVar, hn, hv, h]
  · refine ⟨rfl, rfl, rfl, by simp, fun k hk => setRow_other w b k _ (by omega)⟩
  · exact setRow_heap w b cur.toArray _ t' _ hr

theorem WL.store {t t' : TypeId} {x y : Operand} {b o n : Nat} {v : Value} {cur vl : List Value} (hw : want all r g = some true)
    (hx : ev r x = some (.pointer (some ⟨b, o, none⟩))) (hy : ev r y = some v) (hr : Row w b cur t') (hn : (sizeOf t).run P w = .ok n w) (hvl : v.cells = vl.toArray) (hv : vl.length = n) (hfit : o + n ≤ cur.length) (h1 : vl.all Value.oneCell' = true)
    (next : ∀ w', But b w w' → Row w' b (cur.take o ++ vl ++ cur.drop (o + n)) t' → WL ro P all Q N ds rest r w') :
    WL ro P all Q N ds (⟨none, .store t x y, ty, pos, aft, g⟩ :: rest) r w := by
  obtain ⟨w', h1, h2, h3⟩ := run_storeVar (P := P) (v := v) hr hn (by rw [hvl]; simpa using hv) hfit (by rw [hvl]; intro u hu; exact List.all_eq_true.1 h1 u (by simpa using hu))
  refine WL.eff hw (by intro c h; cases h) (w' := w') (fun a ha => ?_) (next w' h2 (by rw [hvl] at h3; simpa using h3))
  simp [execOp, ha.ev hx, ha.ev hy, Instr.storeAt, Instr.sureAddr, h1]
/-- a store of an aggregate over a whole box -/
theorem WL.store_box {t t' : TypeId} {x y : Operand} {b : Nat} {cur vl : List Value} (hw : want all r g = some true)
    (hx : ev r x = some (.pointer (some ⟨b, 0, none⟩))) (hy : ev r y = some (.agg vl.toArray)) (hr : Row w b cur t') (ht : aggB P t vl.length = true) (hfit : cur.length = vl.length) (h1 : vl.all Value.oneCell' = true)
    (next : ∀ w', But b w w' → Row w' b vl t' → WL ro P all Q N ds rest r w') :
    WL ro P all Q N ds (⟨none, .store t x y, ty, pos, aft, g⟩ :: rest) r w :=
  WL.store hw hx hy hr (run_sizeOf_agg ht) (vl := vl) rfl rfl (by omega) h1 (fun w' h2 h3 => next w' h2 (by
    rw [Nat.zero_add, List.drop_of_length_le (by omega)] at h3; simpa using h3))
/-- a store of one cell over a whole box -/
theorem WL.store_cell {t t' : TypeId} {x y : Operand} {b : Nat} {c v : Value} (hw : want all r g = some true) (ht : flatB P t = true)
    (hx : ev r x = some (.pointer (some ⟨b, 0, none⟩))) (hy : ev r y = some v) (hr : Row w b [c] t') (hv : v.cells = #[v]) (h1 : v.oneCell' = true)
    (next : ∀ w', But b w w' → Row w' b [v] t' → WL ro P all Q N ds rest r w') :
    WL ro P all Q N ds (⟨none, .store t x y, ty, pos, aft, g⟩ :: rest) r w :=
  WL.store hw hx hy hr (run_sizeOf_flat ht) (vl := [v]) hv rfl (by simp) (by simpa using h1) (fun w' h2 h3 => next w' h2 (by simpa using h3))
/-- a store of one cell into a part of a box -/
theorem WL.store_fld {t t' : TypeId} {x y : Operand} {b o : Nat} {v : Value} {cur new : List Value} (hw : want all r g = some true) (ht : flatB P t = true)
    (hx : ev r x = some (.pointer (some ⟨b, o, none⟩))) (hy : ev r y = some v) (hr : Row w b cur t') (hv : v.cells = #[v]) (h1 : v.oneCell' = true) (hfit : o < cur.length)
    (hnew : cur.take o ++ [v] ++ cur.drop (o + 1) = new)
    (next : ∀ w', But b w w' → Row w' b new t' → WL ro P all Q N ds rest r w') :
    WL ro P all Q N ds (⟨none, .store t x y, ty, pos, aft, g⟩ :: rest) r w :=
  WL.store hw hx hy hr (run_sizeOf_flat ht) (vl := [v]) hv rfl (by omega) (by simpa using h1) (fun w' h2 h3 => next w' h2 (by rw [← hnew]; exact h3))

/-! ### addresses -/
/-- field number i of struct type t lies at off, of type ft, and has cells -/
def fieldB (P : Program) (t : TypeId) (i off : Nat) : Bool :=
  match P.underlying t with
  | some (.struct fs) => match fs[i]? with
    | some f => f.offset == off && (match P.info? f.type with | some q => q.size != 0 | none => false)
    | none => false
  | _ => false
theorem WL.fieldAddr {d : Nat} {t : TypeId} {x : Operand} {b o i off : Nat} (hw : want all r g = some true) (hd : Nat.blt d N = true) (hf : fieldB P t i off = true)
    (hx : ev r x = some (.pointer (some ⟨b, o, none⟩)))
    (next : WL ro P all Q N ds rest ((d, .pointer (some ⟨b, o + off, none⟩)) :: r) w) : WL ro P all Q N ds (⟨some d, .fieldAddr t x i, ty, pos, aft, g⟩ :: rest) r w := by
  refine WL.val hw hd (by intro c h; cases h) (fun a ha => ?_) next
  unfold fieldB at hf
  cases hu : P.underlying t with
  | none => rw [hu] at hf; cases hf
  | some u =>
    rw [hu] at hf
    cases u <;> try (cases hf; done)
    rename_i fs
    dsimp only at hf
    cases hfi : fs[i]? with
    | none => rw [hfi] at hf; cases hf
    | some f =>
      rw [hfi] at hf
      dsimp only at hf
      cases hq : P.info? f.type with
      | none => rw [hq] at hf; simp at hf
      | some q =>
        rw [hq] at hf
        simp only [Bool.and_eq_true, beq_iff_eq, bne_iff_ne, ne_eq] at hf
        simp [execOp, ha.ev hx, Instr.fieldAt, run_underlying hu, hfi, Instr.sureAddr, fieldPlace, sizeOf, typeInfo, hq, hf.2, addr_add, hf.1]

/-- a type of slices of elements of n cells -/
def sliceB (P : Program) (t e n : Nat) : Bool :=
  match P.underlying t with
  | some (.slice e') => e' == e && (match P.info? e with | some q => q.size == n | none => false)
  | _ => false
theorem sliceB_u {t e n : Nat} (h : sliceB P t e n = true) : P.underlying t = some (.slice e) ∧ ∃ q, P.info? e = some q ∧ q.size = n := by
  unfold sliceB at h
  cases hu : P.underlying t with
  | none => rw [hu] at h; cases h
  | some u =>
    rw [hu] at h
    cases u <;> try (cases h; done)
    simp only [Bool.and_eq_true, beq_iff_eq] at h
    obtain ⟨rfl, h⟩ := h
    refine ⟨rfl, ?_⟩
    cases hq : P.info? _ with
    | none => rw [hq] at h; cases h
    | some q => rw [hq] at h; exact ⟨q, rfl, beq_iff_eq.1 h⟩
theorem WL.indexAddr {d : Nat} {t e n : Nat} {x y : Operand} {b o len cap i : Nat} {k : IntKind} {j : Int} (hw : want all r g = some true) (hd : Nat.blt d N = true) (ht : sliceB P t e n = true)
    (hx : ev r x = some (.slice (some ⟨b, o, none⟩) len cap)) (hy : ev r y = some (.int k j)) (hj : j = i) (hi : i < len)
    (next : WL ro P all Q N ds rest ((d, .pointer (some ⟨b, o + i * n, none⟩)) :: r) w) : WL ro P all Q N ds (⟨some d, .indexAddr t x y, ty, pos, aft, g⟩ :: rest) r w := by
  obtain ⟨hu, q, hq, hs⟩ := sliceB_u ht
  subst hj
  refine WL.val hw hd (by intro c h; cases h) (fun a ha => ?_) next
  have : (0 : Int) ≤ (i : Int) ∧ (i : Int) < (len : Int) := by omega
  simp [execOp, ha.ev hx, ha.ev hy, Instr.indexAt, asIntOf, run_underlying hu, sizeOf, typeInfo, hq, hs, hi, addr_add]

/-- an array of m elements of n cells -/
def arrayB (P : Program) (t e m n : Nat) : Bool :=
  match P.underlying t with
  | some (.array m' e') => e' == e && m' == m && (match P.info? e with | some q => q.size == n | none => false)
  | _ => false
theorem arrayB_u {t e m n : Nat} (h : arrayB P t e m n = true) : P.underlying t = some (.array m e) ∧ ∃ q, P.info? e = some q ∧ q.size = n := by
  unfold arrayB at h
  cases hu : P.underlying t with
  | none => rw [hu] at h; cases h
  | some u =>
    rw [hu] at h
    cases u <;> try (cases h; done)
    simp only [Bool.and_eq_true, beq_iff_eq] at h
    obtain ⟨⟨rfl, rfl⟩, h⟩ := h
    refine ⟨rfl, ?_⟩
    cases hq : P.info? _ with
    | none => rw [hq] at h; cases h
    | some q => rw [hq] at h; exact ⟨q, rfl, beq_iff_eq.1 h⟩
theorem WL.indexAddrA {d : Nat} {t e m n : Nat} {x y : Operand} {b o i : Nat} {k : IntKind} {j : Int} (hw : want all r g = some true) (hd : Nat.blt d N = true) (ht : arrayB P t e m n = true)
    (hx : ev r x = some (.pointer (some ⟨b, o, none⟩))) (hy : ev r y = some (.int k j)) (hj : j = i) (hi : i < m)
    (next : WL ro P all Q N ds rest ((d, .pointer (some ⟨b, o + i * n, none⟩)) :: r) w) : WL ro P all Q N ds (⟨some d, .indexAddr t x y, ty, pos, aft, g⟩ :: rest) r w := by
  obtain ⟨hu, q, hq, hs⟩ := arrayB_u ht
  subst hj
  refine WL.val hw hd (by intro c h; cases h) (fun a ha => ?_) next
  simp [execOp, ha.ev hx, ha.ev hy, Instr.indexAt, Instr.sureAddr, asIntOf, run_underlying hu, sizeOf, typeInfo, hq, hs, hi, addr_add]
/-- an element of an array value, of one cell -/
theorem WL.indexV {d : Nat} {t e m : Nat} {x y : Operand} {l : List Value} {i : Nat} {k : IntKind} {j : Int} {v : Value} (hw : want all r g = some true) (hd : Nat.blt d N = true) (ht : arrayB P t e m 1 = true) (he : flatB P e = true)
    (hx : ev r x = some (.agg l.toArray)) (hy : ev r y = some (.int k j)) (hj : j = i) (hi : i < m) (hv : l[i]? = some v)
    (next : WL ro P all Q N ds rest ((d, v) :: r) w) : WL ro P all Q N ds (⟨some d, .index t x y, ty, pos, aft, g⟩ :: rest) r w := by
  obtain ⟨hu, q, hq, hs⟩ := arrayB_u ht
  subst hj
  refine WL.val hw hd (by intro c h; cases h) (fun a ha => ?_) next
  simp [execOp, ha.ev hx, ha.ev hy, Instr.index, asIntOf, run_underlying hu, sizeOf, typeInfo, hq, hs, hi, part, run_isAgg_flat he, hv]
/-- a field of a struct value, of one cell -/
theorem WL.field {d : Nat} {t ft : TypeId} {x : Operand} {l : List Value} {i off : Nat} {v : Value} (hw : want all r g = some true) (hd : Nat.blt d N = true)
    (hf : (match P.underlying t with | some (.struct fs) => (fs[i]?).map fun f => (f.type, f.offset) | _ => none) = some (ft, off)) (he : flatB P ft = true)
    (hx : ev r x = some (.agg l.toArray)) (hv : l[off]? = some v)
    (next : WL ro P all Q N ds rest ((d, v) :: r) w) : WL ro P all Q N ds (⟨some d, .field t x i, ty, pos, aft, g⟩ :: rest) r w := by
  refine WL.val hw hd (by intro c h; cases h) (fun a ha => ?_) next
  cases hu : P.underlying t with
  | none => rw [hu] at hf; cases hf
  | some u =>
    rw [hu] at hf
    cases u <;> try (cases hf; done)
    rename_i fs
    dsimp only at hf
    cases hfi : fs[i]? with
    | none => rw [hfi] at hf; cases hf
    | some f =>
      rw [hfi] at hf
      simp only [Option.map_some, Option.some.injEq, Prod.mk.injEq] at hf
      obtain ⟨rfl, rfl⟩ := hf
      simp [execOp, ha.ev hx, Instr.field, run_underlying hu, hfi, asAgg, part, run_isAgg_flat he, hv]
theorem WL.fieldA {d : Nat} {t ft : TypeId} {x : Operand} {l l' : List Value} {i off n : Nat} (hw : want all r g = some true) (hd : Nat.blt d N = true)
    (hf : (match P.underlying t with | some (.struct fs) => (fs[i]?).map fun f => (f.type, f.offset) | _ => none) = some (ft, off)) (he : aggB P ft n = true)
    (hx : ev r x = some (.agg l.toArray)) (hv : (l.drop off).take n = l')
    (next : WL ro P all Q N ds rest ((d, .agg l'.toArray) :: r) w) : WL ro P all Q N ds (⟨some d, .field t x i, ty, pos, aft, g⟩ :: rest) r w := by
  refine WL.val hw hd (by intro c h; cases h) (fun a ha => ?_) next
  cases hu : P.underlying t with
  | none => rw [hu] at hf; cases hf
  | some u =>
    rw [hu] at hf
    cases u <;> try (cases hf; done)
    rename_i fs
    dsimp only at hf
    cases hfi : fs[i]? with
    | none => rw [hfi] at hf; cases hf
    | some f =>
      rw [hfi] at hf
      simp only [Option.map_some, Option.some.injEq, Prod.mk.injEq] at hf
      obtain ⟨rfl, rfl⟩ := hf
      simp [execOp, ha.ev hx, Instr.field, run_underlying hu, hfi, asAgg, part, run_isAgg_agg he, run_sizeOf_agg he, hv]

/-! ### numbers -/
theorem WL.not {d : Nat} {t : TypeId} {x : Operand} {b : Bool} (hw : want all r g = some true) (hd : Nat.blt d N = true) (hx : ev r x = some (.bool b))
    (next : WL ro P all Q N ds rest ((d, .bool (!b)) :: r) w) : WL ro P all Q N ds (⟨some d, .unOp .not t x, ty, pos, aft, g⟩ :: rest) r w :=
  WL.val hw hd (by intro c h; cases h) (fun a ha => by simp [execOp, ha.ev hx, Op.unary]) next
theorem eqGuard_int {op : BinOp} {t : TypeId} {x y : Operand} {k k' : IntKind} {m n : Int} : (eqGuard op t x y (.int k m) (.int k' n)).run P w = .ok () w := by
  cases op <;> rfl
section ints
variable {d : Nat} {t t2 : TypeId} {x y : Operand} {k : IntKind} {m n : Int} (hw : want all r g = some true) (hd : Nat.blt d N = true) (hx : ev r x = some (.int k m)) (hy : ev r y = some (.int k n))
include hw hd hx hy
theorem WL.add {v : Int} (hv : k.wrap (m + n) = v) (next : WL ro P all Q N ds rest ((d, .int k v) :: r) w) : WL ro P all Q N ds (⟨some d, .binOp .add t x y t2, ty, pos, aft, g⟩ :: rest) r w :=
  WL.val hw hd (by intro c h; cases h) (fun a ha => by simp [execOp, ha.ev hx, ha.ev hy, eqGuard_int, binOp, Op.intArith, hv]) next
theorem WL.sub {v : Int} (hv : k.wrap (m - n) = v) (next : WL ro P all Q N ds rest ((d, .int k v) :: r) w) : WL ro P all Q N ds (⟨some d, .binOp .sub t x y t2, ty, pos, aft, g⟩ :: rest) r w :=
  WL.val hw hd (by intro c h; cases h) (fun a ha => by simp [execOp, ha.ev hx, ha.ev hy, eqGuard_int, binOp, Op.intArith, hv]) next
theorem WL.mul {v : Int} (hv : k.wrap (m * n) = v) (next : WL ro P all Q N ds rest ((d, .int k v) :: r) w) : WL ro P all Q N ds (⟨some d, .binOp .mul t x y t2, ty, pos, aft, g⟩ :: rest) r w :=
  WL.val hw hd (by intro c h; cases h) (fun a ha => by simp [execOp, ha.ev hx, ha.ev hy, eqGuard_int, binOp, Op.intArith, hv]) next
theorem WL.rem {v : Int} (h0 : n ≠ 0) (hv : m.tmod n = v) (next : WL ro P all Q N ds rest ((d, .int k v) :: r) w) : WL ro P all Q N ds (⟨some d, .binOp .rem t x y t2, ty, pos, aft, g⟩ :: rest) r w :=
  WL.val hw hd (by intro c h; cases h) (fun a ha => by simp [execOp, ha.ev hx, ha.ev hy, eqGuard_int, binOp, Op.intDiv, hv, h0]) next
theorem WL.quo {v : Int} (h0 : n ≠ 0) (hv : k.wrap (m.tdiv n) = v) (next : WL ro P all Q N ds rest ((d, .int k v) :: r) w) : WL ro P all Q N ds (⟨some d, .binOp .quo t x y t2, ty, pos, aft, g⟩ :: rest) r w :=
  WL.val hw hd (by intro c h; cases h) (fun a ha => by simp [execOp, ha.ev hx, ha.ev hy, eqGuard_int, binOp, Op.intDiv, hv, h0]) next
theorem WL.eql {b : Bool} (hb : (m == n) = b) (next : WL ro P all Q N ds rest ((d, .bool b) :: r) w) : WL ro P all Q N ds (⟨some d, .binOp .eql t x y t2, ty, pos, aft, g⟩ :: rest) r w :=
  WL.val hw hd (by intro c h; cases h) (fun a ha => by simp [execOp, ha.ev hx, ha.ev hy, eqGuard_int, binOp, Op.intCmp, hb]) next
theorem WL.neq {b : Bool} (hb : (m != n) = b) (next : WL ro P all Q N ds rest ((d, .bool b) :: r) w) : WL ro P all Q N ds (⟨some d, .binOp .neq t x y t2, ty, pos, aft, g⟩ :: rest) r w :=
  WL.val hw hd (by intro c h; cases h) (fun a ha => by simp [execOp, ha.ev hx, ha.ev hy, eqGuard_int, binOp, Op.intCmp, hb]) next
theorem WL.lss {b : Bool} (hb : decide (m < n) = b) (next : WL ro P all Q N ds rest ((d, .bool b) :: r) w) : WL ro P all Q N ds (⟨some d, .binOp .lss t x y t2, ty, pos, aft, g⟩ :: rest) r w :=
  WL.val hw hd (by intro c h; cases h) (fun a ha => by simp [execOp, ha.ev hx, ha.ev hy, eqGuard_int, binOp, Op.intCmp, hb]) next
theorem WL.leq {b : Bool} (hb : decide (m ≤ n) = b) (next : WL ro P all Q N ds rest ((d, .bool b) :: r) w) : WL ro P all Q N ds (⟨some d, .binOp .leq t x y t2, ty, pos, aft, g⟩ :: rest) r w :=
  WL.val hw hd (by intro c h; cases h) (fun a ha => by simp [execOp, ha.ev hx, ha.ev hy, eqGuard_int, binOp, Op.intCmp, hb]) next
theorem WL.gtr {b : Bool} (hb : decide (n < m) = b) (next : WL ro P all Q N ds rest ((d, .bool b) :: r) w) : WL ro P all Q N ds (⟨some d, .binOp .gtr t x y t2, ty, pos, aft, g⟩ :: rest) r w :=
  WL.val hw hd (by intro c h; cases h) (fun a ha => by simp [execOp, ha.ev hx, ha.ev hy, eqGuard_int, binOp, Op.intCmp, hb]) next
theorem WL.geq {b : Bool} (hb : decide (n ≤ m) = b) (next : WL ro P all Q N ds rest ((d, .bool b) :: r) w) : WL ro P all Q N ds (⟨some d, .binOp .geq t x y t2, ty, pos, aft, g⟩ :: rest) r w :=
  WL.val hw hd (by intro c h; cases h) (fun a ha => by simp [execOp, ha.ev hx, ha.ev hy, eqGuard_int, binOp, Op.intCmp, hb]) next
theorem WL.and {v : Int} (hv : k.wrap (BitVec.ofInt k.bits m &&& BitVec.ofInt k.bits n).toNat = v) (next : WL ro P all Q N ds rest ((d, .int k v) :: r) w) : WL ro P all Q N ds (⟨some d, .binOp .and t x y t2, ty, pos, aft, g⟩ :: rest) r w :=
  WL.val hw hd (by intro c h; cases h) (fun a ha => by simp only [execOp, ha.ev hx, ha.ev hy, eqGuard_int, binOp, Op.intBits, Sem.run_bind, Result.andThen_ok, Sem.run_pure, ne_eq, not_true_eq_false, if_false, hv]) next
theorem WL.or {v : Int} (hv : k.wrap (BitVec.ofInt k.bits m ||| BitVec.ofInt k.bits n).toNat = v) (next : WL ro P all Q N ds rest ((d, .int k v) :: r) w) : WL ro P all Q N ds (⟨some d, .binOp .or t x y t2, ty, pos, aft, g⟩ :: rest) r w :=
  WL.val hw hd (by intro c h; cases h) (fun a ha => by simp only [execOp, ha.ev hx, ha.ev hy, eqGuard_int, binOp, Op.intBits, Sem.run_bind, Result.andThen_ok, Sem.run_pure, ne_eq, not_true_eq_false, if_false, hv]) next
theorem WL.andNot {v : Int} (hv : k.wrap (BitVec.ofInt k.bits m &&& ~~~BitVec.ofInt k.bits n).toNat = v) (next : WL ro P all Q N ds rest ((d, .int k v) :: r) w) : WL ro P all Q N ds (⟨some d, .binOp .andNot t x y t2, ty, pos, aft, g⟩ :: rest) r w :=
  WL.val hw hd (by intro c h; cases h) (fun a ha => by simp only [execOp, ha.ev hx, ha.ev hy, eqGuard_int, binOp, Op.intBits, Sem.run_bind, Result.andThen_ok, Sem.run_pure, ne_eq, not_true_eq_false, if_false, hv]) next
end ints
theorem WL.neg {d : Nat} {t : TypeId} {x : Operand} {k : IntKind} {m v : Int} (hw : want all r g = some true) (hd : Nat.blt d N = true) (hx : ev r x = some (.int k m)) (hv : k.wrap (-m) = v)
    (next : WL ro P all Q N ds rest ((d, .int k v) :: r) w) : WL ro P all Q N ds (⟨some d, .unOp .neg t x, ty, pos, aft, g⟩ :: rest) r w :=
  WL.val hw hd (by intro c h; cases h) (fun a ha => by simp [execOp, ha.ev hx, Op.unary, Op.intArith, hv]) next
theorem WL.eqlB {d : Nat} {t t2 : TypeId} {x y : Operand} {m n b : Bool} (hw : want all r g = some true) (hd : Nat.blt d N = true) (ht : P.underlying t = some .bool) (hx : ev r x = some (.bool m)) (hy : ev r y = some (.bool n)) (hb : (m == n) = b)
    (next : WL ro P all Q N ds rest ((d, .bool b) :: r) w) : WL ro P all Q N ds (⟨some d, .binOp .eql t x y t2, ty, pos, aft, g⟩ :: rest) r w :=
  WL.val hw hd (by intro c h; cases h) (fun a ha => by simp [execOp, ha.ev hx, ha.ev hy, eqGuard, run_eql_bool _ t m n ht, hb]) next
theorem WL.neqB {d : Nat} {t t2 : TypeId} {x y : Operand} {m n b : Bool} (hw : want all r g = some true) (hd : Nat.blt d N = true) (ht : P.underlying t = some .bool) (hx : ev r x = some (.bool m)) (hy : ev r y = some (.bool n)) (hb : (m != n) = b)
    (next : WL ro P all Q N ds rest ((d, .bool b) :: r) w) : WL ro P all Q N ds (⟨some d, .binOp .neq t x y t2, ty, pos, aft, g⟩ :: rest) r w :=
  WL.val hw hd (by intro c h; cases h) (fun a ha => by simp [execOp, ha.ev hx, ha.ev hy, eqGuard, run_neq_bool _ t m n ht, ← hb, bne]) next
theorem WL.shl {d : Nat} {t t2 : TypeId} {x y : Operand} {k k' : IntKind} {m : Int} {n : Nat} {v : Int} (hw : want all r g = some true) (hd : Nat.blt d N = true) (hx : ev r x = some (.int k m)) (hy : ev r y = some (.int k' n))
    (hv : k.wrap (m * 2 ^ (min n k.bits)) = v) (next : WL ro P all Q N ds rest ((d, .int k v) :: r) w) : WL ro P all Q N ds (⟨some d, .binOp .shl t x y t2, ty, pos, aft, g⟩ :: rest) r w :=
  WL.val hw hd (by intro c h; cases h) (fun a ha => by
    have h0 : ¬ ((n : Int) < 0) := by omega
    simp only [execOp, ha.ev hx, ha.ev hy, eqGuard_int, binOp, Op.shift, Sem.run_bind, Result.andThen_ok, Sem.run_pure, if_neg h0, Int.toNat_natCast, hv]) next
theorem WL.shr {d : Nat} {t t2 : TypeId} {x y : Operand} {k k' : IntKind} {m : Int} {n : Nat} {v : Int} (hw : want all r g = some true) (hd : Nat.blt d N = true) (hx : ev r x = some (.int k m)) (hy : ev r y = some (.int k' n))
    (hv : m.fdiv (2 ^ (min n k.bits)) = v) (next : WL ro P all Q N ds rest ((d, .int k v) :: r) w) : WL ro P all Q N ds (⟨some d, .binOp .shr t x y t2, ty, pos, aft, g⟩ :: rest) r w :=
  WL.val hw hd (by intro c h; cases h) (fun a ha => by
    have h0 : ¬ ((n : Int) < 0) := by omega
    simp only [execOp, ha.ev hx, ha.ev hy, eqGuard_int, binOp, Op.shift, Sem.run_bind, Result.andThen_ok, Sem.run_pure, if_neg h0, Int.toNat_natCast, hv]) next
theorem WL.convInt {d : Nat} {s t : TypeId} {x : Operand} {k k' k'' : IntKind} {m v : Int} (hw : want all r g = some true) (hd : Nat.blt d N = true) (hs : P.underlying s = some (.int k')) (ht : P.underlying t = some (.int k)) (hx : ev r x = some (.int k'' m))
    (hv : k.wrap m = v) (next : WL ro P all Q N ds rest ((d, .int k v) :: r) w) : WL ro P all Q N ds (⟨some d, .convert s t x, ty, pos, aft, g⟩ :: rest) r w :=
  WL.val hw hd (by intro c h; cases h) (fun a ha => by simp [execOp, ha.ev hx, convert, run_underlying hs, run_underlying ht, Conv.intToInt, hv]) next
theorem WL.makeFunc {d f : Nat} {caps : Array Operand} {vs : List Value} (hw : want all r g = some true) (hd : Nat.blt d N = true) (hc : caps.toList.mapM (ev r) = some vs)
    (next : WL ro P all Q N ds rest ((d, .func (.func f) #[] vs.toArray) :: r) w) : WL ro P all Q N ds (⟨some d, .makeFunc (.func f) #[] caps, ty, pos, aft, g⟩ :: rest) r w :=
  WL.val hw hd (by intro c h; cases h) (fun a ha => by
    have hm : caps.map a.eval = vs.toArray := by
      apply Array.ext'
      simp only [Array.toList_map]
      clear next hw
      generalize caps.toList = l at hc
      induction l generalizing vs with
      | nil => simp at hc; subst hc; rfl
      | cons x l ih =>
        simp only [List.mapM_cons, Option.bind_eq_bind, Option.bind_eq_some_iff, Option.pure_def, Option.some.injEq] at hc
        obtain ⟨v, hv, vs', hvs, rfl⟩ := hc
        simp [ha.ev hv, ih hvs]
    simp [execOp, Instr.makeFunc, hm]) next
theorem WL.extract {d : Nat} {x : Operand} {l : List Value} {i : Nat} {v : Value} (hw : want all r g = some true) (hd : Nat.blt d N = true) (hx : ev r x = some (.tuple l.toArray)) (hv : l[i]? = some v)
    (next : WL ro P all Q N ds rest ((d, v) :: r) w) : WL ro P all Q N ds (⟨some d, .extract x i, ty, pos, aft, g⟩ :: rest) r w :=
  WL.val hw hd (by intro c h; cases h) (fun a ha => by simp [execOp, ha.ev hx, Instr.extract, hv]) next
theorem WL.len {d : Nat} {t e : TypeId} {x : Operand} {a : Option Addr} {n c : Nat} (hw : want all r g = some true) (hd : Nat.blt d N = true) (ht : P.underlying t = some (.slice e)) (hx : ev r x = some (.slice a n c))
    (next : WL ro P all Q N ds rest ((d, .int .i64 n) :: r) w) : WL ro P all Q N ds (⟨some d, .call ⟨.builtin .len, #[x], #[t]⟩, ty, pos, aft, g⟩ :: rest) r w :=
  WL.val hw hd (by intro c h; cases h) (fun a ha => by simp [execOp, resolve, invoke, builtin, ha.ev hx, Builtin.len_, run_underlying ht, goInt]) next
theorem WL.lens {d : Nat} {t : TypeId} {x : Operand} {s : ByteArray} (hw : want all r g = some true) (hd : Nat.blt d N = true) (ht : P.underlying t = some .string) (hx : ev r x = some (.string s))
    (next : WL ro P all Q N ds rest ((d, .int .i64 s.size) :: r) w) : WL ro P all Q N ds (⟨some d, .call ⟨.builtin .len, #[x], #[t]⟩, ty, pos, aft, g⟩ :: rest) r w :=
  WL.val hw hd (by intro c h; cases h) (fun a ha => by simp [execOp, resolve, invoke, builtin, ha.ev hx, Builtin.len_, run_underlying ht, goInt]) next
theorem WL.min2 {d : Nat} {ts : Array TypeId} {x y : Operand} {k : IntKind} {m n : Int} {v : Int} (hw : want all r g = some true) (hd : Nat.blt d N = true) (hx : ev r x = some (.int k m)) (hy : ev r y = some (.int k n)) (hv : (if n < m then n else m) = v)
    (next : WL ro P all Q N ds rest ((d, .int k v) :: r) w) : WL ro P all Q N ds (⟨some d, .call ⟨.builtin .min, #[x, y], ts⟩, ty, pos, aft, g⟩ :: rest) r w :=
  WL.val hw hd (by intro c h; cases h) (fun a ha => by simp [execOp, resolve, invoke, builtin, ha.ev hx, ha.ev hy, Builtin.min_, Builtin.min2, hv]) next
theorem WL.max2 {d : Nat} {ts : Array TypeId} {x y : Operand} {k : IntKind} {m n : Int} {v : Int} (hw : want all r g = some true) (hd : Nat.blt d N = true) (hx : ev r x = some (.int k m)) (hy : ev r y = some (.int k n)) (hv : (if m < n then n else m) = v)
    (next : WL ro P all Q N ds rest ((d, .int k v) :: r) w) : WL ro P all Q N ds (⟨some d, .call ⟨.builtin .max, #[x, y], ts⟩, ty, pos, aft, g⟩ :: rest) r w :=
  WL.val hw hd (by intro c h; cases h) (fun a ha => by simp [execOp, resolve, invoke, builtin, ha.ev hx, ha.ev hy, Builtin.max_, Builtin.max2, hv]) next
theorem WL.max3 {d : Nat} {ts : Array TypeId} {x y z : Operand} {k : IntKind} {m n p : Int} {v : Int} (hw : want all r g = some true) (hd : Nat.blt d N = true) (hx : ev r x = some (.int k m)) (hy : ev r y = some (.int k n)) (hz : ev r z = some (.int k p)) (hv : (if (if m < n then n else m) < p then p else (if m < n then n else m)) = v)
    (next : WL ro P all Q N ds rest ((d, .int k v) :: r) w) : WL ro P all Q N ds (⟨some d, .call ⟨.builtin .max, #[x, y, z], ts⟩, ty, pos, aft, g⟩ :: rest) r w :=
  WL.val hw hd (by intro c h; cases h) (fun a ha => by simp [execOp, resolve, invoke, builtin, ha.ev hx, ha.ev hy, ha.ev hz, Builtin.max_, Builtin.max2, hv]) next

/-! ### control -/
theorem WC.region {id : Nat} {l : List Oper} (h : WL ro P l.toArray Q N ds l r w) : WC ro P Q N ds (.region id l.toArray false) r w := fun a ha => wpIn_region_lit (h a ha)
/-- a region, and what stands behind it -/
theorem WC.regionThen {id : Nat} {l : List Oper} {c : Code} (h : WL ro P l.toArray (Exit.then (c.wpIn (Wd ro) 0 P Q) Q) N ds l r w) : WC ro P Q N ds (.seq (.region id l.toArray false) c) r w :=
  fun a ha => wpIn_seq (wpIn_region_lit (h a ha))
theorem WL.done {c : Code} {K : Exit → Act → World → Prop} (h : WC ro P Q N ds c r w) : WL ro P all (Exit.then (c.wpIn (Wd ro) 0 P Q) K) N ds [] r w := fun a ha => h a ha
/-- a cut: x comes to M -/
theorem WC.seq {x y : Code} {M : Act → World → Prop} (h : WC ro P (Exit.then M Q) N ds x r w) (h2 : ∀ a w', M a w' → y.wpIn (Wd ro) 0 P Q a w') : WC ro P Q N ds (.seq x y) r w :=
  fun a ha => wpIn_seq (wpIn_mono (h a ha) (fun e a w q => by cases e <;> first | exact h2 _ _ q | exact q))
/-- x, then y from wherever x ends -/
theorem WC.seqk {x y : Code} (h : WC ro P (Exit.then (y.wpIn (Wd ro) 0 P Q) Q) N ds x r w) : WC ro P Q N ds (.seq x y) r w := fun a ha => wpIn_seq (h a ha)
/-- a piece of code of which only some places, and that what lay lies, is known behind it -/
theorem WC.cutE {x y : Code} (r' : Reg) (h1 : WC ro P (Exit.then (fun a w' => Fits N ds r' a ∧ Ext w w') Q) N ds x r w) (h2 : ∀ w', Ext w w' → WC ro P Q N ds y r' w') : WC ro P Q N ds (.seq x y) r w := by
  refine WC.seqk (fun a ha => wpIn_mono (h1 a ha) ?_)
  intro e a' w' hq
  cases e with
  | normal => exact h2 w' hq.2 a' hq.1
  | exit id => exact hq
  | goto l => exact hq
  | ret => exact hq
  | panic ch => exact hq
  | outgrown => exact hq
theorem WC.cond_t {c : Operand} {x y : Code} (hc : ev r c = some (.bool true)) (h : WC ro P Q N ds x r w) : WC ro P Q N ds (.cond c x y) r w := fun a ha => wpIn_cond_true (ha.ev hc) (h a ha)
theorem WC.cond_f {c : Operand} {x y : Code} (hc : ev r c = some (.bool false)) (h : WC ro P Q N ds y r w) : WC ro P Q N ds (.cond c x y) r w := fun a ha => wpIn_cond_false (ha.ev hc) (h a ha)
theorem WC.skip {c : Code} {K : Exit → Act → World → Prop} (h : WC ro P Q N ds c r w) : WC ro P (Exit.then (c.wpIn (Wd ro) 0 P Q) K) N ds .skip r w := fun a ha => wpIn_skip (h a ha)
theorem WC.skip' (h : ∀ a, Fits N ds r a → Q .normal a w) : WC ro P Q N ds .skip r w := fun a ha => wpIn_skip (h a ha)
theorem WC.exit {id : Nat} (h : ∀ a, Fits N ds r a → Q (.exit id) a w) : WC ro P Q N ds (.exit id) r w := fun a ha => wpIn_exit (h a ha)
theorem WC.ret (h : ∀ a, Fits N ds r a → Q .ret a w) : WC ro P Q N ds .ret r w := fun a ha => wpIn_ret (h a ha)
theorem WC.block {id : Nat} {c : Code} (h : WC ro P (Exit.inBlock id Q) N ds c r w) : WC ro P Q N ds (.block id c) r w := fun a ha => wpIn_block (h a ha)
theorem WC.weaken {c : Code} {r' : Reg} (hr : subReg r r') (h : WC ro P Q N ds c r' w) : WC ro P Q N ds c r w := fun a ha => h a (ha.weaken hr)
theorem WC.mono {c : Code} {Q' : Exit → Act → World → Prop} (h : WC ro P Q' N ds c r w) (hq : ∀ e a w, Q' e a w → Q e a w) : WC ro P Q N ds c r w := fun a ha => wpIn_mono (h a ha) hq

/-- a loop: whatever state σ stands for at its head -/
theorem WC.loop {σ : Type} {c : Code} (I : σ → Reg → World → Prop) (μ : σ → Nat) (s0 : σ) (h0 : I s0 r w)
    (round : ∀ s r w, I s r w → WC ro P (Exit.then (fun a' w' => ∃ s' r', Fits N ds r' a' ∧ I s' r' w' ∧ μ s' < μ s) Q) N ds c r w) : WC ro P Q N ds (.loop c) r w := by
  intro a ha b k cs hro hb hr
  have key : ∀ j (s : σ) r w a, μ s = j → I s r w → Fits N ds r a →
      ∃ e a' w', Q e a' w' ∧ ArrivesIn (Machine.fenced P (Wd ro)) P (lone (b.atR a (.code c :: .inLoop c :: k)) cs w) b k cs e a' w' := by
    intro j
    induction j using Nat.strongRecOn with
    | _ j ih =>
      intro s r w a hj hI hf
      obtain ⟨e, a₁, w₁, hq, harr⟩ := round s r w hI a hf b (.inLoop c :: k) cs hro hb hr
      cases e with
      | normal =>
        obtain ⟨s', r', hf', hI', hlt⟩ := hq
        obtain ⟨e₂, a₂, w₂, hq₂, harr₂⟩ := ih (μ s') (hj ▸ hlt) s' r' w₁ a₁ rfl hI' hf'
        exact ⟨e₂, a₂, w₂, hq₂, .of_steps (StepsIn.trans harr (.one (fenced_calm hb hr rfl) stepR_inLoop)) harr₂⟩
      | exit id => exact ⟨_, a₁, w₁, hq, .pass (x := .inLoop c) rfl (fun _ _ => .inl (by simp)) harr⟩
      | goto l => exact ⟨_, a₁, w₁, hq, .pass (x := .inLoop c) rfl (fun _ _ => .inl (by simp)) harr⟩
      | ret => exact ⟨_, a₁, w₁, hq, .pass (x := .inLoop c) rfl (fun _ _ => .inl (by simp)) harr⟩
      | panic ch => exact ⟨_, a₁, w₁, hq, .pass (x := .inLoop c) rfl (fun _ _ => .inl (by simp)) harr⟩
      | outgrown => exact ⟨_, a₁, w₁, hq, .pass (x := .inLoop c) rfl (fun _ _ => .inl (by simp)) harr⟩
  obtain ⟨e, a', w', hq, harr⟩ := key _ s0 r w a rfl h0 ha
  exact ⟨e, a', w', hq, .of_steps (.one (fenced_calm hb hr rfl) stepR_loop) harr⟩

theorem exit_here {id : Nat} {a : Act} (h : Q .normal a w) : Exit.inBlock id Q (.exit id) a w := by simp only [Exit.inBlock, if_true]; exact h
theorem exit_out {id id' : Nat} {a : Act} (hne : (id == id') = false) (h : Q (.exit id) a w) : Exit.inBlock id' Q (.exit id) a w := by
  have : ¬ id = id' := by simpa using hne
  simp only [Exit.inBlock, this, if_false]; exact h

/-- the way into a function -/
theorem Calls.enter {f : FuncId} {fn : Func} {c : Code} {args : List Value} {r : Reg} {N : Nat} {R : Ending → World → Prop} (hf : P.funcs[f]? = some fn) (hb : fn.body = some c)
    (hn : fn.ntmps = N) (hN : Nat.ble args.length N = true) (hr : (args.zipIdx.map fun (v, i) => (i, v)) = r) (h : WC none P (bodyPost P fn R) N [] c r w) : Calls P f args.toArray w R := by
  subst hn; subst hr
  have hN := Nat.le_of_ble_eq_true hN
  refine callsIn_wide.1 (callsIn_of_wp (n := 0) hf hb trivial (h _ ?_))
  refine ⟨by simp; omega, rfl, ?_⟩
  intro t v hl
  have key : ∀ (l : List Value) (k : Nat), look ((l.zipIdx k).map fun (v, i) => (i, v)) t = some v → k ≤ t ∧ l[t - k]? = some v := by
    intro l
    induction l with
    | nil => intro k h; simp [look] at h
    | cons x l ih =>
      intro k h
      simp only [List.zipIdx_cons, List.map_cons, look] at h
      by_cases e : Nat.beq k t = true
      · rw [e] at h
        have : k = t := Nat.eq_of_beq_eq_true e
        subst this
        simpa using h
      · have e' : Nat.beq k t = false := Bool.eq_false_iff.2 e
        rw [e'] at h
        obtain ⟨h1, h2⟩ := ih (k + 1) h
        refine ⟨by omega, ?_⟩
        have : t - k = (t - (k + 1)) + 1 := by omega
        rw [this]; simpa using h2
  obtain ⟨_, h2⟩ := key args 0 hl
  have hlt : t < args.length := by
    rcases Nat.lt_or_ge t args.length with h | h
    · exact h
    · rw [List.getElem?_eq_none (by simpa using h)] at h2; cases h2
  show (args.toArray ++ Array.replicate (fn.ntmps - args.toArray.size) undef)[t]? = some v
  rw [Array.getElem?_append_left (by simpa using hlt)]
  simpa using h2

/-- the way out: the result in a register -/
theorem bodyPost_tmp {fn : Func} {R : Ending → World → Prop} {t : Nat} {v : Value} {a : Act} (hres : fn.results = #[.tmp t]) (h : Fits N [] r a) (hl : look r t = some v) (hR : R (.returned v) w) : bodyPost P fn R .ret a w :=
  ⟨h.defers, v, by rw [results_tmp hres]; simp [h.get t v hl], hR⟩
theorem bodyPost_unit {fn : Func} {R : Ending → World → Prop} {a : Act} (hres : fn.results = #[]) (h : Fits N [] r a) (hR : R (.returned (.tuple #[])) w) : bodyPost P fn R .ret a w :=
  ⟨h.defers, _, results_none hres _ _ _, hR⟩
theorem bodyPost_unit' {fn : Func} {R : Ending → World → Prop} {a : Act} (hres : fn.results = #[]) (h : Fits N [] r a) (hR : R (.returned (.tuple #[])) w) : bodyPost P fn R .normal a w :=
  ⟨h.defers, _, results_none hres _ _ _, hR⟩
theorem bodyPost_tmp2 {fn : Func} {R : Ending → World → Prop} {t u : Nat} {v x : Value} {a : Act} (hres : fn.results = #[.tmp t, .tmp u]) (h : Fits N [] r a) (hl : look r t = some v) (hl2 : look r u = some x) (hR : R (.returned (.tuple #[v, x])) w) : bodyPost P fn R .ret a w :=
  ⟨h.defers, _, by rw [results_tmp2 hres]; simp [h.get t v hl, h.get u x hl2], hR⟩
/-- the result in a box: an aggregate -/
theorem bodyPost_cell {fn : Func} {R : Ending → World → Prop} {t : Nat} {ct t' : TypeId} {b : Nat} {l : List Value} {a : Act} (hres : fn.results = #[.cell t ct]) (h : Fits N [] r a) (hl : look r t = some (.pointer (some ⟨b, 0, none⟩)))
    (ht : aggB P ct l.length = true) (hr : Row w b l t') (hR : R (.returned (.agg l.toArray)) w) : bodyPost P fn R .ret a w :=
  ⟨h.defers, _, by simp [results, hres, h.get _ _ hl, asAddr, run_loadVar_agg ht hr.reads0], hR⟩
theorem bodyPost_cell1 {fn : Func} {R : Ending → World → Prop} {t : Nat} {ct t' : TypeId} {b : Nat} {v : Value} {a : Act} (hres : fn.results = #[.cell t ct]) (h : Fits N [] r a) (hl : look r t = some (.pointer (some ⟨b, 0, none⟩)))
    (ht : flatB P ct = true) (hr : Row w b [v] t') (hR : R (.returned v) w) : bodyPost P fn R .ret a w :=
  ⟨h.defers, _, by simp [results, hres, h.get _ _ hl, asAddr, run_loadVar_flat ht (hr.cell 0)], hR⟩

theorem WL.done' {c : Code} {Q' : Exit → Act → World → Prop} (h : WC ro P Q' N ds c r w) (hq : ∀ a w, c.wpIn (Wd ro) 0 P Q' a w → Q .normal a w) : WL ro P all Q N ds [] r w := fun a ha => hq a w (h a ha)
theorem WC.skip'' {c : Code} {Q' : Exit → Act → World → Prop} (h : WC ro P Q' N ds c r w) (hq : ∀ a w, c.wpIn (Wd ro) 0 P Q' a w → Q .normal a w) : WC ro P Q N ds .skip r w := fun a ha => wpIn_skip (hq a w (h a ha))
theorem WC.at {c : Code} {a : Act} (h : WC ro P Q N ds c r w) (ha : Fits N ds r a) : c.wpIn (Wd ro) 0 P Q a w := h a ha
theorem exit_then {M : Act → World → Prop} {id : Nat} {a : Act} (h : Q (.exit id) a w) : Exit.then M Q (.exit id) a w := h
theorem ret_then {M : Act → World → Prop} {a : Act} (h : Q .ret a w) : Exit.then M Q .ret a w := h
theorem ret_block {id : Nat} {a : Act} (h : Q .ret a w) : Exit.inBlock id Q .ret a w := h

def placesOf (P : Program) (t : TypeId) : Option (List (Nat × Nat)) :=
  match P.underlying t with
  | some (.struct fs) => fs.toList.mapM fun f => (P.info? f.type).map fun q => (f.offset, q.size)
  | _ => none
theorem run_places {fs : List Field} {pl : List (Nat × Nat)} (h : (fs.mapM fun f => (P.info? f.type).map fun q => (f.offset, q.size)) = some pl) :
    (fs.mapM fun f => do pure (f.offset, ← sizeOf f.type) : Sem (List (Nat × Nat))).run P w = .ok pl w := by
  induction fs generalizing pl with
  | nil => simp at h; subst h; rfl
  | cons f fs ih =>
    simp only [List.mapM_cons, Option.bind_eq_bind, Option.bind_eq_some_iff, Option.pure_def, Option.some.injEq, Option.map_eq_some_iff] at h
    obtain ⟨a, ⟨q, hq, rfl⟩, pl', hpl, rfl⟩ := h
    have := ih hpl
    simp only [Sem.run_bind, List.mapM_cons, sizeOf, typeInfo, run_program, Result.andThen_ok, hq, Sem.run_pure] at this ⊢
    rw [this]; rfl
theorem WL.build {d : Nat} {t : TypeId} {parts : Array (Nat × Operand)} {z : Value} {zl l : List Value} {pl : List (Nat × Nat)} {vs : List (Nat × Value)} (hw : want all r g = some true) (hd : Nat.blt d N = true) (hz : zeroB P t z)
    (hpl : placesOf P t = some pl) (hp : (z.cells = zl.toArray ∧ (parts.toList.mapM fun p => (ev r p.2).map fun v => (p.1, v)) = some vs) ∧ Instr.fill (fun i => pl[i]?) zl.toArray vs = some l.toArray)
    (next : WL ro P all Q N ds rest ((d, .agg l.toArray) :: r) w) : WL ro P all Q N ds (⟨some d, .build t parts, ty, pos, aft, g⟩ :: rest) r w := by
  obtain ⟨⟨hzl, hparts⟩, hfill⟩ := hp
  refine WL.val hw hd (by intro c h; cases h) (fun a ha => ?_) next
  have hm : (parts.map fun (i, x) => (i, a.eval x)).toList = vs := by
    simp only [Array.toList_map]
    clear next hw hfill
    generalize parts.toList = q at hparts
    induction q generalizing vs with
    | nil => simp at hparts; subst hparts; rfl
    | cons x q ih =>
      simp only [List.mapM_cons, Option.bind_eq_bind, Option.bind_eq_some_iff, Option.pure_def, Option.some.injEq, Option.map_eq_some_iff] at hparts
      obtain ⟨_, ⟨v, hv, rfl⟩, vs', hvs, rfl⟩ := hparts
      simp [ha.ev hv, ih hvs]
  unfold placesOf at hpl
  cases hu : P.underlying t with
  | none => rw [hu] at hpl; cases hpl
  | some u =>
    rw [hu] at hpl
    cases u <;> try (cases hpl; done)
    rename_i fs
    dsimp only at hpl
    have h1 := run_places (P := P) (w := w) hpl
    have h2 : (fs.mapM fun f => do pure (f.offset, ← sizeOf f.type) : Sem (Array (Nat × Nat))).run P w = .ok pl.toArray w := by
      rw [Array.mapM_eq_mapM_toList, Sem.run_map, h1]; rfl
    simp only [execOp, Instr.build, Sem.run_bind, run_zeroValue hz, Result.andThen_ok, run_underlying hu]
    rw [h2]
    simp only [Result.andThen_ok, hm, hzl]
    have h3 : Instr.fill (fun x => pl.toArray[x]?) zl.toArray vs = some l.toArray := by simpa using hfill
    rw [h3]
    rfl
/-- the zero value of an aggregate -/
theorem WL.build0 {d : Nat} {t : TypeId} {z : Value} {l : List Value} {n : Nat} (hw : want all r g = some true) (hd : Nat.blt d N = true) (hz : zeroB P t z) (_ht : aggB P t n = true) (hl : z.cells = l.toArray) (hpl : (placesOf P t).isSome = true ∨ ∃ e m q, P.underlying t = some (.array m e) ∧ P.info? e = some q)
    (next : WL ro P all Q N ds rest ((d, .agg l.toArray) :: r) w) : WL ro P all Q N ds (⟨some d, .build t #[], ty, pos, aft, g⟩ :: rest) r w := by
  rcases hpl with hpl | ⟨e, m, q, hu, hq⟩
  · obtain ⟨pl, hpl⟩ := Option.isSome_iff_exists.1 hpl
    exact WL.build (zl := l) (vs := []) hw hd hz hpl ⟨⟨hl, rfl⟩, rfl⟩ next
  · refine WL.val hw hd (by intro c h; cases h) (fun a ha => ?_) next
    simp [execOp, Instr.build, run_zeroValue hz, run_underlying hu, sizeOf, typeInfo, hq, Instr.fill, hl]

theorem Calls.caps1 {f : FuncId} {x y : Value} {R : Ending → World → Prop} (h : Calls P f #[x, y] w R) : Calls P f (#[x] ++ #[y]) w R := by simpa using h
theorem Calls.caps2 {f : FuncId} {x x' y : Value} {R : Ending → World → Prop} (h : Calls P f #[x, x', y] w R) : Calls P f (#[x, x'] ++ #[y]) w R := by simpa using h
theorem Calls.caps0 {f : FuncId} {x : Value} {R : Ending → World → Prop} (h : Calls P f #[x] w R) : Calls P f (#[x] ++ #[]) w R := by simpa using h
theorem Calls.caps20 {f : FuncId} {x x' : Value} {R : Ending → World → Prop} (h : Calls P f #[x, x'] w R) : Calls P f (#[x, x'] ++ #[]) w R := by simpa using h
end steps
end Go.Proofs.Ytaggidjijekpbaa
