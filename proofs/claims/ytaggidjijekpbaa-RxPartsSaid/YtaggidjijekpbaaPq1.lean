/- Part 1 of the proof: walks through the program's functions, and what they compute in plain Lean. -/
import Derived.WalkKit
import Derived.WalkSpells
import Derived.WalkLawsBesides
import Derived.RangeFuncNested
import Derived.RangeFuncBound
import Derived.RangeFuncCalls
import Derived.RangeFuncLeaves
import Derived.IntWalk
import Derived.ChangeKeysEq
import Derived.Scope
import Derived.Test.YtaggidjijekpbaaProg
import Derived.KernelRfl
import Derived.Shelf.Abstract
import Derived.OrdersIn
import Derived.Great.FillDense
set_option linter.all false
namespace Go.Proofs.Ytaggidjijekpbaa
open Go.RowKit
abbrev Reg := List (Nat × Value)
def look : Reg → Nat → Option Value
  | [], _ => none
  | (k, v) :: r, t => bif Nat.beq k t then some v else look r t
def ev (r : Reg) : Operand → Option Value
  | .tmp t => look r t
  | .const v => some v
  | .func f => some (.func (.func f) #[] #[])
  | .global g => some (.pointer (some ⟨g, 0, none⟩))
abbrev Wd (ro : Option Nat) : Fence := { Fence.wide with round := ro }
structure Fits (N : Nat) (ds : List Deferred) (r : Reg) (a : Act) : Prop where
  size : a.tmps.size = N
  defers : a.defers = ds
  get : ∀ t v, look r t = some v → a.tmps[t]? = some v
theorem Fits.ev {N ds r a x v} (h : Fits N ds r a) (hx : ev r x = some v) : a.eval x = v := by
  cases x with
  | tmp t => simp only [Go.Proofs.Ytaggidjijekpbaa.ev] at hx; simp [Act.eval, h.get t v hx]
  | const c => cases hx; rfl
  | func f => cases hx; rfl
  | global g => cases hx; rfl
theorem Fits.put {N ds r a} {d : Nat} {v : Value} (h : Fits N ds r a) (hd : Nat.blt d N = true) : Fits N ds ((d, v) :: r) (a.put (some d) v) := by
  have hd' : d < N := by simpa using hd
  refine ⟨by simp [Act.put, h.size], h.defers, fun t u hu => ?_⟩
  simp only [look] at hu
  by_cases e : Nat.beq d t = true
  · rw [e] at hu; simp only [cond_true, Option.some.injEq] at hu; subst hu
    have : d = t := Nat.eq_of_beq_eq_true e
    subst this
    simp [Act.put, h.size, hd']
  · have e' : Nat.beq d t = false := Bool.eq_false_iff.2 e
    rw [e'] at hu; simp only [cond_false] at hu
    have hne : d ≠ t := fun h => by subst h; simp at e'
    simp only [Act.put, Array.getElem?_setIfInBounds, hne, if_false]
    exact h.get t u hu
theorem Fits.weaken {N ds r r' a} (h : Fits N ds r a) (hr : ∀ t v, look r' t = some v → look r t = some v) : Fits N ds r' a :=
  ⟨h.size, h.defers, fun t v e => h.get t v (hr t v e)⟩
def subReg (r r' : Reg) : Prop := ∀ t v, look r' t = some v → look r t = some v
theorem subReg_nil (r : Reg) : subReg r [] := fun _ _ h => by simp [look] at h
theorem subReg_cons {r r' : Reg} {k : Nat} {v : Value} (hk : look r k = some v) (h : subReg r r') : subReg r ((k, v) :: r') := by
  intro t u hu
  simp only [look] at hu
  by_cases e : Nat.beq k t = true
  · rw [e] at hu; simp only [cond_true, Option.some.injEq] at hu; subst hu
    have : k = t := Nat.eq_of_beq_eq_true e
    subst this; exact hk
  · have e' : Nat.beq k t = false := Bool.eq_false_iff.2 e
    rw [e'] at hu; exact h t u (by simpa using hu)
def WL (ro : Option Nat) (P : Program) (all : Array Oper) (Q : Exit → Act → World → Prop) (N : Nat) (ds : List Deferred) (ops : List Oper) (r : Reg) (w : World) : Prop :=
  ∀ a, Fits N ds r a → wpListIn (Wd ro) 0 P all Q ops a w
def WC (ro : Option Nat) (P : Program) (Q : Exit → Act → World → Prop) (N : Nat) (ds : List Deferred) (c : Code) (r : Reg) (w : World) : Prop :=
  ∀ a, Fits N ds r a → c.wpIn (Wd ro) 0 P Q a w
def want (all : Array Oper) (r : Reg) : Option (Nat × Bool) → Option Bool
  | none => some true
  | some (i, b) => match (all[i]?).bind (·.dst) with
    | some t => match look r t with
      | some (.bool c) => some (c == b)
      | some _ => some false
      | none => none
    | none => none
theorem want_wanted {all : Array Oper} {N ds r a} {o : Oper} {b : Bool} (h : Fits N ds r a) (hw : want all r o.guard = some b) : Region.wanted o (yielded all a.tmps) = b := by
  unfold Region.wanted
  cases hg : o.guard with
  | none => rw [hg] at hw; simpa [want] using hw
  | some ib =>
    obtain ⟨i, c⟩ := ib
    rw [hg] at hw
    simp only [want] at hw
    simp only [yielded]
    cases hd : (all[i]?).bind (·.dst) with
    | none => rw [hd] at hw; simp at hw
    | some t =>
      rw [hd] at hw
      simp only [Option.bind_some] at hw ⊢
      cases hl : look r t with
      | none => rw [hl] at hw; simp at hw
      | some v =>
        rw [hl] at hw
        rw [h.get t v hl]
        cases v <;> simp_all <;> (rw [← hw]; first | rfl | (rename_i x; cases x <;> cases c <;> rfl))
section steps
variable {ro : Option Nat} {P : Program} {all : Array Oper} {Q : Exit → Act → World → Prop} {N : Nat} {ds : List Deferred} {r : Reg} {w : World} {rest : List Oper}
  {ty : TypeId} {pos : String} {aft : Array Edge} {g : Option (Nat × Bool)}
theorem semAt_wd {o : Oper} (ho : ∀ c, o.op ≠ .defer c) (a : Act) : o.semAt (Wd ro).round a.eval = execOp a.eval o := Oper.semAt_eq _ _ _ ho
theorem WL.nil (h : ∀ a, Fits N ds r a → Q .normal a w) : WL ro P all Q N ds [] r w := h
theorem WL.val {d : Nat} {op : Op} {v : Value} {w' : World} (hw : want all r g = some true) (hd : Nat.blt d N = true) (ho : ∀ c, op ≠ .defer c)
    (hrun : ∀ a, Fits N ds r a → (execOp a.eval ⟨some d, op, ty, pos, aft, g⟩).run P w = .ok (.value v) w')
    (next : WL ro P all Q N ds rest ((d, v) :: r) w') : WL ro P all Q N ds (⟨some d, op, ty, pos, aft, g⟩ :: rest) r w := by
  intro a ha
  unfold wpListIn
  rw [if_pos (want_wanted ha (o := ⟨some d, op, ty, pos, aft, g⟩) hw)]
  refine ⟨fun _ _ => trivial, ?_⟩
  rw [semAt_wd ho, hrun a ha, Oper.uponIn_value]
  exact next _ (ha.put hd)
theorem WL.eff {op : Op} {w' : World} (hw : want all r g = some true) (ho : ∀ c, op ≠ .defer c)
    (hrun : ∀ a, Fits N ds r a → (execOp a.eval ⟨none, op, ty, pos, aft, g⟩).run P w = .ok .skip w')
    (next : WL ro P all Q N ds rest r w') : WL ro P all Q N ds (⟨none, op, ty, pos, aft, g⟩ :: rest) r w := by
  intro a ha
  unfold wpListIn
  rw [if_pos (want_wanted ha (o := ⟨none, op, ty, pos, aft, g⟩) hw)]
  refine ⟨fun _ _ => trivial, ?_⟩
  rw [semAt_wd ho, hrun a ha, Oper.uponIn_skip]
  exact next _ ha
theorem WL.pass {d : Nat} {op : Op} (hw : want all r g = some false) (hd : Nat.blt d N = true)
    (next : WL ro P all Q N ds rest ((d, undef) :: r) w) : WL ro P all Q N ds (⟨some d, op, ty, pos, aft, g⟩ :: rest) r w := by
  intro a ha
  unfold wpListIn
  rw [if_neg (by rw [want_wanted ha (o := ⟨some d, op, ty, pos, aft, g⟩) hw]; simp)]
  exact ⟨fun _ _ => trivial, next _ (ha.put hd)⟩
theorem CallsIn.wd {f : FuncId} {args : Array Value} {R : Ending → World → Prop} (h : Calls P f args w R) : CallsIn (Wd ro) 0 P f args w R :=
  ⟨trivial, fun cs _ => let ⟨e, w', fr, hR, hs, x⟩ := h cs; ⟨e, w', fr, hR, by
    have : Machine.fenced P (Wd ro) = Machine.fenced P Fence.wide := rfl
    rw [this]; exact comesIn_wide.2 hs, x⟩⟩
theorem WL.call {d : Nat} {f : FuncId} {args : Array Operand} {ats : Array TypeId} {vs : List Value} {R : Ending → World → Prop} (hw : want all r g = some true) (hd : Nat.blt d N = true)
    (hargs : args.toList.mapM (ev r) = some vs) (hf : ∀ vs w, (callFunc f vs).run P w = .ok (.enter f vs) w)
    (hc : Calls P f vs.toArray w R) (next : ∀ e w', R e w' → ∃ v, e = .returned v ∧ WL ro P all Q N ds rest ((d, v) :: r) w') :
    WL ro P all Q N ds (⟨some d, .call ⟨.value (.func f), args, ats⟩, ty, pos, aft, g⟩ :: rest) r w := by
  intro a ha
  unfold wpListIn
  rw [if_pos (want_wanted ha (o := ⟨some d, .call ⟨.value (.func f), args, ats⟩, ty, pos, aft, g⟩) hw)]
  refine ⟨fun _ _ => trivial, ?_⟩
  have hm : args.map a.eval = vs.toArray := by
    apply Array.ext'
    simp only [Array.toList_map]
    clear hc next hw
    generalize args.toList = l at hargs
    induction l generalizing vs with
    | nil => simp at hargs; subst hargs; rfl
    | cons x l ih =>
      simp only [List.mapM_cons, Option.bind_eq_bind, Option.bind_eq_some_iff, Option.pure_def, Option.some.injEq] at hargs
      obtain ⟨v, hv, vs', hvs, rfl⟩ := hargs
      simp [ha.ev hv, ih hvs]
  rw [semAt_wd (by intro c h; cases h)]
  have : (execOp a.eval ⟨some d, .call ⟨.value (.func f), args, ats⟩, ty, pos, aft, g⟩).run P w = .ok (.enter f vs.toArray) w := by
    simp [execOp, resolve, hm, Act.eval, Deferred.ofValue, invoke, hf]
  rw [this, Oper.uponIn_enter]
  refine ⟨(fun h => by cases h), (CallsIn.wd hc).mono ?_⟩
  intro e w' hR
  obtain ⟨v, rfl, hn⟩ := next e w' hR
  exact hn _ (ha.put hd)
theorem WL.callv {d : Nat} {x : Operand} {f : FuncId} {caps : Array Value} {args : Array Operand} {ats : Array TypeId} {vs : List Value} {R : Ending → World → Prop} (hw : want all r g = some true) (hd : Nat.blt d N = true)
    (hx : ev r x = some (.func (.func f) #[] caps))
    (hargs : args.toList.mapM (ev r) = some vs) (hf : ∀ vs w, (callFunc f vs).run P w = .ok (.enter f vs) w)
    (hc : Calls P f (vs.toArray ++ caps) w R) (next : ∀ e w', R e w' → ∃ v, e = .returned v ∧ WL ro P all Q N ds rest ((d, v) :: r) w') :
    WL ro P all Q N ds (⟨some d, .call ⟨.value x, args, ats⟩, ty, pos, aft, g⟩ :: rest) r w := by
  intro a ha
  unfold wpListIn
  rw [if_pos (want_wanted ha (o := ⟨some d, .call ⟨.value x, args, ats⟩, ty, pos, aft, g⟩) hw)]
  refine ⟨fun _ _ => trivial, ?_⟩
  have hm : args.map a.eval = vs.toArray := by
    apply Array.ext'
    simp only [Array.toList_map]
    clear hc next hw
    generalize args.toList = l at hargs
    induction l generalizing vs with
    | nil => simp at hargs; subst hargs; rfl
    | cons x l ih =>
      simp only [List.mapM_cons, Option.bind_eq_bind, Option.bind_eq_some_iff, Option.pure_def, Option.some.injEq] at hargs
      obtain ⟨v, hv, vs', hvs, rfl⟩ := hargs
      simp [ha.ev hv, ih hvs]
  rw [semAt_wd (by intro c h; cases h)]
  have : (execOp a.eval ⟨some d, .call ⟨.value x, args, ats⟩, ty, pos, aft, g⟩).run P w = .ok (.enter f (vs.toArray ++ caps)) w := by
    simp [execOp, resolve, hm, ha.ev hx, Deferred.ofValue, invoke, hf]
  rw [this, Oper.uponIn_enter]
  refine ⟨(fun h => by cases h), (CallsIn.wd hc).mono ?_⟩
  intro e w' hR
  obtain ⟨v, rfl, hn⟩ := next e w' hR
  exact hn _ (ha.put hd)
theorem WL.move {d : Nat} {x : Operand} {v : Value} (hw : want all r g = some true) (hd : Nat.blt d N = true) (hx : ev r x = some v)
    (next : WL ro P all Q N ds rest ((d, v) :: r) w) : WL ro P all Q N ds (⟨some d, .move x, ty, pos, aft, g⟩ :: rest) r w :=
  WL.val hw hd (by intro c h; cases h) (fun a ha => by simp [execOp, ha.ev hx]) next
theorem WL.assign {d : Nat} {x : Operand} {v : Value} (hw : want all r g = some true) (hd : Nat.blt d N = true) (hx : ev r x = some v)
    (next : WL ro P all Q N ds rest ((d, v) :: r) w) : WL ro P all Q N ds (⟨some d, .assign x, ty, pos, aft, g⟩ :: rest) r w :=
  WL.val hw hd (by intro c h; cases h) (fun a ha => by simp [execOp, ha.ev hx]) next
theorem WL.pick_t {d : Nat} {c x y : Operand} {v : Value} (hw : want all r g = some true) (hd : Nat.blt d N = true) (hc : ev r c = some (.bool true)) (hx : ev r x = some v)
    (next : WL ro P all Q N ds rest ((d, v) :: r) w) : WL ro P all Q N ds (⟨some d, .pick c x y, ty, pos, aft, g⟩ :: rest) r w :=
  WL.val hw hd (by intro c h; cases h) (fun a ha => by simp [execOp, ha.ev hc, ha.ev hx, asBool]) next
theorem WL.pick_f {d : Nat} {c x y : Operand} {v : Value} (hw : want all r g = some true) (hd : Nat.blt d N = true) (hc : ev r c = some (.bool false)) (hx : ev r y = some v)
    (next : WL ro P all Q N ds rest ((d, v) :: r) w) : WL ro P all Q N ds (⟨some d, .pick c x y, ty, pos, aft, g⟩ :: rest) r w :=
  WL.val hw hd (by intro c h; cases h) (fun a ha => by simp [execOp, ha.ev hc, ha.ev hx, asBool]) next
def Row (w : World) (b : Nat) (l : List Value) (t : TypeId) : Prop := w.heap[b]? = some (.cells l.toArray t (0, 0))
structure Ext (w w' : World) : Prop extends Below w.heap.size w w' where
  drawn : w.drawn ≤ w'.drawn
theorem Ext.refl (w : World) : Ext w w := ⟨Below.refl _ _, Nat.le_refl _⟩
theorem Ext.trans {a b c : World} (h : Ext a b) (k : Ext b c) : Ext a c := ⟨Below.trans h.toBelow (Below.mono k.toBelow h.size), Nat.le_trans h.drawn k.drawn⟩
theorem Row.lt {w b l t} (h : Row w b l t) : b < w.heap.size := (Array.getElem?_eq_some_iff.1 h).1
theorem Row.ext {w w' b l t} (h : Row w b l t) (e : Ext w w') : Row w' b l t := (e.block b h.lt).trans h
theorem Row.cell {w b l t} (h : Row w b l t) (o : Nat) : w.cell? ⟨b, o, none⟩ = l[o]? := by
  simp only [Row] at h; simp [World.cell?, h]
theorem Ext.alloc (w : World) (o : Obj) : Ext w (w.alloc o) := ⟨(Below.refl _ w).alloc (Nat.le_refl _) o, Nat.le_refl _⟩
theorem Ext.drew (w : World) : Ext w w.drew := ⟨(Below.refl _ w).drew, Nat.le_succ _⟩
theorem Row.new (w : World) (l : List Value) (t : TypeId) : Row (w.alloc (.cells l.toArray t)) w.heap.size l t := World.alloc_heap_new w _
theorem Ext.cell {w w' : World} (e : Ext w w') {p : Addr} {v : Value} (h : w.cell? p = some v) : w'.cell? p = some v := by
  rw [Below.cell e.toBelow (World.block_lt_of_cell? w p h)]; exact h
def aggB (P : Program) (t : TypeId) (n : Nat) : Bool :=
  match P.underlying t, P.info? t with
  | some (.struct _), some i => i.size == n
  | some (.array _ _), some i => i.size == n
  | _, _ => false
def flatB (P : Program) (t : TypeId) : Bool :=
  match P.underlying t, P.info? t with
  | some (.struct _), _ => false
  | some (.array _ _), _ => false
  | some _, some i => i.size == 1
  | _, _ => false
theorem run_sizeOf_agg {t : TypeId} {n : Nat} (h : aggB P t n = true) : (sizeOf t).run P w = .ok n w := by
  unfold aggB at h
  cases hi : P.info? t with
  | none => rw [hi] at h; cases hu : P.underlying t with
    | none => rw [hu] at h; cases h
    | some d => rw [hu] at h; cases d <;> cases h
  | some i =>
    rw [hi] at h
    have : i.size = n := by
      cases hu : P.underlying t with
      | none => rw [hu] at h; cases h
      | some d => rw [hu] at h; cases d <;> first | (cases h; done) | (exact beq_iff_eq.1 h)
    simp [sizeOf, typeInfo, hi, this]
theorem run_sizeOf_flat {t : TypeId} (h : flatB P t = true) : (sizeOf t).run P w = .ok 1 w := by
  unfold flatB at h
  cases hi : P.info? t with
  | none => rw [hi] at h; cases hu : P.underlying t with
    | none => rw [hu] at h; cases h
    | some d => rw [hu] at h; cases d <;> cases h
  | some i =>
    rw [hi] at h
    have : i.size = 1 := by
      cases hu : P.underlying t with
      | none => rw [hu] at h; cases h
      | some d => rw [hu] at h; cases d <;> first | (cases h; done) | (exact beq_iff_eq.1 h)
    simp [sizeOf, typeInfo, hi, this]
theorem run_isAgg_agg {t : TypeId} {n : Nat} (h : aggB P t n = true) : (isAgg t).run P w = .ok true w := by
  unfold aggB at h
  cases hu : P.underlying t with
  | none => rw [hu] at h; cases h
  | some d => unfold isAgg; rw [Sem.run_bind, run_underlying hu w]; rw [hu] at h; cases d <;> first | rfl | (cases hi : P.info? t <;> rw [hi] at h <;> cases h)
theorem run_isAgg_flat {t : TypeId} (h : flatB P t = true) : (isAgg t).run P w = .ok false w := by
  unfold flatB at h
  cases hu : P.underlying t with
  | none => rw [hu] at h; cases h
  | some d => unfold isAgg; rw [Sem.run_bind, run_underlying hu w]; rw [hu] at h; cases d <;> first | rfl | (cases hi : P.info? t <;> rw [hi] at h <;> cases h)
theorem addr_add (b o j : Nat) : (⟨b, o, none⟩ : Addr).add j = ⟨b, o + j, none⟩ := by
  unfold Addr.add; split
  · rename_i h; subst h; rfl
  · rfl
def Reads (w : World) (b o : Nat) (l : List Value) : Prop := ∀ j v, l[j]? = some v → w.cell? ⟨b, o + j, none⟩ = some v
theorem Reads.ext {w w' : World} {b o l} (h : Reads w b o l) (e : Ext w w') : Reads w' b o l := fun j v hj => e.cell (h j v hj)
theorem Row.reads {w b l t} (h : Row w b l t) (o n : Nat) : Reads w b o ((l.drop o).take n) := fun j v hj => by
  rw [h.cell]
  rw [List.getElem?_take] at hj
  split at hj
  · rwa [List.getElem?_drop] at hj
  · cases hj
theorem Row.reads0 {w b l t} (h : Row w b l t) : Reads w b 0 l := fun j v hj => by rw [h.cell, Nat.zero_add]; exact hj
theorem run_loadVar_agg {t : TypeId} {b o : Nat} {l : List Value} (h : aggB P t l.length = true) (hr : Reads w b o l) : (loadVar t ⟨b, o, none⟩).run P w = .ok (.agg l.toArray) w := by
  have := run_loadCells_list (P := P) w ⟨b, o, none⟩ l (fun j v hj => by rw [addr_add]; exact hr j v hj)
  simp [loadVar, run_isAgg_agg h, run_sizeOf_agg h, this]
theorem run_loadVar_flat {t : TypeId} {b o : Nat} {v : Value} (h : flatB P t = true) (hr : w.cell? ⟨b, o, none⟩ = some v) : (loadVar t ⟨b, o, none⟩).run P w = .ok v w := by
  simp [loadVar, run_isAgg_flat h, hr]
theorem WL.load_agg {d : Nat} {t : TypeId} {x : Operand} {b o : Nat} {l : List Value} (hw : want all r g = some true) (hd : Nat.blt d N = true) (ht : aggB P t l.length = true)
    (hx : ev r x = some (.pointer (some ⟨b, o, none⟩))) (hr : Reads w b o l)
    (next : WL ro P all Q N ds rest ((d, .agg l.toArray) :: r) w) : WL ro P all Q N ds (⟨some d, .load t x, ty, pos, aft, g⟩ :: rest) r w :=
  WL.val hw hd (by intro c h; cases h) (fun a ha => by simp [execOp, ha.ev hx, Instr.loadAt, Instr.sureAddr, run_loadVar_agg ht hr]) next
theorem WL.load_flat {d : Nat} {t : TypeId} {x : Operand} {b o : Nat} {v : Value} (hw : want all r g = some true) (hd : Nat.blt d N = true) (ht : flatB P t = true)
    (hx : ev r x = some (.pointer (some ⟨b, o, none⟩))) (hr : w.cell? ⟨b, o, none⟩ = some v)
    (next : WL ro P all Q N ds rest ((d, v) :: r) w) : WL ro P all Q N ds (⟨some d, .load t x, ty, pos, aft, g⟩ :: rest) r w :=
  WL.val hw hd (by intro c h; cases h) (fun a ha => by simp [execOp, ha.ev hx, Instr.loadAt, Instr.sureAddr, run_loadVar_flat ht hr]) next
theorem WL.load_box {d : Nat} {t t' : TypeId} {x : Operand} {b : Nat} {l : List Value} (hw : want all r g = some true) (hd : Nat.blt d N = true)
    (hx : ev r x = some (.pointer (some ⟨b, 0, none⟩))) (hr : Row w b l t') (ht : aggB P t l.length = true)
    (next : WL ro P all Q N ds rest ((d, .agg l.toArray) :: r) w) : WL ro P all Q N ds (⟨some d, .load t x, ty, pos, aft, g⟩ :: rest) r w :=
  WL.load_agg hw hd ht hx hr.reads0 next
theorem WL.load_part {d : Nat} {t t' : TypeId} {x : Operand} {b o : Nat} {l l' : List Value} (n : Nat) (hw : want all r g = some true) (hd : Nat.blt d N = true)
    (hx : ev r x = some (.pointer (some ⟨b, o, none⟩))) (hr : Row w b l t') (hl : (l.drop o).take n = l') (ht : aggB P t l'.length = true)
    (next : WL ro P all Q N ds rest ((d, .agg l'.toArray) :: r) w) : WL ro P all Q N ds (⟨some d, .load t x, ty, pos, aft, g⟩ :: rest) r w := by
  subst hl; exact WL.load_agg hw hd ht hx (hr.reads o n) next
theorem WL.load_fld {d : Nat} {t t' : TypeId} {x : Operand} {b o : Nat} {l : List Value} {v : Value} (hw : want all r g = some true) (hd : Nat.blt d N = true) (ht : flatB P t = true)
    (hx : ev r x = some (.pointer (some ⟨b, o, none⟩))) (hr : Row w b l t') (hv : l[o]? = some v)
    (next : WL ro P all Q N ds rest ((d, v) :: r) w) : WL ro P all Q N ds (⟨some d, .load t x, ty, pos, aft, g⟩ :: rest) r w :=
  WL.load_flat hw hd ht hx ((hr.cell o).trans hv) next
theorem WL.box_agg {d : Nat} {t : TypeId} {x : Operand} {l : List Value} (hw : want all r g = some true) (hd : Nat.blt d N = true) (hx : ev r x = some (.agg l.toArray))
    (next : ∀ b w', b = w.heap.size → Ext w w' → w'.heap.size = w.heap.size + 1 → Row w' b l t → WL ro P all Q N ds rest ((d, .pointer (some ⟨b, 0, none⟩)) :: r) w') :
    WL ro P all Q N ds (⟨some d, .box t x, ty, pos, aft, g⟩ :: rest) r w :=
  WL.val hw hd (by intro c h; cases h) (w' := w.alloc (.cells l.toArray t)) (v := .pointer (some ⟨w.heap.size, 0, none⟩))
    (fun a ha => by simp [execOp, ha.ev hx, Instr.box, newVar, newRow, Value.cells]) (next _ _ rfl (Ext.alloc _ _) (by simp) (Row.new _ _ _))
theorem WL.box_flat {d : Nat} {t : TypeId} {x : Operand} {v : Value} (hw : want all r g = some true) (hd : Nat.blt d N = true) (hx : ev r x = some v) (hv : v.cells = #[v])
    (next : ∀ b w', b = w.heap.size → Ext w w' → w'.heap.size = w.heap.size + 1 → Row w' b [v] t → WL ro P all Q N ds rest ((d, .pointer (some ⟨b, 0, none⟩)) :: r) w') :
    WL ro P all Q N ds (⟨some d, .box t x, ty, pos, aft, g⟩ :: rest) r w :=
  WL.val hw hd (by intro c h; cases h) (w' := w.alloc (.cells #[v] t)) (v := .pointer (some ⟨w.heap.size, 0, none⟩))
    (fun a ha => by simp [execOp, ha.ev hx, Instr.box, newVar, newRow, hv]) (next _ _ rfl (Ext.alloc _ _) (by simp) (Row.new _ [v] _))
def zeroB (P : Program) (t : TypeId) (z : Value) : Prop := (P.info? t).bind (·.zero) = some z
theorem run_zeroValue {t : TypeId} {z : Value} (h : zeroB P t z) : (zeroValue t).run P w = .ok z w := by
  unfold zeroB at h
  cases hi : P.info? t with
  | none => rw [hi] at h; cases h
  | some i => rw [hi] at h; simp only [Option.bind_some] at h; simp [zeroValue, typeInfo, hi, h]
theorem WL.alloc {d : Nat} {t : TypeId} {z : Value} {l : List Value} (hw : want all r g = some true) (hd : Nat.blt d N = true) (hz : zeroB P t z) (hl : z.cells = l.toArray)
    (next : ∀ b w', b = w.heap.size → Ext w w' → w'.heap.size = w.heap.size + 1 → Row w' b l t → WL ro P all Q N ds rest ((d, .pointer (some ⟨b, 0, none⟩)) :: r) w') :
    WL ro P all Q N ds (⟨some d, .alloc t, ty, pos, aft, g⟩ :: rest) r w :=
  WL.val hw hd (by intro c h; cases h) (w' := w.alloc (.cells l.toArray t)) (v := .pointer (some ⟨w.heap.size, 0, none⟩))
    (fun a ha => by simp [execOp, Instr.alloc, run_zeroValue hz, newVar, newRow, hl]) (next _ _ rfl (Ext.alloc _ _) (by simp) (Row.new _ _ _))
structure But (b : Nat) (w w' : World) : Prop where
  os : w'.os = w.os
  tape : w'.tape = w.tape
  output : w'.output = w.output
  size : w'.heap.size = w.heap.size
  block : ∀ k, k ≠ b → w'.heap[k]? = w.heap[k]?
  drawn : w.drawn ≤ w'.drawn
theorem But.refl (b : Nat) (w : World) : But b w w := ⟨rfl, rfl, rfl, rfl, fun _ _ => rfl, Nat.le_refl _⟩
theorem But.below {b n : Nat} {a w w' : World} (h : But b w w') (k : Below n a w) (hb : n ≤ b) : Below n a w' :=
  k.trans ⟨h.os, h.tape, h.output, by rw [h.size]; exact Nat.le_refl _, fun i hi => h.block i (by omega)⟩
theorem But.onto {b : Nat} {a w w' : World} (h : But b w w') (e : Ext a w) (hb : a.heap.size ≤ b) : Ext a w' := ⟨h.below e.toBelow hb, Nat.le_trans e.drawn h.drawn⟩
theorem But.row {b c : Nat} {w w' : World} {l : List Value} {t : TypeId} (h : But b w w') (hr : Row w c l t) (hc : c ≠ b) : Row w' c l t := (h.block c hc).trans hr
theorem But.reads {b c o : Nat} {w w' : World} {l : List Value} (h : But b w w') (hr : Reads w c o l) (hc : c ≠ b) : Reads w' c o l := fun j v hj =>
  (World.cell?_of_block (w := w) (h.block c hc)).trans (hr j v hj)
theorem run_storeVar {t : TypeId} {b o n : Nat} {v : Value} {cur : List Value} {t' : TypeId} (hr : Row w b cur t') (hn : (sizeOf t).run P w = .ok n w) (hv : v.cells.size = n) (hfit : o + n ≤ cur.length) (h1 : ∀ u ∈ v.cells.toList, u.oneCell' = true) :
    ∃ w', (storeVar t ⟨b, o, none⟩ v).run P w = .ok () w' ∧ But b w w' ∧ Row w' b (cur.take o ++ v.cells.toList ++ cur.drop (o + n)) t' := by
  have h := run_storeCells_at P b o t' v.cells.toList 0 cur.toArray w hr (by simp only [Array.length_toList, List.size_toArray]; omega) h1
  refine ⟨w.setRow b (cur.take o ++ v.cells.toList ++ cur.drop (o + n)).toArray, ?_, ?_, ?_⟩
  · simp only [Nat.add_zero] at h
    simp [storeVar, hn, hv, h]
  · refine ⟨rfl, rfl, rfl, by simp, fun k hk => setRow_other w b k _ (by omega), Nat.le_refl _⟩
  · exact setRow_heap w b cur.toArray _ t' _ hr
theorem WL.store {t t' : TypeId} {x y : Operand} {b o n : Nat} {v : Value} {cur vl : List Value} (hw : want all r g = some true)
    (hx : ev r x = some (.pointer (some ⟨b, o, none⟩))) (hy : ev r y = some v) (hr : Row w b cur t') (hn : (sizeOf t).run P w = .ok n w) (hvl : v.cells = vl.toArray) (hv : vl.length = n) (hfit : o + n ≤ cur.length) (h1 : vl.all Value.oneCell' = true)
    (next : ∀ w', But b w w' → Row w' b (cur.take o ++ vl ++ cur.drop (o + n)) t' → WL ro P all Q N ds rest r w') :
    WL ro P all Q N ds (⟨none, .store t x y, ty, pos, aft, g⟩ :: rest) r w := by
  obtain ⟨w', h1, h2, h3⟩ := run_storeVar (P := P) (v := v) hr hn (by rw [hvl]; simpa using hv) hfit (by rw [hvl]; intro u hu; exact List.all_eq_true.1 h1 u (by simpa using hu))
  refine WL.eff hw (by intro c h; cases h) (w' := w') (fun a ha => ?_) (next w' h2 (by rw [hvl] at h3; simpa using h3))
  simp [execOp, ha.ev hx, ha.ev hy, Instr.storeAt, Instr.sureAddr, h1]
theorem WL.store_box {t t' : TypeId} {x y : Operand} {b : Nat} {cur vl : List Value} (hw : want all r g = some true)
    (hx : ev r x = some (.pointer (some ⟨b, 0, none⟩))) (hy : ev r y = some (.agg vl.toArray)) (hr : Row w b cur t') (ht : aggB P t vl.length = true) (hfit : cur.length = vl.length) (h1 : vl.all Value.oneCell' = true)
    (next : ∀ w', But b w w' → Row w' b vl t' → WL ro P all Q N ds rest r w') :
    WL ro P all Q N ds (⟨none, .store t x y, ty, pos, aft, g⟩ :: rest) r w :=
  WL.store hw hx hy hr (run_sizeOf_agg ht) (vl := vl) rfl rfl (by omega) h1 (fun w' h2 h3 => next w' h2 (by
    rw [Nat.zero_add, List.drop_of_length_le (by omega)] at h3; simpa using h3))
theorem WL.store_cell {t t' : TypeId} {x y : Operand} {b : Nat} {c v : Value} (hw : want all r g = some true) (ht : flatB P t = true)
    (hx : ev r x = some (.pointer (some ⟨b, 0, none⟩))) (hy : ev r y = some v) (hr : Row w b [c] t') (hv : v.cells = #[v]) (h1 : v.oneCell' = true)
    (next : ∀ w', But b w w' → Row w' b [v] t' → WL ro P all Q N ds rest r w') :
    WL ro P all Q N ds (⟨none, .store t x y, ty, pos, aft, g⟩ :: rest) r w :=
  WL.store hw hx hy hr (run_sizeOf_flat ht) (vl := [v]) hv rfl (by simp) (by simpa using h1) (fun w' h2 h3 => next w' h2 (by simpa using h3))
theorem WL.store_fld {t t' : TypeId} {x y : Operand} {b o : Nat} {v : Value} {cur new : List Value} (hw : want all r g = some true) (ht : flatB P t = true)
    (hx : ev r x = some (.pointer (some ⟨b, o, none⟩))) (hy : ev r y = some v) (hr : Row w b cur t') (hv : v.cells = #[v]) (h1 : v.oneCell' = true) (hfit : o < cur.length)
    (hnew : cur.take o ++ [v] ++ cur.drop (o + 1) = new)
    (next : ∀ w', But b w w' → Row w' b new t' → WL ro P all Q N ds rest r w') :
    WL ro P all Q N ds (⟨none, .store t x y, ty, pos, aft, g⟩ :: rest) r w :=
  WL.store hw hx hy hr (run_sizeOf_flat ht) (vl := [v]) hv rfl (by omega) (by simpa using h1) (fun w' h2 h3 => next w' h2 (by rw [← hnew]; exact h3))
def fieldB (P : Program) (t : TypeId) (i off : Nat) : Bool :=
  match P.underlying t with
  | some (.struct fs) => match fs[i]? with
    | some f => f.offset == off && (match P.info? f.type with | some q => q.size != 0 | none => false)
    | none => false
  | _ => false
theorem WL.fieldAddr {d : Nat} {t : TypeId} {x : Operand} {b o i off : Nat} (hw : want all r g = some true) (hd : Nat.blt d N = true) (hf : fieldB P t i off = true)
    (hx : ev r x = some (.pointer (some ⟨b, o, none⟩)))
    (next : WL ro P all Q N ds rest ((d, .pointer (some ⟨b, o + off, none⟩)) :: r) w) : WL ro P all Q N ds (⟨some d, .fieldAddr t x i, ty, pos, aft, g⟩ :: rest) r w := by
  refine WL.val hw hd (by intro c h; cases h) (fun a ha => ?_) next
  unfold fieldB at hf
  cases hu : P.underlying t with
  | none => rw [hu] at hf; cases hf
  | some u =>
    rw [hu] at hf
    cases u <;> try (cases hf; done)
    rename_i fs
    dsimp only at hf
    cases hfi : fs[i]? with
    | none => rw [hfi] at hf; cases hf
    | some f =>
      rw [hfi] at hf
      dsimp only at hf
      cases hq : P.info? f.type with
      | none => rw [hq] at hf; simp at hf
      | some q =>
        rw [hq] at hf
        simp only [Bool.and_eq_true, beq_iff_eq, bne_iff_ne, ne_eq] at hf
        simp [execOp, ha.ev hx, Instr.fieldAt, run_underlying hu, hfi, Instr.sureAddr, fieldPlace, sizeOf, typeInfo, hq, hf.2, addr_add, hf.1]
def sliceB (P : Program) (t e n : Nat) : Bool :=
  match P.underlying t with
  | some (.slice e') => e' == e && (match P.info? e with | some q => q.size == n | none => false)
  | _ => false
theorem sliceB_u {t e n : Nat} (h : sliceB P t e n = true) : P.underlying t = some (.slice e) ∧ ∃ q, P.info? e = some q ∧ q.size = n := by
  unfold sliceB at h
  cases hu : P.underlying t with
  | none => rw [hu] at h; cases h
  | some u =>
    rw [hu] at h
    cases u <;> try (cases h; done)
    simp only [Bool.and_eq_true, beq_iff_eq] at h
    obtain ⟨rfl, h⟩ := h
    refine ⟨rfl, ?_⟩
    cases hq : P.info? _ with
    | none => rw [hq] at h; cases h
    | some q => rw [hq] at h; exact ⟨q, rfl, beq_iff_eq.1 h⟩
theorem WL.indexAddr {d : Nat} {t e n : Nat} {x y : Operand} {b o len cap i : Nat} {k : IntKind} {j : Int} (hw : want all r g = some true) (hd : Nat.blt d N = true) (ht : sliceB P t e n = true)
    (hx : ev r x = some (.slice (some ⟨b, o, none⟩) len cap)) (hy : ev r y = some (.int k j)) (hj : j = i) (hi : i < len)
    (next : WL ro P all Q N ds rest ((d, .pointer (some ⟨b, o + i * n, none⟩)) :: r) w) : WL ro P all Q N ds (⟨some d, .indexAddr t x y, ty, pos, aft, g⟩ :: rest) r w := by
  obtain ⟨hu, q, hq, hs⟩ := sliceB_u ht
  subst hj
  refine WL.val hw hd (by intro c h; cases h) (fun a ha => ?_) next
  have : (0 : Int) ≤ (i : Int) ∧ (i : Int) < (len : Int) := by omega
  simp [execOp, ha.ev hx, ha.ev hy, Instr.indexAt, asIntOf, run_underlying hu, sizeOf, typeInfo, hq, hs, hi, addr_add]
def arrayB (P : Program) (t e m n : Nat) : Bool :=
  match P.underlying t with
  | some (.array m' e') => e' == e && m' == m && (match P.info? e with | some q => q.size == n | none => false)
  | _ => false
theorem arrayB_u {t e m n : Nat} (h : arrayB P t e m n = true) : P.underlying t = some (.array m e) ∧ ∃ q, P.info? e = some q ∧ q.size = n := by
  unfold arrayB at h
  cases hu : P.underlying t with
  | none => rw [hu] at h; cases h
  | some u =>
    rw [hu] at h
    cases u <;> try (cases h; done)
    simp only [Bool.and_eq_true, beq_iff_eq] at h
    obtain ⟨⟨rfl, rfl⟩, h⟩ := h
    refine ⟨rfl, ?_⟩
    cases hq : P.info? _ with
    | none => rw [hq] at h; cases h
    | some q => rw [hq] at h; exact ⟨q, rfl, beq_iff_eq.1 h⟩
theorem WL.indexAddrA {d : Nat} {t e m n : Nat} {x y : Operand} {b o i : Nat} {k : IntKind} {j : Int} (hw : want all r g = some true) (hd : Nat.blt d N = true) (ht : arrayB P t e m n = true)
    (hx : ev r x = some (.pointer (some ⟨b, o, none⟩))) (hy : ev r y = some (.int k j)) (hj : j = i) (hi : i < m)
    (next : WL ro P all Q N ds rest ((d, .pointer (some ⟨b, o + i * n, none⟩)) :: r) w) : WL ro P all Q N ds (⟨some d, .indexAddr t x y, ty, pos, aft, g⟩ :: rest) r w := by
  obtain ⟨hu, q, hq, hs⟩ := arrayB_u ht
  subst hj
  refine WL.val hw hd (by intro c h; cases h) (fun a ha => ?_) next
  simp [execOp, ha.ev hx, ha.ev hy, Instr.indexAt, Instr.sureAddr, asIntOf, run_underlying hu, sizeOf, typeInfo, hq, hs, hi, addr_add]
theorem WL.not {d : Nat} {t : TypeId} {x : Operand} {b : Bool} (hw : want all r g = some true) (hd : Nat.blt d N = true) (hx : ev r x = some (.bool b))
    (next : WL ro P all Q N ds rest ((d, .bool (!b)) :: r) w) : WL ro P all Q N ds (⟨some d, .unOp .not t x, ty, pos, aft, g⟩ :: rest) r w :=
  WL.val hw hd (by intro c h; cases h) (fun a ha => by simp [execOp, ha.ev hx, Op.unary]) next
theorem eqGuard_int {op : BinOp} {t : TypeId} {x y : Operand} {k k' : IntKind} {m n : Int} : (eqGuard op t x y (.int k m) (.int k' n)).run P w = .ok () w := by
  cases op <;> rfl
section ints
variable {d : Nat} {t t2 : TypeId} {x y : Operand} {k : IntKind} {m n : Int} (hw : want all r g = some true) (hd : Nat.blt d N = true) (hx : ev r x = some (.int k m)) (hy : ev r y = some (.int k n))
include hw hd hx hy
theorem WL.add {v : Int} (hv : k.wrap (m + n) = v) (next : WL ro P all Q N ds rest ((d, .int k v) :: r) w) : WL ro P all Q N ds (⟨some d, .binOp .add t x y t2, ty, pos, aft, g⟩ :: rest) r w :=
  WL.val hw hd (by intro c h; cases h) (fun a ha => by simp [execOp, ha.ev hx, ha.ev hy, eqGuard_int, binOp, Op.intArith, hv]) next
theorem WL.sub {v : Int} (hv : k.wrap (m - n) = v) (next : WL ro P all Q N ds rest ((d, .int k v) :: r) w) : WL ro P all Q N ds (⟨some d, .binOp .sub t x y t2, ty, pos, aft, g⟩ :: rest) r w :=
  WL.val hw hd (by intro c h; cases h) (fun a ha => by simp [execOp, ha.ev hx, ha.ev hy, eqGuard_int, binOp, Op.intArith, hv]) next
theorem WL.mul {v : Int} (hv : k.wrap (m * n) = v) (next : WL ro P all Q N ds rest ((d, .int k v) :: r) w) : WL ro P all Q N ds (⟨some d, .binOp .mul t x y t2, ty, pos, aft, g⟩ :: rest) r w :=
  WL.val hw hd (by intro c h; cases h) (fun a ha => by simp [execOp, ha.ev hx, ha.ev hy, eqGuard_int, binOp, Op.intArith, hv]) next
theorem WL.rem {v : Int} (h0 : n ≠ 0) (hv : m.tmod n = v) (next : WL ro P all Q N ds rest ((d, .int k v) :: r) w) : WL ro P all Q N ds (⟨some d, .binOp .rem t x y t2, ty, pos, aft, g⟩ :: rest) r w :=
  WL.val hw hd (by intro c h; cases h) (fun a ha => by simp [execOp, ha.ev hx, ha.ev hy, eqGuard_int, binOp, Op.intDiv, hv, h0]) next
theorem WL.quo {v : Int} (h0 : n ≠ 0) (hv : k.wrap (m.tdiv n) = v) (next : WL ro P all Q N ds rest ((d, .int k v) :: r) w) : WL ro P all Q N ds (⟨some d, .binOp .quo t x y t2, ty, pos, aft, g⟩ :: rest) r w :=
  WL.val hw hd (by intro c h; cases h) (fun a ha => by simp [execOp, ha.ev hx, ha.ev hy, eqGuard_int, binOp, Op.intDiv, hv, h0]) next
theorem WL.eql {b : Bool} (hb : (m == n) = b) (next : WL ro P all Q N ds rest ((d, .bool b) :: r) w) : WL ro P all Q N ds (⟨some d, .binOp .eql t x y t2, ty, pos, aft, g⟩ :: rest) r w :=
  WL.val hw hd (by intro c h; cases h) (fun a ha => by simp [execOp, ha.ev hx, ha.ev hy, eqGuard_int, binOp, Op.intCmp, hb]) next
theorem WL.neq {b : Bool} (hb : (m != n) = b) (next : WL ro P all Q N ds rest ((d, .bool b) :: r) w) : WL ro P all Q N ds (⟨some d, .binOp .neq t x y t2, ty, pos, aft, g⟩ :: rest) r w :=
  WL.val hw hd (by intro c h; cases h) (fun a ha => by simp [execOp, ha.ev hx, ha.ev hy, eqGuard_int, binOp, Op.intCmp, hb]) next
theorem WL.lss {b : Bool} (hb : decide (m < n) = b) (next : WL ro P all Q N ds rest ((d, .bool b) :: r) w) : WL ro P all Q N ds (⟨some d, .binOp .lss t x y t2, ty, pos, aft, g⟩ :: rest) r w :=
  WL.val hw hd (by intro c h; cases h) (fun a ha => by simp [execOp, ha.ev hx, ha.ev hy, eqGuard_int, binOp, Op.intCmp, hb]) next
theorem WL.leq {b : Bool} (hb : decide (m ≤ n) = b) (next : WL ro P all Q N ds rest ((d, .bool b) :: r) w) : WL ro P all Q N ds (⟨some d, .binOp .leq t x y t2, ty, pos, aft, g⟩ :: rest) r w :=
  WL.val hw hd (by intro c h; cases h) (fun a ha => by simp [execOp, ha.ev hx, ha.ev hy, eqGuard_int, binOp, Op.intCmp, hb]) next
theorem WL.gtr {b : Bool} (hb : decide (n < m) = b) (next : WL ro P all Q N ds rest ((d, .bool b) :: r) w) : WL ro P all Q N ds (⟨some d, .binOp .gtr t x y t2, ty, pos, aft, g⟩ :: rest) r w :=
  WL.val hw hd (by intro c h; cases h) (fun a ha => by simp [execOp, ha.ev hx, ha.ev hy, eqGuard_int, binOp, Op.intCmp, hb]) next
theorem WL.geq {b : Bool} (hb : decide (n ≤ m) = b) (next : WL ro P all Q N ds rest ((d, .bool b) :: r) w) : WL ro P all Q N ds (⟨some d, .binOp .geq t x y t2, ty, pos, aft, g⟩ :: rest) r w :=
  WL.val hw hd (by intro c h; cases h) (fun a ha => by simp [execOp, ha.ev hx, ha.ev hy, eqGuard_int, binOp, Op.intCmp, hb]) next
theorem WL.or {v : Int} (hv : k.wrap (BitVec.ofInt k.bits m ||| BitVec.ofInt k.bits n).toNat = v) (next : WL ro P all Q N ds rest ((d, .int k v) :: r) w) : WL ro P all Q N ds (⟨some d, .binOp .or t x y t2, ty, pos, aft, g⟩ :: rest) r w :=
  WL.val hw hd (by intro c h; cases h) (fun a ha => by simp only [execOp, ha.ev hx, ha.ev hy, eqGuard_int, binOp, Op.intBits, Sem.run_bind, Result.andThen_ok, Sem.run_pure, ne_eq, not_true_eq_false, if_false, hv]) next
end ints
theorem WL.shl {d : Nat} {t t2 : TypeId} {x y : Operand} {k k' : IntKind} {m : Int} {n : Nat} {v : Int} (hw : want all r g = some true) (hd : Nat.blt d N = true) (hx : ev r x = some (.int k m)) (hy : ev r y = some (.int k' n))
    (hv : k.wrap (m * 2 ^ (min n k.bits)) = v) (next : WL ro P all Q N ds rest ((d, .int k v) :: r) w) : WL ro P all Q N ds (⟨some d, .binOp .shl t x y t2, ty, pos, aft, g⟩ :: rest) r w :=
  WL.val hw hd (by intro c h; cases h) (fun a ha => by
    have h0 : ¬ ((n : Int) < 0) := by omega
    simp only [execOp, ha.ev hx, ha.ev hy, eqGuard_int, binOp, Op.shift, Sem.run_bind, Result.andThen_ok, Sem.run_pure, if_neg h0, Int.toNat_natCast, hv]) next
theorem WL.convInt {d : Nat} {s t : TypeId} {x : Operand} {k k' k'' : IntKind} {m v : Int} (hw : want all r g = some true) (hd : Nat.blt d N = true) (hs : P.underlying s = some (.int k')) (ht : P.underlying t = some (.int k)) (hx : ev r x = some (.int k'' m))
    (hv : k.wrap m = v) (next : WL ro P all Q N ds rest ((d, .int k v) :: r) w) : WL ro P all Q N ds (⟨some d, .convert s t x, ty, pos, aft, g⟩ :: rest) r w :=
  WL.val hw hd (by intro c h; cases h) (fun a ha => by simp [execOp, ha.ev hx, convert, run_underlying hs, run_underlying ht, Conv.intToInt, hv]) next
theorem WL.makeFunc {d f : Nat} {caps : Array Operand} {vs : List Value} (hw : want all r g = some true) (hd : Nat.blt d N = true) (hc : caps.toList.mapM (ev r) = some vs)
    (next : WL ro P all Q N ds rest ((d, .func (.func f) #[] vs.toArray) :: r) w) : WL ro P all Q N ds (⟨some d, .makeFunc (.func f) #[] caps, ty, pos, aft, g⟩ :: rest) r w :=
  WL.val hw hd (by intro c h; cases h) (fun a ha => by
    have hm : caps.map a.eval = vs.toArray := by
      apply Array.ext'
      simp only [Array.toList_map]
      clear next hw
      generalize caps.toList = l at hc
      induction l generalizing vs with
      | nil => simp at hc; subst hc; rfl
      | cons x l ih =>
        simp only [List.mapM_cons, Option.bind_eq_bind, Option.bind_eq_some_iff, Option.pure_def, Option.some.injEq] at hc
        obtain ⟨v, hv, vs', hvs, rfl⟩ := hc
        simp [ha.ev hv, ih hvs]
    simp [execOp, Instr.makeFunc, hm]) next
theorem WL.len {d : Nat} {t e : TypeId} {x : Operand} {a : Option Addr} {n c : Nat} (hw : want all r g = some true) (hd : Nat.blt d N = true) (ht : P.underlying t = some (.slice e)) (hx : ev r x = some (.slice a n c))
    (next : WL ro P all Q N ds rest ((d, .int .i64 n) :: r) w) : WL ro P all Q N ds (⟨some d, .call ⟨.builtin .len, #[x], #[t]⟩, ty, pos, aft, g⟩ :: rest) r w :=
  WL.val hw hd (by intro c h; cases h) (fun a ha => by simp [execOp, resolve, invoke, builtin, ha.ev hx, Builtin.len_, run_underlying ht, goInt]) next
theorem WL.lens {d : Nat} {t : TypeId} {x : Operand} {s : ByteArray} (hw : want all r g = some true) (hd : Nat.blt d N = true) (ht : P.underlying t = some .string) (hx : ev r x = some (.string s))
    (next : WL ro P all Q N ds rest ((d, .int .i64 s.size) :: r) w) : WL ro P all Q N ds (⟨some d, .call ⟨.builtin .len, #[x], #[t]⟩, ty, pos, aft, g⟩ :: rest) r w :=
  WL.val hw hd (by intro c h; cases h) (fun a ha => by simp [execOp, resolve, invoke, builtin, ha.ev hx, Builtin.len_, run_underlying ht, goInt]) next
theorem WL.min2 {d : Nat} {ts : Array TypeId} {x y : Operand} {k : IntKind} {m n : Int} {v : Int} (hw : want all r g = some true) (hd : Nat.blt d N = true) (hx : ev r x = some (.int k m)) (hy : ev r y = some (.int k n)) (hv : (if n < m then n else m) = v)
    (next : WL ro P all Q N ds rest ((d, .int k v) :: r) w) : WL ro P all Q N ds (⟨some d, .call ⟨.builtin .min, #[x, y], ts⟩, ty, pos, aft, g⟩ :: rest) r w :=
  WL.val hw hd (by intro c h; cases h) (fun a ha => by simp [execOp, resolve, invoke, builtin, ha.ev hx, ha.ev hy, Builtin.min_, Builtin.min2, hv]) next
theorem WL.max2 {d : Nat} {ts : Array TypeId} {x y : Operand} {k : IntKind} {m n : Int} {v : Int} (hw : want all r g = some true) (hd : Nat.blt d N = true) (hx : ev r x = some (.int k m)) (hy : ev r y = some (.int k n)) (hv : (if m < n then n else m) = v)
    (next : WL ro P all Q N ds rest ((d, .int k v) :: r) w) : WL ro P all Q N ds (⟨some d, .call ⟨.builtin .max, #[x, y], ts⟩, ty, pos, aft, g⟩ :: rest) r w :=
  WL.val hw hd (by intro c h; cases h) (fun a ha => by simp [execOp, resolve, invoke, builtin, ha.ev hx, ha.ev hy, Builtin.max_, Builtin.max2, hv]) next
theorem WL.max3 {d : Nat} {ts : Array TypeId} {x y z : Operand} {k : IntKind} {m n p : Int} {v : Int} (hw : want all r g = some true) (hd : Nat.blt d N = true) (hx : ev r x = some (.int k m)) (hy : ev r y = some (.int k n)) (hz : ev r z = some (.int k p)) (hv : (if (if m < n then n else m) < p then p else (if m < n then n else m)) = v)
    (next : WL ro P all Q N ds rest ((d, .int k v) :: r) w) : WL ro P all Q N ds (⟨some d, .call ⟨.builtin .max, #[x, y, z], ts⟩, ty, pos, aft, g⟩ :: rest) r w :=
  WL.val hw hd (by intro c h; cases h) (fun a ha => by simp [execOp, resolve, invoke, builtin, ha.ev hx, ha.ev hy, ha.ev hz, Builtin.max_, Builtin.max2, hv]) next
theorem WC.region {id : Nat} {l : List Oper} (h : WL ro P l.toArray Q N ds l r w) : WC ro P Q N ds (.region id l.toArray false) r w := fun a ha => wpIn_region_lit (h a ha)
theorem WL.done {c : Code} {K : Exit → Act → World → Prop} (h : WC ro P Q N ds c r w) : WL ro P all (Exit.then (c.wpIn (Wd ro) 0 P Q) K) N ds [] r w := fun a ha => h a ha
theorem WC.seq {x y : Code} {M : Act → World → Prop} (h : WC ro P (Exit.then M Q) N ds x r w) (h2 : ∀ a w', M a w' → y.wpIn (Wd ro) 0 P Q a w') : WC ro P Q N ds (.seq x y) r w :=
  fun a ha => wpIn_seq (wpIn_mono (h a ha) (fun e a w q => by cases e <;> first | exact h2 _ _ q | exact q))
theorem WC.seqk {x y : Code} (h : WC ro P (Exit.then (y.wpIn (Wd ro) 0 P Q) Q) N ds x r w) : WC ro P Q N ds (.seq x y) r w := fun a ha => wpIn_seq (h a ha)
theorem WC.cond_t {c : Operand} {x y : Code} (hc : ev r c = some (.bool true)) (h : WC ro P Q N ds x r w) : WC ro P Q N ds (.cond c x y) r w := fun a ha => wpIn_cond_true (ha.ev hc) (h a ha)
theorem WC.cond_f {c : Operand} {x y : Code} (hc : ev r c = some (.bool false)) (h : WC ro P Q N ds y r w) : WC ro P Q N ds (.cond c x y) r w := fun a ha => wpIn_cond_false (ha.ev hc) (h a ha)
theorem WC.skip {c : Code} {K : Exit → Act → World → Prop} (h : WC ro P Q N ds c r w) : WC ro P (Exit.then (c.wpIn (Wd ro) 0 P Q) K) N ds .skip r w := fun a ha => wpIn_skip (h a ha)
theorem WC.skip' (h : ∀ a, Fits N ds r a → Q .normal a w) : WC ro P Q N ds .skip r w := fun a ha => wpIn_skip (h a ha)
theorem WC.exit {id : Nat} (h : ∀ a, Fits N ds r a → Q (.exit id) a w) : WC ro P Q N ds (.exit id) r w := fun a ha => wpIn_exit (h a ha)
theorem WC.ret (h : ∀ a, Fits N ds r a → Q .ret a w) : WC ro P Q N ds .ret r w := fun a ha => wpIn_ret (h a ha)
theorem WC.block {id : Nat} {c : Code} (h : WC ro P (Exit.inBlock id Q) N ds c r w) : WC ro P Q N ds (.block id c) r w := fun a ha => wpIn_block (h a ha)
theorem WC.weaken {c : Code} {r' : Reg} (hr : subReg r r') (h : WC ro P Q N ds c r' w) : WC ro P Q N ds c r w := fun a ha => h a (ha.weaken hr)
theorem WC.mono {c : Code} {Q' : Exit → Act → World → Prop} (h : WC ro P Q' N ds c r w) (hq : ∀ e a w, Q' e a w → Q e a w) : WC ro P Q N ds c r w := fun a ha => wpIn_mono (h a ha) hq
theorem WC.loop {σ : Type} {c : Code} (I : σ → Reg → World → Prop) (μ : σ → Nat) (s0 : σ) (h0 : I s0 r w)
    (round : ∀ s r w, I s r w → WC ro P (Exit.then (fun a' w' => ∃ s' r', Fits N ds r' a' ∧ I s' r' w' ∧ μ s' < μ s) Q) N ds c r w) : WC ro P Q N ds (.loop c) r w := by
  intro a ha b k cs hro hb hr
  have key : ∀ j (s : σ) r w a, μ s = j → I s r w → Fits N ds r a →
      ∃ e a' w', Q e a' w' ∧ ArrivesIn (Machine.fenced P (Wd ro)) P (lone (b.atR a (.code c :: .inLoop c :: k)) cs w) b k cs e a' w' := by
    intro j
    induction j using Nat.strongRecOn with
    | _ j ih =>
      intro s r w a hj hI hf
      obtain ⟨e, a₁, w₁, hq, harr⟩ := round s r w hI a hf b (.inLoop c :: k) cs hro hb hr
      cases e with
      | normal =>
        obtain ⟨s', r', hf', hI', hlt⟩ := hq
        obtain ⟨e₂, a₂, w₂, hq₂, harr₂⟩ := ih (μ s') (hj ▸ hlt) s' r' w₁ a₁ rfl hI' hf'
        exact ⟨e₂, a₂, w₂, hq₂, .of_steps (StepsIn.trans harr (.one (fenced_calm hb hr rfl) stepR_inLoop)) harr₂⟩
      | exit id => exact ⟨_, a₁, w₁, hq, .pass (x := .inLoop c) rfl (fun _ _ => .inl (by simp)) harr⟩
      | goto l => exact ⟨_, a₁, w₁, hq, .pass (x := .inLoop c) rfl (fun _ _ => .inl (by simp)) harr⟩
      | ret => exact ⟨_, a₁, w₁, hq, .pass (x := .inLoop c) rfl (fun _ _ => .inl (by simp)) harr⟩
      | panic ch => exact ⟨_, a₁, w₁, hq, .pass (x := .inLoop c) rfl (fun _ _ => .inl (by simp)) harr⟩
      | outgrown => exact ⟨_, a₁, w₁, hq, .pass (x := .inLoop c) rfl (fun _ _ => .inl (by simp)) harr⟩
  obtain ⟨e, a', w', hq, harr⟩ := key _ s0 r w a rfl h0 ha
  exact ⟨e, a', w', hq, .of_steps (.one (fenced_calm hb hr rfl) stepR_loop) harr⟩
theorem exit_here {id : Nat} {a : Act} (h : Q .normal a w) : Exit.inBlock id Q (.exit id) a w := by simp only [Exit.inBlock, if_true]; exact h
theorem exit_out {id id' : Nat} {a : Act} (hne : (id == id') = false) (h : Q (.exit id) a w) : Exit.inBlock id' Q (.exit id) a w := by
  have : ¬ id = id' := by simpa using hne
  simp only [Exit.inBlock, this, if_false]; exact h
theorem Calls.enter {f : FuncId} {fn : Func} {c : Code} {args : List Value} {r : Reg} {N : Nat} {R : Ending → World → Prop} (hf : P.funcs[f]? = some fn) (hb : fn.body = some c)
    (hn : fn.ntmps = N) (hN : Nat.ble args.length N = true) (hr : (args.zipIdx.map fun (v, i) => (i, v)) = r) (h : WC none P (bodyPost P fn R) N [] c r w) : Calls P f args.toArray w R := by
  subst hn; subst hr
  have hN := Nat.le_of_ble_eq_true hN
  refine callsIn_wide.1 (callsIn_of_wp (n := 0) hf hb trivial (h _ ?_))
  refine ⟨by simp; omega, rfl, ?_⟩
  intro t v hl
  have key : ∀ (l : List Value) (k : Nat), look ((l.zipIdx k).map fun (v, i) => (i, v)) t = some v → k ≤ t ∧ l[t - k]? = some v := by
    intro l
    induction l with
    | nil => intro k h; simp [look] at h
    | cons x l ih =>
      intro k h
      simp only [List.zipIdx_cons, List.map_cons, look] at h
      by_cases e : Nat.beq k t = true
      · rw [e] at h
        have : k = t := Nat.eq_of_beq_eq_true e
        subst this
        simpa using h
      · have e' : Nat.beq k t = false := Bool.eq_false_iff.2 e
        rw [e'] at h
        obtain ⟨h1, h2⟩ := ih (k + 1) h
        refine ⟨by omega, ?_⟩
        have : t - k = (t - (k + 1)) + 1 := by omega
        rw [this]; simpa using h2
  obtain ⟨_, h2⟩ := key args 0 hl
  have hlt : t < args.length := by
    rcases Nat.lt_or_ge t args.length with h | h
    · exact h
    · rw [List.getElem?_eq_none (by simpa using h)] at h2; cases h2
  show (args.toArray ++ Array.replicate (fn.ntmps - args.toArray.size) undef)[t]? = some v
  rw [Array.getElem?_append_left (by simpa using hlt)]
  simpa using h2
theorem bodyPost_tmp {fn : Func} {R : Ending → World → Prop} {t : Nat} {v : Value} {a : Act} (hres : fn.results = #[.tmp t]) (h : Fits N [] r a) (hl : look r t = some v) (hR : R (.returned v) w) : bodyPost P fn R .ret a w :=
  ⟨h.defers, v, by rw [results_tmp hres]; simp [h.get t v hl], hR⟩
theorem bodyPost_unit' {fn : Func} {R : Ending → World → Prop} {a : Act} (hres : fn.results = #[]) (h : Fits N [] r a) (hR : R (.returned (.tuple #[])) w) : bodyPost P fn R .normal a w :=
  ⟨h.defers, _, results_none hres _ _ _, hR⟩
theorem bodyPost_cell {fn : Func} {R : Ending → World → Prop} {t : Nat} {ct t' : TypeId} {b : Nat} {l : List Value} {a : Act} (hres : fn.results = #[.cell t ct]) (h : Fits N [] r a) (hl : look r t = some (.pointer (some ⟨b, 0, none⟩)))
    (ht : aggB P ct l.length = true) (hr : Row w b l t') (hR : R (.returned (.agg l.toArray)) w) : bodyPost P fn R .ret a w :=
  ⟨h.defers, _, by simp [results, hres, h.get _ _ hl, asAddr, run_loadVar_agg ht hr.reads0], hR⟩
theorem WL.done' {c : Code} {Q' : Exit → Act → World → Prop} (h : WC ro P Q' N ds c r w) (hq : ∀ a w, c.wpIn (Wd ro) 0 P Q' a w → Q .normal a w) : WL ro P all Q N ds [] r w := fun a ha => hq a w (h a ha)
theorem WC.skip'' {c : Code} {Q' : Exit → Act → World → Prop} (h : WC ro P Q' N ds c r w) (hq : ∀ a w, c.wpIn (Wd ro) 0 P Q' a w → Q .normal a w) : WC ro P Q N ds .skip r w := fun a ha => wpIn_skip (hq a w (h a ha))
theorem WC.at {c : Code} {a : Act} (h : WC ro P Q N ds c r w) (ha : Fits N ds r a) : c.wpIn (Wd ro) 0 P Q a w := h a ha
theorem exit_then {M : Act → World → Prop} {id : Nat} {a : Act} (h : Q (.exit id) a w) : Exit.then M Q (.exit id) a w := h
theorem ret_then {M : Act → World → Prop} {a : Act} (h : Q .ret a w) : Exit.then M Q .ret a w := h
theorem ret_block {id : Nat} {a : Act} (h : Q .ret a w) : Exit.inBlock id Q .ret a w := h
def placesOf (P : Program) (t : TypeId) : Option (List (Nat × Nat)) :=
  match P.underlying t with
  | some (.struct fs) => fs.toList.mapM fun f => (P.info? f.type).map fun q => (f.offset, q.size)
  | _ => none
theorem run_places {fs : List Field} {pl : List (Nat × Nat)} (h : (fs.mapM fun f => (P.info? f.type).map fun q => (f.offset, q.size)) = some pl) :
    (fs.mapM fun f => do pure (f.offset, ← sizeOf f.type) : Sem (List (Nat × Nat))).run P w = .ok pl w := by
  induction fs generalizing pl with
  | nil => simp at h; subst h; rfl
  | cons f fs ih =>
    simp only [List.mapM_cons, Option.bind_eq_bind, Option.bind_eq_some_iff, Option.pure_def, Option.some.injEq, Option.map_eq_some_iff] at h
    obtain ⟨a, ⟨q, hq, rfl⟩, pl', hpl, rfl⟩ := h
    have := ih hpl
    simp only [Sem.run_bind, List.mapM_cons, sizeOf, typeInfo, run_program, Result.andThen_ok, hq, Sem.run_pure] at this ⊢
    rw [this]; rfl
theorem WL.build {d : Nat} {t : TypeId} {parts : Array (Nat × Operand)} {z : Value} {zl l : List Value} {pl : List (Nat × Nat)} {vs : List (Nat × Value)} (hw : want all r g = some true) (hd : Nat.blt d N = true) (hz : zeroB P t z)
    (hpl : placesOf P t = some pl) (hp : (z.cells = zl.toArray ∧ (parts.toList.mapM fun p => (ev r p.2).map fun v => (p.1, v)) = some vs) ∧ Instr.fill (fun i => pl[i]?) zl.toArray vs = some l.toArray)
    (next : WL ro P all Q N ds rest ((d, .agg l.toArray) :: r) w) : WL ro P all Q N ds (⟨some d, .build t parts, ty, pos, aft, g⟩ :: rest) r w := by
  obtain ⟨⟨hzl, hparts⟩, hfill⟩ := hp
  refine WL.val hw hd (by intro c h; cases h) (fun a ha => ?_) next
  have hm : (parts.map fun (i, x) => (i, a.eval x)).toList = vs := by
    simp only [Array.toList_map]
    clear next hw hfill
    generalize parts.toList = q at hparts
    induction q generalizing vs with
    | nil => simp at hparts; subst hparts; rfl
    | cons x q ih =>
      simp only [List.mapM_cons, Option.bind_eq_bind, Option.bind_eq_some_iff, Option.pure_def, Option.some.injEq, Option.map_eq_some_iff] at hparts
      obtain ⟨_, ⟨v, hv, rfl⟩, vs', hvs, rfl⟩ := hparts
      simp [ha.ev hv, ih hvs]
  unfold placesOf at hpl
  cases hu : P.underlying t with
  | none => rw [hu] at hpl; cases hpl
  | some u =>
    rw [hu] at hpl
    cases u <;> try (cases hpl; done)
    rename_i fs
    dsimp only at hpl
    have h1 := run_places (P := P) (w := w) hpl
    have h2 : (fs.mapM fun f => do pure (f.offset, ← sizeOf f.type) : Sem (Array (Nat × Nat))).run P w = .ok pl.toArray w := by
      rw [Array.mapM_eq_mapM_toList, Sem.run_map, h1]; rfl
    simp only [execOp, Instr.build, Sem.run_bind, run_zeroValue hz, Result.andThen_ok, run_underlying hu]
    rw [h2]
    simp only [Result.andThen_ok, hm, hzl]
    have h3 : Instr.fill (fun x => pl.toArray[x]?) zl.toArray vs = some l.toArray := by simpa using hfill
    rw [h3]
    rfl
theorem WL.build0 {d : Nat} {t : TypeId} {z : Value} {l : List Value} {n : Nat} (hw : want all r g = some true) (hd : Nat.blt d N = true) (hz : zeroB P t z) (_ht : aggB P t n = true) (hl : z.cells = l.toArray) (hpl : (placesOf P t).isSome = true ∨ ∃ e m q, P.underlying t = some (.array m e) ∧ P.info? e = some q)
    (next : WL ro P all Q N ds rest ((d, .agg l.toArray) :: r) w) : WL ro P all Q N ds (⟨some d, .build t #[], ty, pos, aft, g⟩ :: rest) r w := by
  rcases hpl with hpl | ⟨e, m, q, hu, hq⟩
  · obtain ⟨pl, hpl⟩ := Option.isSome_iff_exists.1 hpl
    exact WL.build (zl := l) (vs := []) hw hd hz hpl ⟨⟨hl, rfl⟩, rfl⟩ next
  · refine WL.val hw hd (by intro c h; cases h) (fun a ha => ?_) next
    simp [execOp, Instr.build, run_zeroValue hz, run_underlying hu, sizeOf, typeInfo, hq, Instr.fill, hl]
theorem Calls.caps1 {f : FuncId} {x y : Value} {R : Ending → World → Prop} (h : Calls P f #[x, y] w R) : Calls P f (#[x] ++ #[y]) w R := by simpa using h
theorem Calls.caps20 {f : FuncId} {x x' : Value} {R : Ending → World → Prop} (h : Calls P f #[x, x'] w R) : Calls P f (#[x, x'] ++ #[]) w R := by simpa using h
end steps
theorem WL.dn {ro : Option Nat} {P : Program} {all : Array Oper} {Q Q' : Exit → Act → World → Prop} {N : Nat} {ds : List Deferred} {r : Reg} {w : World} {c : Code} (h : WC ro P Q' N ds c r w) (hq : ∀ a w, c.wpIn (Wd ro) 0 P Q' a w → Q .normal a w := by exact fun _ _ h => h) : WL ro P all Q N ds [] r w := WL.done' h hq
theorem WC.sk {ro : Option Nat} {P : Program} {Q Q' : Exit → Act → World → Prop} {N : Nat} {ds : List Deferred} {r : Reg} {w : World} {c : Code} (h : WC ro P Q' N ds c r w) (hq : ∀ a w, c.wpIn (Wd ro) 0 P Q' a w → Q .normal a w := by exact fun _ _ h => h) : WC ro P Q N ds .skip r w := WC.skip'' h hq
section q
variable {ro : Option Nat} {P : Program} {all : Array Oper} {Q : Exit → Act → World → Prop} {N : Nat} {ds : List Deferred} {r : Reg} {w : World} {rest : List Oper} {ty : TypeId} {pos : String} {aft : Array Edge} {g : Option (Nat × Bool)}
theorem mv {d : Nat} {x : Operand} {v : Value} (next : WL ro P all Q N ds rest ((d, v) :: r) w) (hw : want all r g = some true := by exact rfl) (hd : Nat.blt d N = true := by exact rfl) (hx : ev r x = some v := by exact rfl) : WL ro P all Q N ds (⟨some d, .move x, ty, pos, aft, g⟩ :: rest) r w := WL.move hw hd hx next
theorem asg {d : Nat} {x : Operand} {v : Value} (next : WL ro P all Q N ds rest ((d, v) :: r) w) (hw : want all r g = some true := by exact rfl) (hd : Nat.blt d N = true := by exact rfl) (hx : ev r x = some v := by exact rfl) : WL ro P all Q N ds (⟨some d, .assign x, ty, pos, aft, g⟩ :: rest) r w := WL.assign hw hd hx next
theorem ps {d : Nat} {op : Op} (next : WL ro P all Q N ds rest ((d, undef) :: r) w) (hw : want all r g = some false := by exact rfl) (hd : Nat.blt d N = true := by exact rfl) : WL ro P all Q N ds (⟨some d, op, ty, pos, aft, g⟩ :: rest) r w := WL.pass hw hd next
theorem pT {d : Nat} {c x y : Operand} {v : Value} (next : WL ro P all Q N ds rest ((d, v) :: r) w) (hw : want all r g = some true := by exact rfl) (hd : Nat.blt d N = true := by exact rfl) (hc : ev r c = some (.bool true) := by exact rfl) (hx : ev r x = some v := by exact rfl) : WL ro P all Q N ds (⟨some d, .pick c x y, ty, pos, aft, g⟩ :: rest) r w := WL.pick_t hw hd hc hx next
theorem pF {d : Nat} {c x y : Operand} {v : Value} (next : WL ro P all Q N ds rest ((d, v) :: r) w) (hw : want all r g = some true := by exact rfl) (hd : Nat.blt d N = true := by exact rfl) (hc : ev r c = some (.bool false) := by exact rfl) (hx : ev r y = some v := by exact rfl) : WL ro P all Q N ds (⟨some d, .pick c x y, ty, pos, aft, g⟩ :: rest) r w := WL.pick_f hw hd hc hx next
theorem sq {id : Nat} {l : List Oper} {y : Code} (h : WL ro P l.toArray (Exit.then (y.wpIn (Wd ro) 0 P Q) Q) N ds l r w) : WC ro P Q N ds (.seq (.region id l.toArray false) y) r w := WC.seqk (WC.region h)
theorem cF {c : Operand} {x y : Code} (h : WC ro P Q N ds y r w) (hc : ev r c = some (.bool false) := by exact rfl) : WC ro P Q N ds (.cond c x y) r w := WC.cond_f hc h
theorem cT {c : Operand} {x y : Code} (h : WC ro P Q N ds x r w) (hc : ev r c = some (.bool true) := by exact rfl) : WC ro P Q N ds (.cond c x y) r w := WC.cond_t hc h
theorem s4 {k l m n : Nat} {u v x y : Value} {z : Reg} (h : subReg r z) (h1 : look r k = some u := by exact rfl) (h2 : look r l = some v := by exact rfl) (h3 : look r m = some x := by exact rfl) (h4 : look r n = some y := by exact rfl) : subReg r ((k, u) :: (l, v) :: (m, x) :: (n, y) :: z) := subReg_cons h1 (subReg_cons h2 (subReg_cons h3 (subReg_cons h4 h)))
end q
end Go.Proofs.Ytaggidjijekpbaa
namespace Go.Proofs.Ytaggidjijekpbaa
structure S4 where
  a : Int
  b : Int
  c : Int
  d : Int
  deriving DecidableEq
inductive Nd where
  | mk (k : Int) (s : S4) (mn mx : Int) (subs : List Nd)
def maxI (a b : Int) : Int := if a < b then b else a
def minI (a b : Int) : Int := if b < a then b else a
namespace Nd
def kind : Nd → Int | mk k _ _ _ _ => k
def set : Nd → S4 | mk _ s _ _ _ => s
def least : Nd → Int | mk _ _ m _ _ => m
def most : Nd → Int | mk _ _ _ m _ => m
def subs : Nd → List Nd | mk _ _ _ _ l => l
theorem ind {motive : Nd → Prop} (h : ∀ k s mn mx ts, (∀ t ∈ ts, motive t) → motive (mk k s mn mx ts)) : ∀ t, motive t := by
  intro t
  refine Nd.rec (motive_1 := motive) (motive_2 := fun l => ∀ t ∈ l, motive t) (fun k s mn mx ts ih => h k s mn mx ts ih) ?_ ?_ t
  · intro t ht; cases ht
  · intro x l hx hl t ht
    cases ht with
    | head => exact hx
    | tail _ h => exact hl t h
mutual
def size : Nd → Nat
  | mk _ _ _ _ ts => 1 + sizeL ts
def sizeL : List Nd → Nat
  | [] => 0
  | t :: ts => t.size + sizeL ts
end
mutual
def pre : Nd → List Nd
  | mk k s mn mx ts => mk k s mn mx ts :: preL ts
def preL : List Nd → List Nd
  | [] => []
  | t :: ts => t.pre ++ preL ts
end
theorem size_pos (t : Nd) : 0 < t.size := by cases t; simp [size]; omega
theorem pre_length : ∀ t : Nd, t.pre.length = t.size := by
  intro t
  induction t using ind with
  | h k s mn mx ts ih =>
    have : (preL ts).length = sizeL ts := by
      induction ts with
      | nil => rfl
      | cons x l ihl => simp [preL, sizeL, ih x (by simp), ihl (fun t ht => ih t (by simp [ht]))]
    simp [pre, size, this]; omega
theorem preL_append (a b : List Nd) : preL (a ++ b) = preL a ++ preL b := by
  induction a with
  | nil => rfl
  | cons x l ih => simp [preL, ih]
theorem sizeL_append (a b : List Nd) : sizeL (a ++ b) = sizeL a + sizeL b := by
  induction a with
  | nil => simp [sizeL]
  | cons x l ih => simp [sizeL, ih]; omega
theorem length_le_sizeL (ts : List Nd) : ts.length ≤ sizeL ts := by
  induction ts with
  | nil => simp
  | cons x l ih => have := size_pos x; simp [sizeL]; omega
theorem size_le_sizeL {t : Nd} {ts : List Nd} (h : t ∈ ts) : t.size ≤ sizeL ts := by
  induction ts with
  | nil => cases h
  | cons x l ih =>
    cases h with
    | head => simp [sizeL]
    | tail _ h => have := ih h; simp [sizeL]; omega
theorem size_subs (t : Nd) : t.size = 1 + sizeL t.subs := by cases t; rfl
def zero : S4 := ⟨0, 0, 0, 0⟩
def none : Nd := mk 0 zero 0 0 []
def empty : Nd := mk 1 zero 0 0 []
def light (t : Nd) : Bool := decide (t.size ≤ 10000)
def bounds (least most : Int) : Bool :=
  decide (0 ≤ least) && decide (least ≤ 16) && !(least == 1 && most == 1) && (most == -1 || (decide (1 ≤ most) && decide (most ≤ 16) && decide (least ≤ most)))
def has (t : Nd) (k : Int) : Bool := t.subs.any fun x => x.kind == k
def right (t : Nd) : Bool :=
  !((t.kind != 2 && t.set != zero) || (t.kind != 5 && (t.least != 0 || t.most != 0)) || (decide (t.kind < 3) && decide ((0 : Int) < t.subs.length))) &&
  (bif t.kind == 1 then true
   else bif t.kind == 2 then t.set != zero
   else bif t.kind == 3 then decide ((1 : Int) < t.subs.length) && !t.has 1 && !t.has 3
   else bif t.kind == 4 then decide ((1 : Int) < t.subs.length) && !t.has 4
   else bif t.kind == 5 then ((t.subs.length : Int) == 1) && bounds t.least t.most && !t.has 1
   else t.kind == 6 && ((t.subs.length : Int) == 1))
def clean (t : Nd) : Bool := t.light && t.pre.all right
mutual
def same : Nd → Nd → Bool
  | mk k s mn mx ts, mk k' s' mn' mx' ts' => k == k' && s == s' && mn == mn' && mx == mx' && sameL ts ts'
def sameL : List Nd → List Nd → Bool
  | [], [] => true
  | t :: ts, t' :: ts' => t.same t' && sameL ts ts'
  | _, _ => false
end
def tms (mn mx : Int) : Int := bif mx == -1 then maxI (maxI mn 0) 1 else maxI (maxI mn 0) mx
mutual
def posn : Nd → Int
  | mk k _ mn mx ts => minI (bif k == 5 then ((bif k == 2 then 1 else 0) + posnL ts) * minI (tms mn mx) 10001 else (bif k == 2 then 1 else 0) + posnL ts) 10001
def posnL : List Nd → Int
  | [] => 0
  | t :: ts => t.posn + posnL ts
end
theorem posn_eq (t : Nd) : t.posn = minI (bif t.kind == 5 then ((bif t.kind == 2 then 1 else 0) + posnL t.subs) * minI (tms t.least t.most) 10001 else (bif t.kind == 2 then 1 else 0) + posnL t.subs) 10001 := by cases t; simp [posn, kind, subs, least, most]
theorem tms_pos (mn mx : Int) : 0 ≤ tms mn mx := by unfold tms; cases h : (mx == -1) <;> simp [maxI] <;> omega
theorem posn_bd : ∀ t : Nd, 0 ≤ t.posn ∧ t.posn ≤ 10001 := by
  intro t
  induction t using ind with
  | h k s mn mx ts ih =>
    have h0 : 0 ≤ posnL ts := by
      induction ts with
      | nil => simp [posnL]
      | cons x l ihl => have := ih x (by simp); have := ihl (fun t ht => ih t (by simp [ht])); simp [posnL]; omega
    have h1 := tms_pos mn mx
    have h2 : 0 ≤ minI (tms mn mx) 10001 := by unfold minI; split <;> omega
    have h3 : (0 : Int) ≤ (bif k == 2 then 1 else 0) := by cases (k == 2) <;> simp
    have h4 := Int.mul_nonneg (show (0 : Int) ≤ (bif k == 2 then 1 else 0) + posnL ts by omega) h2
    simp only [posn]
    generalize ((bif k == 2 then (1 : Int) else 0) + posnL ts) * minI (tms mn mx) 10001 = q at h4
    cases (k == 5) <;> simp only [cond_true, cond_false, minI] <;> split <;> omega
theorem posnL_bd (ts : List Nd) : 0 ≤ posnL ts ∧ posnL ts ≤ 10001 * ts.length := by
  induction ts with
  | nil => simp [posnL]
  | cons x l ih => have := posn_bd x; simp [posnL]; omega
theorem posnL_append (a b : List Nd) : posnL (a ++ b) = posnL a + posnL b := by
  induction a with
  | nil => simp [posnL]
  | cons x l ih => simp [posnL, ih]; omega
theorem posnL_succ {ts : List Nd} {k : Nat} {t : Nd} (h : ts[k]? = some t) : posnL (ts.take (k + 1)) = posnL (ts.take k) + t.posn := by
  rw [List.take_add_one, h, posnL_append]; simp [posnL]
def posns (t : Nd) : Int := if t.light then t.posn else 10001
def groups (t : Nd) : Int := if t.light then ((t.pre.filter fun x => x.kind == 6).length : Int) else 10001
def sizes (t : Nd) : Int := if t.light then (t.size : Int) else 10001
def check (t : Nd) : Int := if !t.clean then 80 else if t.sizes > 120 then 81 else if t.posns > 400 then 82 else if t.groups > 9 then 83 else 0
def setsOf (t : Nd) : List S4 := if t.light then t.pre.foldl (fun l x => if x.kind == 2 && !l.contains x.set then l ++ [x.set] else l) [] else []
theorem same_iff : ∀ a b : Nd, a.same b = true ↔ a = b := by
  intro a
  induction a using ind with
  | h k s mn mx ts ih =>
    intro b
    obtain ⟨k', s', mn', mx', ts'⟩ := b
    have key : ∀ l' : List Nd, sameL ts l' = true ↔ ts = l' := by
      clear k s mn mx k' s' mn' mx' ts'
      induction ts with
      | nil => intro l'; cases l' <;> simp [sameL]
      | cons x l ihl =>
        intro l'
        cases l' with
        | nil => simp [sameL]
        | cons y l' => simp [sameL, ih x (by simp) y, ihl (fun t ht => ih t (by simp [ht])) l']
    simp [same, key]
    constructor
    · rintro ⟨⟨⟨⟨rfl, rfl⟩, rfl⟩, rfl⟩, rfl⟩; exact ⟨rfl, rfl, rfl, rfl, rfl⟩
    · rintro ⟨rfl, rfl, rfl, rfl, rfl⟩; exact ⟨⟨⟨⟨rfl, rfl⟩, rfl⟩, rfl⟩, rfl⟩
end Nd
end Go.Proofs.Ytaggidjijekpbaa
namespace Go.Proofs.Ytaggidjijekpbaa
def idxI {α : Type} (p : α → Bool) : List α → Int
  | [] => -1
  | t :: ts => if p t then 0 else (match idxI p ts with | .ofNat n => (n : Int) + 1 | i => i)
theorem idxI_spec {α : Type} (p : α → Bool) (ts : List α) : (∀ t ∈ ts, p t = false) ∧ idxI p ts = -1 ∨ ∃ n : Nat, idxI p ts = n ∧ n < ts.length ∧ (∃ t, ts[n]? = some t ∧ p t = true) ∧ ∀ (m : Nat) (t : α), m < n → ts[m]? = some t → p t = false := by
  induction ts with
  | nil => left; simp [idxI]
  | cons x ts ih =>
    by_cases hx : p x = true
    · right; exact ⟨0, by simp [idxI, hx], by simp, ⟨x, by simp, hx⟩, fun m t hm => by omega⟩
    · have hx' : p x = false := by simpa using hx
      rcases ih with ⟨h1, h2⟩ | ⟨n, h1, h2, h3, h4⟩
      · left; refine ⟨?_, by simp [idxI, hx', h2]⟩
        intro t ht
        cases ht with
        | head => exact hx'
        | tail _ h => exact h1 t h
      · right; refine ⟨n + 1, by simp [idxI, hx', h1], by simp; omega, by simpa using h3, ?_⟩
        intro m t hm hmt
        cases m with
        | zero => simp at hmt; subst hmt; exact hx'
        | succ m => exact h4 m t (by omega) (by simpa using hmt)
theorem idxI_any {α : Type} (p : α → Bool) (ts : List α) : decide (0 ≤ idxI p ts) = ts.any p := by
  rcases idxI_spec p ts with ⟨h1, h2⟩ | ⟨n, h1, h2, ⟨t, h3, h4⟩, _⟩
  · rw [h2]; rw [Bool.eq_iff_iff]; simp; intro x hx; simpa using h1 x hx
  · rw [h1]; rw [Bool.eq_iff_iff]; simp; exact ⟨t, List.mem_of_getElem? h3, h4⟩
theorem idxI_at {α : Type} {p : α → Bool} {ts : List α} {n : Nat} {t : α} (ht : ts[n]? = some t) (hp : p t = true) (h : ∀ (m : Nat) (t : α), m < n → ts[m]? = some t → p t = false) : idxI p ts = n := by
  rcases idxI_spec p ts with ⟨h1, _⟩ | ⟨k, h1, _, ⟨u, h3, h4⟩, h5⟩
  · rw [h1 t (List.mem_of_getElem? ht)] at hp; cases hp
  · rcases Nat.lt_trichotomy k n with hk | rfl | hk
    · rw [h k u hk h3] at h4; cases h4
    · exact h1
    · rw [h5 n t hk ht] at hp; cases hp
theorem idxI_none {α : Type} {p : α → Bool} {ts : List α} (h : ∀ (m : Nat) (t : α), m < ts.length → ts[m]? = some t → p t = false) : idxI p ts = -1 := by
  rcases idxI_spec p ts with ⟨_, h2⟩ | ⟨k, h1, h2, ⟨u, h3, h4⟩, _⟩
  · exact h2
  · rw [h k u h2 h3] at h4; cases h4
theorem minmax_bd (a b : Int) : 0 ≤ minI (maxI (maxI a 0) b) 10001 ∧ minI (maxI (maxI a 0) b) 10001 ≤ 10001 := by
  unfold minI maxI; (repeat' split) <;> omega
theorem mul_fits {x y : Int} (h0 : 0 ≤ x) (h1 : x ≤ 900000000000000) (h2 : 0 ≤ y) (h3 : y ≤ 10001) : IntKind.i64.wrap (x * y) = x * y := by
  have a := Int.mul_nonneg h0 h2
  have b := Int.mul_le_mul h1 h3 h2 (by omega)
  exact IntWalk.i64_in _ (by omega)
end Go.Proofs.Ytaggidjijekpbaa
namespace Go.Proofs.Ytaggidjijekpbaa
open Go.RowKit
abbrev ncells (k : Int) (s : S4) (mn mx : Int) (sl : Value) : List Value :=
  [.int .u8 k, .int .u64 s.a, .int .u64 s.b, .int .u64 s.c, .int .u64 s.d, .int .i64 mn, .int .i64 mx, sl]
def SliceV (D : Nat → Prop) (w : World) (n : Nat) (sl : Value) (vs : List (List Value)) : Prop :=
  ∃ a cap, sl = .slice a vs.length cap ∧ (vs.length ≤ cap ∧ vs.length ≤ 140737488355328) ∧ (∀ l ∈ vs, l.length = n) ∧
    (vs = [] ∨ ∃ b o, a = some ⟨b, o, none⟩ ∧ D b ∧ ∀ (i : Nat) (l : List Value), vs[i]? = some l → Reads w b (o + i * n) l)
inductive NodeL (D : Nat → Prop) (w : World) : List Value → Nd → Prop
  | mk (k : Int) (s : S4) (mn mx : Int) (sl : Value) (ls : List (List Value)) (ts : List Nd) (hsl : SliceV D w 8 sl ls) (hlen : ls.length = ts.length)
      (h : ∀ (i : Nat) (l : List Value) (t : Nd), ls[i]? = some l → ts[i]? = some t → NodeL D w l t) : NodeL D w (ncells k s mn mx sl) (.mk k s mn mx ts)
def NodesV (D : Nat → Prop) (w : World) (sl : Value) (ts : List Nd) : Prop :=
  ∃ ls, SliceV D w 8 sl ls ∧ ls.length = ts.length ∧ ∀ (i : Nat) (l : List Value) (t : Nd), ls[i]? = some l → ts[i]? = some t → NodeL D w l t
theorem NodeL.open {D w l k s mn mx ts} (h : NodeL D w l (.mk k s mn mx ts)) : ∃ sl, l = ncells k s mn mx sl ∧ NodesV D w sl ts := by
  cases h with
  | mk _ _ _ _ sl ls _ hsl hlen h => exact ⟨sl, rfl, ls, hsl, hlen, h⟩
theorem NodeL.shut {D w k s mn mx sl ts} (h : NodesV D w sl ts) : NodeL D w (ncells k s mn mx sl) (.mk k s mn mx ts) := by
  obtain ⟨ls, h1, h2, h3⟩ := h
  exact .mk k s mn mx sl ls ts h1 h2 h3
abbrev tcells (t : Nd) (sl : Value) : List Value := ncells t.kind t.set t.least t.most sl
theorem NodeL.opn {D w l t} (h : NodeL D w l t) : ∃ sl, l = tcells t sl ∧ NodesV D w sl t.subs := by
  obtain ⟨k, s, mn, mx, ts⟩ := t
  exact h.open
theorem NodeL.mk' {D w sl t} (h : NodesV D w sl t.subs) : NodeL D w (tcells t sl) t := by
  obtain ⟨k, s, mn, mx, ts⟩ := t
  exact NodeL.shut h
theorem NodeL.length {D w l t} (h : NodeL D w l t) : l.length = 8 := by cases h; rfl
theorem SliceV.step {D D' : Nat → Prop} {w w' : World} {n sl vs} (h : SliceV D w n sl vs) (hD : ∀ b, D b → D' b)
    (hw : ∀ b o l, D b → Reads w b o l → Reads w' b o l) : SliceV D' w' n sl vs := by
  obtain ⟨a, cap, rfl, hc, hn, h⟩ := h
  refine ⟨a, cap, rfl, hc, hn, ?_⟩
  rcases h with h | ⟨b, o, ha, hb, hr⟩
  · exact .inl h
  · exact .inr ⟨b, o, ha, hD b hb, fun i l hi => hw _ _ _ hb (hr i l hi)⟩
theorem NodeL.step {D D' : Nat → Prop} {w w' : World} {l t} (h : NodeL D w l t) (hD : ∀ b, D b → D' b)
    (hw : ∀ b o l, D b → Reads w b o l → Reads w' b o l) : NodeL D' w' l t := by
  induction h with
  | mk k s mn mx sl ls ts hsl hlen _ ih => exact .mk k s mn mx sl ls ts (hsl.step hD hw) hlen ih
theorem NodesV.step {D D' : Nat → Prop} {w w' : World} {sl ts} (h : NodesV D w sl ts) (hD : ∀ b, D b → D' b)
    (hw : ∀ b o l, D b → Reads w b o l → Reads w' b o l) : NodesV D' w' sl ts := by
  obtain ⟨ls, h1, h2, h3⟩ := h
  exact ⟨ls, h1.step hD hw, h2, fun i l t hl ht => (h3 i l t hl ht).step hD hw⟩
theorem NodeL.ext {D w w' l t} (h : NodeL D w l t) (e : Ext w w') : NodeL D w' l t := h.step (fun _ h => h) (fun _ _ _ _ hr => hr.ext e)
theorem NodesV.ext {D w w' sl ts} (h : NodesV D w sl ts) (e : Ext w w') : NodesV D w' sl ts := h.step (fun _ h => h) (fun _ _ _ _ hr => hr.ext e)
theorem NodeL.dom {D D' : Nat → Prop} {w l t} (h : NodeL D w l t) (hD : ∀ b, D b → D' b) : NodeL D' w l t := h.step hD (fun _ _ _ _ hr => hr)
theorem NodesV.dom {D D' : Nat → Prop} {w sl ts} (h : NodesV D w sl ts) (hD : ∀ b, D b → D' b) : NodesV D' w sl ts := h.step hD (fun _ _ _ _ hr => hr)
theorem NodeL.but {D w w' l t b} (h : NodeL D w l t) (e : But b w w') (hb : ¬ D b) : NodeL D w' l t := h.step (fun _ h => h) (fun _c _ _ hc hr => e.reads hr (fun h => hb (h ▸ hc)))
theorem NodesV.but {D w w' sl ts b} (h : NodesV D w sl ts) (e : But b w w') (hb : ¬ D b) : NodesV D w' sl ts := h.step (fun _ h => h) (fun _c _ _ hc hr => e.reads hr (fun h => hb (h ▸ hc)))
theorem Reads.lt {w b o l} (h : Reads w b o l) (hl : 0 < l.length) : b < w.heap.size := by
  have := h 0 (l[0]'hl) (by simp)
  exact World.block_lt_of_cell? w _ this
theorem SliceV.lt {D : Nat → Prop} {w n sl vs} (h : SliceV D w n sl vs) (hn : 0 < n) : SliceV (fun b => D b ∧ b < w.heap.size) w n sl vs := by
  obtain ⟨a, cap, rfl, hc, hl, h⟩ := h
  refine ⟨a, cap, rfl, hc, hl, ?_⟩
  rcases h with h | ⟨b, o, ha, hb, hr⟩
  · exact .inl h
  · cases vs with
    | nil => exact .inl rfl
    | cons x vs => exact .inr ⟨b, o, ha, ⟨hb, (hr 0 x rfl).lt (by rw [hl x (by simp)]; exact hn)⟩, hr⟩
theorem NodeL.lt {D : Nat → Prop} {w l t} (h : NodeL D w l t) : NodeL (fun b => D b ∧ b < w.heap.size) w l t := by
  induction h with
  | mk k s mn mx sl ls ts hsl hlen _ ih => exact .mk k s mn mx sl ls ts (hsl.lt (by omega)) hlen ih
theorem NodesV.lt {D : Nat → Prop} {w sl ts} (h : NodesV D w sl ts) : NodesV (fun b => D b ∧ b < w.heap.size) w sl ts := by
  obtain ⟨ls, h1, h2, h3⟩ := h
  exact ⟨ls, h1.lt (by omega), h2, fun i l t hl ht => (h3 i l t hl ht).lt⟩
theorem NodesV.get {D w sl ts} (h : NodesV D w sl ts) : ∃ a cap, sl = .slice a ts.length cap ∧ (ts.length ≤ cap ∧ ts.length ≤ 140737488355328) ∧
    ∀ (i : Nat) (t : Nd), ts[i]? = some t → ∃ b o l, a = some ⟨b, o, none⟩ ∧ D b ∧ Reads w b (o + i * 8) l ∧ l.length = 8 ∧ NodeL D w l t := by
  obtain ⟨ls, ⟨a, cap, rfl, hc, hn, h⟩, h2, h3⟩ := h
  refine ⟨a, cap, by rw [h2], by omega, fun i t ht => ?_⟩
  have hi : i < ls.length := by rw [h2]; exact (List.getElem?_eq_some_iff.1 ht).1
  rcases h with h | ⟨b, o, ha, hb, hr⟩
  · subst h; simp at hi
  · exact ⟨b, o, ls[i], ha, hb, hr i _ (by simp [hi]), hn _ (by simp), h3 i _ t (by simp [hi]) ht⟩
theorem NodesV.at {D w a n cap ts} (h : NodesV D w (.slice a n cap) ts) {i : Nat} {t : Nd} (ht : ts[i]? = some t) :
    ∃ b o l, a = some ⟨b, o, none⟩ ∧ D b ∧ Reads w b (o + i * 8) l ∧ NodeL D w l t := by
  obtain ⟨a', cap', he, _, hg⟩ := h.get
  cases he
  obtain ⟨b, o, l, ha, hb, hr, _, hn⟩ := hg i t ht
  exact ⟨b, o, l, ha, hb, hr, hn⟩
theorem NodesV.len {D w a n cap ts} (h : NodesV D w (.slice a n cap) ts) : n = ts.length ∧ ts.length ≤ cap ∧ ts.length ≤ 140737488355328 := by
  obtain ⟨a', cap', he, hc, _⟩ := h.get
  cases he
  exact ⟨rfl, hc⟩
theorem NodesV.nil (D : Nat → Prop) (w : World) (a : Option Addr) (cap : Nat) : NodesV D w (.slice a 0 cap) [] :=
  ⟨[], ⟨a, cap, rfl, by simp, by simp, .inl rfl⟩, rfl, fun i l t h => by simp at h⟩
theorem NodesV.single {D : Nat → Prop} {w : World} {b : Nat} {l : List Value} {t : Nd} {ty : TypeId} (hr : Row w b l ty) (hl : NodeL D w l t) (hb : D b) : NodesV D w (.slice (some ⟨b, 0, none⟩) 1 1) [t] := by
  refine ⟨[l], ⟨_, 1, rfl, by simp, by simp [hl.length], .inr ⟨b, 0, rfl, hb, ?_⟩⟩, rfl, ?_⟩
  · intro i l' hi
    cases i with
    | zero => simp at hi; subst hi; simpa using hr.reads0
    | succ i => simp at hi
  · intro i l' t' h1 h2
    cases i with
    | zero => simp at h1 h2; subst h1; subst h2; exact hl
    | succ i => simp at h1
theorem NodesV.row {D : Nat → Prop} {w : World} {b cap : Nat} {ls : List (List Value)} {ts : List Nd} {more : List Value} {ty : TypeId} (hr : Row w b (ls.flatten ++ more) ty) (hb : D b) (hlen : ls.length = ts.length) (hcap : ls.length ≤ cap ∧ ls.length ≤ 140737488355328)
    (h8 : ∀ l ∈ ls, l.length = 8)
    (h : ∀ (i : Nat) (l : List Value) (t : Nd), ls[i]? = some l → ts[i]? = some t → NodeL D w l t) : NodesV D w (.slice (some ⟨b, 0, none⟩) ts.length cap) ts := by
  refine ⟨ls, ⟨_, cap, by rw [hlen], hcap, h8, .inr ⟨b, 0, rfl, hb, ?_⟩⟩, hlen, h⟩
  intro i l hi j v hj
  rw [hr.cell]
  have key : ∀ (ls : List (List Value)) (more : List Value), (∀ l ∈ ls, l.length = 8) → ∀ i, ls[i]? = some l → (ls.flatten ++ more)[i * 8 + j]? = some v := by
    intro ls
    induction ls with
    | nil => intro _ _ i h; simp at h
    | cons x ls ih =>
      intro more h8 i hi
      have hx := h8 x (by simp)
      simp only [List.flatten_cons, List.append_assoc]
      cases i with
      | zero =>
        simp at hi; subst hi
        have : j < x.length := (List.getElem?_eq_some_iff.1 hj).1
        rw [List.getElem?_append_left (by omega)]; simpa using hj
      | succ i =>
        rw [List.getElem?_append_right (by omega)]
        have : (i + 1) * 8 + j - x.length = i * 8 + j := by omega
        rw [this]
        exact ih more (fun l hl => h8 l (by simp [hl])) i (by simpa using hi)
  have := key ls more h8 i hi
  simpa [Nat.add_comm, Nat.add_assoc] using this
abbrev scells (s : S4) : List Value := [.int .u64 s.a, .int .u64 s.b, .int .u64 s.c, .int .u64 s.d]
section sets
variable {ro : Option Nat} {P : Program} {all : Array Oper} {Q : Exit → Act → World → Prop} {N : Nat} {ds : List Deferred} {r : Reg} {w : World} {rest : List Oper}
  {ty : TypeId} {pos : String} {aft : Array Edge} {g : Option (Nat × Bool)}
theorem run_equal_set {t e : TypeId} (d : Nat) (ht : arrayB P t e 4 1 = true) (he : P.underlying e = some (.int .u64)) (s s' : S4) :
    (Op.equalIn (d + 2) t (.agg (scells s).toArray) (.agg (scells s').toArray)).run P w = .ok (s == s') w := by
  obtain ⟨hu, q, hq, hs⟩ := arrayB_u ht
  have hc : P.cellsOf e = 1 := by simp [Program.cellsOf, hq, hs]
  rw [run_equalIn_array w (d + 1) _ _ hu hq, hc]
  have hl : List.range 4 = [0, 1, 2, 3] := rfl
  have ha : (isAgg e).run P w = .ok false w := by unfold isAgg; rw [Sem.run_bind, run_underlying he w]; rfl
  have hp : ∀ (x : S4) (j : Nat) (v : Value), (scells x)[j]? = some v → (part e (scells x).toArray (j * 1)).run P w = .ok v w := by
    intro x j v hj
    simp [part, ha, hj]
  have hi : ∀ a b : Int, (Op.equalIn (d + 1) e (.int .u64 a) (.int .u64 b)).run P w = .ok (a == b) w := fun a b => run_equalIn_int w d e .u64 .u64 a b he
  rw [hl]
  simp only [Op.eqItems, Sem.run_bind]
  have p0 := hp s 0 _ rfl
  have p1 := hp s 1 _ rfl
  have p2 := hp s 2 _ rfl
  have p3 := hp s 3 _ rfl
  have q0 := hp s' 0 _ rfl
  have q1 := hp s' 1 _ rfl
  have q2 := hp s' 2 _ rfl
  have q3 := hp s' 3 _ rfl
  simp only [p0, q0, Result.andThen_ok, hi]
  by_cases h0 : s.a = s'.a
  · by_cases h1 : s.b = s'.b
    · by_cases h2 : s.c = s'.c
      · by_cases h3 : s.d = s'.d
        · have : s = s' := by cases s; cases s'; simp_all
          subst this
          simp [p1, p2, p3, hi]
        · have : ¬ s = s' := fun h => h3 (by rw [h])
          simp [h0, h1, h2, h3, this, p1, p2, p3, q1, q2, q3, hi]
      · have : ¬ s = s' := fun h => h2 (by rw [h])
        simp [h0, h1, h2, this, p1, p2, q1, q2, hi]
    · have : ¬ s = s' := fun h => h1 (by rw [h])
      simp [h0, h1, this, p1, q1, hi]
  · have : ¬ s = s' := fun h => h0 (by rw [h])
    simp [h0, this]
theorem WL.seteql {d : Nat} {t t2 e : TypeId} {x y : Operand} {s s' : S4} {b : Bool} (hw : want all r g = some true) (hd : Nat.blt d N = true) (ht : arrayB P t e 4 1 = true) (hg : P.eqGuardType P.depth t = false) (he : P.underlying e = some (.int .u64))
    (hx : ev r x = some (.agg (scells s).toArray)) (hy : ev r y = some (.agg (scells s').toArray)) (hb : (s == s') = b)
    (next : WL ro P all Q N ds rest ((d, .bool b) :: r) w) : WL ro P all Q N ds (⟨some d, .binOp .eql t x y t2, ty, pos, aft, g⟩ :: rest) r w := by
  refine WL.val hw hd (by intro c h; cases h) (fun a ha => ?_) next
  simp only [execOp, ha.ev hx, ha.ev hy, Sem.run_bind, run_eqGuard_agg w _ _ _ _ _ _ hg, Result.andThen_ok, run_eql_struct]
  rw [run_equal_set 9998 ht he, hb]; rfl
theorem WL.setneq {d : Nat} {t t2 e : TypeId} {x y : Operand} {s s' : S4} {b : Bool} (hw : want all r g = some true) (hd : Nat.blt d N = true) (ht : arrayB P t e 4 1 = true) (hg : P.eqGuardType P.depth t = false) (he : P.underlying e = some (.int .u64))
    (hx : ev r x = some (.agg (scells s).toArray)) (hy : ev r y = some (.agg (scells s').toArray)) (hb : (s != s') = b)
    (next : WL ro P all Q N ds rest ((d, .bool b) :: r) w) : WL ro P all Q N ds (⟨some d, .binOp .neq t x y t2, ty, pos, aft, g⟩ :: rest) r w := by
  refine WL.val hw hd (by intro c h; cases h) (fun a ha => ?_) next
  simp only [execOp, ha.ev hx, ha.ev hy, Sem.run_bind, run_eqGuard_agg w _ _ _ _ _ _ hg, Result.andThen_ok, run_neq_struct]
  rw [run_equal_set 9998 ht he, ← hb]; rfl
end sets
theorem NodeL.bu {D w w' l t b} (h : NodeL D w l t) (e : But b w w') (hb : ¬ D b := by intro h1; first | omega | ((try dsimp only at h1); (repeat' first | (guard_hyp h1 : _ ∨ _; refine Or.elim h1 (fun h1 => ?_) (fun h1 => ?_)) | (guard_hyp h1 : _ ∧ _; have hx := h1.2; replace h1 := h1.1)) <;> first | contradiction | omega)) : NodeL D w' l t := h.but e hb
theorem NodesV.bu {D w w' sl ts b} (h : NodesV D w sl ts) (e : But b w w') (hb : ¬ D b := by intro h1; first | omega | ((try dsimp only at h1); (repeat' first | (guard_hyp h1 : _ ∨ _; refine Or.elim h1 (fun h1 => ?_) (fun h1 => ?_)) | (guard_hyp h1 : _ ∧ _; have hx := h1.2; replace h1 := h1.1)) <;> first | contradiction | omega)) : NodesV D w' sl ts := h.but e hb
theorem NodeL.op2 {D w l t} (h : NodeL D w l t) : ∃ a cap, l = tcells t (.slice a t.subs.length cap) ∧ NodesV D w (.slice a t.subs.length cap) t.subs ∧ t.subs.length ≤ cap ∧ t.subs.length ≤ 140737488355328 := by
 obtain ⟨sl, rfl, hs⟩ := h.opn
 obtain ⟨a, cap, rfl, hl, -⟩ := hs.get
 exact ⟨a, cap, rfl, hs, hl⟩
theorem sr {r r' : Reg} {k : Nat} {v : Value} (hk : look r k = some v) (h : subReg r r') : subReg r ((k, v) :: r') := subReg_cons hk h
abbrev pt (b o : Nat) : Value := .pointer (some ⟨b, o, none⟩)
def zc (k m n : Int) (sl : Value) : List Value := [.int .u8 k, .int .u64 0, .int .u64 0, .int .u64 0, .int .u64 0, .int .i64 m, .int .i64 n, sl]
end Go.Proofs.Ytaggidjijekpbaa
namespace Go.Proofs.Ytaggidjijekpbaa
open Go.RowKit
structure Keep (S : Nat → Prop) (w w' : World) : Prop where
  os : w'.os = w.os
  tape : w'.tape = w.tape
  output : w'.output = w.output
  size : w.heap.size ≤ w'.heap.size
  block : ∀ k, k < w.heap.size → ¬ S k → w'.heap[k]? = w.heap[k]?
  drawn : w.drawn ≤ w'.drawn
theorem Keep.refl (S : Nat → Prop) (w : World) : Keep S w w := ⟨rfl, rfl, rfl, Nat.le_refl _, fun _ _ _ => rfl, Nat.le_refl _⟩
theorem Keep.trans {S : Nat → Prop} {a b c : World} (h : Keep S a b) (k : Keep S b c) : Keep S a c :=
  ⟨k.os.trans h.os, k.tape.trans h.tape, k.output.trans h.output, Nat.le_trans h.size k.size, fun i hi hs => (k.block i (Nat.lt_of_lt_of_le hi h.size) hs).trans (h.block i hi hs), Nat.le_trans h.drawn k.drawn⟩
theorem Keep.mono {S S' : Nat → Prop} {a b : World} (h : Keep S a b) (hs : ∀ k, k < a.heap.size → S k → S' k) : Keep S' a b := ⟨h.os, h.tape, h.output, h.size, fun i hi hn => h.block i hi (fun hk => hn (hs i hi hk)), h.drawn⟩
theorem Keep.ext {S : Nat → Prop} {a b : World} (h : Keep S a b) (hs : ∀ k, k < a.heap.size → ¬ S k) : Ext a b := ⟨⟨h.os, h.tape, h.output, h.size, fun i hi => h.block i hi (hs i hi)⟩, h.drawn⟩
theorem Keep.below {S : Nat → Prop} {n : Nat} {a b : World} (h : Keep S a b) (hn : n ≤ a.heap.size) (hs : ∀ k, k < n → ¬ S k) : Below n a b := ⟨h.os, h.tape, h.output, h.size, fun i hi => h.block i (by omega) (hs i hi)⟩
theorem Below.keep {S : Nat → Prop} {n : Nat} {a b : World} (h : Below n a b) (hd : a.drawn ≤ b.drawn) (hs : ∀ k, n ≤ k → k < a.heap.size → S k) : Keep S a b := ⟨h.os, h.tape, h.output, h.size, fun i hi hn => h.block i (by rcases Nat.lt_or_ge i n with h | h; exact h; exact absurd (hs i h hi) hn), hd⟩
theorem Ext.keep {a b : World} (S : Nat → Prop) (h : Ext a b) : Keep S a b := ⟨h.os, h.tape, h.output, h.size, fun i hi _ => h.block i hi, h.drawn⟩
theorem But.keep {S : Nat → Prop} {b : Nat} {w w' : World} (h : But b w w') (hb : S b) : Keep S w w' := ⟨h.os, h.tape, h.output, Nat.le_of_eq h.size.symm, fun i _ hn => h.block i (fun e => hn (e ▸ hb)), h.drawn⟩
theorem Keep.obj {S : Nat → Prop} {a b : World} (h : Keep S a b) {k : Nat} {o : Obj} (hk : a.heap[k]? = some o) (hs : ¬ S k) : b.heap[k]? = some o :=
  (h.block k (Array.getElem?_eq_some_iff.1 hk).1 hs).trans hk
theorem Keep.row {S : Nat → Prop} {a b : World} (h : Keep S a b) {k : Nat} {l : List Value} {t : TypeId} (hk : Row a k l t) (hs : ¬ S k) : Row b k l t := h.obj hk hs
theorem Keep.reads {S : Nat → Prop} {a b : World} (h : Keep S a b) {k o : Nat} {l : List Value} (hk : Reads a k o l) (hs : ¬ S k) : Reads b k o l := fun j v hj => by
  have hc := hk j v hj
  have hlt : k < a.heap.size := World.block_lt_of_cell? a ⟨k, o + j, none⟩ hc
  exact (World.cell?_of_block (w := a) (h.block k hlt hs)).trans hc
theorem Keep.node {S D : Nat → Prop} {a b : World} (h : Keep S a b) {l : List Value} {t : Nd} (hn : NodeL D a l t) (hs : ∀ k, D k → ¬ S k) : NodeL D b l t :=
  hn.step (fun _ h => h) (fun c _ _ hc hr => h.reads hr (hs c hc))
theorem Keep.nodes {S D : Nat → Prop} {a b : World} (h : Keep S a b) {sl : Value} {ts : List Nd} (hn : NodesV D a sl ts) (hs : ∀ k, D k → ¬ S k) : NodesV D b sl ts :=
  hn.step (fun _ h => h) (fun c _ _ hc hr => h.reads hr (hs c hc))
theorem But.putObj {w : World} (l : Nat) (o : Obj) : But l w (w.putObj l o) := ⟨rfl, rfl, rfl, World.putObj_size, fun _k hk => World.putObj_heap_other hk, Nat.le_refl _⟩
theorem Keep.after {S : Nat → Prop} {a b c : World} (h : Keep S b c) (e : Ext a b) (hs : ∀ k, S k → a.heap.size ≤ k) : Ext a c :=
  ⟨Below.trans e.toBelow (h.below e.size (fun k hk h => by have := hs k h; omega)), Nat.le_trans e.drawn h.drawn⟩
theorem But.keepNew {S : Nat → Prop} {b : Nat} {a w w' : World} (h : But b w w') (k : Keep S a w) (hb : a.heap.size ≤ b) : Keep S a w' :=
  ⟨h.os.trans k.os, h.tape.trans k.tape, h.output.trans k.output, by rw [h.size]; exact k.size, fun i hi hs => (h.block i (by omega)).trans (k.block i hi hs), Nat.le_trans k.drawn h.drawn⟩
theorem Row.below {n : Nat} {w w' : World} {b : Nat} {l : List Value} {t : TypeId} (h : Row w b l t) (k : Below n w w') (hb : b < n) : Row w' b l t := (k.block b hb).trans h
abbrev YieldC (P : Program) (l : Nat) (args : Array Value) (w : World) (R : Ending → World → Prop) : Prop := YieldAt Fence.wide 0 P l args w R
section
variable {ro : Option Nat} {P : Program} {all : Array Oper} {Q : Exit → Act → World → Prop} {N : Nat} {ds : List Deferred} {r : Reg} {w : World} {rest : List Oper}
  {ty : TypeId} {pos : String} {aft : Array Edge} {g : Option (Nat × Bool)}
theorem WL.yield {d l : Nat} {x : Operand} {args : Array Operand} {ats : Array TypeId} {vs : List Value} {R : Ending → World → Prop} (hw : want all r g = some true) (hd : Nat.blt d N = true)
    (hx : ev r x = some (.func (.yield l) #[] #[])) (hargs : args.toList.mapM (ev r) = some vs)
    (hc : YieldC P l vs.toArray w R) (next : ∀ e w', R e w' → ∃ v, e = .returned v ∧ WL ro P all Q N ds rest ((d, v) :: r) w') :
    WL ro P all Q N ds (⟨some d, .call ⟨.value x, args, ats⟩, ty, pos, aft, g⟩ :: rest) r w := by
  intro a ha
  unfold wpListIn
  rw [if_pos (want_wanted ha (o := ⟨some d, .call ⟨.value x, args, ats⟩, ty, pos, aft, g⟩) hw)]
  refine ⟨fun _ _ => trivial, ?_⟩
  have hm : args.map a.eval = vs.toArray := by
    apply Array.ext'
    simp only [Array.toList_map]
    clear hc next hw
    generalize args.toList = l at hargs
    induction l generalizing vs with
    | nil => simp at hargs; subst hargs; rfl
    | cons x l ih =>
      simp only [List.mapM_cons, Option.bind_eq_bind, Option.bind_eq_some_iff, Option.pure_def, Option.some.injEq] at hargs
      obtain ⟨v, hv, vs', hvs, rfl⟩ := hargs
      simp [ha.ev hv, ih hvs]
  obtain ⟨fn, tmps, assign, body, hy, hR⟩ := hc
  rw [semAt_wd (by intro c h; cases h)]
  have : (execOp a.eval ⟨some d, .call ⟨.value x, args, ats⟩, ty, pos, aft, g⟩).run P w = .ok (.round l fn tmps assign body) w := by
    simp [execOp, resolve, hm, ha.ev hx, Deferred.ofValue, invoke, hy]
  rw [this, Oper.uponIn_round]
  refine ⟨(fun h => by cases h), ?_⟩
  have hR' : RoundIn (Wd ro) (0 - 1) P l fn tmps assign body w R := ⟨trivial, fun c cs _ => hR.2 c cs (room_wide _)⟩
  refine hR'.mono ?_
  intro e w' h
  obtain ⟨v, rfl, hn⟩ := next e w' h
  exact hn _ (ha.put hd)
theorem WC.loopD {σ : Type} {c : Code} (I : σ → List Deferred → Reg → World → Prop) (μ : σ → Nat) (s0 : σ) (h0 : I s0 ds r w)
    (round : ∀ s ds r w, I s ds r w → WC ro P (Exit.then (fun a' w' => ∃ s' ds' r', Fits N ds' r' a' ∧ I s' ds' r' w' ∧ μ s' < μ s) Q) N ds c r w) : WC ro P Q N ds (.loop c) r w := by
  intro a ha b k cs hro hb hr
  have key : ∀ j (s : σ) ds r w a, μ s = j → I s ds r w → Fits N ds r a →
      ∃ e a' w', Q e a' w' ∧ ArrivesIn (Machine.fenced P (Wd ro)) P (lone (b.atR a (.code c :: .inLoop c :: k)) cs w) b k cs e a' w' := by
    intro j
    induction j using Nat.strongRecOn with
    | _ j ih =>
      intro s ds r w a hj hI hf
      obtain ⟨e, a₁, w₁, hq, harr⟩ := round s ds r w hI a hf b (.inLoop c :: k) cs hro hb hr
      cases e with
      | normal =>
        obtain ⟨s', ds', r', hf', hI', hlt⟩ := hq
        obtain ⟨e₂, a₂, w₂, hq₂, harr₂⟩ := ih (μ s') (hj ▸ hlt) s' ds' r' w₁ a₁ rfl hI' hf'
        exact ⟨e₂, a₂, w₂, hq₂, .of_steps (StepsIn.trans harr (.one (fenced_calm hb hr rfl) stepR_inLoop)) harr₂⟩
      | exit id => exact ⟨_, a₁, w₁, hq, .pass (x := .inLoop c) rfl (fun _ _ => .inl (by simp)) harr⟩
      | goto l => exact ⟨_, a₁, w₁, hq, .pass (x := .inLoop c) rfl (fun _ _ => .inl (by simp)) harr⟩
      | ret => exact ⟨_, a₁, w₁, hq, .pass (x := .inLoop c) rfl (fun _ _ => .inl (by simp)) harr⟩
      | panic ch => exact ⟨_, a₁, w₁, hq, .pass (x := .inLoop c) rfl (fun _ _ => .inl (by simp)) harr⟩
      | outgrown => exact ⟨_, a₁, w₁, hq, .pass (x := .inLoop c) rfl (fun _ _ => .inl (by simp)) harr⟩
  obtain ⟨e, a', w', hq, harr⟩ := key _ s0 ds r w a rfl h0 ha
  exact ⟨e, a', w', hq, .of_steps (.one (fenced_calm hb hr rfl) stepR_loop) harr⟩
abbrev Kp (n : Nat) (B : Nat → Prop) (a b : World) : Prop := Keep (fun k => n ≤ k ∧ ¬ B k) a b
theorem Kp.below {n : Nat} {B : Nat → Prop} {a b : World} (hn : n ≤ a.heap.size) (h : Kp n B a b) : Below n a b := Keep.below h hn (fun k hk h => by have := h.1; omega)
theorem Ext.kp {n : Nat} {B : Nat → Prop} {a b : World} (h : Ext a b) : Kp n B a b := h.keep _
def IterB (P : Program) (f : FuncId) (caps : Array Value) (Ok : Nat → Value → World → Prop) (Nn : Nat) (Dat : Nat → Prop) (w : World) : Prop :=
  ∀ (l : Nat) (S : Nat → Prop) (J : Nat → (Nat → Prop) → World → Prop) (Jx : (Nat → Prop) → World → Prop) (W : World), Ext w W → (∀ k, S k → k < W.heap.size) → (∀ k, S k → ¬ Dat k) →
    (∀ i B A A', W.heap.size ≤ A.heap.size → J i B A → Kp W.heap.size B A A' → J i B A') → (∀ B A A', W.heap.size ≤ A.heap.size → Jx B A → Kp W.heap.size B A A' → Jx B A') →
    (∀ i B W1 v, i < Nn → Ok i v W1 → W.heap.size ≤ W1.heap.size → (∀ k, B k → W.heap.size ≤ k ∧ k < W1.heap.size) → J i B W1 → YieldC P l #[v] W1 fun e W' =>
      ∃ B', (∀ k, B' k → (B k ∨ W1.heap.size ≤ k) ∧ k < W'.heap.size) ∧ Keep (fun k => S k ∨ B k) W1 W' ∧ ((e = .returned (.bool true) ∧ J (i + 1) B' W') ∨ (e = .returned (.bool false) ∧ Jx B' W'))) →
    J 0 (fun _ => False) W → Calls P f (#[.func (.yield l) #[] #[]] ++ caps) W fun e W' => (∃ v, e = .returned v) ∧ ∃ B, (∀ k, B k → W.heap.size ≤ k ∧ k < W'.heap.size) ∧ (J Nn B W' ∨ Jx B W')
def markOf (D : Nat) : Deferred := { target := .collected D, args := #[] }
def RQ (S : Nat → Prop) (Inext : World → Prop) (X : Code → World → Prop) (w3 : World) : Exit → Act → World → Prop
  | .normal, _, w' => Keep S w3 w' ∧ Inext w'
  | .ret, _, w' => Keep S w3 w' ∧ X .ret w'
  | .exit id, _, w' => Keep S w3 w' ∧ X (.exit id) w'
  | _, _, _ => False
def RQB (S B : Nat → Prop) (Inext : (Nat → Prop) → World → Prop) (X : Code → (Nat → Prop) → World → Prop) (n : Nat) (w3 : World) : Exit → Act → World → Prop
  | .normal, _, w' => ∃ B' : Nat → Prop, (∀ k, B' k → (B k ∨ n ≤ k) ∧ k < w'.heap.size) ∧ Keep (fun k => S k ∨ B k) w3 w' ∧ Inext B' w'
  | .ret, _, w' => ∃ B' : Nat → Prop, (∀ k, B' k → (B k ∨ n ≤ k) ∧ k < w'.heap.size) ∧ Keep (fun k => S k ∨ B k) w3 w' ∧ X .ret B' w'
  | .exit id, _, w' => ∃ B' : Nat → Prop, (∀ k, B' k → (B k ∨ n ≤ k) ∧ k < w'.heap.size) ∧ Keep (fun k => S k ∨ B k) w3 w' ∧ X (.exit id) B' w'
  | _, _, _ => False
theorem WC.rangeFuncB {x : Operand} {p : Nat} {assign body : Code} {f : FuncId} {caps : Array Value} {Ok : Nat → Value → World → Prop} {Nn : Nat} {Dat : Nat → Prop} {w0 : World}
    (hx : ev r x = some (.func (.func f) #[] caps)) (hp : Nat.blt p N = true) (hf : ∀ vs w, (callFunc f vs).run P w = .ok (.enter f vs) w)
    (hit : IterB P f caps Ok Nn Dat w0) (hw0 : Ext w0 w) (hDat : ∀ k, Dat k → k < w.heap.size)
    (S : Nat → Prop) (hS : ∀ k, S k → k < w.heap.size) (hSD : ∀ k, S k → ¬ Dat k)
    (I : Nat → (Nat → Prop) → World → Prop) (X : Code → (Nat → Prop) → World → Prop) (hI : ∀ i B A A', w.heap.size ≤ A.heap.size → I i B A → Kp w.heap.size B A A' → I i B A') (hX : ∀ c B A A', w.heap.size ≤ A.heap.size → X c B A → Kp w.heap.size B A A' → X c B A')
    (h0 : I 0 (fun _ => False) w)
    (round : ∀ i B W1 v l, i < Nn → Ok i v W1 → w.heap.size < l → l < W1.heap.size → Keep S w W1 → (∀ k, B k → w.heap.size ≤ k ∧ k < W1.heap.size ∧ k ≠ l) → I i B W1 →
      WC (some l) P (Exit.then (fun a2 w2 => Keep S W1 w2 ∧ ∀ w3, But l w2 w3 → body.wpIn (Wd (some l)) 0 P (RQB S B (I (i + 1)) X W1.heap.size w3) a2 w3) (fun _ _ _ => False)) N [] assign ((p, v) :: r) W1)
    (done : ∀ w' D B, (∀ k, B k → w.heap.size ≤ k ∧ k < w'.heap.size ∧ k ≠ D) → w.heap.size ≤ D → w'.heap[D]? = some (.deferred (some [])) → Keep S w w' → I Nn B w' → ∀ a, Fits N (markOf D :: ds) r a → Q .normal a w')
    (stop : ∀ w' D c B, (∀ k, B k → w.heap.size ≤ k ∧ k < w'.heap.size ∧ k ≠ D) → w.heap.size ≤ D → w'.heap[D]? = some (.deferred (some [])) → Keep S w w' → X c B w' → WC none P Q N (markOf D :: ds) c r w') :
    WC none P Q N ds (.rangeFunc x #[p] assign body) r w := by
  intro a ha
  refine wpIn_rangeFunc ?_
  intro fn _
  obtain ⟨rec, hrec⟩ : ∃ rec : LoopState → Option Code → Loop, rec = fun st pe => { state := st, pending := pe, fn, tmps := a.tmps, params := #[p], assign, body, defers := w.heap.size } := ⟨_, rfl⟩
  obtain ⟨W1, hW1⟩ : ∃ W1, (w.alloc (.deferred (some []))).alloc (.loop (rec .ready none)) = W1 := ⟨_, rfl⟩
  have hz1 : W1.heap.size = w.heap.size + 2 := by rw [← hW1]; simp
  have hL1 : W1.heap[w.heap.size + 1]? = some (.loop (rec .ready none)) := by
    rw [← hW1]; have := World.alloc_heap_new (w.alloc (.deferred (some []))) (.loop (rec .ready none)); rwa [World.size_alloc] at this
  have hK1 : W1.heap[w.heap.size]? = some (.deferred (some [])) := by
    rw [← hW1]; exact (Below.heap_alloc _ _ _ (by simp)).trans (World.alloc_heap_new w _)
  have hE1 : Ext w W1 := by rw [← hW1]; exact (Ext.alloc w _).trans (Ext.alloc _ _)
  have ek : ∀ {A B : World}, Below W1.heap.size A B → w.heap.size ≤ A.heap.size → Below w.heap.size A B := fun h _ => h.mono (by omega)
  have hSl : ¬ S (w.heap.size + 1) := fun h => by have := hS _ h; omega
  have hSd : ¬ S w.heap.size := fun h => by have := hS _ h; omega
  have hcall := hit (w.heap.size + 1) (fun k => S k ∨ k = w.heap.size + 1)
    (fun i B A => I i B A ∧ A.heap[w.heap.size + 1]? = some (.loop (rec .ready none)) ∧ A.heap[w.heap.size]? = some (.deferred (some [])) ∧ Keep S w A)
    (fun B A => ∃ c, X c B A ∧ A.heap[w.heap.size + 1]? = some (.loop (rec .done (some c))) ∧ A.heap[w.heap.size]? = some (.deferred (some [])) ∧ Keep S w A)
    W1 (hw0.trans hE1) (by rintro k (h | h); · have := hS k h; omega
                           · omega)
    (by rintro k (h | h) hd
        · exact hSD k h hd
        · have := hDat k hd; omega)
    (fun i B A A' hsA ⟨h1, h2, h3, h4⟩ hb => ⟨hI i B A A' (by omega) h1 (hb.mono (fun k _ hk => ⟨by omega, hk.2⟩)), hb.obj h2 (fun h => by have := h.1; omega), hb.obj h3 (fun h => by have := h.1; omega),
      ⟨hb.os.trans h4.os, hb.tape.trans h4.tape, hb.output.trans h4.output, Nat.le_trans h4.size hb.size, fun k hk hs => (hb.block k (by have := h4.size; omega) (fun h => by have := h.1; omega)).trans (h4.block k hk hs), Nat.le_trans h4.drawn hb.drawn⟩⟩)
    (fun B A A' hsA ⟨c, h1, h2, h3, h4⟩ hb => ⟨c, hX c B A A' (by omega) h1 (hb.mono (fun k _ hk => ⟨by omega, hk.2⟩)), hb.obj h2 (fun h => by have := h.1; omega), hb.obj h3 (fun h => by have := h.1; omega),
      ⟨hb.os.trans h4.os, hb.tape.trans h4.tape, hb.output.trans h4.output, Nat.le_trans h4.size hb.size, fun k hk hs => (hb.block k (by have := h4.size; omega) (fun h => by have := h.1; omega)).trans (h4.block k hk hs), Nat.le_trans h4.drawn hb.drawn⟩⟩)
    (fun i B W cells hlen hok hsz hBb ⟨h1, h2, h3, h4⟩ => by
      have hy := run_yield (P := P) (args := #[cells]) h2 (by rw [hrec]; rfl)
      rw [hrec] at hy
      refine ⟨fn, _, assign, body, hy, roundIn_of_wpIn trivial ?_⟩
      have hr := round i B W cells (w.heap.size + 1) hlen hok (by omega) (by omega) h4 (fun k hk => by have := hBb k hk; omega) h1
      have hBl : ¬ B (w.heap.size + 1) := fun h => by have := (hBb _ h).1; omega
      have hBd : ¬ B w.heap.size := fun h => by have := (hBb _ h).1; omega
      have hfit : Fits N [] ((p, cells) :: r) { tmps := ((#[p] : Array Tmp).zip #[cells]).foldl (fun tmps (t, a) => tmps.setIfInBounds t a) a.tmps, defers := [] } := by
        have h5 := (Fits.mk (N := N) (ds := []) (r := r) (a := { tmps := a.tmps, defers := [] }) ha.size rfl ha.get).put (v := cells) hp
        simpa [Act.put] using h5
      refine wpIn_mono (hr _ hfit) ?_
      intro e a2 w2 hq
      cases e with
      | normal =>
        obtain ⟨hk2, hbody⟩ := hq
        have hl2 : w2.heap[w.heap.size + 1]? = some (.loop (rec .ready none)) := hk2.obj h2 hSl
        have hd2 : w2.heap[w.heap.size]? = some (.deferred (some [])) := hk2.obj h3 hSd
        refine ⟨_, run_beginRound hl2 (by rw [hrec]), ?_⟩
        have hbut := But.putObj (w := w2) (w.heap.size + 1) (.loop { rec .ready none with state := .busy })
        have hl3 : (w2.putObj (w.heap.size + 1) (.loop { rec .ready none with state := .busy })).heap[w.heap.size + 1]? = some (.loop { rec .ready none with state := .busy }) := World.putObj_heap_same (Array.getElem?_eq_some_iff.1 hl2).1
        have hd3 : (w2.putObj (w.heap.size + 1) (.loop { rec .ready none with state := .busy })).heap[w.heap.size]? = some (.deferred (some [])) := (World.putObj_heap_other (by omega)).trans hd2
        have hwp := hbody _ hbut
        have hmain : ∀ (jump : Option Code) (W3 : World), Keep (fun k => S k ∨ B k) (w2.putObj (w.heap.size + 1) (.loop { rec .ready none with state := .busy })) W3 →
            (Instr.endRound (w.heap.size + 1) jump).run P W3 = .ok (.bool jump.isNone) (W3.putObj (w.heap.size + 1) (.loop (rec (if jump.isNone then .ready else .done) jump))) ∧
            (W3.putObj (w.heap.size + 1) (.loop (rec (if jump.isNone then .ready else .done) jump))).heap[w.heap.size + 1]? = some (.loop (rec (if jump.isNone then .ready else .done) jump)) ∧
            (W3.putObj (w.heap.size + 1) (.loop (rec (if jump.isNone then .ready else .done) jump))).heap[w.heap.size]? = some (.deferred (some [])) ∧
            Keep (fun k => (S k ∨ k = w.heap.size + 1) ∨ B k) W (W3.putObj (w.heap.size + 1) (.loop (rec (if jump.isNone then .ready else .done) jump))) ∧
            Keep S w (W3.putObj (w.heap.size + 1) (.loop (rec (if jump.isNone then .ready else .done) jump))) := by
          intro jump W3 hk3
          have hl4 := hk3.obj hl3 (fun h => h.elim hSl hBl)
          have hd4 := hk3.obj hd3 (fun h => h.elim hSd hBd)
          have he := run_endRound (P := P) jump hl4
          rw [hrec] at he ⊢
          rw [hrec] at hl4
          have hkk : Keep (fun k => (S k ∨ k = w.heap.size + 1) ∨ B k) W (W3.putObj (w.heap.size + 1) (.loop ((fun st pe => { state := st, pending := pe, fn, tmps := a.tmps, params := #[p], assign, body, defers := w.heap.size } : LoopState → Option Code → Loop) (if jump.isNone then .ready else .done) jump))) := by
            refine (hk2.mono (fun _ _ h => .inl (.inl h))).trans ((hbut.keep (.inl (.inr rfl))).trans ?_)
            rw [hrec]
            rw [hrec] at hk3
            exact (hk3.mono (fun _ _ h => h.imp .inl id)).trans ((But.putObj _ _).keep (.inl (.inr rfl)))
          refine ⟨he, World.putObj_heap_same (Array.getElem?_eq_some_iff.1 hl4).1, (World.putObj_heap_other (by omega)).trans hd4, hkk, ?_⟩
          refine ⟨hkk.os.trans h4.os, hkk.tape.trans h4.tape, hkk.output.trans h4.output, Nat.le_trans h4.size hkk.size, fun k hk hs => (hkk.block k (by have := h4.size; omega) ?_).trans (h4.block k hk hs), Nat.le_trans h4.drawn hkk.drawn⟩
          rintro ((h | h) | h)
          · exact hs h
          · omega
          · have := (hBb k h).1; omega
        have hz2 := hk2.size
        have hzb := hbut.size
        have hBn : ∀ (B' : Nat → Prop) (W3 : World), (∀ k, B' k → (B k ∨ W.heap.size ≤ k) ∧ k < W3.heap.size) → ¬ B' (w.heap.size + 1) := fun B' W3 h hk => by
          rcases (h _ hk).1 with h | h
          · exact hBl h
          · omega
        have hbel : ∀ (B' : Nat → Prop) (o : Obj) (W3 : World), ¬ B' (w.heap.size + 1) → Kp w.heap.size B' W3 (W3.putObj (w.heap.size + 1) o) := fun B' o W3 hn => (But.putObj (w := W3) (w.heap.size + 1) o).keep ⟨by omega, hn⟩
        have hsz3 : ∀ (o : Obj) (W3 : World), (W3.putObj (w.heap.size + 1) o).heap.size = W3.heap.size := fun o W3 => (But.putObj (w := W3) (w.heap.size + 1) o).size
        refine wpIn_mono hwp ?_
        rintro e a3 W3 hp
        cases e with
        | normal =>
          obtain ⟨B', hB', hk3, hi3⟩ := hp
          have hz3 := hk3.size
          obtain ⟨e1, e2, e3, e4, e5⟩ := hmain none W3 hk3
          exact ⟨_, _, e1, B', fun k hk => by rw [hsz3]; exact hB' k hk, e4, .inl ⟨rfl, hI _ _ _ _ (by omega) hi3 (hbel B' _ _ (hBn B' W3 hB')), e2, e3, e5⟩⟩
        | ret =>
          obtain ⟨B', hB', hk3, hi3⟩ := hp
          have hz3 := hk3.size
          obtain ⟨e1, e2, e3, e4, e5⟩ := hmain (some .ret) W3 hk3
          exact ⟨_, _, e1, B', fun k hk => by rw [hsz3]; exact hB' k hk, e4, .inr ⟨rfl, .ret, hX _ _ _ _ (by omega) hi3 (hbel B' _ _ (hBn B' W3 hB')), e2, e3, e5⟩⟩
        | exit id =>
          obtain ⟨B', hB', hk3, hi3⟩ := hp
          have hz3 := hk3.size
          obtain ⟨e1, e2, e3, e4, e5⟩ := hmain (some (.exit id)) W3 hk3
          exact ⟨_, _, e1, B', fun k hk => by rw [hsz3]; exact hB' k hk, e4, .inr ⟨rfl, .exit id, hX _ _ _ _ (by omega) hi3 (hbel B' _ _ (hBn B' W3 hB')), e2, e3, e5⟩⟩
        | goto t => exact hp.elim
        | panic ch => exact hp.elim
        | outgrown => exact hp.elim
      | exit id => exact hq.elim
      | goto t => exact hq.elim
      | ret => exact hq.elim
      | panic ch => exact hq.elim
      | outgrown => exact hq.elim)
    ⟨hI _ _ _ _ (Nat.le_refl _) h0 hE1.kp, hL1, hK1, hE1.keep S⟩
  refine ⟨w.heap.size + 1, [markOf w.heap.size], W1, { target := .fn (.func f) caps, args := #[.func (.yield (w.heap.size + 1)) #[] #[]] }, W1, f,
    #[.func (.yield (w.heap.size + 1)) #[] #[]] ++ caps, W1, ?_, ?_, fun _ _ => trivial, ?_, (fun h => by cases h), ?_⟩
  · rw [← hW1, hrec]; exact run_enterLoop_outer _ _ _ _ _
  · have he : a.eval (.const (.func (.yield (w.heap.size + 1)) #[] #[])) = .func (.yield (w.heap.size + 1)) #[] #[] := rfl
    simp [resolve, ha.ev hx, Deferred.ofValue, he]
  · simp [invoke, hf]
  · refine (CallsIn.wd hcall).mono ?_
    rintro e W2 ⟨⟨v, rfl⟩, B, hBb, (⟨hi, hl, hk, hkp⟩ | ⟨c, hi, hl, hk, hkp⟩)⟩
    all_goals have hBl : ¬ B (w.heap.size + 1) := fun h => by have := (hBb _ h).1; omega
    · have hb := (But.putObj (w := W2) (w.heap.size + 1) (.loop { rec .ready none with state := .exhausted }))
      have hkeep : Keep S w (W2.putObj (w.heap.size + 1) (.loop { rec .ready none with state := .exhausted })) :=
        ⟨hb.os.trans hkp.os, hb.tape.trans hkp.tape, hb.output.trans hkp.output, by rw [hb.size]; exact hkp.size, fun k hk' hs => (hb.block k (by omega)).trans (hkp.block k hk' hs), Nat.le_trans hkp.drawn hb.drawn⟩
      refine ⟨none, _, by have := run_endLoop (P := P) hl (by rw [hrec]; simp); rw [hrec] at this; exact this, ?_⟩
      have := done _ w.heap.size B (fun k hk => by have := hBb k hk; rw [hb.size]; omega) (Nat.le_refl _) ((World.putObj_heap_other (by omega)).trans hk) hkeep (hI _ _ _ _ hkp.size hi (hb.keep ⟨by omega, hBl⟩)) { a with defers := [markOf w.heap.size] ++ a.defers } ⟨ha.size, by simp [ha.defers], ha.get⟩
      rw [hrec] at this; exact this
    · have hb := (But.putObj (w := W2) (w.heap.size + 1) (.loop { rec .done (some c) with state := .exhausted }))
      have hkeep : Keep S w (W2.putObj (w.heap.size + 1) (.loop { rec .done (some c) with state := .exhausted })) :=
        ⟨hb.os.trans hkp.os, hb.tape.trans hkp.tape, hb.output.trans hkp.output, by rw [hb.size]; exact hkp.size, fun k hk' hs => (hb.block k (by omega)).trans (hkp.block k hk' hs), Nat.le_trans hkp.drawn hb.drawn⟩
      refine ⟨some c, _, by have := run_endLoop (P := P) hl (by rw [hrec]; simp); rw [hrec] at this; exact this, ?_⟩
      have := stop _ w.heap.size c B (fun k hk => by have := hBb k hk; rw [hb.size]; omega) (Nat.le_refl _) ((World.putObj_heap_other (by omega)).trans hk) hkeep (hX _ _ _ _ hkp.size hi (hb.keep ⟨by omega, hBl⟩)) { a with defers := [markOf w.heap.size] ++ a.defers } ⟨ha.size, by simp [ha.defers], ha.get⟩
      rw [hrec] at this; exact this
theorem WC.rangeFuncV {x : Operand} {p : Nat} {assign body : Code} {f : FuncId} {caps : Array Value} {Ok : Nat → Value → World → Prop} {Nn : Nat} {Dat : Nat → Prop} {w0 : World}
    (hx : ev r x = some (.func (.func f) #[] caps)) (hp : Nat.blt p N = true) (hf : ∀ vs w, (callFunc f vs).run P w = .ok (.enter f vs) w)
    (hit : IterB P f caps Ok Nn Dat w0) (hw0 : Ext w0 w) (hDat : ∀ k, Dat k → k < w.heap.size)
    (S : Nat → Prop) (hS : ∀ k, S k → k < w.heap.size) (hSD : ∀ k, S k → ¬ Dat k)
    (I : Nat → World → Prop) (X : Code → World → Prop) (hI : ∀ i A B, I i A → Below w.heap.size A B → I i B) (hX : ∀ c A B, X c A → Below w.heap.size A B → X c B)
    (h0 : I 0 w)
    (round : ∀ i W1 v l, i < Nn → Ok i v W1 → w.heap.size < l → l < W1.heap.size → Keep S w W1 → I i W1 →
      WC (some l) P (Exit.then (fun a2 w2 => Keep S W1 w2 ∧ ∀ w3, But l w2 w3 → body.wpIn (Wd (some l)) 0 P (RQ S (I (i + 1)) X w3) a2 w3) (fun _ _ _ => False)) N [] assign ((p, v) :: r) W1)
    (done : ∀ w' D, w.heap.size ≤ D → w'.heap[D]? = some (.deferred (some [])) → Keep S w w' → I Nn w' → ∀ a, Fits N (markOf D :: ds) r a → Q .normal a w')
    (stop : ∀ w' D c, w.heap.size ≤ D → w'.heap[D]? = some (.deferred (some [])) → Keep S w w' → X c w' → WC none P Q N (markOf D :: ds) c r w') :
    WC none P Q N ds (.rangeFunc x #[p] assign body) r w :=
  WC.rangeFuncB hx hp hf hit hw0 hDat S hS hSD (fun i B A => I i A ∧ ∀ k, ¬ B k) (fun c B A => X c A ∧ ∀ k, ¬ B k)
    (fun i _ A A' hs h hk => ⟨hI i A A' h.1 (Kp.below hs hk), h.2⟩) (fun c _ A A' hs h hk => ⟨hX c A A' h.1 (Kp.below hs hk), h.2⟩) ⟨h0, fun _ h => h⟩
    (fun i _ W1 v l h1 h2 h3 h4 h5 _ h7 a ha => wpIn_mono (round i W1 v l h1 h2 h3 h4 h5 h7.1 a ha) (fun e a2 w2 hq => by
      cases e
      case normal =>
        refine ⟨hq.1, fun w3 hw3 => wpIn_mono (hq.2 w3 hw3) (fun e a3 w4 h => ?_)⟩
        cases e <;> first | exact h.elim | exact ⟨fun _ => False, fun _ h => h.elim, h.1.mono (fun _ _ h => .inl h), h.2, fun _ h => h⟩
      all_goals exact hq.elim))
    (fun w' D _ _ h1 h2 h3 h4 a ha => done w' D h1 h2 h3 h4.1 a ha) (fun w' D c _ _ h1 h2 h3 h4 => stop w' D c h1 h2 h3 h4.1)
theorem WC.rangeFunc {x : Operand} {p : Nat} {assign body : Code} {f : FuncId} {caps : Array Value} {Ok : Nat → List Value → World → Prop} {Nn : Nat} {Dat : Nat → Prop} {w0 : World}
    (hx : ev r x = some (.func (.func f) #[] caps)) (hp : Nat.blt p N = true) (hf : ∀ vs w, (callFunc f vs).run P w = .ok (.enter f vs) w)
    (hit : IterB P f caps (fun i v W1 => ∃ cells, v = .agg cells.toArray ∧ Ok i cells W1) Nn Dat w0) (hw0 : Ext w0 w) (hDat : ∀ k, Dat k → k < w.heap.size)
    (S : Nat → Prop) (hS : ∀ k, S k → k < w.heap.size) (hSD : ∀ k, S k → ¬ Dat k)
    (I : Nat → World → Prop) (X : Code → World → Prop) (hI : ∀ i A B, I i A → Below w.heap.size A B → I i B) (hX : ∀ c A B, X c A → Below w.heap.size A B → X c B)
    (h0 : I 0 w)
    (round : ∀ i W1 cells l, i < Nn → Ok i cells W1 → w.heap.size < l → l < W1.heap.size → Keep S w W1 → I i W1 →
      WC (some l) P (Exit.then (fun a2 w2 => Keep S W1 w2 ∧ ∀ w3, But l w2 w3 → body.wpIn (Wd (some l)) 0 P (RQ S (I (i + 1)) X w3) a2 w3) (fun _ _ _ => False)) N [] assign ((p, .agg cells.toArray) :: r) W1)
    (done : ∀ w' D, w.heap.size ≤ D → w'.heap[D]? = some (.deferred (some [])) → Keep S w w' → I Nn w' → ∀ a, Fits N (markOf D :: ds) r a → Q .normal a w')
    (stop : ∀ w' D c, w.heap.size ≤ D → w'.heap[D]? = some (.deferred (some [])) → Keep S w w' → X c w' → WC none P Q N (markOf D :: ds) c r w') :
    WC none P Q N ds (.rangeFunc x #[p] assign body) r w :=
  WC.rangeFuncV hx hp hf hit hw0 hDat S hS hSD I X hI hX h0 (fun i W1 _ l hi hok => by obtain ⟨cells, rfl, hok⟩ := hok; exact round i W1 cells l hi hok) done stop
def Marks (w : World) (n0 : Nat) (ds : List Deferred) : Prop := ∃ Ds : List Nat, ds = Ds.map markOf ∧ Ds.Nodup ∧ ∀ D ∈ Ds, n0 ≤ D ∧ w.heap[D]? = some (.deferred (some []))
theorem Marks.nil (w : World) (n0 : Nat) : Marks w n0 [] := ⟨[], rfl, List.nodup_nil, by simp⟩
theorem Marks.one {w : World} {n0 D : Nat} (h : n0 ≤ D) (hd : w.heap[D]? = some (.deferred (some []))) : Marks w n0 [markOf D] := ⟨[D], rfl, by simp, by simpa using ⟨h, hd⟩⟩
theorem Marks.lt {w : World} {n0 : Nat} {Ds : List Nat} (h : ∀ D ∈ Ds, n0 ≤ D ∧ w.heap[D]? = some (.deferred (some []))) : ∀ D ∈ Ds, D < w.heap.size := fun D hD => (Array.getElem?_eq_some_iff.1 (h D hD).2).1
theorem Marks.keep {S : Nat → Prop} {w w' : World} {n0 : Nat} {ds : List Deferred} (h : Marks w n0 ds) (k : Keep S w w') (hS : ∀ k, S k → k < n0) : Marks w' n0 ds := by
  obtain ⟨Ds, rfl, hn, hd⟩ := h
  exact ⟨Ds, rfl, hn, fun D hD => ⟨(hd D hD).1, k.obj (hd D hD).2 (fun h => by have := hS D h; have := (hd D hD).1; omega)⟩⟩
theorem Marks.cons {w w' : World} {n0 D : Nat} {ds : List Deferred} {S : Nat → Prop} (h : Marks w n0 ds) (k : Keep S w w') (hS : ∀ k, S k → k < n0) (hn : n0 ≤ w.heap.size) (hD : w.heap.size ≤ D) (hd : w'.heap[D]? = some (.deferred (some []))) : Marks w' n0 (markOf D :: ds) := by
  obtain ⟨Ds, rfl, hnd, hd'⟩ := h
  refine ⟨D :: Ds, rfl, List.nodup_cons.2 ⟨fun hm => ?_, hnd⟩, ?_⟩
  · have := Marks.lt hd' D hm; omega
  · intro E hE
    cases hE with
    | head => exact ⟨by omega, hd⟩
    | tail _ hm => exact ⟨(hd' E hm).1, k.obj (hd' E hm).2 (fun h => by have := hS E h; have := (hd' E hm).1; omega)⟩
theorem leavesM {fn : Func} {tmps : Array Value} {R : Ending → World → Prop} {n0 : Nat} : ∀ (Ds : List Nat) (w : World), Ds.Nodup → (∀ D ∈ Ds, n0 ≤ D ∧ w.heap[D]? = some (.deferred (some []))) →
    (∀ w', Keep (fun k => k ∈ Ds) w w' → ∃ v, (results fn tmps).run P w' = .ok v w' ∧ R (.returned v) w') → LeavesInM Fence.wide 0 P fn tmps R (Ds.map markOf) .returning w
  | [], w, _, _, h => h w (Keep.refl _ _)
  | D :: Ds, w, hn, hd, h => by
    have hD := (hd D (by simp)).2
    have hnd := List.nodup_cons.1 hn
    refine ⟨by simp, .inl ⟨D, _, rfl, run_takeDeferred hD, leavesM (n0 := n0) Ds _ hnd.2 (fun E hE => ?_) (fun w' hk => h w' ?_)⟩⟩
    · have hne : E ≠ D := fun e => hnd.1 (by rw [← e]; exact hE)
      exact ⟨(hd E (by simp [hE])).1, (World.putObj_heap_other hne).trans (hd E (by simp [hE])).2⟩
    · refine Keep.trans ?_ (hk.mono (fun _ _ hm => by simp [hm]))
      exact (But.putObj (w := w) D (.deferred none)).keep (by simp)
theorem Calls.enterM {f : FuncId} {fn : Func} {c : Code} {args : List Value} {r : Reg} {N : Nat} {R : Ending → World → Prop} (hf : P.funcs[f]? = some fn) (hb : fn.body = some c)
    (hn : fn.ntmps = N) (hN : Nat.ble args.length N = true) (hr : (args.zipIdx.map fun (v, i) => (i, v)) = r) (h : WC none P (bodyPostM Fence.wide 0 P fn R) N [] c r w) : Calls P f args.toArray w R := by
  subst hn; subst hr
  have hN := Nat.le_of_ble_eq_true hN
  refine callsIn_wide.1 (callsIn_of_wp_marks (n := 0) hf hb trivial (h _ ?_))
  refine ⟨by simp; omega, rfl, ?_⟩
  intro t v hl
  have key : ∀ (l : List Value) (k : Nat), look ((l.zipIdx k).map fun (v, i) => (i, v)) t = some v → k ≤ t ∧ l[t - k]? = some v := by
    intro l
    induction l with
    | nil => intro k h; simp [look] at h
    | cons x l ih =>
      intro k h
      simp only [List.zipIdx_cons, List.map_cons, look] at h
      by_cases e : Nat.beq k t = true
      · rw [e] at h
        have : k = t := Nat.eq_of_beq_eq_true e
        subst this
        simpa using h
      · have e' : Nat.beq k t = false := Bool.eq_false_iff.2 e
        rw [e'] at h
        obtain ⟨h1, h2⟩ := ih (k + 1) h
        refine ⟨by omega, ?_⟩
        have : t - k = (t - (k + 1)) + 1 := by omega
        rw [this]; simpa using h2
  obtain ⟨_, h2⟩ := key args 0 hl
  have hlt : t < args.length := by
    rcases Nat.lt_or_ge t args.length with h | h
    · exact h
    · rw [List.getElem?_eq_none (by simpa using h)] at h2; cases h2
  show (args.toArray ++ Array.replicate (fn.ntmps - args.toArray.size) undef)[t]? = some v
  rw [Array.getElem?_append_left (by simpa using hlt)]
  simpa using h2
theorem bodyPostM_tmp {fn : Func} {R : Ending → World → Prop} {t : Nat} {v : Value} {a : Act} {n0 : Nat} (hres : fn.results = #[.tmp t]) (h : Fits N ds r a) (hl : look r t = some v) (hm : Marks w n0 ds)
    (hR : ∀ w', Keep (fun k => n0 ≤ k) w w' → R (.returned v) w') : bodyPostM Fence.wide 0 P fn R .ret a w := by
  obtain ⟨Ds, rfl, hnd, hd⟩ := hm
  show LeavesInM Fence.wide 0 P fn a.tmps R a.defers .returning w
  rw [h.defers]
  exact leavesM Ds w hnd hd (fun w' hk => ⟨v, by rw [results_tmp hres]; simp [h.get t v hl], hR w' (hk.mono (fun k _ hm => (hd k hm).1))⟩)
theorem bodyPostM_cell1 {fn : Func} {R : Ending → World → Prop} {t : Nat} {ct t' : TypeId} {b : Nat} {v : Value} {a : Act} {n0 : Nat} (hres : fn.results = #[.cell t ct]) (h : Fits N ds r a) (hl : look r t = some (.pointer (some ⟨b, 0, none⟩)))
    (ht : flatB P ct = true) (hr : Row w b [v] t') (hb : b < n0) (hm : Marks w n0 ds)
    (hR : ∀ w', Keep (fun k => n0 ≤ k) w w' → R (.returned v) w') : bodyPostM Fence.wide 0 P fn R .ret a w := by
  obtain ⟨Ds, rfl, hnd, hd⟩ := hm
  show LeavesInM Fence.wide 0 P fn a.tmps R a.defers .returning w
  rw [h.defers]
  refine leavesM Ds w hnd hd (fun w' hk => ?_)
  have hk' := hk.mono (S' := fun k => n0 ≤ k) (fun k _ hm => (hd k hm).1)
  have hr' : Row w' b [v] t' := hk'.row hr (by omega)
  exact ⟨v, by simp [results, hres, h.get _ _ hl, asAddr, run_loadVar_flat ht (hr'.cell 0)], hR w' hk'⟩
theorem WC.scope {c : Code} (h : WC none P (Exit.noGoto Q) N ds c r w) : WC none P Q N ds (.scope c) r w := fun a ha => wpIn_wide.2 (wp_scope_straight (wpIn_wide.1 (h a ha)))
theorem WC.label {l : Nat} (h : ∀ a, Fits N ds r a → Q .normal a w) : WC ro P Q N ds (.label l) r w := fun a ha => wpIn_label (h a ha)
theorem WC.label' {l : Nat} {c : Code} {Q' : Exit → Act → World → Prop} (h : WC ro P Q' N ds c r w) (hq : ∀ a w, c.wpIn (Wd ro) 0 P Q' a w → Q .normal a w) : WC ro P Q N ds (.label l) r w := fun a ha => wpIn_label (hq a w (h a ha))
theorem ret_scope {a : Act} (h : Q .ret a w) : Exit.noGoto Q .ret a w := h
end
end Go.Proofs.Ytaggidjijekpbaa
namespace Go.Proofs.Ytaggidjijekpbaa.Ty
open Go.Proofs Go.Shelf
theorem flat1 : flatB Try.prog 1 = true := by kernel_rfl
theorem flat3 : flatB Try.prog 3 = true := by kernel_rfl
theorem zero3 : zeroB Try.prog 3 (.int .i64 0) := by unfold zeroB; kernel_rfl
theorem flat4 : flatB Try.prog 4 = true := by kernel_rfl
theorem zero4 : zeroB Try.prog 4 (.bool false) := by unfold zeroB; kernel_rfl
theorem flat5 : flatB Try.prog 5 = true := by kernel_rfl
theorem flat9 : flatB Try.prog 9 = true := by kernel_rfl
theorem zero9 : zeroB Try.prog 9 (.string ⟨#[]⟩) := by unfold zeroB; kernel_rfl
theorem slice22 : sliceB Try.prog 22 53 3 = true := by kernel_rfl
theorem flat24 : flatB Try.prog 24 = true := by kernel_rfl
theorem agg26 : aggB Try.prog 26 4 = true := by kernel_rfl
theorem zero26 : zeroB Try.prog 26 (.agg #[.int .u64 0, .int .u64 0, .int .u64 0, .int .u64 0]) := by unfold zeroB; kernel_rfl
theorem eqg26 : Try.prog.eqGuardType Try.prog.depth 26 = false := by kernel_rfl
theorem arr26 : arrayB Try.prog 26 24 4 1 = true := by kernel_rfl
theorem bz26 : (placesOf Try.prog 26).isSome = true ∨ ∃ e m q, Try.prog.underlying 26 = some (.array m e) ∧ Try.prog.info? e = some q := by
 obtain ⟨h, q, hq, _⟩ := arrayB_u arr26
 exact Or.inr ⟨_, _, q, h, hq⟩
theorem flat27 : flatB Try.prog 27 = true := by kernel_rfl
theorem slice27 : sliceB Try.prog 27 29 8 = true := by kernel_rfl
theorem agg29 : aggB Try.prog 29 8 = true := by kernel_rfl
theorem zero29 : zeroB Try.prog 29 (.agg #[.int .u8 0, .int .u64 0, .int .u64 0, .int .u64 0, .int .u64 0, .int .i64 0, .int .i64 0, .slice none 0 0]) := by unfold zeroB; kernel_rfl
theorem st29 : placesOf Try.prog 29 = some [(0, 1), (1, 4), (5, 1), (6, 1), (7, 1)] := by kernel_rfl
theorem fld29_0 : fieldB Try.prog 29 0 0 = true := by kernel_rfl
theorem fld29_1 : fieldB Try.prog 29 1 1 = true := by kernel_rfl
theorem fld29_2 : fieldB Try.prog 29 2 5 = true := by kernel_rfl
theorem fld29_3 : fieldB Try.prog 29 3 6 = true := by kernel_rfl
theorem fld29_4 : fieldB Try.prog 29 4 7 = true := by kernel_rfl
theorem bz29 : (placesOf Try.prog 29).isSome = true ∨ ∃ e m q, Try.prog.underlying 29 = some (.array m e) ∧ Try.prog.info? e = some q := Or.inl (by kernel_rfl)
theorem flat32 : flatB Try.prog 32 = true := by kernel_rfl
theorem zero36 : zeroB Try.prog 36 (.agg #[.bool false, .bool false, .int .u8 0, .int .u64 0, .int .u64 0, .int .u64 0, .int .u64 0, .int .i64 0, .int .i64 0, .slice none 0 0]) := by unfold zeroB; kernel_rfl
theorem st36 : placesOf Try.prog 36 = some [(0, 1), (1, 1), (2, 8)] := by kernel_rfl
theorem fld36_2 : fieldB Try.prog 36 2 2 = true := by kernel_rfl
theorem flat47 : flatB Try.prog 47 = true := by kernel_rfl
theorem zero47 : zeroB Try.prog 47 (.slice none 0 0) := by unfold zeroB; kernel_rfl
theorem slice47 : sliceB Try.prog 47 26 4 = true := by kernel_rfl
theorem agg53 : aggB Try.prog 53 3 = true := by kernel_rfl
theorem zero53 : zeroB Try.prog 53 (.agg #[.int .u8 0, .int .u8 0, .int .u8 0]) := by unfold zeroB; kernel_rfl
theorem fld53_0 : fieldB Try.prog 53 0 0 = true := by kernel_rfl
theorem fld53_1 : fieldB Try.prog 53 1 1 = true := by kernel_rfl
theorem fld53_2 : fieldB Try.prog 53 2 2 = true := by kernel_rfl
theorem slice62 : sliceB Try.prog 62 9 1 = true := by kernel_rfl
theorem ent8 : ∀ vs w, (callFunc 8 vs).run Try.prog w = .ok (.enter 8 vs) w := enters_of Try.func8 (by kernel_rfl) rfl
theorem ent9 : ∀ vs w, (callFunc 9 vs).run Try.prog w = .ok (.enter 9 vs) w := enters_of Try.func9 (by kernel_rfl) rfl
theorem ent10 : ∀ vs w, (callFunc 10 vs).run Try.prog w = .ok (.enter 10 vs) w := enters_of Try.func10 (by kernel_rfl) rfl
theorem ent11 : ∀ vs w, (callFunc 11 vs).run Try.prog w = .ok (.enter 11 vs) w := enters_of Try.func11 (by kernel_rfl) rfl
theorem ent12 : ∀ vs w, (callFunc 12 vs).run Try.prog w = .ok (.enter 12 vs) w := enters_of Try.func12 (by kernel_rfl) rfl
theorem ent13 : ∀ vs w, (callFunc 13 vs).run Try.prog w = .ok (.enter 13 vs) w := enters_of Try.func13 (by kernel_rfl) rfl
theorem ent14 : ∀ vs w, (callFunc 14 vs).run Try.prog w = .ok (.enter 14 vs) w := enters_of Try.func14 (by kernel_rfl) rfl
theorem ent15 : ∀ vs w, (callFunc 15 vs).run Try.prog w = .ok (.enter 15 vs) w := enters_of Try.func15 (by kernel_rfl) rfl
theorem ent16 : ∀ vs w, (callFunc 16 vs).run Try.prog w = .ok (.enter 16 vs) w := enters_of Try.func16 (by kernel_rfl) rfl
theorem ent17 : ∀ vs w, (callFunc 17 vs).run Try.prog w = .ok (.enter 17 vs) w := enters_of Try.func17 (by kernel_rfl) rfl
theorem ent18 : ∀ vs w, (callFunc 18 vs).run Try.prog w = .ok (.enter 18 vs) w := enters_of Try.func18 (by kernel_rfl) rfl
theorem ent19 : ∀ vs w, (callFunc 19 vs).run Try.prog w = .ok (.enter 19 vs) w := enters_of Try.func19 (by kernel_rfl) rfl
theorem ent20 : ∀ vs w, (callFunc 20 vs).run Try.prog w = .ok (.enter 20 vs) w := enters_of Try.func20 (by kernel_rfl) rfl
theorem ent21 : ∀ vs w, (callFunc 21 vs).run Try.prog w = .ok (.enter 21 vs) w := enters_of Try.func21 (by kernel_rfl) rfl
theorem ent22 : ∀ vs w, (callFunc 22 vs).run Try.prog w = .ok (.enter 22 vs) w := enters_of Try.func22 (by kernel_rfl) rfl
theorem ent23 : ∀ vs w, (callFunc 23 vs).run Try.prog w = .ok (.enter 23 vs) w := enters_of Try.func23 (by kernel_rfl) rfl
theorem ent24 : ∀ vs w, (callFunc 24 vs).run Try.prog w = .ok (.enter 24 vs) w := enters_of Try.func24 (by kernel_rfl) rfl
theorem ent27 : ∀ vs w, (callFunc 27 vs).run Try.prog w = .ok (.enter 27 vs) w := enters_of Try.func27 (by kernel_rfl) rfl
theorem ent28 : ∀ vs w, (callFunc 28 vs).run Try.prog w = .ok (.enter 28 vs) w := enters_of Try.func28 (by kernel_rfl) rfl
theorem ent29 : ∀ vs w, (callFunc 29 vs).run Try.prog w = .ok (.enter 29 vs) w := enters_of Try.func29 (by kernel_rfl) rfl
theorem ent31 : ∀ vs w, (callFunc 31 vs).run Try.prog w = .ok (.enter 31 vs) w := enters_of Try.func31 (by kernel_rfl) rfl
theorem ent32 : ∀ vs w, (callFunc 32 vs).run Try.prog w = .ok (.enter 32 vs) w := enters_of Try.func32 (by kernel_rfl) rfl
theorem ent33 : ∀ vs w, (callFunc 33 vs).run Try.prog w = .ok (.enter 33 vs) w := enters_of Try.func33 (by kernel_rfl) rfl
theorem ent34 : ∀ vs w, (callFunc 34 vs).run Try.prog w = .ok (.enter 34 vs) w := enters_of Try.func34 (by kernel_rfl) rfl
theorem ent35 : ∀ vs w, (callFunc 35 vs).run Try.prog w = .ok (.enter 35 vs) w := enters_of Try.func35 (by kernel_rfl) rfl
theorem ent36 : ∀ vs w, (callFunc 36 vs).run Try.prog w = .ok (.enter 36 vs) w := enters_of Try.func36 (by kernel_rfl) rfl
theorem ent37 : ∀ vs w, (callFunc 37 vs).run Try.prog w = .ok (.enter 37 vs) w := enters_of Try.func37 (by kernel_rfl) rfl
theorem ent38 : ∀ vs w, (callFunc 38 vs).run Try.prog w = .ok (.enter 38 vs) w := enters_of Try.func38 (by kernel_rfl) rfl
theorem ent39 : ∀ vs w, (callFunc 39 vs).run Try.prog w = .ok (.enter 39 vs) w := enters_of Try.func39 (by kernel_rfl) rfl
theorem ent40 : ∀ vs w, (callFunc 40 vs).run Try.prog w = .ok (.enter 40 vs) w := enters_of Try.func40 (by kernel_rfl) rfl
theorem ent41 : ∀ vs w, (callFunc 41 vs).run Try.prog w = .ok (.enter 41 vs) w := enters_of Try.func41 (by kernel_rfl) rfl
theorem ent42 : ∀ vs w, (callFunc 42 vs).run Try.prog w = .ok (.enter 42 vs) w := enters_of Try.func42 (by kernel_rfl) rfl
theorem ent43 : ∀ vs w, (callFunc 43 vs).run Try.prog w = .ok (.enter 43 vs) w := enters_of Try.func43 (by kernel_rfl) rfl
theorem ent45 : ∀ vs w, (callFunc 45 vs).run Try.prog w = .ok (.enter 45 vs) w := enters_of Try.func45 (by kernel_rfl) rfl
theorem ent46 : ∀ vs w, (callFunc 46 vs).run Try.prog w = .ok (.enter 46 vs) w := enters_of Try.func46 (by kernel_rfl) rfl
theorem ent47 : ∀ vs w, (callFunc 47 vs).run Try.prog w = .ok (.enter 47 vs) w := enters_of Try.func47 (by kernel_rfl) rfl
theorem ent48 : ∀ vs w, (callFunc 48 vs).run Try.prog w = .ok (.enter 48 vs) w := enters_of Try.func48 (by kernel_rfl) rfl
theorem ent49 : ∀ vs w, (callFunc 49 vs).run Try.prog w = .ok (.enter 49 vs) w := enters_of Try.func49 (by kernel_rfl) rfl
theorem ent56 : ∀ vs w, (callFunc 56 vs).run Try.prog w = .ok (.enter 56 vs) w := enters_of Try.func56 (by kernel_rfl) rfl
theorem ent57 : ∀ vs w, (callFunc 57 vs).run Try.prog w = .ok (.enter 57 vs) w := enters_of Try.func57 (by kernel_rfl) rfl
theorem ent64 : ∀ vs w, (callFunc 64 vs).run Try.prog w = .ok (.enter 64 vs) w := enters_of Try.func64 (by kernel_rfl) rfl
end Go.Proofs.Ytaggidjijekpbaa.Ty
namespace Go.Proofs.Ytaggidjijekpbaa
open Go.RowKit
theorem nodes_ok (w : World) (l : List Value) (_h8 : l.length = 8) :
    Calls Try.prog 36 #[.agg l.toArray] w fun e w' => ∃ b, e = .returned (.func (.func 45) #[] #[pt b 0]) ∧ Ext w w' ∧ Row w' b l 29 ∧ b = w.heap.size ∧ w'.heap.size = w.heap.size + 1 := by
  refine Calls.enter (args := [.agg l.toArray]) Try.func36 rfl rfl rfl rfl ?_
  refine sq ?_
  refine WL.box_agg rfl rfl rfl (fun b1 w1 hb1 hE1 hs1 hR1 => ?_)
  refine asg ?_
  refine WL.dn ?_
  refine sq ?_
  refine WL.makeFunc rfl rfl rfl ?_
  refine asg ?_
  refine WL.dn ?_
  refine WC.ret (fun a_ ha => ?_)
  exact bodyPost_tmp rfl ha rfl ⟨b1, rfl, hE1, hR1, hb1, hs1⟩
theorem pre_zero (T : Nd) : T.pre[0]? = some T := by cases T; simp [Nd.pre]
theorem pre_sub {T : Nd} {k i : Nat} {u t : Nd} (hk : T.subs[k]? = some u) (hi : u.pre[i]? = some t) : T.pre[1 + (Nd.preL (T.subs.take k)).length + i]? = some t := by
  obtain ⟨kk, s, mn, mx, ts⟩ := T
  simp only [Nd.subs] at hk ⊢
  have hlt : k < ts.length := (List.getElem?_eq_some_iff.1 hk).1
  have hu : ts[k] = u := (List.getElem?_eq_some_iff.1 hk).2
  have h1 : ts = ts.take k ++ u :: ts.drop (k + 1) := by
    rw [← hu, List.getElem_cons_drop, List.take_append_drop]
  have h2 : Nd.preL ts = Nd.preL (ts.take k) ++ (u.pre ++ Nd.preL (ts.drop (k + 1))) := by
    conv => lhs; rw [h1]
    rw [Nd.preL_append]; rfl
  have h3 : 1 + (Nd.preL (ts.take k)).length + i = ((Nd.preL (ts.take k)).length + i) + 1 := by omega
  rw [h3]
  simp only [Nd.pre, List.getElem?_cons_succ, h2]
  rw [List.getElem?_append_right (by omega), List.getElem?_append_left (by have := (List.getElem?_eq_some_iff.1 hi).1; omega)]
  have h4 : (Nd.preL (ts.take k)).length + i - (Nd.preL (ts.take k)).length = i := by omega
  rw [h4]; exact hi
theorem pre_take_succ {T : Nd} {k : Nat} {u : Nd} (hk : T.subs[k]? = some u) : (Nd.preL (T.subs.take (k + 1))).length = (Nd.preL (T.subs.take k)).length + u.pre.length := by
  rw [List.take_add_one, hk]; simp [Nd.preL_append, Nd.preL]
abbrev YPostB (J : Nat → (Nat → Prop) → World → Prop) (Jx : (Nat → Prop) → World → Prop) (S B : Nat → Prop) (i : Nat) (W1 : World) (e : Ending) (W' : World) : Prop :=
  ∃ B' : Nat → Prop, (∀ k, B' k → (B k ∨ W1.heap.size ≤ k) ∧ k < W'.heap.size) ∧ Keep (fun k => S k ∨ B k) W1 W' ∧ ((e = .returned (.bool true) ∧ J (i + 1) B' W') ∨ (e = .returned (.bool false) ∧ Jx B' W'))
def MarksB (w : World) (n0 : Nat) (ds : List Deferred) (B : Nat → Prop) : Prop := ∃ Ds : List Nat, ds = Ds.map markOf ∧ Ds.Nodup ∧ ∀ D ∈ Ds, (n0 ≤ D ∧ w.heap[D]? = some (.deferred (some []))) ∧ ¬ B D
theorem MarksB.cons {w w' : World} {n0 D : Nat} {ds : List Deferred} {S B B' : Nat → Prop} (h : MarksB w n0 ds B) (k : Keep (fun k => S k ∨ B k) w w') (hS : ∀ k, S k → k < n0) (hn : n0 ≤ w.heap.size) (hD : w.heap.size ≤ D) (hd : w'.heap[D]? = some (.deferred (some [])))
    (hB : ∀ k, B' k → B k ∨ w.heap.size ≤ k) (hBD : ¬ B' D) : MarksB w' n0 (markOf D :: ds) B' := by
  obtain ⟨Ds, rfl, hnd, hd'⟩ := h
  have hlt : ∀ E ∈ Ds, E < w.heap.size := fun E hE => (Array.getElem?_eq_some_iff.1 (hd' E hE).1.2).1
  refine ⟨D :: Ds, rfl, List.nodup_cons.2 ⟨fun hm => ?_, hnd⟩, ?_⟩
  · have := hlt D hm; omega
  · intro E hE
    cases hE with
    | head => exact ⟨⟨by omega, hd⟩, hBD⟩
    | tail _ hm =>
      have h1 := hd' E hm
      have h2 := hlt E hm
      refine ⟨⟨h1.1.1, k.obj h1.1.2 (fun h => ?_)⟩, fun h => ?_⟩
      · rcases h with h | h
        · have := hS E h; omega
        · exact h1.2 h
      · rcases hB E h with h | h
        · exact h1.2 h
        · omega
theorem MarksB.keep {w w' : World} {n0 : Nat} {ds : List Deferred} {B : Nat → Prop} (h : MarksB w n0 ds B) (e : Ext w w') : MarksB w' n0 ds B := by
  obtain ⟨Ds, h1, h2, h3⟩ := h
  exact ⟨Ds, h1, h2, fun D hD => ⟨⟨(h3 D hD).1.1, (e.block D (Array.getElem?_eq_some_iff.1 (h3 D hD).1.2).1).trans (h3 D hD).1.2⟩, (h3 D hD).2⟩⟩
theorem MarksB.nil (w : World) (n0 : Nat) (B : Nat → Prop) : MarksB w n0 [] B := ⟨[], rfl, List.nodup_nil, by simp⟩
theorem bodyPostM_unitB {P : Program} {N : Nat} {ds : List Deferred} {r : Reg} {w : World} {fn : Func} {R : Ending → World → Prop} {a : Act} {n0 : Nat} {e : Exit} {B : Nat → Prop} (he : e = .ret ∨ e = .normal) (hres : fn.results = #[]) (h : Fits N ds r a) (hm : MarksB w n0 ds B)
    (hR : ∀ w', Kp n0 B w w' → R (.returned (.tuple #[])) w') : bodyPostM Fence.wide 0 P fn R e a w := by
  obtain ⟨Ds, rfl, hnd, hd⟩ := hm
  have : LeavesInM Fence.wide 0 P fn a.tmps R a.defers .returning w := by
    rw [h.defers]
    exact leavesM (n0 := n0) Ds w hnd (fun D hD => (hd D hD).1) (fun w' hk => ⟨_, results_none hres _ _ _, hR w' (hk.mono (fun k _ hm => ⟨(hd k hm).1.1, (hd k hm).2⟩))⟩)
  rcases he with rfl | rfl <;> exact this
theorem nodes1_ok (T : Nd) : ∀ (D : Nat → Prop) (l : Nat) (S : Nat → Prop) (J : Nat → (Nat → Prop) → World → Prop) (Jx : (Nat → Prop) → World → Prop) (W : World) (b : Nat) (cells : List Value),
    (∀ k, S k → k < W.heap.size) → Row W b cells 29 → NodeL D W cells T → ¬ S b → (∀ k, D k → ¬ S k) →
    (∀ i B A A', W.heap.size ≤ A.heap.size → J i B A → Kp W.heap.size B A A' → J i B A') → (∀ B A A', W.heap.size ≤ A.heap.size → Jx B A → Kp W.heap.size B A A' → Jx B A') →
    (∀ i B W1 cells t, T.pre[i]? = some t → NodeL D W1 cells t → W.heap.size ≤ W1.heap.size → (∀ k, B k → W.heap.size ≤ k ∧ k < W1.heap.size) → J i B W1 → YieldC Try.prog l #[.agg cells.toArray] W1 (YPostB J Jx S B i W1)) →
    J 0 (fun _ => False) W → Calls Try.prog 45 #[.func (.yield l) #[] #[], pt b 0] W fun e W' => (∃ v, e = .returned v) ∧ ∃ B : Nat → Prop, (∀ k, B k → W.heap.size ≤ k ∧ k < W'.heap.size) ∧ (J T.pre.length B W' ∨ Jx B W') := by
  induction T using Nd.ind with
  | h kd st mn mx ts ih =>
  intro D l S J Jx W b cells hS hRb hT hSb hSD hJ hJx hY h0
  replace ih : ∀ t, t ∈ (Nd.mk kd st mn mx ts).subs → _ := ih
  generalize Nd.mk kd st mn mx ts = T at *
  clear kd st mn mx ts
  have hTl := hT.lt
  have hbW := hRb.lt
  obtain ⟨a, cap, rfl, hts, hlen⟩ := hTl.op2
  refine Calls.enterM (args := [.func (.yield l) #[] #[], pt b 0]) Try.func45 rfl rfl rfl rfl ?_
  refine sq ?_
  refine WL.box_flat rfl rfl rfl rfl (fun b1 w1 hb1 hE1 hs1 hR1 => ?_)
  refine WL.dn ?_
  refine WC.seqk ?_
  refine sq ?_
  refine WL.load_fld rfl rfl Ty.flat32 rfl hR1 rfl ?_
  refine WL.load_box rfl rfl rfl (hRb.ext hE1) Ty.agg29 ?_
  refine WL.yield rfl rfl rfl rfl (hY 0 (fun _ => False) w1 _ T (pre_zero T) (hT.ext hE1) (by omega) (fun _ h => h.elim) (hJ 0 _ _ _ (Nat.le_refl _) h0 hE1.kp)) ?_
  have hSb1 : ¬ S b1 := fun h => by have := hS b1 h; omega
  rintro e W2 ⟨B2, hB2, hK2, (⟨rfl, hJ2⟩ | ⟨rfl, hx2⟩)⟩
  case inr =>
    refine ⟨_, rfl, ?_⟩
    refine WL.not rfl rfl rfl ?_
    refine WL.dn ?_
    refine cT ?_
    refine WC.ret (fun a_ ha => ?_)
    have hz2 := hK2.size
    exact bodyPostM_unitB (B := B2) (.inl rfl) rfl ha (MarksB.nil _ W.heap.size _) (fun w' hk => ⟨⟨_, rfl⟩, B2, fun k h => by
      have h1 := hB2 k h
      have h2 := hk.size
      rcases h1.1 with q | q
      · exact q.elim
      · omega, .inr (hJx _ _ _ (by omega) hx2 hk)⟩)
  have hz2 := hK2.size
  refine ⟨_, rfl, ?_⟩
  refine WL.not rfl rfl rfl ?_
  refine WL.dn ?_
  refine cF ?_
  refine WC.sk ?_
  have hSF : ∀ k, ¬ S k → ¬ (S k ∨ False) := fun k h q => q.elim h id
  have hB2b : ∀ k, B2 k → w1.heap.size ≤ k ∧ k < W2.heap.size := fun k h => by
    have h1 := hB2 k h
    rcases h1.1 with q | q
    · exact q.elim
    · exact ⟨q, h1.2⟩
  have hRb2 : Row W2 b _ _ := hK2.row (hRb.ext hE1) (hSF _ hSb)
  have hR12 : Row W2 b1 _ _ := hK2.row hR1 (hSF _ hSb1)
  have hDS : ∀ k, D k ∧ k < W.heap.size → ¬ (S k ∨ W.heap.size < k) := fun k h q => q.elim (hSD k h.1) (fun q => by omega)
  have hts2 : NodesV (fun k => D k ∧ k < W.heap.size) W2 _ _ := hK2.nodes (hts.ext hE1) (fun k h => hSF _ (hSD k h.1))
  refine sq ?_
  refine WL.fieldAddr rfl rfl Ty.fld29_4 rfl ?_
  refine WL.load_fld rfl rfl Ty.flat27 rfl hRb2 rfl ?_
  refine WL.len rfl rfl Try.underlying27 rfl ?_
  refine mv ?_
  refine WL.dn ?_
  refine WC.block ?_
  refine WC.weaken (r' := [(1, pt b 0), (2, pt b1 0), (11, .slice a T.subs.length cap), (12, .int .i64 T.subs.length), (13, .int .i64 0)]) (s4 (sr rfl (subReg_nil _))) ?_
  refine WC.loopD (σ := Nat) (fun k ds r_ w_ => r_ = [(1, pt b 0), (2, pt b1 0), (11, .slice a T.subs.length cap), (12, .int .i64 T.subs.length), (13, .int .i64 (k : Int))] ∧ k ≤ T.subs.length ∧ Keep (fun k => S k ∨ W.heap.size < k) W2 w_ ∧ ∃ B : Nat → Prop, (∀ k, B k → W.heap.size < k ∧ k < w_.heap.size) ∧ MarksB w_ W.heap.size ds B ∧ J (1 + (Nd.preL (T.subs.take k)).length) B w_)
    (fun k => T.subs.length - k) 0 ⟨rfl, Nat.zero_le _, Keep.refl _ _, B2, fun k h => by have := hB2b k h; omega, MarksB.nil _ _ _, by simpa [Nd.preL] using hJ2⟩ ?_
  rintro k ds r_ w3 ⟨rfl, hk, hK3, B, hBb, hM, hJ3⟩
  have hz3 := hK3.size
  refine sq ?_
  cases hc : decide ((k : Int) < T.subs.length) with
  | false =>
    refine WL.lss rfl rfl rfl rfl hc ?_
    have hc := of_decide_eq_false hc
    refine WL.dn ?_
    refine WC.seqk ?_
    refine cF ?_
    refine WC.exit (fun a_ ha => ?_)
    refine exit_then ?_
    refine exit_then ?_
    refine exit_here ?_
    refine bodyPostM_unitB (B := B) (.inr rfl) rfl ha hM (fun w' hk' => ⟨⟨_, rfl⟩, B, fun k h => by have := hBb k h; have := hk'.size; omega, .inl ?_⟩)
    have hkn : k = T.subs.length := by omega
    subst hkn
    have hl : T.pre.length = 1 + (Nd.preL (T.subs.take T.subs.length)).length := by
      rw [List.take_length]; cases T; simp [Nd.pre, Nd.subs]; omega
    rw [hl]
    exact hJ _ _ _ _ (by omega) hJ3 hk'
  | true =>
    refine WL.lss rfl rfl rfl rfl hc ?_
    have hc := of_decide_eq_true hc
    refine WL.dn ?_
    refine WC.seqk ?_
    refine cT ?_
    refine WC.sk ?_
    refine WC.seqk ?_
    refine WC.block ?_
    have hts3 : NodesV (fun k => D k ∧ k < W.heap.size) w3 _ _ := hK3.nodes hts2 hDS
    have hSb' : ¬ (S b ∨ W.heap.size < b) := fun q => q.elim hSb (fun q => by omega)
    have hSb1' : ¬ (S b1 ∨ W.heap.size < b1) := fun q => q.elim hSb1 (fun q => by omega)
    have hRb3 : Row w3 b _ _ := hK3.row hRb2 hSb'
    have hR13 : Row w3 b1 _ _ := hK3.row hR12 hSb1'
    obtain ⟨u, hu⟩ : ∃ u, T.subs[k]? = some u := ⟨_, List.getElem?_eq_getElem (by omega)⟩
    obtain ⟨eb, eo, el, rfl, hDe, her, hn⟩ := hts3.at hu
    refine sq ?_
    refine WL.indexAddr (i := k) rfl rfl Ty.slice27 rfl rfl rfl (by omega) ?_
    refine WL.load_agg rfl rfl (by rw [hn.length]; exact Ty.agg29) rfl her ?_
    refine WL.alloc rfl rfl Ty.zero29 rfl (fun b4 w4 hb4 hE4 hs4 hR4 => ?_)
    refine WL.store_box rfl rfl rfl hR4 (by rw [hn.length]; exact Ty.agg29) (by rw [hn.length]; rfl) (by obtain ⟨q, rfl, hq⟩ := hn.opn; obtain ⟨a', c', rfl, _⟩ := hq.get; rfl) (fun w5 hB5 hR5 => ?_)
    have hE5 : Ext w3 w5 := hB5.onto hE4 (by omega)
    have hz5 := hB5.size
    refine WL.dn ?_
    refine sq ?_
    refine WL.load_box rfl rfl rfl hR5 (by rw [hn.length]; exact Ty.agg29) ?_
    refine WL.call rfl rfl rfl Ty.ent36 (nodes_ok _ _ hn.length) ?_
    rintro e w6 ⟨b6, rfl, hE6, hR6, hb6, hs6⟩
    refine ⟨_, rfl, ?_⟩
    have hz6 := hE6.size
    refine WL.dn ?_
    refine WC.block ?_
    have hn6 : NodeL (fun k => D k ∧ k < W.heap.size) w6 el u := (hn.ext hE5).ext hE6
    have hKw : Keep (fun k => S k ∨ W.heap.size < k) W2 w6 := hK3.trans ((hE5.trans hE6).keep _)
    have hRb6 : Row w6 b _ _ := hKw.row hRb2 hSb'
    have hR16 : Row w6 b1 _ _ := hKw.row hR12 hSb1'
    have hJ6 : J (1 + (Nd.preL (T.subs.take k)).length) B w6 := hJ _ _ _ _ (by omega) hJ3 (Ext.kp (hE5.trans hE6))
    have hM6 : MarksB w6 W.heap.size ds B := hM.keep (hE5.trans hE6)
    have hit : IterB Try.prog 45 #[pt b6 0] (fun i v W1 => ∃ cells, v = .agg cells.toArray ∧ ∃ t, u.pre[i]? = some t ∧ NodeL (fun k => D k ∧ k < W.heap.size) W1 cells t) u.pre.length (fun k => (D k ∧ k < W.heap.size) ∨ k = b6) w6 := by
      intro l' S' J' Jx' W' hE hS' hSD' hJ' hJx' hY' h0'
      exact Calls.caps1 (ih u (List.mem_of_getElem? hu) (fun k => D k ∧ k < W.heap.size) l' S' J' Jx' W' b6 el hS' (hR6.ext hE) (hn6.ext hE) (fun h => hSD' _ h (.inr rfl)) (fun k hk h => hSD' k h (.inl hk)) hJ' hJx'
        (fun i B W1 cells t ht hn hsz hB hj => hY' i B W1 _ (by have := (List.getElem?_eq_some_iff.1 ht).1; exact this) ⟨cells, rfl, t, ht, hn⟩ hsz hB hj) h0')
    refine WC.rangeFuncB rfl rfl Ty.ent45 hit (Ext.refl _) (by rintro k (⟨_, h⟩ | h) <;> omega) (fun k => S k ∨ B k) (by rintro k (h | h) <;> first | (have := hS k h; omega) | (have := hBb k h; omega)) (by
        rintro k (h | h) (⟨h1, h2⟩ | h1)
        · exact hSD k h1 h
        · have := hS k h; omega
        · have := hBb k h; omega
        · have := hBb k h; omega)
      (fun i Bi A => ∃ B' : Nat → Prop, (∀ k, B' k → B k ∨ Bi k) ∧ J (1 + (Nd.preL (T.subs.take k)).length + i) B' A) (fun c Bi A => c = .ret ∧ ∃ B' : Nat → Prop, (∀ k, B' k → B k ∨ Bi k) ∧ Jx B' A)
      (fun i Bi A A' hs ⟨B', h1, h2⟩ hk => ⟨B', h1, hJ _ _ _ _ (by omega) h2 (hk.mono (fun k _ h => ⟨by omega, fun hb => by
        rcases h1 k hb with q | q
        · have := hBb k q; omega
        · exact h.2 q⟩))⟩)
      (fun c Bi A A' hs ⟨h0, B', h1, h2⟩ hk => ⟨h0, B', h1, hJx _ _ _ (by omega) h2 (hk.mono (fun k _ h => ⟨by omega, fun hb => by
        rcases h1 k hb with q | q
        · have := hBb k q; omega
        · exact h.2 q⟩))⟩) ⟨B, fun k h => .inl h, hJ6⟩ ?_ ?_ ?_
    · rintro i Bi W1 _ l' hi ⟨cells, rfl, t, ht, hnt⟩ hl1 hl2 hKW1 hBi ⟨B', hB', hJi⟩
      obtain ⟨q, rfl, hq⟩ := hnt.opn
      obtain ⟨aq, cq, rfl, -, -⟩ := hq.get
      have hzW := hKW1.size
      refine WC.region ?_
      refine WL.alloc rfl rfl Ty.zero29 rfl (fun b7 w7 hb7 hE7 hs7 hR7 => ?_)
      refine WL.store_box rfl rfl rfl hR7 Ty.agg29 rfl rfl (fun w8 hB8 hR8 => ?_)
      have hE8 : Ext W1 w8 := hB8.onto hE7 (by omega)
      have hz8 := hB8.size
      refine WL.nil (fun a_ ha => ?_)
      refine ⟨hE8.keep _, fun w9 hB9 => ?_⟩
      refine WC.at ?_ ha
      have hz9 := hB9.size
      have hBb1 : ¬ B b1 := fun h => by have := hBb b1 h; omega
      have hR19 : Row w9 b1 _ _ := hB9.row ((hKW1.row hR16 (fun h => h.elim hSb1 hBb1)).ext hE8) (by omega)
      have hR89 : Row w9 b7 _ _ := hB9.row hR8 (by omega)
      refine WC.block ?_
      refine sq ?_
      refine WL.load_fld rfl rfl Ty.flat32 rfl hR19 rfl ?_
      refine WL.load_box rfl rfl rfl hR89 Ty.agg29 ?_
      have hn9 : NodeL D w9 _ t := ((hnt.ext hE8).but hB9 (by rintro ⟨h1, h2⟩; omega)).dom (fun _ h => h.1)
      have hB'b : ∀ k, B' k → W.heap.size < k ∧ k < W1.heap.size ∧ k ≠ l' := fun k h => by
        rcases hB' k h with q | q
        · have := hBb k q; omega
        · have := hBi k q; omega
      have hJ9 : J (1 + (Nd.preL (T.subs.take k)).length + i) B' w9 := hJ _ _ _ _ (by omega) (hJ _ _ _ _ (by omega) hJi (Ext.kp hE8)) (hB9.keep ⟨by omega, fun h => (hB'b l' h).2.2 rfl⟩)
      refine WL.yield rfl rfl rfl rfl (hY _ B' w9 _ t (pre_sub hu ht) hn9 (by omega) (fun k h => by have := hB'b k h; omega) hJ9) ?_
      have hkeepS : ∀ {W4 : World}, Keep (fun k => S k ∨ B' k) w9 W4 → Keep (fun k => (S k ∨ B k) ∨ Bi k) w9 W4 := fun h => h.mono (fun k _ q => by
        rcases q with q | q
        · exact .inl (.inl q)
        · rcases hB' k q with q | q
          · exact .inl (.inr q)
          · exact .inr q)
      rintro e W4 ⟨B4, hB4, hK4, (⟨rfl, hJ4⟩ | ⟨rfl, hx4⟩)⟩
      · have hz4 := hK4.size
        refine ⟨_, rfl, ?_⟩
        refine WL.not rfl rfl rfl ?_
        refine WL.dn ?_
        refine cF ?_
        refine WC.skip' (fun a_ ha => ?_)
        refine ⟨fun k => (Bi k ∨ W1.heap.size ≤ k) ∧ k < W4.heap.size, fun k h => h, hkeepS hK4, B4, fun k h => ?_, hJ4⟩
        rcases (hB4 k h).1 with q | q
        · rcases hB' k q with q | q
          · exact .inl q
          · exact .inr ⟨.inl q, (hB4 k h).2⟩
        · exact .inr ⟨.inr (by omega), (hB4 k h).2⟩
      · have hz4 := hK4.size
        refine ⟨_, rfl, ?_⟩
        refine WL.not rfl rfl rfl ?_
        refine WL.dn ?_
        refine cT ?_
        refine WC.ret (fun a_ ha => ?_)
        refine ⟨fun k => (Bi k ∨ W1.heap.size ≤ k) ∧ k < W4.heap.size, fun k h => h, hkeepS hK4, rfl, B4, fun k h => ?_, hx4⟩
        rcases (hB4 k h).1 with q | q
        · rcases hB' k q with q | q
          · exact .inl q
          · exact .inr ⟨.inl q, (hB4 k h).2⟩
        · exact .inr ⟨.inr (by omega), (hB4 k h).2⟩
    · intro w' D' Bi hBi hD' hd' hKp ⟨B', hB', hJn⟩ a_ ha
      have hzp := hKp.size
      refine WC.at (c := _) ?_ ha
      refine WC.region ?_
      refine WL.add (v := ((k + 1 : Nat) : Int)) rfl rfl rfl rfl (by rw [IntWalk.i64_in _ (by omega)]; rfl) ?_
      refine mv ?_
      refine WL.nil (fun a_ ha => ?_)
      have hB'b : ∀ k, B' k → W.heap.size < k ∧ k < w'.heap.size ∧ k ≠ D' := fun k h => by
        rcases hB' k h with q | q
        · have := hBb k q; omega
        · have := hBi k q; omega
      refine ⟨k + 1, _, _, ha.weaken (s4 (sr rfl (subReg_nil _))), ⟨rfl, by omega, hKw.trans (hKp.mono (fun k _ h => h.imp id (fun h => (hBb k h).1))), B', fun k h => ⟨(hB'b k h).1, (hB'b k h).2.1⟩,
        hM6.cons hKp hS (by omega) hD' hd' (fun k h => (hB' k h).imp id (fun h => (hBi k h).1)) (fun h => (hB'b D' h).2.2 rfl), ?_⟩, by omega⟩
      rw [pre_take_succ hu, ← Nat.add_assoc]; exact hJn
    · rintro w' D' c Bi hBi hD' hd' hKp ⟨rfl, B', hB', hxx⟩
      have hzp := hKp.size
      refine WC.ret (fun a_ ha => ?_)
      have hB'b : ∀ k, B' k → W.heap.size < k ∧ k < w'.heap.size ∧ k ≠ D' := fun k h => by
        rcases hB' k h with q | q
        · have := hBb k q; omega
        · have := hBi k q; omega
      exact bodyPostM_unitB (B := B') (.inl rfl) rfl ha (hM6.cons hKp hS (by omega) hD' hd' (fun k h => (hB' k h).imp id (fun h => (hBi k h).1)) (fun h => (hB'b D' h).2.2 rfl)) (fun w'' hk' => ⟨⟨_, rfl⟩, B', fun k h => by have := hB'b k h; have := hk'.size; omega, .inr (hJx _ _ _ (by omega) hxx hk')⟩)
theorem nodes_iter {T : Nd} {D : Nat → Prop} {w : World} {b : Nat} {cells : List Value} (hR : Row w b cells 29) (hT : NodeL D w cells T) :
    IterB Try.prog 45 #[pt b 0] (fun i v W1 => ∃ cells, v = .agg cells.toArray ∧ ∃ t, T.pre[i]? = some t ∧ NodeL D W1 cells t) T.pre.length (fun k => D k ∨ k = b) w := by
  intro l' S' J' Jx' W' hE hS' hSD' hJ' hJx' hY' h0'
  exact Calls.caps1 (nodes1_ok T D l' S' J' Jx' W' b cells hS' (hR.ext hE) (hT.ext hE) (fun h => hSD' _ h (.inr rfl)) (fun k hk h => hSD' k h (.inl hk)) hJ' hJx'
    (fun i B W1 cells t ht hn hsz hB hj => hY' i B W1 _ (by have := (List.getElem?_eq_some_iff.1 ht).1; exact this) ⟨cells, rfl, t, ht, hn⟩ hsz hB hj) h0')
end Go.Proofs.Ytaggidjijekpbaa
namespace Go.Proofs.Ytaggidjijekpbaa
open Go.Proofs Go.RowKit
set_option maxRecDepth 20000 in
set_option maxHeartbeats 4000000 in
theorem bounds_ok (a b : Int) (w : World) :
  Calls Try.prog 40 #[.int .i64 a, .int .i64 b] w fun e w' => e = .returned (.bool (Nd.bounds a b)) ∧ Ext w w' := by
 refine Calls.enter (args := [.int .i64 a, .int .i64 b]) Try.func40 rfl rfl rfl rfl ?_
 refine sq ?_
 refine asg ?_
 refine WL.dn ?_
 refine WC.seqk ?_
 refine sq ?_
 refine mv ?_
 cases hc1 : decide ((a : Int) < 0) with
 | false =>
  refine WL.lss rfl rfl rfl rfl hc1 ?_
  have hp1 := of_decide_eq_false hc1
  refine mv ?_
  refine mv ?_
  cases hc2 : decide ((16 : Int) < a) with
  | false =>
   refine WL.gtr rfl rfl rfl rfl hc2 ?_
   have hp2 := of_decide_eq_false hc2
   refine pF ?_
   refine mv ?_
   refine mv ?_
   cases hc3 : ((a : Int) == 1) with
   | false =>
    refine WL.eql rfl rfl rfl rfl hc3 ?_
    have hp3 := beq_eq_false_iff_ne.1 hc3
    refine mv ?_
    refine ps ?_
    refine ps ?_
    refine pF ?_
    refine pF ?_
    refine WL.dn ?_
    refine cF ?_
    refine WC.sk ?_
    refine WC.seqk ?_
    refine WC.weaken (r' := [(0, .int .i64 a), (1, .int .i64 b), (4, .bool false), (18, .bool false)]) (s4 (subReg_nil _)) ?_
    refine WC.region ?_
    refine mv ?_
    cases hc4 : ((b : Int) == (-1)) with
    | false =>
     refine WL.eql rfl rfl rfl rfl hc4 ?_
     have hp4 := beq_eq_false_iff_ne.1 hc4
     refine mv ?_
     refine mv ?_
     cases hc5 : decide ((1 : Int) ≤ b) with
     | false =>
      refine WL.geq rfl rfl rfl rfl hc5 ?_
      have hp5 := of_decide_eq_false hc5
      refine mv ?_
      refine ps ?_
      refine ps ?_
      refine pF ?_
      refine mv ?_
      refine ps ?_
      refine ps ?_
      refine ps ?_
      refine pF ?_
      refine pF ?_
      refine asg ?_
      refine WL.dn ?_
      refine WC.ret (fun a_ ha => ?_)
      exact bodyPost_tmp rfl ha rfl ⟨(by congr 2; clear ha; rw [Bool.eq_iff_iff]; simp [Nd.bounds] at *; omega), (Ext.refl _)⟩
     | true =>
      refine WL.geq rfl rfl rfl rfl hc5 ?_
      have hp5 := of_decide_eq_true hc5
      refine mv ?_
      refine mv ?_
      cases hc6 : decide ((b : Int) ≤ 16) with
      | false =>
       refine WL.leq rfl rfl rfl rfl hc6 ?_
       have hp6 := of_decide_eq_false hc6
       refine pT ?_
       refine mv ?_
       refine ps ?_
       refine ps ?_
       refine ps ?_
       refine pF ?_
       refine pF ?_
       refine asg ?_
       refine WL.dn ?_
       refine WC.ret (fun a_ ha => ?_)
       exact bodyPost_tmp rfl ha rfl ⟨(by congr 2; clear ha; rw [Bool.eq_iff_iff]; simp [Nd.bounds] at *; omega), (Ext.refl _)⟩
      | true =>
       refine WL.leq rfl rfl rfl rfl hc6 ?_
       have hp6 := of_decide_eq_true hc6
       refine pT ?_
       refine mv ?_
       refine mv ?_
       refine mv ?_
       refine WL.geq rfl rfl rfl rfl rfl ?_
       refine pT ?_
       refine pF ?_
       refine asg ?_
       refine WL.dn ?_
       refine WC.ret (fun a_ ha => ?_)
       exact bodyPost_tmp rfl ha rfl ⟨(by congr 2; clear ha; rw [Bool.eq_iff_iff]; simp [Nd.bounds] at *; omega), (Ext.refl _)⟩
    | true =>
     refine WL.eql rfl rfl rfl rfl hc4 ?_
     have hp4 := beq_iff_eq.1 hc4
     refine mv ?_
     refine ps ?_
     refine ps ?_
     refine ps ?_
     refine ps ?_
     refine ps ?_
     refine ps ?_
     refine ps ?_
     refine ps ?_
     refine ps ?_
     refine ps ?_
     refine ps ?_
     refine pT ?_
     refine asg ?_
     refine WL.dn ?_
     refine WC.ret (fun a_ ha => ?_)
     exact bodyPost_tmp rfl ha rfl ⟨(by congr 2; clear ha; rw [Bool.eq_iff_iff]; simp [Nd.bounds] at *; omega), (Ext.refl _)⟩
   | true =>
    refine WL.eql rfl rfl rfl rfl hc3 ?_
    have hp3 := beq_iff_eq.1 hc3
    refine mv ?_
    refine mv ?_
    cases hc4 : ((b : Int) == 1) with
    | false =>
     refine WL.eql rfl rfl rfl rfl hc4 ?_
     have hp4 := beq_eq_false_iff_ne.1 hc4
     refine pT ?_
     refine pF ?_
     refine WL.dn ?_
     refine cF ?_
     refine WC.sk ?_
     refine WC.seqk ?_
     refine WC.weaken (r' := [(0, .int .i64 a), (1, .int .i64 b), (4, .bool false), (18, .bool false)]) (s4 (subReg_nil _)) ?_
     refine WC.region ?_
     refine mv ?_
     cases hc5 : ((b : Int) == (-1)) with
     | false =>
      refine WL.eql rfl rfl rfl rfl hc5 ?_
      have hp5 := beq_eq_false_iff_ne.1 hc5
      refine mv ?_
      refine mv ?_
      cases hc6 : decide ((1 : Int) ≤ b) with
      | false =>
       refine WL.geq rfl rfl rfl rfl hc6 ?_
       have hp6 := of_decide_eq_false hc6
       refine mv ?_
       refine ps ?_
       refine ps ?_
       refine pF ?_
       refine mv ?_
       refine ps ?_
       refine ps ?_
       refine ps ?_
       refine pF ?_
       refine pF ?_
       refine asg ?_
       refine WL.dn ?_
       refine WC.ret (fun a_ ha => ?_)
       exact bodyPost_tmp rfl ha rfl ⟨(by congr 2; clear ha; rw [Bool.eq_iff_iff]; simp [Nd.bounds] at *; omega), (Ext.refl _)⟩
      | true =>
       refine WL.geq rfl rfl rfl rfl hc6 ?_
       have hp6 := of_decide_eq_true hc6
       refine mv ?_
       refine mv ?_
       cases hc7 : decide ((b : Int) ≤ 16) with
       | false =>
        refine WL.leq rfl rfl rfl rfl hc7 ?_
        have hp7 := of_decide_eq_false hc7
        refine pT ?_
        refine mv ?_
        refine ps ?_
        refine ps ?_
        refine ps ?_
        refine pF ?_
        refine pF ?_
        refine asg ?_
        refine WL.dn ?_
        refine WC.ret (fun a_ ha => ?_)
        exact bodyPost_tmp rfl ha rfl ⟨(by congr 2; clear ha; rw [Bool.eq_iff_iff]; simp [Nd.bounds] at *; omega), (Ext.refl _)⟩
       | true =>
        refine WL.leq rfl rfl rfl rfl hc7 ?_
        have hp7 := of_decide_eq_true hc7
        refine pT ?_
        refine mv ?_
        refine mv ?_
        refine mv ?_
        refine WL.geq rfl rfl rfl rfl rfl ?_
        refine pT ?_
        refine pF ?_
        refine asg ?_
        refine WL.dn ?_
        refine WC.ret (fun a_ ha => ?_)
        exact bodyPost_tmp rfl ha rfl ⟨(by congr 2; clear ha; rw [Bool.eq_iff_iff]; simp [Nd.bounds] at *; omega), (Ext.refl _)⟩
     | true =>
      refine WL.eql rfl rfl rfl rfl hc5 ?_
      have hp5 := beq_iff_eq.1 hc5
      refine mv ?_
      refine ps ?_
      refine ps ?_
      refine ps ?_
      refine ps ?_
      refine ps ?_
      refine ps ?_
      refine ps ?_
      refine ps ?_
      refine ps ?_
      refine ps ?_
      refine ps ?_
      refine pT ?_
      refine asg ?_
      refine WL.dn ?_
      refine WC.ret (fun a_ ha => ?_)
      exact bodyPost_tmp rfl ha rfl ⟨(by congr 2; clear ha; rw [Bool.eq_iff_iff]; simp [Nd.bounds] at *; omega), (Ext.refl _)⟩
    | true =>
     refine WL.eql rfl rfl rfl rfl hc4 ?_
     have hp4 := beq_iff_eq.1 hc4
     refine pT ?_
     refine pF ?_
     refine WL.dn ?_
     refine cT ?_
     refine WC.seqk ?_
     refine WC.weaken (r' := [(0, .int .i64 a), (1, .int .i64 b), (4, .bool false), (18, .bool true)]) (s4 (subReg_nil _)) ?_
     refine WC.region ?_
     refine asg ?_
     refine WL.dn ?_
     refine WC.ret (fun a_ ha => ?_)
     refine ret_then ?_
     exact bodyPost_tmp rfl ha rfl ⟨(by congr 2; clear ha; rw [Bool.eq_iff_iff]; simp [Nd.bounds] at *; omega), (Ext.refl _)⟩
  | true =>
   refine WL.gtr rfl rfl rfl rfl hc2 ?_
   have hp2 := of_decide_eq_true hc2
   refine pF ?_
   refine mv ?_
   refine ps ?_
   refine ps ?_
   refine ps ?_
   refine ps ?_
   refine ps ?_
   refine ps ?_
   refine pT ?_
   refine WL.dn ?_
   refine cT ?_
   refine WC.seqk ?_
   refine WC.weaken (r' := [(0, .int .i64 a), (1, .int .i64 b), (4, .bool false), (18, .bool true)]) (s4 (subReg_nil _)) ?_
   refine WC.region ?_
   refine asg ?_
   refine WL.dn ?_
   refine WC.ret (fun a_ ha => ?_)
   refine ret_then ?_
   exact bodyPost_tmp rfl ha rfl ⟨(by congr 2; clear ha; rw [Bool.eq_iff_iff]; simp [Nd.bounds] at *; omega), (Ext.refl _)⟩
 | true =>
  refine WL.lss rfl rfl rfl rfl hc1 ?_
  have hp1 := of_decide_eq_true hc1
  refine mv ?_
  refine ps ?_
  refine ps ?_
  refine pT ?_
  refine mv ?_
  refine ps ?_
  refine ps ?_
  refine ps ?_
  refine ps ?_
  refine ps ?_
  refine ps ?_
  refine pT ?_
  refine WL.dn ?_
  refine cT ?_
  refine WC.seqk ?_
  refine WC.weaken (r' := [(0, .int .i64 a), (1, .int .i64 b), (4, .bool false), (18, .bool true)]) (s4 (subReg_nil _)) ?_
  refine WC.region ?_
  refine asg ?_
  refine WL.dn ?_
  refine WC.ret (fun a_ ha => ?_)
  refine ret_then ?_
  exact bodyPost_tmp rfl ha rfl ⟨(by congr 2; clear ha; rw [Bool.eq_iff_iff]; simp [Nd.bounds] at *; omega), (Ext.refl _)⟩
set_option maxRecDepth 20000 in
set_option maxHeartbeats 4000000 in
theorem has1_ok (D : Nat → Prop) (w : World) (b : Nat) (k : Int) (l : List Value) (T : Nd) (hT : NodeL D w l T) (hb : w.cell? ⟨b, 0, none⟩ = some (.int .u8 k)) :
  Calls Try.prog 57 #[.agg l.toArray, pt b 0] w fun e w' => e = .returned (.bool (T.kind == k)) ∧ Ext w w' := by
 have hT := hT.lt
 obtain ⟨a, cap, rfl, hts, hlen⟩ := hT.op2
 refine Calls.enter (args := [.agg (tcells T (.slice a T.subs.length cap)).toArray, pt b 0]) Try.func57 rfl rfl rfl rfl ?_
 refine sq ?_
 refine WL.box_agg rfl rfl rfl (fun b1 w6 hb2 hE5 hs3 hR4 => ?_)
 refine asg ?_
 refine WL.dn ?_
 refine sq ?_
 refine WL.fieldAddr rfl rfl Ty.fld29_0 rfl ?_
 refine WL.load_fld rfl rfl Ty.flat5 rfl hR4 rfl ?_
 refine WL.load_flat rfl rfl Ty.flat5 rfl (hE5.cell hb) ?_
 refine WL.eql rfl rfl rfl rfl rfl ?_
 refine asg ?_
 refine WL.dn ?_
 refine WC.ret (fun a_ ha => ?_)
 exact bodyPost_tmp rfl ha rfl ⟨rfl, hE5⟩
set_option maxRecDepth 20000 in
set_option maxHeartbeats 4000000 in
theorem indexFunc_ok (D : Nat → Prop) (w : World) (a : Option Addr) (cap fn : Nat) (caps : Array Value) (ts : List Nd) (p : Nd → Bool) (hts : NodesV D w (.slice a ts.length cap) ts) (hf : ∀ (l : List Value) (t : Nd) (w' : World), Ext w w' → NodeL D w' l t → t ∈ ts → Calls Try.prog fn (#[.agg l.toArray] ++ caps) w' fun e w'' => e = .returned (.bool (p t)) ∧ Ext w' w'') (hent : ∀ vs w, (callFunc fn vs).run Try.prog w = .ok (.enter fn vs) w) :
  Calls Try.prog 64 #[.slice a ts.length cap, .func (.func fn) #[] caps] w fun e w' => e = .returned (.int .i64 (idxI p ts)) ∧ Ext w w' := by
 have hlen := hts.len
 refine Calls.enter (args := [.slice a ts.length cap, .func (.func fn) #[] caps]) Try.func64 rfl rfl rfl rfl ?_
 refine sq ?_
 refine asg ?_
 refine WL.dn ?_
 refine WC.seqk ?_
 refine sq ?_
 refine mv ?_
 refine WL.len rfl rfl Try.underlying27 rfl ?_
 refine mv ?_
 refine WL.dn ?_
 refine WC.block ?_
 refine WC.weaken (r' := [(0, .slice a ts.length cap), (1, .func (.func fn) #[] caps), (6, .slice a ts.length cap), (7, .int .i64 ts.length), (8, .int .i64 0)]) (s4 (sr rfl (subReg_nil _))) ?_
 refine WC.loop (σ := Nat) (fun k r_ w_ => r_ = [(0, .slice a ts.length cap), (1, .func (.func fn) #[] caps), (6, .slice a ts.length cap), (7, .int .i64 ts.length), (8, .int .i64 (k : Int))] ∧ Ext w w_ ∧ (k ≤ ts.length ∧ ∀ (m : Nat) (t : Nd), m < k → ts[m]? = some t → p t = false)) (fun k => ts.length - k) 0 ⟨rfl, (Ext.refl _), ⟨Nat.zero_le _, fun m t h => by omega⟩⟩ ?_
 rintro k r_ w3 ⟨rfl, hE1, hI2⟩
 have hzhE1 := hE1.size
 obtain ⟨hk, hI2⟩ := hI2
 refine sq ?_
 cases hc4 : decide (((k : Int) : Int) < ts.length) with
 | false =>
  refine WL.lss rfl rfl rfl rfl hc4 ?_
  have hp4 := of_decide_eq_false hc4
  refine WL.dn ?_
  refine WC.seqk ?_
  refine cF ?_
  refine WC.exit (fun a_ ha => ?_)
  refine exit_then ?_
  refine exit_then ?_
  refine exit_here ?_
  refine WC.at ?_ ha
  refine sq ?_
  refine asg ?_
  refine WL.dn ?_
  refine WC.ret (fun a_ ha => ?_)
  exact bodyPost_tmp rfl ha rfl ⟨by rw [idxI_none (fun m t hm ht => hI2 m t (by omega) ht)], hE1⟩
 | true =>
  refine WL.lss rfl rfl rfl rfl hc4 ?_
  have hp4 := of_decide_eq_true hc4
  refine WL.dn ?_
  refine WC.seqk ?_
  refine cT ?_
  refine WC.sk ?_
  refine WC.seqk ?_
  refine WC.block ?_
  refine sq ?_
  refine mv ?_
  refine asg ?_
  refine WL.dn ?_
  refine sq ?_
  refine mv ?_
  refine mv ?_
  refine mv ?_
  obtain ⟨t5, ht5⟩ : ∃ t, ts[k]? = some t := ⟨_, List.getElem?_eq_getElem (by omega)⟩
  obtain ⟨eb5, eo5, el5, hea5, hD5, her5, hn5⟩ := (hts.ext hE1).at ht5
  obtain ⟨a5, cap5, rfl, hts5, hlen5⟩ := hn5.op2
  subst hea5
  refine WL.indexAddr (i := k) rfl rfl Ty.slice27 rfl rfl rfl (by omega) ?_
  refine WL.load_agg (l := tcells t5 (.slice a5 t5.subs.length cap5)) rfl rfl Ty.agg29 rfl her5 ?_
  refine WL.callv rfl rfl rfl rfl hent (hf _ _ _ hE1 hn5 (List.mem_of_getElem? ht5)) ?_
  rintro _ w7 ⟨rfl, hE6⟩
  have hzhE6 := hE6.size
  refine ⟨_, rfl, ?_⟩
  cases hc8 : p t5 with
  | false =>
   refine WL.dn ?_
   refine cF ?_
   refine WC.sk ?_
   refine WC.region ?_
   refine WL.add (v := (k : Int) + 1) rfl rfl rfl rfl (IntWalk.i64_in _ (by omega)) ?_
   refine mv ?_
   refine WL.nil (fun a_ ha => ?_)
   exact ⟨k + 1, _, ha.weaken (s4 (sr rfl (subReg_nil _))), ⟨rfl, (hE1.trans hE6), ⟨by omega, by
   intro m t hm ht
   rcases Nat.lt_or_ge m k with h | h
   ·exact hI2 m t h ht
   ·obtain rfl : m = k := by omega
    rw [ht] at ht5; cases ht5; assumption⟩⟩, by first | omega | (dsimp only; omega)⟩
  | true =>
   refine WL.dn ?_
   refine cT ?_
   refine sq ?_
   refine mv ?_
   refine asg ?_
   refine WL.dn ?_
   refine WC.ret (fun a_ ha => ?_)
   refine ret_block ?_
   refine ret_then ?_
   refine ret_then ?_
   refine ret_block ?_
   refine ret_then ?_
   exact bodyPost_tmp rfl ha rfl ⟨by rw [idxI_at ht5 (by assumption) hI2], (hE1.trans hE6)⟩
set_option maxRecDepth 20000 in
set_option maxHeartbeats 4000000 in
theorem containsFunc_ok (D : Nat → Prop) (w : World) (a : Option Addr) (cap fn : Nat) (caps : Array Value) (ts : List Nd) (p : Nd → Bool) (hts : NodesV D w (.slice a ts.length cap) ts) (hf : ∀ (l : List Value) (t : Nd) (w' : World), Ext w w' → NodeL D w' l t → t ∈ ts → Calls Try.prog fn (#[.agg l.toArray] ++ caps) w' fun e w'' => e = .returned (.bool (p t)) ∧ Ext w' w'') (hent : ∀ vs w, (callFunc fn vs).run Try.prog w = .ok (.enter fn vs) w) :
  Calls Try.prog 56 #[.slice a ts.length cap, .func (.func fn) #[] caps] w fun e w' => e = .returned (.bool (ts.any p)) ∧ Ext w w' := by
 have hlen := hts.len
 refine Calls.enter (args := [.slice a ts.length cap, .func (.func fn) #[] caps]) Try.func56 rfl rfl rfl rfl ?_
 refine sq ?_
 refine asg ?_
 refine WL.dn ?_
 refine sq ?_
 refine mv ?_
 refine mv ?_
 refine WL.call rfl rfl rfl Ty.ent64 (indexFunc_ok _ _ _ _ _ _ ts p hts (fun l t w2 h => hf l t w2 (Ext.trans (Ext.refl _) h)) hent) ?_
 rintro _ w2 ⟨rfl, hE1⟩
 have hzhE1 := hE1.size
 refine ⟨_, rfl, ?_⟩
 refine WL.geq rfl rfl rfl rfl rfl ?_
 refine asg ?_
 refine WL.dn ?_
 refine WC.ret (fun a_ ha => ?_)
 exact bodyPost_tmp rfl ha rfl ⟨(by rw [← idxI_any]), hE1⟩
set_option maxRecDepth 20000 in
set_option maxHeartbeats 4000000 in
theorem has_ok (D : Nat → Prop) (w : World) (l : List Value) (T : Nd) (k : Int) (hT : NodeL D w l T) :
  Calls Try.prog 46 #[.agg l.toArray, .int .u8 k] w fun e w' => e = .returned (.bool (T.has k)) ∧ Ext w w' := by
 have hT := hT.lt
 obtain ⟨a, cap, rfl, hts, hlen⟩ := hT.op2
 refine Calls.enter (args := [.agg (tcells T (.slice a T.subs.length cap)).toArray, .int .u8 k]) Try.func46 rfl rfl rfl rfl ?_
 refine sq ?_
 refine WL.box_agg rfl rfl rfl (fun b1 w6 hb2 hE5 hs3 hR4 => ?_)
 refine WL.box_flat rfl rfl rfl rfl (fun b7 w12 hb8 hE11 hs9 hR10 => ?_)
 refine asg ?_
 refine WL.dn ?_
 refine sq ?_
 refine WL.fieldAddr rfl rfl Ty.fld29_4 rfl ?_
 refine WL.load_fld rfl rfl Ty.flat27 rfl (hR4.ext hE11) rfl ?_
 refine WL.makeFunc rfl rfl rfl ?_
 have h13 := ((hts.ext hE5).ext hE11)
 refine WL.call rfl rfl rfl Ty.ent56 (containsFunc_ok _ _ _ _ _ _ T.subs (fun t => t.kind == k) h13 (fun l t w2 h hn _ => Calls.caps1 (has1_ok _ w2 _ k l t hn (h.cell ((hR10).cell 0)))) Ty.ent57) ?_
 rintro _ w15 ⟨rfl, hE14⟩
 have hzhE14 := hE14.size
 refine ⟨_, rfl, ?_⟩
 refine asg ?_
 refine WL.dn ?_
 refine WC.ret (fun a_ ha => ?_)
 exact bodyPost_tmp rfl ha rfl ⟨rfl, ((hE5.trans hE11).trans hE14)⟩
set_option maxRecDepth 20000 in
set_option maxHeartbeats 4000000 in
theorem right_ok (D : Nat → Prop) (w : World) (l : List Value) (T : Nd) (hT : NodeL D w l T) :
  Calls Try.prog 37 #[.agg l.toArray] w fun e w' => e = .returned (.bool T.right) ∧ Ext w w' := by
 have hT := hT.lt
 obtain ⟨a, cap, rfl, hts, hlen⟩ := hT.op2
 refine Calls.enter (args := [.agg (tcells T (.slice a T.subs.length cap)).toArray]) Try.func37 rfl rfl rfl rfl ?_
 refine sq ?_
 refine WL.box_agg rfl rfl rfl (fun b1 w6 hb2 hE5 hs3 hR4 => ?_)
 refine asg ?_
 refine WL.dn ?_
 refine WC.seqk ?_
 refine sq ?_
 refine WL.fieldAddr rfl rfl Ty.fld29_0 rfl ?_
 refine WL.load_fld rfl rfl Ty.flat5 rfl hR4 rfl ?_
 cases hc7 : ((T.kind : Int) != 2) with
 | false =>
  refine WL.neq rfl rfl rfl rfl hc7 ?_
  have hp7 := bne_eq_false_iff_eq.1 hc7
  refine mv ?_
  refine ps ?_
  refine ps ?_
  refine ps ?_
  refine ps ?_
  refine pF ?_
  refine mv ?_
  refine WL.fieldAddr rfl rfl Ty.fld29_0 rfl ?_
  refine WL.load_fld rfl rfl Ty.flat5 rfl hR4 rfl ?_
  have hc8 : ((T.kind : Int) != 5) = true := bne_iff_ne.2 (by omega)
  refine WL.neq rfl rfl rfl rfl hc8 ?_
  refine mv ?_
  refine WL.fieldAddr rfl rfl Ty.fld29_2 rfl ?_
  refine WL.load_fld rfl rfl Ty.flat3 rfl hR4 rfl ?_
  cases hc9 : ((T.least : Int) != 0) with
  | false =>
   refine WL.neq rfl rfl rfl rfl hc9 ?_
   have hp9 := bne_eq_false_iff_eq.1 hc9
   refine mv ?_
   refine WL.fieldAddr rfl rfl Ty.fld29_3 rfl ?_
   refine WL.load_fld rfl rfl Ty.flat3 rfl hR4 rfl ?_
   cases hc10 : ((T.most : Int) != 0) with
   | false =>
    refine WL.neq rfl rfl rfl rfl hc10 ?_
    have hp10 := bne_eq_false_iff_eq.1 hc10
    refine pF ?_
    refine pT ?_
    refine pF ?_
    refine mv ?_
    refine WL.fieldAddr rfl rfl Ty.fld29_0 rfl ?_
    refine WL.load_fld rfl rfl Ty.flat5 rfl hR4 rfl ?_
    have hc11 : decide ((T.kind : Int) < 3) = true := decide_eq_true (by omega)
    refine WL.lss rfl rfl rfl rfl hc11 ?_
    refine mv ?_
    refine WL.fieldAddr rfl rfl Ty.fld29_4 rfl ?_
    refine WL.load_fld rfl rfl Ty.flat27 rfl hR4 rfl ?_
    refine WL.len rfl rfl Try.underlying27 rfl ?_
    cases hc12 : decide ((0 : Int) < T.subs.length) with
    | false =>
     refine WL.gtr rfl rfl rfl rfl hc12 ?_
     have hp12 := of_decide_eq_false hc12
     refine pT ?_
     refine pF ?_
     refine WL.dn ?_
     refine cF ?_
     refine WC.sk ?_
     refine WC.seqk ?_
     refine WC.seqk ?_
     refine WC.weaken (r' := [(1, pt b1 0), (2, .bool false), (37, .bool false)]) (sr rfl (sr rfl (sr rfl (subReg_nil _)))) ?_
     refine WC.region ?_
     refine WL.fieldAddr rfl rfl Ty.fld29_0 rfl ?_
     refine WL.load_fld rfl rfl Ty.flat5 rfl hR4 rfl ?_
     refine WL.dn ?_
     refine WC.block ?_
     refine sq ?_
     have hc13 : ((T.kind : Int) == 1) = false := beq_eq_false_iff_ne.2 (by omega)
     refine WL.eql rfl rfl rfl rfl hc13 ?_
     refine asg ?_
     refine WL.dn ?_
     refine cF ?_
     refine sq ?_
     have hc14 : ((T.kind : Int) == 2) = true := beq_iff_eq.2 (by omega)
     refine WL.eql rfl rfl rfl rfl hc14 ?_
     refine asg ?_
     refine WL.dn ?_
     refine cT ?_
     refine sq ?_
     refine WL.fieldAddr rfl rfl Ty.fld29_1 rfl ?_
     refine WL.load_part 4 rfl rfl rfl hR4 rfl Ty.agg26 ?_
     refine WL.build0 (l := [.int .u64 0, .int .u64 0, .int .u64 0, .int .u64 0]) rfl rfl Ty.zero26 Ty.agg26 rfl Ty.bz26 ?_
     refine WL.setneq (s := T.set) (s' := Nd.zero) rfl rfl Ty.arr26 Ty.eqg26 Try.underlying24 rfl rfl rfl ?_
     refine asg ?_
     refine WL.dn ?_
     refine WC.ret (fun a_ ha => ?_)
     refine ret_block ?_
     refine ret_then ?_
     exact bodyPost_tmp rfl ha rfl ⟨(by congr 2; simp only [Nd.right, hc7, hc8, hc9, hc10, hc11, hc12, hc13, hc14] <;> try simp), hE5⟩
    | true =>
     refine WL.gtr rfl rfl rfl rfl hc12 ?_
     have hp12 := of_decide_eq_true hc12
     refine pT ?_
     refine pF ?_
     refine WL.dn ?_
     refine cT ?_
     refine WC.seqk ?_
     refine WC.weaken (r' := [(1, pt b1 0), (2, .bool false), (37, .bool true)]) (sr rfl (sr rfl (sr rfl (subReg_nil _)))) ?_
     refine WC.region ?_
     refine asg ?_
     refine WL.dn ?_
     refine WC.ret (fun a_ ha => ?_)
     refine ret_then ?_
     exact bodyPost_tmp rfl ha rfl ⟨(by congr 2; simp only [Nd.right, hc7, hc8, hc9, hc10, hc11, hc12] <;> try simp), hE5⟩
   | true =>
    refine WL.neq rfl rfl rfl rfl hc10 ?_
    have hp10 := bne_iff_ne.1 hc10
    refine pF ?_
    refine pT ?_
    refine pF ?_
    refine mv ?_
    refine ps ?_
    refine ps ?_
    refine ps ?_
    refine ps ?_
    refine ps ?_
    refine ps ?_
    refine ps ?_
    refine ps ?_
    refine ps ?_
    refine pT ?_
    refine WL.dn ?_
    refine cT ?_
    refine WC.seqk ?_
    refine WC.weaken (r' := [(1, pt b1 0), (2, .bool false), (37, .bool true)]) (sr rfl (sr rfl (sr rfl (subReg_nil _)))) ?_
    refine WC.region ?_
    refine asg ?_
    refine WL.dn ?_
    refine WC.ret (fun a_ ha => ?_)
    refine ret_then ?_
    exact bodyPost_tmp rfl ha rfl ⟨(by congr 2; simp only [Nd.right, hc7, hc8, hc9, hc10] <;> try simp), hE5⟩
  | true =>
   refine WL.neq rfl rfl rfl rfl hc9 ?_
   have hp9 := bne_iff_ne.1 hc9
   refine mv ?_
   refine ps ?_
   refine ps ?_
   refine ps ?_
   refine pT ?_
   refine pT ?_
   refine pF ?_
   refine mv ?_
   refine ps ?_
   refine ps ?_
   refine ps ?_
   refine ps ?_
   refine ps ?_
   refine ps ?_
   refine ps ?_
   refine ps ?_
   refine ps ?_
   refine pT ?_
   refine WL.dn ?_
   refine cT ?_
   refine WC.seqk ?_
   refine WC.weaken (r' := [(1, pt b1 0), (2, .bool false), (37, .bool true)]) (sr rfl (sr rfl (sr rfl (subReg_nil _)))) ?_
   refine WC.region ?_
   refine asg ?_
   refine WL.dn ?_
   refine WC.ret (fun a_ ha => ?_)
   refine ret_then ?_
   exact bodyPost_tmp rfl ha rfl ⟨(by congr 2; simp only [Nd.right, hc7, hc8, hc9] <;> try simp), hE5⟩
 | true =>
  refine WL.neq rfl rfl rfl rfl hc7 ?_
  have hp7 := bne_iff_ne.1 hc7
  refine mv ?_
  refine WL.fieldAddr rfl rfl Ty.fld29_1 rfl ?_
  refine WL.load_part 4 rfl rfl rfl hR4 rfl Ty.agg26 ?_
  refine WL.build0 (l := [.int .u64 0, .int .u64 0, .int .u64 0, .int .u64 0]) rfl rfl Ty.zero26 Ty.agg26 rfl Ty.bz26 ?_
  cases hc8 : (T.set != Nd.zero) with
  | false =>
   refine WL.setneq (s := T.set) (s' := Nd.zero) rfl rfl Ty.arr26 Ty.eqg26 Try.underlying24 rfl rfl hc8 ?_
   refine pT ?_
   refine mv ?_
   refine WL.fieldAddr rfl rfl Ty.fld29_0 rfl ?_
   refine WL.load_fld rfl rfl Ty.flat5 rfl hR4 rfl ?_
   cases hc9 : ((T.kind : Int) != 5) with
   | false =>
    refine WL.neq rfl rfl rfl rfl hc9 ?_
    have hp9 := bne_eq_false_iff_eq.1 hc9
    refine mv ?_
    refine ps ?_
    refine ps ?_
    refine ps ?_
    refine ps ?_
    refine ps ?_
    refine ps ?_
    refine ps ?_
    refine ps ?_
    refine pF ?_
    refine pF ?_
    refine mv ?_
    refine WL.fieldAddr rfl rfl Ty.fld29_0 rfl ?_
    refine WL.load_fld rfl rfl Ty.flat5 rfl hR4 rfl ?_
    have hc10 : decide ((T.kind : Int) < 3) = false := decide_eq_false (by omega)
    refine WL.lss rfl rfl rfl rfl hc10 ?_
    refine mv ?_
    refine ps ?_
    refine ps ?_
    refine ps ?_
    refine ps ?_
    refine pF ?_
    refine pF ?_
    refine WL.dn ?_
    refine cF ?_
    refine WC.sk ?_
    refine WC.seqk ?_
    refine WC.seqk ?_
    refine WC.weaken (r' := [(1, pt b1 0), (2, .bool false), (37, .bool false)]) (sr rfl (sr rfl (sr rfl (subReg_nil _)))) ?_
    refine WC.region ?_
    refine WL.fieldAddr rfl rfl Ty.fld29_0 rfl ?_
    refine WL.load_fld rfl rfl Ty.flat5 rfl hR4 rfl ?_
    refine WL.dn ?_
    refine WC.block ?_
    refine sq ?_
    have hc11 : ((T.kind : Int) == 1) = false := beq_eq_false_iff_ne.2 (by omega)
    refine WL.eql rfl rfl rfl rfl hc11 ?_
    refine asg ?_
    refine WL.dn ?_
    refine cF ?_
    refine sq ?_
    have hc12 : ((T.kind : Int) == 2) = false := beq_eq_false_iff_ne.2 (by omega)
    refine WL.eql rfl rfl rfl rfl hc12 ?_
    refine asg ?_
    refine WL.dn ?_
    refine cF ?_
    refine sq ?_
    have hc13 : ((T.kind : Int) == 3) = false := beq_eq_false_iff_ne.2 (by omega)
    refine WL.eql rfl rfl rfl rfl hc13 ?_
    refine asg ?_
    refine WL.dn ?_
    refine cF ?_
    refine sq ?_
    have hc14 : ((T.kind : Int) == 4) = false := beq_eq_false_iff_ne.2 (by omega)
    refine WL.eql rfl rfl rfl rfl hc14 ?_
    refine asg ?_
    refine WL.dn ?_
    refine cF ?_
    refine sq ?_
    have hc15 : ((T.kind : Int) == 5) = true := beq_iff_eq.2 (by omega)
    refine WL.eql rfl rfl rfl rfl hc15 ?_
    refine asg ?_
    refine WL.dn ?_
    refine cT ?_
    refine WC.seqk ?_
    refine WC.weaken (r' := [(1, pt b1 0), (2, .bool false), (37, .bool false), (40, .bool false), (42, .bool false), (48, .bool false), (64, .bool false), (75, .bool true)]) (s4 (s4 (subReg_nil _))) ?_
    refine WC.region ?_
    refine WL.fieldAddr rfl rfl Ty.fld29_4 rfl ?_
    refine WL.load_fld rfl rfl Ty.flat27 rfl hR4 rfl ?_
    refine WL.len rfl rfl Try.underlying27 rfl ?_
    cases hc16 : ((T.subs.length : Int) == 1) with
    | false =>
     refine WL.eql rfl rfl rfl rfl hc16 ?_
     have hp16 := beq_eq_false_iff_ne.1 hc16
     refine mv ?_
     refine ps ?_
     refine ps ?_
     refine ps ?_
     refine ps ?_
     refine ps ?_
     refine pF ?_
     refine mv ?_
     refine ps ?_
     refine ps ?_
     refine ps ?_
     refine pF ?_
     refine asg ?_
     refine WL.dn ?_
     refine WC.ret (fun a_ ha => ?_)
     refine ret_block ?_
     refine ret_then ?_
     exact bodyPost_tmp rfl ha rfl ⟨(by congr 2; simp only [Nd.right, hc7, hc8, hc9, hc10, hc11, hc12, hc13, hc14, hc15, hc16] <;> try simp), hE5⟩
    | true =>
     refine WL.eql rfl rfl rfl rfl hc16 ?_
     have hp16 := beq_iff_eq.1 hc16
     refine mv ?_
     refine WL.fieldAddr rfl rfl Ty.fld29_2 rfl ?_
     refine WL.load_fld rfl rfl Ty.flat3 rfl hR4 rfl ?_
     refine WL.fieldAddr rfl rfl Ty.fld29_3 rfl ?_
     refine WL.load_fld rfl rfl Ty.flat3 rfl hR4 rfl ?_
     refine WL.call rfl rfl rfl Ty.ent40 (bounds_ok T.least T.most _) ?_
     rintro _ w18 ⟨rfl, hE17⟩
     have hzhE17 := hE17.size
     refine ⟨_, rfl, ?_⟩
     cases hc19 : Nd.bounds T.least T.most with
     | false =>
      refine pT ?_
      refine mv ?_
      refine ps ?_
      refine ps ?_
      refine ps ?_
      refine pF ?_
      refine asg ?_
      refine WL.dn ?_
      refine WC.ret (fun a_ ha => ?_)
      refine ret_block ?_
      refine ret_then ?_
      exact bodyPost_tmp rfl ha rfl ⟨(by congr 2; simp only [Nd.right, hc7, hc8, hc9, hc10, hc11, hc12, hc13, hc14, hc15, hc16, hc19] <;> try simp), (hE5.trans hE17)⟩
     | true =>
      refine pT ?_
      refine mv ?_
      refine WL.load_box rfl rfl rfl (hR4.ext hE17) Ty.agg29 ?_
      have h20 := ((hT.ext hE5).ext hE17)
      refine WL.call rfl rfl rfl Ty.ent46 (has_ok _ _ _ T 1 h20) ?_
      rintro _ w22 ⟨rfl, hE21⟩
      have hzhE21 := hE21.size
      refine ⟨_, rfl, ?_⟩
      refine WL.not rfl rfl rfl ?_
      refine pT ?_
      refine asg ?_
      refine WL.dn ?_
      refine WC.ret (fun a_ ha => ?_)
      refine ret_block ?_
      refine ret_then ?_
      exact bodyPost_tmp rfl ha rfl ⟨(by congr 2; simp only [Nd.right, hc7, hc8, hc9, hc10, hc11, hc12, hc13, hc14, hc15, hc16, hc19] <;> try simp), ((hE5.trans hE17).trans hE21)⟩
   | true =>
    refine WL.neq rfl rfl rfl rfl hc9 ?_
    have hp9 := bne_iff_ne.1 hc9
    refine mv ?_
    refine WL.fieldAddr rfl rfl Ty.fld29_2 rfl ?_
    refine WL.load_fld rfl rfl Ty.flat3 rfl hR4 rfl ?_
    cases hc10 : ((T.least : Int) != 0) with
    | false =>
     refine WL.neq rfl rfl rfl rfl hc10 ?_
     have hp10 := bne_eq_false_iff_eq.1 hc10
     refine mv ?_
     refine WL.fieldAddr rfl rfl Ty.fld29_3 rfl ?_
     refine WL.load_fld rfl rfl Ty.flat3 rfl hR4 rfl ?_
     cases hc11 : ((T.most : Int) != 0) with
     | false =>
      refine WL.neq rfl rfl rfl rfl hc11 ?_
      have hp11 := bne_eq_false_iff_eq.1 hc11
      refine pF ?_
      refine pT ?_
      refine pF ?_
      refine mv ?_
      refine WL.fieldAddr rfl rfl Ty.fld29_0 rfl ?_
      refine WL.load_fld rfl rfl Ty.flat5 rfl hR4 rfl ?_
      cases hc12 : decide ((T.kind : Int) < 3) with
      | false =>
       refine WL.lss rfl rfl rfl rfl hc12 ?_
       have hp12 := of_decide_eq_false hc12
       refine mv ?_
       refine ps ?_
       refine ps ?_
       refine ps ?_
       refine ps ?_
       refine pF ?_
       refine pF ?_
       refine WL.dn ?_
       refine cF ?_
       refine WC.sk ?_
       refine WC.seqk ?_
       refine WC.seqk ?_
       refine WC.weaken (r' := [(1, pt b1 0), (2, .bool false), (37, .bool false)]) (sr rfl (sr rfl (sr rfl (subReg_nil _)))) ?_
       refine WC.region ?_
       refine WL.fieldAddr rfl rfl Ty.fld29_0 rfl ?_
       refine WL.load_fld rfl rfl Ty.flat5 rfl hR4 rfl ?_
       refine WL.dn ?_
       refine WC.block ?_
       refine sq ?_
       have hc13 : ((T.kind : Int) == 1) = false := beq_eq_false_iff_ne.2 (by omega)
       refine WL.eql rfl rfl rfl rfl hc13 ?_
       refine asg ?_
       refine WL.dn ?_
       refine cF ?_
       refine sq ?_
       have hc14 : ((T.kind : Int) == 2) = false := beq_eq_false_iff_ne.2 (by omega)
       refine WL.eql rfl rfl rfl rfl hc14 ?_
       refine asg ?_
       refine WL.dn ?_
       refine cF ?_
       refine sq ?_
       cases hc15 : ((T.kind : Int) == 3) with
       | false =>
        refine WL.eql rfl rfl rfl rfl hc15 ?_
        have hp15 := beq_eq_false_iff_ne.1 hc15
        refine asg ?_
        refine WL.dn ?_
        refine cF ?_
        refine sq ?_
        cases hc16 : ((T.kind : Int) == 4) with
        | false =>
         refine WL.eql rfl rfl rfl rfl hc16 ?_
         have hp16 := beq_eq_false_iff_ne.1 hc16
         refine asg ?_
         refine WL.dn ?_
         refine cF ?_
         refine sq ?_
         have hc17 : ((T.kind : Int) == 5) = false := beq_eq_false_iff_ne.2 (by omega)
         refine WL.eql rfl rfl rfl rfl hc17 ?_
         refine asg ?_
         refine WL.dn ?_
         refine cF ?_
         refine WC.sk ?_
         refine WC.seqk ?_
         refine WC.weaken (r' := [(1, pt b1 0), (2, .bool false), (37, .bool false), (40, .bool false), (42, .bool false), (48, .bool false), (64, .bool false), (75, .bool false)]) (s4 (s4 (subReg_nil _))) ?_
         refine WC.region ?_
         refine WL.fieldAddr rfl rfl Ty.fld29_0 rfl ?_
         refine WL.load_fld rfl rfl Ty.flat5 rfl hR4 rfl ?_
         cases hc18 : ((T.kind : Int) == 6) with
         | false =>
          refine WL.eql rfl rfl rfl rfl hc18 ?_
          have hp18 := beq_eq_false_iff_ne.1 hc18
          refine mv ?_
          refine ps ?_
          refine ps ?_
          refine ps ?_
          refine ps ?_
          refine pF ?_
          refine asg ?_
          refine WL.dn ?_
          refine WC.ret (fun a_ ha => ?_)
          exact bodyPost_tmp rfl ha rfl ⟨(by congr 2; simp only [Nd.right, hc7, hc8, hc9, hc10, hc11, hc12, hc13, hc14, hc15, hc16, hc17, hc18] <;> try simp), hE5⟩
         | true =>
          refine WL.eql rfl rfl rfl rfl hc18 ?_
          have hp18 := beq_iff_eq.1 hc18
          refine mv ?_
          refine WL.fieldAddr rfl rfl Ty.fld29_4 rfl ?_
          refine WL.load_fld rfl rfl Ty.flat27 rfl hR4 rfl ?_
          refine WL.len rfl rfl Try.underlying27 rfl ?_
          refine WL.eql rfl rfl rfl rfl rfl ?_
          refine pT ?_
          refine asg ?_
          refine WL.dn ?_
          refine WC.ret (fun a_ ha => ?_)
          exact bodyPost_tmp rfl ha rfl ⟨(by congr 2; simp only [Nd.right, hc7, hc8, hc9, hc10, hc11, hc12, hc13, hc14, hc15, hc16, hc17, hc18] <;> try simp), hE5⟩
        | true =>
         refine WL.eql rfl rfl rfl rfl hc16 ?_
         have hp16 := beq_iff_eq.1 hc16
         refine asg ?_
         refine WL.dn ?_
         refine cT ?_
         refine sq ?_
         refine WL.fieldAddr rfl rfl Ty.fld29_4 rfl ?_
         refine WL.load_fld rfl rfl Ty.flat27 rfl hR4 rfl ?_
         refine WL.len rfl rfl Try.underlying27 rfl ?_
         cases hc17 : decide ((1 : Int) < T.subs.length) with
         | false =>
          refine WL.gtr rfl rfl rfl rfl hc17 ?_
          have hp17 := of_decide_eq_false hc17
          refine mv ?_
          refine ps ?_
          refine ps ?_
          refine ps ?_
          refine pF ?_
          refine asg ?_
          refine WL.dn ?_
          refine WC.ret (fun a_ ha => ?_)
          refine ret_block ?_
          refine ret_then ?_
          exact bodyPost_tmp rfl ha rfl ⟨(by congr 2; simp only [Nd.right, hc7, hc8, hc9, hc10, hc11, hc12, hc13, hc14, hc15, hc16, hc17] <;> try simp), hE5⟩
         | true =>
          refine WL.gtr rfl rfl rfl rfl hc17 ?_
          have hp17 := of_decide_eq_true hc17
          refine mv ?_
          refine WL.load_box rfl rfl rfl hR4 Ty.agg29 ?_
          refine WL.call rfl rfl rfl Ty.ent46 (has_ok _ _ _ T 4 (hT.ext hE5)) ?_
          rintro _ w19 ⟨rfl, hE18⟩
          have hzhE18 := hE18.size
          refine ⟨_, rfl, ?_⟩
          refine WL.not rfl rfl rfl ?_
          refine pT ?_
          refine asg ?_
          refine WL.dn ?_
          refine WC.ret (fun a_ ha => ?_)
          refine ret_block ?_
          refine ret_then ?_
          exact bodyPost_tmp rfl ha rfl ⟨(by congr 2; simp only [Nd.right, hc7, hc8, hc9, hc10, hc11, hc12, hc13, hc14, hc15, hc16, hc17] <;> try simp), (hE5.trans hE18)⟩
       | true =>
        refine WL.eql rfl rfl rfl rfl hc15 ?_
        have hp15 := beq_iff_eq.1 hc15
        refine asg ?_
        refine WL.dn ?_
        refine cT ?_
        refine sq ?_
        refine WL.fieldAddr rfl rfl Ty.fld29_4 rfl ?_
        refine WL.load_fld rfl rfl Ty.flat27 rfl hR4 rfl ?_
        refine WL.len rfl rfl Try.underlying27 rfl ?_
        cases hc16 : decide ((1 : Int) < T.subs.length) with
        | false =>
         refine WL.gtr rfl rfl rfl rfl hc16 ?_
         have hp16 := of_decide_eq_false hc16
         refine mv ?_
         refine ps ?_
         refine ps ?_
         refine ps ?_
         refine pF ?_
         refine mv ?_
         refine ps ?_
         refine ps ?_
         refine ps ?_
         refine pF ?_
         refine asg ?_
         refine WL.dn ?_
         refine WC.ret (fun a_ ha => ?_)
         refine ret_block ?_
         refine ret_then ?_
         exact bodyPost_tmp rfl ha rfl ⟨(by congr 2; simp only [Nd.right, hc7, hc8, hc9, hc10, hc11, hc12, hc13, hc14, hc15, hc16] <;> try simp), hE5⟩
        | true =>
         refine WL.gtr rfl rfl rfl rfl hc16 ?_
         have hp16 := of_decide_eq_true hc16
         refine mv ?_
         refine WL.load_box rfl rfl rfl hR4 Ty.agg29 ?_
         refine WL.call rfl rfl rfl Ty.ent46 (has_ok _ _ _ T 1 (hT.ext hE5)) ?_
         rintro _ w18 ⟨rfl, hE17⟩
         have hzhE17 := hE17.size
         refine ⟨_, rfl, ?_⟩
         cases hc19 : T.has 1 with
         | false =>
          refine WL.not rfl rfl rfl ?_
          refine pT ?_
          refine mv ?_
          refine WL.load_box rfl rfl rfl (hR4.ext hE17) Ty.agg29 ?_
          have h20 := ((hT.ext hE5).ext hE17)
          refine WL.call rfl rfl rfl Ty.ent46 (has_ok _ _ _ T 3 h20) ?_
          rintro _ w22 ⟨rfl, hE21⟩
          have hzhE21 := hE21.size
          refine ⟨_, rfl, ?_⟩
          refine WL.not rfl rfl rfl ?_
          refine pT ?_
          refine asg ?_
          refine WL.dn ?_
          refine WC.ret (fun a_ ha => ?_)
          refine ret_block ?_
          refine ret_then ?_
          exact bodyPost_tmp rfl ha rfl ⟨(by congr 2; simp only [Nd.right, hc7, hc8, hc9, hc10, hc11, hc12, hc13, hc14, hc15, hc16, hc19] <;> try simp), ((hE5.trans hE17).trans hE21)⟩
         | true =>
          refine WL.not rfl rfl rfl ?_
          refine pT ?_
          refine mv ?_
          refine ps ?_
          refine ps ?_
          refine ps ?_
          refine pF ?_
          refine asg ?_
          refine WL.dn ?_
          refine WC.ret (fun a_ ha => ?_)
          refine ret_block ?_
          refine ret_then ?_
          exact bodyPost_tmp rfl ha rfl ⟨(by congr 2; simp only [Nd.right, hc7, hc8, hc9, hc10, hc11, hc12, hc13, hc14, hc15, hc16, hc19] <;> try simp), (hE5.trans hE17)⟩
      | true =>
       refine WL.lss rfl rfl rfl rfl hc12 ?_
       have hp12 := of_decide_eq_true hc12
       refine mv ?_
       refine WL.fieldAddr rfl rfl Ty.fld29_4 rfl ?_
       refine WL.load_fld rfl rfl Ty.flat27 rfl hR4 rfl ?_
       refine WL.len rfl rfl Try.underlying27 rfl ?_
       cases hc13 : decide ((0 : Int) < T.subs.length) with
       | false =>
        refine WL.gtr rfl rfl rfl rfl hc13 ?_
        have hp13 := of_decide_eq_false hc13
        refine pT ?_
        refine pF ?_
        refine WL.dn ?_
        refine cF ?_
        refine WC.sk ?_
        refine WC.seqk ?_
        refine WC.seqk ?_
        refine WC.weaken (r' := [(1, pt b1 0), (2, .bool false), (37, .bool false)]) (sr rfl (sr rfl (sr rfl (subReg_nil _)))) ?_
        refine WC.region ?_
        refine WL.fieldAddr rfl rfl Ty.fld29_0 rfl ?_
        refine WL.load_fld rfl rfl Ty.flat5 rfl hR4 rfl ?_
        refine WL.dn ?_
        refine WC.block ?_
        refine sq ?_
        cases hc14 : ((T.kind : Int) == 1) with
        | false =>
         refine WL.eql rfl rfl rfl rfl hc14 ?_
         have hp14 := beq_eq_false_iff_ne.1 hc14
         refine asg ?_
         refine WL.dn ?_
         refine cF ?_
         refine sq ?_
         have hc15 : ((T.kind : Int) == 2) = false := beq_eq_false_iff_ne.2 (by omega)
         refine WL.eql rfl rfl rfl rfl hc15 ?_
         refine asg ?_
         refine WL.dn ?_
         refine cF ?_
         refine sq ?_
         have hc16 : ((T.kind : Int) == 3) = false := beq_eq_false_iff_ne.2 (by omega)
         refine WL.eql rfl rfl rfl rfl hc16 ?_
         refine asg ?_
         refine WL.dn ?_
         refine cF ?_
         refine sq ?_
         have hc17 : ((T.kind : Int) == 4) = false := beq_eq_false_iff_ne.2 (by omega)
         refine WL.eql rfl rfl rfl rfl hc17 ?_
         refine asg ?_
         refine WL.dn ?_
         refine cF ?_
         refine sq ?_
         have hc18 : ((T.kind : Int) == 5) = false := beq_eq_false_iff_ne.2 (by omega)
         refine WL.eql rfl rfl rfl rfl hc18 ?_
         refine asg ?_
         refine WL.dn ?_
         refine cF ?_
         refine WC.sk ?_
         refine WC.seqk ?_
         refine WC.weaken (r' := [(1, pt b1 0), (2, .bool false), (37, .bool false), (40, .bool false), (42, .bool false), (48, .bool false), (64, .bool false), (75, .bool false)]) (s4 (s4 (subReg_nil _))) ?_
         refine WC.region ?_
         refine WL.fieldAddr rfl rfl Ty.fld29_0 rfl ?_
         refine WL.load_fld rfl rfl Ty.flat5 rfl hR4 rfl ?_
         have hc19 : ((T.kind : Int) == 6) = false := beq_eq_false_iff_ne.2 (by omega)
         refine WL.eql rfl rfl rfl rfl hc19 ?_
         refine mv ?_
         refine ps ?_
         refine ps ?_
         refine ps ?_
         refine ps ?_
         refine pF ?_
         refine asg ?_
         refine WL.dn ?_
         refine WC.ret (fun a_ ha => ?_)
         exact bodyPost_tmp rfl ha rfl ⟨(by congr 2; simp only [Nd.right, hc7, hc8, hc9, hc10, hc11, hc12, hc13, hc14, hc15, hc16, hc17, hc18, hc19] <;> try simp), hE5⟩
        | true =>
         refine WL.eql rfl rfl rfl rfl hc14 ?_
         have hp14 := beq_iff_eq.1 hc14
         refine asg ?_
         refine WL.dn ?_
         refine cT ?_
         refine sq ?_
         refine asg ?_
         refine WL.dn ?_
         refine WC.ret (fun a_ ha => ?_)
         refine ret_block ?_
         refine ret_then ?_
         exact bodyPost_tmp rfl ha rfl ⟨(by congr 2; simp only [Nd.right, hc7, hc8, hc9, hc10, hc11, hc12, hc13, hc14] <;> try simp), hE5⟩
       | true =>
        refine WL.gtr rfl rfl rfl rfl hc13 ?_
        have hp13 := of_decide_eq_true hc13
        refine pT ?_
        refine pF ?_
        refine WL.dn ?_
        refine cT ?_
        refine WC.seqk ?_
        refine WC.weaken (r' := [(1, pt b1 0), (2, .bool false), (37, .bool true)]) (sr rfl (sr rfl (sr rfl (subReg_nil _)))) ?_
        refine WC.region ?_
        refine asg ?_
        refine WL.dn ?_
        refine WC.ret (fun a_ ha => ?_)
        refine ret_then ?_
        exact bodyPost_tmp rfl ha rfl ⟨(by congr 2; simp only [Nd.right, hc7, hc8, hc9, hc10, hc11, hc12, hc13] <;> try simp), hE5⟩
     | true =>
      refine WL.neq rfl rfl rfl rfl hc11 ?_
      have hp11 := bne_iff_ne.1 hc11
      refine pF ?_
      refine pT ?_
      refine pF ?_
      refine mv ?_
      refine ps ?_
      refine ps ?_
      refine ps ?_
      refine ps ?_
      refine ps ?_
      refine ps ?_
      refine ps ?_
      refine ps ?_
      refine ps ?_
      refine pT ?_
      refine WL.dn ?_
      refine cT ?_
      refine WC.seqk ?_
      refine WC.weaken (r' := [(1, pt b1 0), (2, .bool false), (37, .bool true)]) (sr rfl (sr rfl (sr rfl (subReg_nil _)))) ?_
      refine WC.region ?_
      refine asg ?_
      refine WL.dn ?_
      refine WC.ret (fun a_ ha => ?_)
      refine ret_then ?_
      exact bodyPost_tmp rfl ha rfl ⟨(by congr 2; simp only [Nd.right, hc7, hc8, hc9, hc10, hc11] <;> try simp), hE5⟩
    | true =>
     refine WL.neq rfl rfl rfl rfl hc10 ?_
     have hp10 := bne_iff_ne.1 hc10
     refine mv ?_
     refine ps ?_
     refine ps ?_
     refine ps ?_
     refine pT ?_
     refine pT ?_
     refine pF ?_
     refine mv ?_
     refine ps ?_
     refine ps ?_
     refine ps ?_
     refine ps ?_
     refine ps ?_
     refine ps ?_
     refine ps ?_
     refine ps ?_
     refine ps ?_
     refine pT ?_
     refine WL.dn ?_
     refine cT ?_
     refine WC.seqk ?_
     refine WC.weaken (r' := [(1, pt b1 0), (2, .bool false), (37, .bool true)]) (sr rfl (sr rfl (sr rfl (subReg_nil _)))) ?_
     refine WC.region ?_
     refine asg ?_
     refine WL.dn ?_
     refine WC.ret (fun a_ ha => ?_)
     refine ret_then ?_
     exact bodyPost_tmp rfl ha rfl ⟨(by congr 2; simp only [Nd.right, hc7, hc8, hc9, hc10] <;> try simp), hE5⟩
  | true =>
   refine WL.setneq (s := T.set) (s' := Nd.zero) rfl rfl Ty.arr26 Ty.eqg26 Try.underlying24 rfl rfl hc8 ?_
   refine pT ?_
   refine mv ?_
   refine ps ?_
   refine ps ?_
   refine ps ?_
   refine ps ?_
   refine ps ?_
   refine ps ?_
   refine ps ?_
   refine ps ?_
   refine ps ?_
   refine ps ?_
   refine ps ?_
   refine ps ?_
   refine ps ?_
   refine pT ?_
   refine mv ?_
   refine ps ?_
   refine ps ?_
   refine ps ?_
   refine ps ?_
   refine ps ?_
   refine ps ?_
   refine ps ?_
   refine ps ?_
   refine ps ?_
   refine pT ?_
   refine WL.dn ?_
   refine cT ?_
   refine WC.seqk ?_
   refine WC.weaken (r' := [(1, pt b1 0), (2, .bool false), (37, .bool true)]) (sr rfl (sr rfl (sr rfl (subReg_nil _)))) ?_
   refine WC.region ?_
   refine asg ?_
   refine WL.dn ?_
   refine WC.ret (fun a_ ha => ?_)
   refine ret_then ?_
   exact bodyPost_tmp rfl ha rfl ⟨(by congr 2; simp only [Nd.right, hc7, hc8] <;> try simp), hE5⟩
end Go.Proofs.Ytaggidjijekpbaa
namespace Go.Proofs.Ytaggidjijekpbaa
open Go.RowKit
theorem light_le {T : Nd} (h : T.light = true) : T.pre.length ≤ 10000 := by rw [Nd.pre_length]; simpa [Nd.light] using h
set_option maxRecDepth 20000 in
theorem light_ok (D : Nat → Prop) (w : World) (l : List Value) (T : Nd) (hT : NodeL D w l T) :
    Calls Try.prog 35 #[.agg l.toArray] w fun e w' => e = .returned (.bool T.light) ∧ Ext w w' := by
  have hTl := hT.lt
  obtain ⟨a, cap, rfl, hts, hlen⟩ := hT.op2
  refine Calls.enterM (args := [.agg (tcells T (.slice a T.subs.length cap)).toArray]) Try.func35 rfl rfl rfl rfl ?_
  refine sq ?_
  refine WL.box_agg rfl rfl rfl (fun b1 w1 hb1 hE1 hs1 hR1 => ?_)
  refine asg ?_
  refine WL.dn ?_
  refine WC.scope ?_
  refine sq ?_
  refine WL.alloc rfl rfl Ty.zero3 rfl (fun b2 w2 hb2 hE2 hs2 hR2 => ?_)
  refine WL.store_cell rfl Ty.flat3 rfl rfl hR2 rfl rfl (fun w3 hB3 hR3 => ?_)
  have hE3 : Ext w1 w3 := hB3.onto hE2 (by omega)
  have hz3 := hB3.size
  refine WL.dn ?_
  refine WC.seqk ?_
  refine WC.label' ?_ (fun _ _ h => h)
  refine WC.seqk ?_
  refine sq ?_
  refine WL.load_box rfl rfl rfl (hR1.ext hE3) Ty.agg29 ?_
  refine WL.call rfl rfl rfl Ty.ent36 (nodes_ok _ _ rfl) ?_
  rintro e w4 ⟨b4, rfl, hE4, hR4, hb4, hs4⟩
  refine ⟨_, rfl, ?_⟩
  refine WL.dn ?_
  refine WC.block ?_
  have hR34 : Row w4 b2 _ _ := hR3.ext hE4
  refine WC.rangeFunc rfl rfl Ty.ent45 (nodes_iter hR4 (((hTl.ext hE1).ext hE3).ext hE4)) (Ext.refl _) (by rintro k (⟨_, h⟩ | h) <;> omega) (fun k => k = b2) (by rintro k rfl; omega) (by rintro k rfl (⟨_, h⟩ | h) <;> omega)
    (fun i A => Row A b2 [.int .i64 (i : Nat)] 3 ∧ i ≤ 10000) (fun c A => c = .exit 0 ∧ Row A b2 [.int .i64 10001] 3 ∧ T.light = false) (fun i A B h hb => ⟨h.1.below hb (by omega), h.2⟩) (fun c A B h hb => ⟨h.1, h.2.1.below hb (by omega), h.2.2⟩)
    ⟨hR34, by omega⟩ ?_ ?_ ?_
  · rintro i W1 cells lr hi hok hl1 hl2 hKW ⟨hRi, hi2⟩
    have hzW := hKW.size
    refine WC.skip' (fun a_ ha => ?_)
    refine ⟨Keep.refl _ _, fun w9 hB9 => ?_⟩
    refine WC.at ?_ ha
    have hz9 := hB9.size
    have hR9 : Row w9 b2 _ _ := hB9.row hRi (by omega)
    refine WC.block ?_
    refine sq ?_
    refine WL.load_fld rfl rfl Ty.flat3 rfl hR9 rfl ?_
    refine WL.add (v := ((i + 1 : Nat) : Int)) rfl rfl rfl rfl (by rw [IntWalk.i64_in _ (by omega)]; rfl) ?_
    refine WL.store_cell rfl Ty.flat3 rfl rfl hR9 rfl rfl (fun w10 hB10 hR10 => ?_)
    refine WL.dn ?_
    refine sq ?_
    refine WL.load_fld rfl rfl Ty.flat3 rfl hR10 rfl ?_
    cases hc : decide ((10000 : Int) < ((i + 1 : Nat) : Int)) with
    | true =>
      refine WL.gtr rfl rfl rfl rfl hc ?_
      have hc := of_decide_eq_true hc
      refine WL.dn ?_
      refine cT ?_
      refine WC.exit (fun a_ ha => ?_)
      refine exit_out rfl ?_
      obtain rfl : i = 10000 := by omega
      refine ⟨hB10.keep rfl, rfl, hR10, ?_⟩
      rw [Nd.pre_length] at hi
      simp [Nd.light]; omega
    | false =>
      refine WL.gtr rfl rfl rfl rfl hc ?_
      have hc := of_decide_eq_false hc
      refine WL.dn ?_
      refine cF ?_
      refine WC.skip' (fun a_ ha => ?_)
      exact ⟨hB10.keep rfl, hR10, by omega⟩
  · rintro wd Dd hDd hdd hKd ⟨hRd, hle⟩ a_ ha
    have hzd := hKd.size
    refine WC.at ?_ ha
    refine sq ?_
    refine WL.load_fld rfl rfl Ty.flat3 rfl hRd rfl ?_
    refine WL.leq rfl rfl rfl rfl rfl ?_
    refine asg ?_
    refine WL.dn ?_
    refine WC.ret (fun a_ ha => ?_)
    refine ret_scope ?_
    refine bodyPostM_tmp rfl ha rfl (Marks.one (n0 := w.heap.size) (by omega) hdd) (fun wz hkz => ⟨?_, hkz.after (hKd.after ((hE1.trans hE3).trans hE4) (by rintro k rfl; omega)) (fun k h => h)⟩)
    congr 2
    rw [Nd.pre_length] at hle ⊢
    simp [Nd.light]; omega
  · rintro wd Dd cd hDd hdd hKd ⟨rfl, hRd, hnl⟩
    have hzd := hKd.size
    refine WC.exit (fun a_ ha => ?_)
    refine exit_here ?_
    refine WC.at ?_ ha
    refine sq ?_
    refine WL.load_fld rfl rfl Ty.flat3 rfl hRd rfl ?_
    refine WL.leq rfl rfl rfl rfl rfl ?_
    refine asg ?_
    refine WL.dn ?_
    refine WC.ret (fun a_ ha => ?_)
    refine ret_scope ?_
    refine bodyPostM_tmp rfl ha rfl (Marks.one (n0 := w.heap.size) (by omega) hdd) (fun wz hkz => ⟨by rw [hnl]; rfl, hkz.after (hKd.after ((hE1.trans hE3).trans hE4) (by rintro k rfl; omega)) (fun k h => h)⟩)
set_option maxRecDepth 20000 in
theorem clean_ok (D : Nat → Prop) (w : World) (l : List Value) (T : Nd) (hT : NodeL D w l T) :
    Calls Try.prog 12 #[.agg l.toArray] w fun e w' => e = .returned (.bool T.clean) ∧ Ext w w' := by
  have hTl := hT.lt
  obtain ⟨a, cap, rfl, hts, hlen⟩ := hT.op2
  refine Calls.enterM (args := [.agg (tcells T (.slice a T.subs.length cap)).toArray]) Try.func12 rfl rfl rfl rfl ?_
  refine sq ?_
  refine WL.box_agg rfl rfl rfl (fun b1 w1 hb1 hE1 hs1 hR1 => ?_)
  refine WL.alloc rfl rfl Ty.zero4 rfl (fun b2 w2 hb2 hE2 hs2 hR2 => ?_)
  refine WL.dn ?_
  refine WC.seqk ?_
  refine sq ?_
  refine WL.load_box rfl rfl rfl (hR1.ext hE2) Ty.agg29 ?_
  refine WL.call rfl rfl rfl Ty.ent35 (light_ok _ _ _ T ((hT.ext hE1).ext hE2)) ?_
  rintro e w3 ⟨rfl, hE3⟩
  refine ⟨_, rfl, ?_⟩
  have hz3 := hE3.size
  refine WL.not rfl rfl rfl ?_
  refine WL.dn ?_
  have hR23 : Row w3 b2 _ _ := hR2.ext hE3
  cases hc : T.light with
  | false =>
    refine cT ?_
    refine sq ?_
    refine WL.store_cell rfl Ty.flat4 rfl rfl hR23 rfl rfl (fun w4 hB4 hR4 => ?_)
    refine WL.dn ?_
    refine WC.ret (fun a_ ha => ?_)
    exact bodyPostM_cell1 rfl ha rfl Ty.flat4 hR4 (n0 := b2 + 1) (by omega) (Marks.nil _ _) (fun wz hkz => ⟨by simp [Nd.clean, hc], hkz.after (hB4.onto ((hE1.trans hE2).trans hE3) (by omega)) (fun k h => by omega)⟩)
  | true =>
  refine cF ?_
  refine WC.sk ?_
  refine WC.seqk ?_
  refine sq ?_
  refine WL.load_box rfl rfl rfl ((hR1.ext hE2).ext hE3) Ty.agg29 ?_
  refine WL.call rfl rfl rfl Ty.ent36 (nodes_ok _ _ rfl) ?_
  rintro e w5 ⟨b5, rfl, hE5, hR5, hb5, hs5⟩
  refine ⟨_, rfl, ?_⟩
  refine WL.dn ?_
  refine WC.block ?_
  refine WC.rangeFunc rfl rfl Ty.ent45 (nodes_iter hR5 ((((hTl.ext hE1).ext hE2).ext hE3).ext hE5)) (Ext.refl _) (by rintro k (⟨_, h⟩ | h) <;> omega) (fun k => k = b2) (by rintro k rfl; omega) (by rintro k rfl (⟨_, h⟩ | h) <;> omega)
    (fun i A => Row A b2 [.bool false] 4 ∧ ∀ (j : Nat) (t : Nd), j < i → T.pre[j]? = some t → t.right = true) (fun c A => c = .ret ∧ Row A b2 [.bool false] 4 ∧ T.clean = false) (fun i A B h hb => ⟨h.1.below hb (by omega), h.2⟩) (fun c A B h hb => ⟨h.1, h.2.1.below hb (by omega), h.2.2⟩)
    ⟨hR23.ext hE5, fun j t h => by omega⟩ ?_ ?_ ?_
  · rintro i W1 cells lr hi ⟨t, ht, hnt⟩ hl1 hl2 hKW ⟨hRi, hall⟩
    have hzW := hKW.size
    obtain ⟨q, rfl, hq⟩ := hnt.opn
    obtain ⟨aq, cq, rfl, -, -⟩ := hq.get
    refine WC.region ?_
    refine WL.alloc rfl rfl Ty.zero29 rfl (fun b7 w7 hb7 hE7 hs7 hR7 => ?_)
    refine WL.store_box rfl rfl rfl hR7 Ty.agg29 rfl rfl (fun w8 hB8 hR8 => ?_)
    have hE8 : Ext W1 w8 := hB8.onto hE7 (by omega)
    have hz8 := hB8.size
    refine WL.nil (fun a_ ha => ?_)
    refine ⟨hE8.keep _, fun w9 hB9 => ?_⟩
    refine WC.at ?_ ha
    have hz9 := hB9.size
    have hR9 : Row w9 b2 _ _ := hB9.row (hRi.ext hE8) (by omega)
    have hR89 : Row w9 b7 _ _ := hB9.row hR8 (by omega)
    refine WC.block ?_
    refine sq ?_
    refine WL.load_box rfl rfl rfl hR89 Ty.agg29 ?_
    refine WL.call rfl rfl rfl Ty.ent37 (right_ok _ _ _ t ((hnt.ext hE8).but hB9 (by rintro ⟨h1, h2⟩; omega))) ?_
    rintro e w10 ⟨rfl, hE10⟩
    refine ⟨_, rfl, ?_⟩
    refine WL.not rfl rfl rfl ?_
    refine WL.dn ?_
    have hR10 : Row w10 b2 _ _ := hR9.ext hE10
    cases hk : t.right with
    | false =>
      refine cT ?_
      refine sq ?_
      refine WL.store_cell rfl Ty.flat4 rfl rfl hR10 rfl rfl (fun w11 hB11 hR11 => ?_)
      refine WL.dn ?_
      refine WC.ret (fun a_ ha => ?_)
      refine ⟨(hE10.keep _).trans (hB11.keep rfl), rfl, hR11, ?_⟩
      have : T.pre.all Nd.right = false := by
        rw [List.all_eq_false]; exact ⟨t, List.mem_of_getElem? ht, by simp [hk]⟩
      simp [Nd.clean, this]
    | true =>
      refine cF ?_
      refine WC.skip' (fun a_ ha => ?_)
      refine ⟨hE10.keep _, hR10, fun j u hj hu => ?_⟩
      rcases Nat.lt_or_ge j i with h | h
      · exact hall j u h hu
      · obtain rfl : j = i := by omega
        rw [ht] at hu; cases hu; exact hk
  · rintro wd Dd hDd hdd hKd ⟨hRd, hall⟩ a_ ha
    have hzd := hKd.size
    refine WC.at ?_ ha
    refine sq ?_
    refine WL.store_cell rfl Ty.flat4 rfl rfl hRd rfl rfl (fun w4 hB4 hR4 => ?_)
    refine WL.dn ?_
    refine WC.ret (fun a_ ha => ?_)
    have hcl : T.clean = true := by
      have : T.pre.all Nd.right = true := by
        rw [List.all_eq_true]; intro t ht
        obtain ⟨j, hj, rfl⟩ := List.getElem_of_mem ht
        exact hall j _ hj (List.getElem?_eq_getElem hj)
      simp [Nd.clean, hc, this]
    exact bodyPostM_cell1 rfl ha rfl Ty.flat4 hR4 (n0 := b2 + 1) (by omega) (Marks.one (by omega) ((hB4.block _ (by omega)).trans hdd))
      (fun wz hkz => ⟨by rw [hcl], hkz.after (hB4.onto (hKd.after (((hE1.trans hE2).trans hE3).trans hE5) (by rintro k rfl; omega)) (by omega)) (fun k h => by omega)⟩)
  · rintro wd Dd cd hDd hdd hKd ⟨rfl, hRd, hcl⟩
    have hzd := hKd.size
    refine WC.ret (fun a_ ha => ?_)
    refine ret_block ?_
    refine ret_then ?_
    exact bodyPostM_cell1 rfl ha rfl Ty.flat4 hRd (n0 := b2 + 1) (by omega) (Marks.one (by omega) hdd)
      (fun wz hkz => ⟨by rw [hcl], hkz.after (hKd.after (((hE1.trans hE2).trans hE3).trans hE5) (by rintro k rfl; omega)) (fun k h => by omega)⟩)
end Go.Proofs.Ytaggidjijekpbaa
namespace Go.Proofs.Ytaggidjijekpbaa
open Go.Proofs Go.RowKit
set_option maxRecDepth 20000 in
set_option maxHeartbeats 4000000 in
theorem positions_ok (T : Nd) : ∀ (D : Nat → Prop) (w : World) (l : List Value) (hT : NodeL D w l T) (hsz : T.size ≤ 10000),
  Calls Try.prog 39 #[.agg l.toArray] w fun e w' => e = .returned (.int .i64 T.posn) ∧ Ext w w' := by
 induction T using Nd.ind with
 | h kd st mn mx tsx ih =>
 intro D w l hT hsz
 replace ih : ∀ t, t ∈ (Nd.mk kd st mn mx tsx).subs → _ := ih
 generalize Nd.mk kd st mn mx tsx = T at *
 clear kd st mn mx tsx
 have hT := hT.lt
 obtain ⟨a, cap, rfl, hts, hlen⟩ := hT.op2
 have hls := Nd.length_le_sizeL T.subs
 have hss := Nd.size_subs T
 refine Calls.enter (args := [.agg (tcells T (.slice a T.subs.length cap)).toArray]) Try.func39 rfl rfl rfl rfl ?_
 refine sq ?_
 refine WL.box_agg rfl rfl rfl (fun b1 w6 hb2 hE5 hs3 hR4 => ?_)
 refine asg ?_
 refine WL.dn ?_
 refine sq ?_
 refine asg ?_
 refine WL.dn ?_
 refine WC.seqk ?_
 refine sq ?_
 refine WL.fieldAddr rfl rfl Ty.fld29_0 rfl ?_
 refine WL.load_fld rfl rfl Ty.flat5 rfl hR4 rfl ?_
 cases hc7 : ((T.kind : Int) == 2) with
 | false =>
  refine WL.eql rfl rfl rfl rfl hc7 ?_
  have hp7 := beq_eq_false_iff_ne.1 hc7
  refine WL.dn ?_
  refine cF ?_
  refine WC.sk ?_
  refine WC.seqk ?_
  refine sq ?_
  refine WL.fieldAddr rfl rfl Ty.fld29_4 rfl ?_
  refine WL.load_fld rfl rfl Ty.flat27 rfl hR4 rfl ?_
  refine WL.len rfl rfl Try.underlying27 rfl ?_
  refine mv ?_
  refine WL.dn ?_
  refine WC.block ?_
  refine WC.weaken (r' := [(1, pt b1 0), (12, .slice a T.subs.length cap), (13, .int .i64 T.subs.length), (3, .int .i64 0), (14, .int .i64 0)]) (s4 (sr rfl (subReg_nil _))) ?_
  refine WC.loop (σ := Nat) (fun k r_ w_ => r_ = [(1, pt b1 0), (12, .slice a T.subs.length cap), (13, .int .i64 T.subs.length), (3, .int .i64 (0 + Nd.posnL (T.subs.take k))), (14, .int .i64 (k : Int))] ∧ Ext w6 w_ ∧ (k ≤ T.subs.length ∧ True)) (fun k => T.subs.length - k) 0 ⟨rfl, (Ext.refl _), ⟨Nat.zero_le _, trivial⟩⟩ ?_
  rintro k r_ w10 ⟨rfl, hE8, hI9⟩
  have hzhE8 := hE8.size
  obtain ⟨hk, hI9⟩ := hI9
  refine sq ?_
  cases hc11 : decide (((k : Int) : Int) < T.subs.length) with
  | false =>
   refine WL.lss rfl rfl rfl rfl hc11 ?_
   have hp11 := of_decide_eq_false hc11
   refine WL.dn ?_
   refine WC.seqk ?_
   refine cF ?_
   refine WC.exit (fun a_ ha => ?_)
   refine exit_then ?_
   refine exit_then ?_
   refine exit_here ?_
   refine WC.at ?_ ha
   refine WC.seqk ?_
   refine sq ?_
   refine WL.fieldAddr rfl rfl Ty.fld29_0 rfl ?_
   refine WL.load_fld rfl rfl Ty.flat5 rfl (hR4.ext hE8) rfl ?_
   cases hc12 : ((T.kind : Int) == 5) with
   | false =>
    refine WL.eql rfl rfl rfl rfl hc12 ?_
    have hp12 := beq_eq_false_iff_ne.1 hc12
    refine WL.dn ?_
    refine cF ?_
    refine WC.sk ?_
    refine sq ?_
    refine mv ?_
    refine WL.min2 (v := minI (0 + Nd.posnL (T.subs.take k)) 10001) rfl rfl rfl rfl rfl ?_
    refine asg ?_
    refine WL.dn ?_
    refine WC.ret (fun a_ ha => ?_)
    exact bodyPost_tmp rfl ha rfl ⟨(by congr 2; rw [Nd.posn_eq]; have hkk : k = T.subs.length := (by omega); subst hkk; simp only [List.take_length, Nd.tms, hc7, hc12, cond_true, cond_false]), (hE5.trans hE8)⟩
   | true =>
    refine WL.eql rfl rfl rfl rfl hc12 ?_
    have hp12 := beq_iff_eq.1 hc12
    refine WL.dn ?_
    refine cT ?_
    refine sq ?_
    refine WL.fieldAddr rfl rfl Ty.fld29_2 rfl ?_
    refine WL.load_fld rfl rfl Ty.flat3 rfl (hR4.ext hE8) rfl ?_
    refine WL.max2 (v := maxI T.least 0) rfl rfl rfl rfl rfl ?_
    refine asg ?_
    refine WL.dn ?_
    refine sq ?_
    refine mv ?_
    refine WL.fieldAddr rfl rfl Ty.fld29_3 rfl ?_
    refine WL.load_fld rfl rfl Ty.flat3 rfl (hR4.ext hE8) rfl ?_
    refine WL.max2 (v := maxI (maxI T.least 0) T.most) rfl rfl rfl rfl rfl ?_
    refine asg ?_
    refine WL.dn ?_
    refine WC.seqk ?_
    refine sq ?_
    refine WL.fieldAddr rfl rfl Ty.fld29_3 rfl ?_
    refine WL.load_fld rfl rfl Ty.flat3 rfl (hR4.ext hE8) rfl ?_
    cases hc13 : ((T.most : Int) == (-1)) with
    | false =>
     refine WL.eql rfl rfl rfl rfl hc13 ?_
     have hp13 := beq_eq_false_iff_ne.1 hc13
     refine WL.dn ?_
     refine cF ?_
     refine WC.sk ?_
     refine WC.region ?_
     refine mv ?_
     refine mv ?_
     refine WL.min2 (v := minI (maxI (maxI T.least 0) T.most) 10001) rfl rfl rfl rfl rfl ?_
     refine WL.mul (v := (0 + Nd.posnL (T.subs.take k)) * (minI (maxI (maxI T.least 0) T.most) 10001)) rfl rfl rfl rfl (by have hb1 := Nd.posnL_bd (T.subs.take k); rw [List.length_take] at hb1; have hb3 := mul_fits (x := 0 + Nd.posnL (T.subs.take k)) (y := minI (maxI (maxI T.least 0) T.most) 10001) (by omega) (by omega) (minmax_bd _ _).1 (minmax_bd _ _).2; exact hb3) ?_
     refine asg ?_
     refine WL.dn ?_
     refine sq ?_
     refine mv ?_
     refine WL.min2 (v := minI ((0 + Nd.posnL (T.subs.take k)) * (minI (maxI (maxI T.least 0) T.most) 10001)) 10001) rfl rfl rfl rfl rfl ?_
     refine asg ?_
     refine WL.dn ?_
     refine WC.ret (fun a_ ha => ?_)
     exact bodyPost_tmp rfl ha rfl ⟨(by congr 2; rw [Nd.posn_eq]; have hkk : k = T.subs.length := (by omega); subst hkk; simp only [List.take_length, Nd.tms, hc7, hc12, hc13, cond_true, cond_false]), (hE5.trans hE8)⟩
    | true =>
     refine WL.eql rfl rfl rfl rfl hc13 ?_
     have hp13 := beq_iff_eq.1 hc13
     refine WL.dn ?_
     refine cT ?_
     refine WC.region ?_
     refine mv ?_
     refine WL.max2 (v := maxI (maxI T.least 0) 1) rfl rfl rfl rfl rfl ?_
     refine asg ?_
     refine WL.dn ?_
     refine WC.region ?_
     refine mv ?_
     refine mv ?_
     refine WL.min2 (v := minI (maxI (maxI T.least 0) 1) 10001) rfl rfl rfl rfl rfl ?_
     refine WL.mul (v := (0 + Nd.posnL (T.subs.take k)) * (minI (maxI (maxI T.least 0) 1) 10001)) rfl rfl rfl rfl (by have hb1 := Nd.posnL_bd (T.subs.take k); rw [List.length_take] at hb1; have hb3 := mul_fits (x := 0 + Nd.posnL (T.subs.take k)) (y := minI (maxI (maxI T.least 0) 1) 10001) (by omega) (by omega) (minmax_bd _ _).1 (minmax_bd _ _).2; exact hb3) ?_
     refine asg ?_
     refine WL.dn ?_
     refine sq ?_
     refine mv ?_
     refine WL.min2 (v := minI ((0 + Nd.posnL (T.subs.take k)) * (minI (maxI (maxI T.least 0) 1) 10001)) 10001) rfl rfl rfl rfl rfl ?_
     refine asg ?_
     refine WL.dn ?_
     refine WC.ret (fun a_ ha => ?_)
     exact bodyPost_tmp rfl ha rfl ⟨(by congr 2; rw [Nd.posn_eq]; have hkk : k = T.subs.length := (by omega); subst hkk; simp only [List.take_length, Nd.tms, hc7, hc12, hc13, cond_true, cond_false]), (hE5.trans hE8)⟩
  | true =>
   refine WL.lss rfl rfl rfl rfl hc11 ?_
   have hp11 := of_decide_eq_true hc11
   refine WL.dn ?_
   refine WC.seqk ?_
   refine cT ?_
   refine WC.sk ?_
   refine WC.seqk ?_
   refine WC.block ?_
   refine sq ?_
   have h12 := ((hts.ext hE5).ext hE8)
   obtain ⟨t13, ht13⟩ : ∃ t, T.subs[k]? = some t := ⟨_, List.getElem?_eq_getElem (by omega)⟩
   obtain ⟨eb13, eo13, el13, hea13, hD13, her13, hn13⟩ := h12.at ht13
   obtain ⟨a13, cap13, rfl, hts13, hlen13⟩ := hn13.op2
   subst hea13
   refine WL.indexAddr (i := k) rfl rfl Ty.slice27 rfl rfl rfl (by omega) ?_
   refine WL.load_agg (l := tcells t13 (.slice a13 t13.subs.length cap13)) rfl rfl Ty.agg29 rfl her13 ?_
   refine WL.alloc rfl rfl Ty.zero29 rfl (fun b14 w19 hb15 hE18 hs16 hR17 => ?_)
   refine WL.store_box rfl rfl rfl hR17 Ty.agg29 rfl rfl (fun w22 hB21 hR20 => ?_)
   have hzhB21 := hB21.size
   refine WL.dn ?_
   refine WC.region ?_
   refine mv ?_
   refine WL.load_box rfl rfl rfl hR20 Ty.agg29 ?_
   have h23 := ((hn13.ext hE18).bu hB21)
   refine WL.call rfl rfl rfl Ty.ent39 (ih t13 (List.mem_of_getElem? ht13) _ _ _ h23 (by have := Nd.size_le_sizeL (List.mem_of_getElem? ht13); have := Nd.size_subs T; omega)) ?_
   rintro _ w25 ⟨rfl, hE24⟩
   have hzhE24 := hE24.size
   refine ⟨_, rfl, ?_⟩
   refine WL.add (v := 0 + Nd.posnL (T.subs.take (k + 1))) rfl rfl rfl rfl (by have hb1 := Nd.posnL_bd (T.subs.take k); have hb2 := Nd.posn_bd t13; rw [List.length_take] at hb1; rw [IntWalk.i64_in _ (by omega), Nd.posnL_succ ht13, Int.add_assoc]) ?_
   refine asg ?_
   refine WL.dn ?_
   refine WC.region ?_
   refine WL.add (v := (k : Int) + 1) rfl rfl rfl rfl (IntWalk.i64_in _ (by omega)) ?_
   refine mv ?_
   refine WL.nil (fun a_ ha => ?_)
   exact ⟨k + 1, _, ha.weaken (s4 (sr rfl (subReg_nil _))), ⟨rfl, ((hB21.onto (hE8.trans hE18) (by omega)).trans hE24), ⟨by omega, trivial⟩⟩, by first | omega | (dsimp only; omega)⟩
 | true =>
  refine WL.eql rfl rfl rfl rfl hc7 ?_
  have hp7 := beq_iff_eq.1 hc7
  refine WL.dn ?_
  refine cT ?_
  refine WC.region ?_
  refine asg ?_
  refine WL.dn ?_
  refine WC.seqk ?_
  refine sq ?_
  refine WL.fieldAddr rfl rfl Ty.fld29_4 rfl ?_
  refine WL.load_fld rfl rfl Ty.flat27 rfl hR4 rfl ?_
  refine WL.len rfl rfl Try.underlying27 rfl ?_
  refine mv ?_
  refine WL.dn ?_
  refine WC.block ?_
  refine WC.weaken (r' := [(1, pt b1 0), (12, .slice a T.subs.length cap), (13, .int .i64 T.subs.length), (3, .int .i64 1), (14, .int .i64 0)]) (s4 (sr rfl (subReg_nil _))) ?_
  refine WC.loop (σ := Nat) (fun k r_ w_ => r_ = [(1, pt b1 0), (12, .slice a T.subs.length cap), (13, .int .i64 T.subs.length), (3, .int .i64 (1 + Nd.posnL (T.subs.take k))), (14, .int .i64 (k : Int))] ∧ Ext w6 w_ ∧ (k ≤ T.subs.length ∧ True)) (fun k => T.subs.length - k) 0 ⟨rfl, (Ext.refl _), ⟨Nat.zero_le _, trivial⟩⟩ ?_
  rintro k r_ w10 ⟨rfl, hE8, hI9⟩
  have hzhE8 := hE8.size
  obtain ⟨hk, hI9⟩ := hI9
  refine sq ?_
  cases hc11 : decide (((k : Int) : Int) < T.subs.length) with
  | false =>
   refine WL.lss rfl rfl rfl rfl hc11 ?_
   have hp11 := of_decide_eq_false hc11
   refine WL.dn ?_
   refine WC.seqk ?_
   refine cF ?_
   refine WC.exit (fun a_ ha => ?_)
   refine exit_then ?_
   refine exit_then ?_
   refine exit_here ?_
   refine WC.at ?_ ha
   refine WC.seqk ?_
   refine sq ?_
   refine WL.fieldAddr rfl rfl Ty.fld29_0 rfl ?_
   refine WL.load_fld rfl rfl Ty.flat5 rfl (hR4.ext hE8) rfl ?_
   have hc12 : ((T.kind : Int) == 5) = false := beq_eq_false_iff_ne.2 (by omega)
   refine WL.eql rfl rfl rfl rfl hc12 ?_
   refine WL.dn ?_
   refine cF ?_
   refine WC.sk ?_
   refine sq ?_
   refine mv ?_
   refine WL.min2 (v := minI (1 + Nd.posnL (T.subs.take k)) 10001) rfl rfl rfl rfl rfl ?_
   refine asg ?_
   refine WL.dn ?_
   refine WC.ret (fun a_ ha => ?_)
   exact bodyPost_tmp rfl ha rfl ⟨(by congr 2; rw [Nd.posn_eq]; have hkk : k = T.subs.length := (by omega); subst hkk; simp only [List.take_length, Nd.tms, hc7, hc12, cond_true, cond_false]), (hE5.trans hE8)⟩
  | true =>
   refine WL.lss rfl rfl rfl rfl hc11 ?_
   have hp11 := of_decide_eq_true hc11
   refine WL.dn ?_
   refine WC.seqk ?_
   refine cT ?_
   refine WC.sk ?_
   refine WC.seqk ?_
   refine WC.block ?_
   refine sq ?_
   have h12 := ((hts.ext hE5).ext hE8)
   obtain ⟨t13, ht13⟩ : ∃ t, T.subs[k]? = some t := ⟨_, List.getElem?_eq_getElem (by omega)⟩
   obtain ⟨eb13, eo13, el13, hea13, hD13, her13, hn13⟩ := h12.at ht13
   obtain ⟨a13, cap13, rfl, hts13, hlen13⟩ := hn13.op2
   subst hea13
   refine WL.indexAddr (i := k) rfl rfl Ty.slice27 rfl rfl rfl (by omega) ?_
   refine WL.load_agg (l := tcells t13 (.slice a13 t13.subs.length cap13)) rfl rfl Ty.agg29 rfl her13 ?_
   refine WL.alloc rfl rfl Ty.zero29 rfl (fun b14 w19 hb15 hE18 hs16 hR17 => ?_)
   refine WL.store_box rfl rfl rfl hR17 Ty.agg29 rfl rfl (fun w22 hB21 hR20 => ?_)
   have hzhB21 := hB21.size
   refine WL.dn ?_
   refine WC.region ?_
   refine mv ?_
   refine WL.load_box rfl rfl rfl hR20 Ty.agg29 ?_
   have h23 := ((hn13.ext hE18).bu hB21)
   refine WL.call rfl rfl rfl Ty.ent39 (ih t13 (List.mem_of_getElem? ht13) _ _ _ h23 (by have := Nd.size_le_sizeL (List.mem_of_getElem? ht13); have := Nd.size_subs T; omega)) ?_
   rintro _ w25 ⟨rfl, hE24⟩
   have hzhE24 := hE24.size
   refine ⟨_, rfl, ?_⟩
   refine WL.add (v := 1 + Nd.posnL (T.subs.take (k + 1))) rfl rfl rfl rfl (by have hb1 := Nd.posnL_bd (T.subs.take k); have hb2 := Nd.posn_bd t13; rw [List.length_take] at hb1; rw [IntWalk.i64_in _ (by omega), Nd.posnL_succ ht13, Int.add_assoc]) ?_
   refine asg ?_
   refine WL.dn ?_
   refine WC.region ?_
   refine WL.add (v := (k : Int) + 1) rfl rfl rfl rfl (IntWalk.i64_in _ (by omega)) ?_
   refine mv ?_
   refine WL.nil (fun a_ ha => ?_)
   exact ⟨k + 1, _, ha.weaken (s4 (sr rfl (subReg_nil _))), ⟨rfl, ((hB21.onto (hE8.trans hE18) (by omega)).trans hE24), ⟨by omega, trivial⟩⟩, by first | omega | (dsimp only; omega)⟩
end Go.Proofs.Ytaggidjijekpbaa
namespace Go.Proofs.Ytaggidjijekpbaa
namespace Nd
theorem sameL_iff (ts us : List Nd) : sameL ts us = true ↔ ts = us := by
  induction ts generalizing us with
  | nil => cases us <;> simp [sameL]
  | cons x l ih => cases us <;> simp [sameL, same_iff, ih]
theorem sameL_ne {ts us : List Nd} (h : ts ≠ us) : sameL ts us = false := by
  cases hb : sameL ts us with
  | false => rfl
  | true => exact absurd ((sameL_iff _ _).1 hb) h
theorem same_eq (t u : Nd) : t.same u = (t.kind == u.kind && t.set == u.set && t.least == u.least && t.most == u.most && sameL t.subs u.subs) := by
  cases t; cases u; rfl
def checked (t : Nd) : Nd := bif t.clean then t else none
def good (t : Nd) : Bool := t.same none || t.clean
def flat1 (kind without : Int) (x : Nd) : List Nd := bif x.kind == kind then x.subs else bif x.kind == without then [] else [x]
def flat (kind without : Int) (l : List Nd) : List Nd := l.flatMap (flat1 kind without)
def joined (kind : Int) (l : List Nd) (n : Nd) : Nd :=
  bif ((l.length : Int) == 0) then n else bif ((l.length : Int) == 1) then (l[0]?.getD none).checked else (mk kind zero 0 0 l).checked
def bad0 (x : Nd) : Bool := x.kind == 0 || !x.clean
def seq (l : List Nd) : Nd := bif l.any bad0 then none else joined 3 (flat 3 1 l) empty
def or (l : List Nd) : Nd := bif l.any (fun x => !x.good) then none else joined 4 (flat 4 0 l) none
def times (n : Nd) (mn mx : Int) : Nd :=
  let zr := (mn == 0) && (mx == 0)
  let one := (mn == 1) && (mx == 1)
  bif !n.good || (!zr && !one && !bounds mn mx) then none
  else bif (n.kind == 0) && decide ((0 : Int) < mn) then none
  else bif zr || (n.kind == 0) || (n.kind == 1) then empty
  else bif one then n
  else (mk 5 zero mn mx [n]).checked
theorem flat1_len (kind without : Int) (x : Nd) : (flat1 kind without x).length ≤ x.size := by
  unfold flat1
  have h1 := size_subs x
  have h2 := length_le_sizeL x.subs
  have h3 := size_pos x
  cases (x.kind == kind) <;> cases (x.kind == without) <;> simp <;> omega
theorem flat_len (kind without : Int) (l : List Nd) : (flat kind without l).length ≤ sizeL l := by
  induction l with
  | nil => simp [flat]
  | cons x l ih => have := flat1_len kind without x; simp only [flat, List.flatMap_cons, List.length_append, sizeL] at *; omega
theorem sizeL_take {l : List Nd} {k : Nat} {t : Nd} (h : l[k]? = some t) : sizeL (l.take k) + t.size ≤ sizeL l := by
  have h1 : l.take (k + 1) = l.take k ++ [t] := by rw [List.take_add_one, h]; rfl
  have h2 : sizeL (l.take (k + 1)) + sizeL (l.drop (k + 1)) = sizeL l := by rw [← sizeL_append, List.take_append_drop]
  rw [h1, sizeL_append] at h2
  simp only [sizeL] at h2; omega
theorem flat_succ (kind without : Int) {l : List Nd} {k : Nat} {t : Nd} (h : l[k]? = some t) : flat kind without (l.take (k + 1)) = flat kind without (l.take k) ++ flat1 kind without t := by
  have h1 : l.take (k + 1) = l.take k ++ [t] := by rw [List.take_add_one, h]; rfl
  simp [flat, h1]
theorem sizeL_le {l : List Nd} (h : ∀ t ∈ l, t.size ≤ 10000) : sizeL l ≤ 10000 * l.length := by
  induction l with
  | nil => simp [sizeL]
  | cons x l ih => have := h x (by simp); have := ih (fun t ht => h t (by simp [ht])); simp [sizeL]; omega
theorem clean_size {t : Nd} (h : t.clean = true) : t.size ≤ 10000 := by simp [clean, light] at h; exact h.1
theorem good_size {t : Nd} (h : t.good = true) : t.size ≤ 10000 := by
  simp only [good, Bool.or_eq_true] at h
  rcases h with h | h
  · rw [(same_iff _ _).1 h]; simp [none, size, sizeL]
  · exact clean_size h
theorem any_at {p : Nd → Bool} {l : List Nd} {k : Nat} {t : Nd} (h : l[k]? = some t) (hp : p t = true) : l.any p = true := List.any_eq_true.2 ⟨t, List.mem_of_getElem? h, hp⟩
theorem any_no {p : Nd → Bool} {l : List Nd} {k : Nat} (hk : l.length ≤ k) (h : ∀ (m : Nat) (t : Nd), m < k → l[m]? = some t → p t = false) : l.any p = false := by
  rw [List.any_eq_false]
  intro t ht
  obtain ⟨i, hi, rfl⟩ := List.mem_iff_getElem.1 ht
  rw [h i _ (by omega) (List.getElem?_eq_getElem hi)]; simp
def flatJ1 (kind : Int) (x : Nd) : List Nd := bif x.kind == kind then x.subs else bif (kind == 3) && (x.kind == 1) then [] else [x]
def flatJ (kind : Int) (l : List Nd) : List Nd := l.flatMap (flatJ1 kind)
def joinsL (kind : Int) (l : List Nd) : Nd := bif ((l.length : Int) == 0) then empty else bif ((l.length : Int) == 1) then (l[0]?.getD none) else mk kind zero 0 0 l
def joins (kind : Int) (a b : Nd) : Nd := joinsL kind (flatJ kind [a, b])
theorem flatJ_succ (kind : Int) {l : List Nd} {k : Nat} {t : Nd} (h : l[k]? = some t) : flatJ kind (l.take (k + 1)) = flatJ kind (l.take k) ++ flatJ1 kind t := by
  have h1 : l.take (k + 1) = l.take k ++ [t] := by rw [List.take_add_one, h]; rfl
  simp [flatJ, h1]
theorem flatJ1_len (kind : Int) (x : Nd) : (flatJ1 kind x).length ≤ x.size := by
  unfold flatJ1
  have h1 := size_subs x
  have h2 := length_le_sizeL x.subs
  have h3 := size_pos x
  cases (x.kind == kind) <;> cases ((kind == 3) && (x.kind == 1)) <;> simp <;> omega
theorem flatJ_len (kind : Int) (l : List Nd) : (flatJ kind l).length ≤ sizeL l := by
  induction l with
  | nil => simp [flatJ]
  | cons x l ih => have := flatJ1_len kind x; simp only [flatJ, List.flatMap_cons, List.length_append, sizeL] at *; omega
def S4get (s : S4) (i : Nat) : Int := match i with | 0 => s.a | 1 => s.b | 2 => s.c | _ => s.d
def S4put (s : S4) (i : Nat) (v : Int) : S4 := match i with | 0 => { s with a := v } | 1 => { s with b := v } | 2 => { s with c := v } | _ => { s with d := v }
def orI (a b : Int) : Int := IntKind.u64.wrap ((BitVec.ofInt IntKind.u64.bits a ||| BitVec.ofInt IntKind.u64.bits b).toNat : Int)
def bit1 (c : Nat) : Int := IntKind.u64.wrap ((1 : Int) * 2 ^ (min (c % 64) IntKind.u64.bits))
def set1 (s : S4) (c : Nat) : S4 := S4put s (c / 64) (orI (S4get s (c / 64)) (bit1 c))
def setB (l : List UInt8) : S4 := l.foldl (fun s c => set1 s c.toNat) zero
def classS (l : List UInt8) : Nd := mk 2 (setB l) 0 0 []
def L12 : List (List UInt8) := [[97], [98], [97, 98], [97], [98], [99], [97, 98, 99], [98, 99], [10], [0, 255], [97], [98]]
def lettersS (n : Int) : List UInt8 := (L12[(n.tmod 12).toNat]?).getD []
theorem L12_len : ∀ l ∈ L12, l.length ≤ 100 ∧ 0 < l.length := by decide
theorem lettersS_len (n : Int) : (lettersS n).length ≤ 100 := by
  unfold lettersS
  cases h : L12[(n.tmod 12).toNat]? with
  | none => simp
  | some l => exact (L12_len l (List.mem_of_getElem? h)).1
theorem setB_succ {l : List UInt8} {k : Nat} {c : UInt8} (h : l[k]? = some c) : setB (l.take (k + 1)) = set1 (setB (l.take k)) c.toNat := by
  have h1 : l.take (k + 1) = l.take k ++ [c] := by rw [List.take_add_one, h]; rfl
  rw [h1]; simp [setB]
theorem quo64 (n : Nat) (h : n < 256) : IntKind.u8.wrap ((n : Int).tdiv 64) = ((n / 64 : Nat) : Int) := by
  have h1 : (n : Int).tdiv 64 = ((n / 64 : Nat) : Int) := by
    rw [Int.tdiv_eq_ediv_of_nonneg (by omega)]; simp
  rw [h1]
  have : n / 64 < 4 := by omega
  generalize n / 64 = q at this
  have hq : q = 0 ∨ q = 1 ∨ q = 2 ∨ q = 3 := by omega
  rcases hq with rfl | rfl | rfl | rfl <;> rfl
theorem rem64 (n : Nat) : (n : Int).tmod 64 = ((n % 64 : Nat) : Int) := by
  rw [Int.tmod_eq_emod_of_nonneg (by omega)]; simp
end Nd
end Go.Proofs.Ytaggidjijekpbaa
namespace Go.Proofs.Ytaggidjijekpbaa
open Go.Proofs Go.RowKit
set_option maxRecDepth 20000 in
set_option maxHeartbeats 4000000 in
theorem equalFunc_ok (D D2 : Nat → Prop) (w : World) (a a2 : Option Addr) (cap cap2 fn : Nat) (caps : Array Value) (ts us : List Nd) (hts : NodesV D w (.slice a ts.length cap) ts) (hus : NodesV D2 w (.slice a2 us.length cap2) us) (hf : ∀ (l l2 : List Value) (t u : Nd) (w' : World), Ext w w' → NodeL D w' l t → NodeL D2 w' l2 u → t ∈ ts → u ∈ us → Calls Try.prog fn (#[.agg l.toArray, .agg l2.toArray] ++ caps) w' fun e w'' => e = .returned (.bool (t.same u)) ∧ Ext w' w'') (hent : ∀ vs w, (callFunc fn vs).run Try.prog w = .ok (.enter fn vs) w) :
  Calls Try.prog 47 #[.slice a ts.length cap, .slice a2 us.length cap2, .func (.func fn) #[] caps] w fun e w' => e = .returned (.bool (Nd.sameL ts us)) ∧ Ext w w' := by
 have hlen := hts.len
 have hlen2 := hus.len
 have hts := hts.lt
 have hus := hus.lt
 refine Calls.enter (args := [.slice a ts.length cap, .slice a2 us.length cap2, .func (.func fn) #[] caps]) Try.func47 rfl rfl rfl rfl ?_
 refine sq ?_
 refine asg ?_
 refine WL.dn ?_
 refine WC.seqk ?_
 refine sq ?_
 refine mv ?_
 refine WL.len rfl rfl Try.underlying27 rfl ?_
 refine mv ?_
 refine WL.len rfl rfl Try.underlying27 rfl ?_
 cases hc1 : ((ts.length : Int) != us.length) with
 | false =>
  refine WL.neq rfl rfl rfl rfl hc1 ?_
  have hp1 := bne_eq_false_iff_eq.1 hc1
  refine WL.dn ?_
  refine cF ?_
  refine WC.sk ?_
  refine WC.seqk ?_
  refine sq ?_
  refine mv ?_
  refine WL.len rfl rfl Try.underlying27 rfl ?_
  refine mv ?_
  refine WL.dn ?_
  refine WC.block ?_
  refine WC.weaken (r' := [(0, .slice a ts.length cap), (1, .slice a2 us.length cap2), (2, .func (.func fn) #[] caps), (15, .slice a ts.length cap), (16, .int .i64 ts.length), (17, .int .i64 0)]) (s4 (sr rfl (sr rfl (subReg_nil _)))) ?_
  refine WC.loop (σ := Nat) (fun k r_ w_ => r_ = [(0, .slice a ts.length cap), (1, .slice a2 us.length cap2), (2, .func (.func fn) #[] caps), (15, .slice a ts.length cap), (16, .int .i64 ts.length), (17, .int .i64 (k : Int))] ∧ Ext w w_ ∧ (k ≤ ts.length ∧ ts.take k = us.take k)) (fun k => ts.length - k) 0 ⟨rfl, (Ext.refl _), ⟨Nat.zero_le _, rfl⟩⟩ ?_
  rintro k r_ w4 ⟨rfl, hE2, hI3⟩
  have hzhE2 := hE2.size
  obtain ⟨hk, hI1⟩ := hI3
  refine sq ?_
  cases hc5 : decide (((k : Int) : Int) < ts.length) with
  | false =>
   refine WL.lss rfl rfl rfl rfl hc5 ?_
   have hp5 := of_decide_eq_false hc5
   refine WL.dn ?_
   refine WC.seqk ?_
   refine cF ?_
   refine WC.exit (fun a_ ha => ?_)
   refine exit_then ?_
   refine exit_then ?_
   refine exit_here ?_
   refine WC.at ?_ ha
   refine sq ?_
   refine asg ?_
   refine WL.dn ?_
   refine WC.ret (fun a_ ha => ?_)
   exact bodyPost_tmp rfl ha rfl ⟨by rw [(Nd.sameL_iff ts us).2]; rw [List.take_of_length_le (by omega), List.take_of_length_le (by omega)] at hI1; exact hI1, hE2⟩
  | true =>
   refine WL.lss rfl rfl rfl rfl hc5 ?_
   have hp5 := of_decide_eq_true hc5
   refine WL.dn ?_
   refine WC.seqk ?_
   refine cT ?_
   refine WC.sk ?_
   refine WC.seqk ?_
   refine WC.block ?_
   refine sq ?_
   refine mv ?_
   obtain ⟨t6, ht6⟩ : ∃ t, ts[k]? = some t := ⟨_, List.getElem?_eq_getElem (by omega)⟩
   obtain ⟨eb6, eo6, el6, hea6, hD6, her6, hn6⟩ := (hts.ext hE2).at ht6
   obtain ⟨a6, cap6, rfl, hts6, hlen6⟩ := hn6.op2
   subst hea6
   refine WL.indexAddr (i := k) rfl rfl Ty.slice27 rfl rfl rfl (by omega) ?_
   refine WL.load_agg (l := tcells t6 (.slice a6 t6.subs.length cap6)) rfl rfl Ty.agg29 rfl her6 ?_
   refine WL.alloc rfl rfl Ty.zero29 rfl (fun b7 w12 hb8 hE11 hs9 hR10 => ?_)
   refine asg ?_
   refine WL.store_box rfl rfl rfl hR10 Ty.agg29 rfl rfl (fun w15 hB14 hR13 => ?_)
   have hzhB14 := hB14.size
   refine WL.dn ?_
   refine sq ?_
   refine mv ?_
   refine mv ?_
   have h16 := (((hus.ext hE2).ext hE11).bu hB14)
   obtain ⟨t17, ht17⟩ : ∃ t, us[k]? = some t := ⟨_, List.getElem?_eq_getElem (by omega)⟩
   obtain ⟨eb17, eo17, el17, hea17, hD17, her17, hn17⟩ := h16.at ht17
   obtain ⟨a17, cap17, rfl, hts17, hlen17⟩ := hn17.op2
   subst hea17
   refine WL.indexAddr (i := k) rfl rfl Ty.slice27 rfl rfl rfl (by omega) ?_
   refine WL.load_agg (l := tcells t17 (.slice a17 t17.subs.length cap17)) rfl rfl Ty.agg29 rfl her17 ?_
   refine WL.alloc rfl rfl Ty.zero29 rfl (fun b18 w23 hb19 hE22 hs20 hR21 => ?_)
   refine WL.store_box rfl rfl rfl hR21 Ty.agg29 rfl rfl (fun w26 hB25 hR24 => ?_)
   have hzhB25 := hB25.size
   refine WL.dn ?_
   refine sq ?_
   refine mv ?_
   have h27 := (hB25.row (hR13.ext hE22) (by omega))
   refine WL.load_box rfl rfl rfl h27 Ty.agg29 ?_
   refine WL.load_box rfl rfl rfl hR24 Ty.agg29 ?_
   have h28 := ((((hn6.ext hE11).bu hB14).ext hE22).bu hB25)
   have h29 := ((hn17.ext hE22).bu hB25)
   refine WL.callv rfl rfl rfl rfl hent (hf _ _ _ _ _ (hB25.onto ((hB14.onto (hE2.trans hE11) (by omega)).trans hE22) (by omega)) (h28.dom (fun _ h => h.1)) (h29.dom (fun _ h => h.1)) (List.mem_of_getElem? ht6) (List.mem_of_getElem? ht17)) ?_
   rintro _ w31 ⟨rfl, hE30⟩
   have hzhE30 := hE30.size
   refine ⟨_, rfl, ?_⟩
   cases hc32 : t6.same t17 with
   | false =>
    refine WL.not rfl rfl rfl ?_
    refine WL.dn ?_
    refine cT ?_
    refine sq ?_
    refine asg ?_
    refine WL.dn ?_
    refine WC.ret (fun a_ ha => ?_)
    refine ret_block ?_
    refine ret_then ?_
    refine ret_then ?_
    refine ret_block ?_
    refine ret_then ?_
    exact bodyPost_tmp rfl ha rfl ⟨(by rw [Nd.sameL_ne]; intro he; subst he; rw [ht17] at ht6; cases ht6; rw [(Nd.same_iff _ _).2 rfl] at hc32; cases hc32), ((hB25.onto ((hB14.onto (hE2.trans hE11) (by omega)).trans hE22) (by omega)).trans hE30)⟩
   | true =>
    refine WL.not rfl rfl rfl ?_
    refine WL.dn ?_
    refine cF ?_
    refine WC.sk ?_
    refine WC.region ?_
    refine WL.add (v := (k : Int) + 1) rfl rfl rfl rfl (IntWalk.i64_in _ (by omega)) ?_
    refine mv ?_
    refine WL.nil (fun a_ ha => ?_)
    exact ⟨k + 1, _, ha.weaken (s4 (sr rfl (sr rfl (subReg_nil _)))), ⟨rfl, ((hB25.onto ((hB14.onto (hE2.trans hE11) (by omega)).trans hE22) (by omega)).trans hE30), ⟨by omega, by rw [List.take_add_one, List.take_add_one, hI1, ht6, ht17, (Nd.same_iff _ _).1 hc32]⟩⟩, by first | omega | (dsimp only; omega)⟩
 | true =>
  refine WL.neq rfl rfl rfl rfl hc1 ?_
  have hp1 := bne_iff_ne.1 hc1
  refine WL.dn ?_
  refine cT ?_
  refine sq ?_
  refine asg ?_
  refine WL.dn ?_
  refine WC.ret (fun a_ ha => ?_)
  refine ret_then ?_
  exact bodyPost_tmp rfl ha rfl ⟨by rw [Nd.sameL_ne]; intro he; subst he; omega, (Ext.refl _)⟩
set_option maxRecDepth 20000 in
set_option maxHeartbeats 4000000 in
theorem same_ok (T : Nd) : ∀ (D D2 : Nat → Prop) (w : World) (l l2 : List Value) (U : Nd) (hT : NodeL D w l T) (hU : NodeL D2 w l2 U),
  Calls Try.prog 38 #[.agg l.toArray, .agg l2.toArray] w fun e w' => e = .returned (.bool (T.same U)) ∧ Ext w w' := by
 induction T using Nd.ind with
 | h kd st mn mx tsx ih =>
 intro D D2 w l l2 U hT hU
 replace ih : ∀ t, t ∈ (Nd.mk kd st mn mx tsx).subs → _ := ih
 generalize Nd.mk kd st mn mx tsx = T at *
 clear kd st mn mx tsx
 have hT := hT.lt
 obtain ⟨a, cap, rfl, hts, hlen⟩ := hT.op2
 have hU := hU.lt
 obtain ⟨a2, cap2, rfl, hts2, hlen2⟩ := hU.op2
 refine Calls.enter (args := [.agg (tcells T (.slice a T.subs.length cap)).toArray, .agg (tcells U (.slice a2 U.subs.length cap2)).toArray]) Try.func38 rfl rfl rfl rfl ?_
 refine sq ?_
 refine WL.box_agg rfl rfl rfl (fun b1 w6 hb2 hE5 hs3 hR4 => ?_)
 refine WL.box_agg rfl rfl rfl (fun b7 w12 hb8 hE11 hs9 hR10 => ?_)
 refine asg ?_
 refine WL.dn ?_
 refine sq ?_
 refine WL.fieldAddr rfl rfl Ty.fld29_0 rfl ?_
 refine WL.load_fld rfl rfl Ty.flat5 rfl (hR4.ext hE11) rfl ?_
 refine WL.fieldAddr rfl rfl Ty.fld29_0 rfl ?_
 refine WL.load_fld rfl rfl Ty.flat5 rfl hR10 rfl ?_
 cases hc13 : ((T.kind : Int) == U.kind) with
 | false =>
  refine WL.eql rfl rfl rfl rfl hc13 ?_
  have hp13 := beq_eq_false_iff_ne.1 hc13
  refine mv ?_
  refine ps ?_
  refine ps ?_
  refine ps ?_
  refine ps ?_
  refine ps ?_
  refine pF ?_
  refine mv ?_
  refine ps ?_
  refine ps ?_
  refine ps ?_
  refine ps ?_
  refine ps ?_
  refine pF ?_
  refine mv ?_
  refine ps ?_
  refine ps ?_
  refine ps ?_
  refine ps ?_
  refine ps ?_
  refine pF ?_
  refine mv ?_
  refine ps ?_
  refine ps ?_
  refine ps ?_
  refine ps ?_
  refine ps ?_
  refine pF ?_
  refine asg ?_
  refine WL.dn ?_
  refine WC.ret (fun a_ ha => ?_)
  exact bodyPost_tmp rfl ha rfl ⟨(by congr 2; simp only [Nd.same_eq, hc13] <;> try simp), (hE5.trans hE11)⟩
 | true =>
  refine WL.eql rfl rfl rfl rfl hc13 ?_
  have hp13 := beq_iff_eq.1 hc13
  refine mv ?_
  refine WL.fieldAddr rfl rfl Ty.fld29_1 rfl ?_
  refine WL.load_part 4 rfl rfl rfl (hR4.ext hE11) rfl Ty.agg26 ?_
  refine WL.fieldAddr rfl rfl Ty.fld29_1 rfl ?_
  refine WL.load_part 4 rfl rfl rfl hR10 rfl Ty.agg26 ?_
  cases hc14 : (T.set == U.set) with
  | false =>
   refine WL.seteql (s := T.set) (s' := U.set) rfl rfl Ty.arr26 Ty.eqg26 Try.underlying24 rfl rfl hc14 ?_
   refine pT ?_
   refine mv ?_
   refine ps ?_
   refine ps ?_
   refine ps ?_
   refine ps ?_
   refine ps ?_
   refine pF ?_
   refine mv ?_
   refine ps ?_
   refine ps ?_
   refine ps ?_
   refine ps ?_
   refine ps ?_
   refine pF ?_
   refine mv ?_
   refine ps ?_
   refine ps ?_
   refine ps ?_
   refine ps ?_
   refine ps ?_
   refine pF ?_
   refine asg ?_
   refine WL.dn ?_
   refine WC.ret (fun a_ ha => ?_)
   exact bodyPost_tmp rfl ha rfl ⟨(by congr 2; simp only [Nd.same_eq, hc13, hc14] <;> try simp), (hE5.trans hE11)⟩
  | true =>
   refine WL.seteql (s := T.set) (s' := U.set) rfl rfl Ty.arr26 Ty.eqg26 Try.underlying24 rfl rfl hc14 ?_
   refine pT ?_
   refine mv ?_
   refine WL.fieldAddr rfl rfl Ty.fld29_2 rfl ?_
   refine WL.load_fld rfl rfl Ty.flat3 rfl (hR4.ext hE11) rfl ?_
   refine WL.fieldAddr rfl rfl Ty.fld29_2 rfl ?_
   refine WL.load_fld rfl rfl Ty.flat3 rfl hR10 rfl ?_
   cases hc15 : ((T.least : Int) == U.least) with
   | false =>
    refine WL.eql rfl rfl rfl rfl hc15 ?_
    have hp15 := beq_eq_false_iff_ne.1 hc15
    refine pT ?_
    refine mv ?_
    refine ps ?_
    refine ps ?_
    refine ps ?_
    refine ps ?_
    refine ps ?_
    refine pF ?_
    refine mv ?_
    refine ps ?_
    refine ps ?_
    refine ps ?_
    refine ps ?_
    refine ps ?_
    refine pF ?_
    refine asg ?_
    refine WL.dn ?_
    refine WC.ret (fun a_ ha => ?_)
    exact bodyPost_tmp rfl ha rfl ⟨(by congr 2; simp only [Nd.same_eq, hc13, hc14, hc15] <;> try simp), (hE5.trans hE11)⟩
   | true =>
    refine WL.eql rfl rfl rfl rfl hc15 ?_
    have hp15 := beq_iff_eq.1 hc15
    refine pT ?_
    refine mv ?_
    refine WL.fieldAddr rfl rfl Ty.fld29_3 rfl ?_
    refine WL.load_fld rfl rfl Ty.flat3 rfl (hR4.ext hE11) rfl ?_
    refine WL.fieldAddr rfl rfl Ty.fld29_3 rfl ?_
    refine WL.load_fld rfl rfl Ty.flat3 rfl hR10 rfl ?_
    cases hc16 : ((T.most : Int) == U.most) with
    | false =>
     refine WL.eql rfl rfl rfl rfl hc16 ?_
     have hp16 := beq_eq_false_iff_ne.1 hc16
     refine pT ?_
     refine mv ?_
     refine ps ?_
     refine ps ?_
     refine ps ?_
     refine ps ?_
     refine ps ?_
     refine pF ?_
     refine asg ?_
     refine WL.dn ?_
     refine WC.ret (fun a_ ha => ?_)
     exact bodyPost_tmp rfl ha rfl ⟨(by congr 2; simp only [Nd.same_eq, hc13, hc14, hc15, hc16] <;> try simp), (hE5.trans hE11)⟩
    | true =>
     refine WL.eql rfl rfl rfl rfl hc16 ?_
     have hp16 := beq_iff_eq.1 hc16
     refine pT ?_
     refine mv ?_
     refine WL.fieldAddr rfl rfl Ty.fld29_4 rfl ?_
     refine WL.load_fld rfl rfl Ty.flat27 rfl (hR4.ext hE11) rfl ?_
     refine WL.fieldAddr rfl rfl Ty.fld29_4 rfl ?_
     refine WL.load_fld rfl rfl Ty.flat27 rfl hR10 rfl ?_
     have h17 := ((hts.ext hE5).ext hE11)
     have h18 := ((hts2.ext hE5).ext hE11)
     refine WL.call rfl rfl rfl Ty.ent47 (equalFunc_ok _ _ _ _ _ _ _ _ _ T.subs U.subs h17 h18 (fun l l2 t u w2 h h1 h2 ht hu => Calls.caps20 (ih t ht _ _ _ _ _ _ h1 h2)) Ty.ent38) ?_
     rintro _ w20 ⟨rfl, hE19⟩
     have hzhE19 := hE19.size
     refine ⟨_, rfl, ?_⟩
     refine pT ?_
     refine asg ?_
     refine WL.dn ?_
     refine WC.ret (fun a_ ha => ?_)
     exact bodyPost_tmp rfl ha rfl ⟨(by congr 2; simp only [Nd.same_eq, hc13, hc14, hc15, hc16] <;> try simp), ((hE5.trans hE11).trans hE19)⟩
set_option maxRecDepth 20000 in
set_option maxHeartbeats 4000000 in
theorem Same_ok (D D2 : Nat → Prop) (w : World) (l l2 : List Value) (T U : Nd) (hT : NodeL D w l T) (hU : NodeL D2 w l2 U) :
  Calls Try.prog 14 #[.agg l.toArray, .agg l2.toArray] w fun e w' => e = .returned (.bool (T.light && U.light && T.same U)) ∧ Ext w w' := by
 have hT := hT.lt
 obtain ⟨a, cap, rfl, hts, hlen⟩ := hT.op2
 have hU := hU.lt
 obtain ⟨a2, cap2, rfl, hts2, hlen2⟩ := hU.op2
 refine Calls.enter (args := [.agg (tcells T (.slice a T.subs.length cap)).toArray, .agg (tcells U (.slice a2 U.subs.length cap2)).toArray]) Try.func14 rfl rfl rfl rfl ?_
 refine sq ?_
 refine WL.box_agg rfl rfl rfl (fun b1 w6 hb2 hE5 hs3 hR4 => ?_)
 refine WL.box_agg rfl rfl rfl (fun b7 w12 hb8 hE11 hs9 hR10 => ?_)
 refine asg ?_
 refine WL.dn ?_
 refine sq ?_
 refine WL.load_box rfl rfl rfl (hR4.ext hE11) Ty.agg29 ?_
 have h13 := ((hT.ext hE5).ext hE11)
 refine WL.call rfl rfl rfl Ty.ent35 (light_ok _ _ _ _ h13) ?_
 rintro _ w15 ⟨rfl, hE14⟩
 have hzhE14 := hE14.size
 refine ⟨_, rfl, ?_⟩
 cases hc16 : Nd.light T with
 | false =>
  refine mv ?_
  refine ps ?_
  refine ps ?_
  refine pF ?_
  refine mv ?_
  refine ps ?_
  refine ps ?_
  refine ps ?_
  refine pF ?_
  refine asg ?_
  refine WL.dn ?_
  refine WC.ret (fun a_ ha => ?_)
  exact bodyPost_tmp rfl ha rfl ⟨(by simp only [hc16, Bool.false_and, Bool.true_and, Bool.and_true, Bool.and_false]), ((hE5.trans hE11).trans hE14)⟩
 | true =>
  refine mv ?_
  refine WL.load_box rfl rfl rfl (hR10.ext hE14) Ty.agg29 ?_
  have h17 := (((hU.ext hE5).ext hE11).ext hE14)
  refine WL.call rfl rfl rfl Ty.ent35 (light_ok _ _ _ _ h17) ?_
  rintro _ w19 ⟨rfl, hE18⟩
  have hzhE18 := hE18.size
  refine ⟨_, rfl, ?_⟩
  cases hc20 : Nd.light U with
  | false =>
   refine pT ?_
   refine mv ?_
   refine ps ?_
   refine ps ?_
   refine ps ?_
   refine pF ?_
   refine asg ?_
   refine WL.dn ?_
   refine WC.ret (fun a_ ha => ?_)
   exact bodyPost_tmp rfl ha rfl ⟨(by simp only [hc16, hc20, Bool.false_and, Bool.true_and, Bool.and_true, Bool.and_false]), (((hE5.trans hE11).trans hE14).trans hE18)⟩
  | true =>
   refine pT ?_
   refine mv ?_
   have h21 := (((hR4.ext hE11).ext hE14).ext hE18)
   refine WL.load_box rfl rfl rfl h21 Ty.agg29 ?_
   have h22 := ((hR10.ext hE14).ext hE18)
   refine WL.load_box rfl rfl rfl h22 Ty.agg29 ?_
   have h23 := ((h13.ext hE14).ext hE18)
   refine WL.call rfl rfl rfl Ty.ent38 (same_ok T _ _ _ _ _ U h23 (h17.ext hE18)) ?_
   rintro _ w25 ⟨rfl, hE24⟩
   have hzhE24 := hE24.size
   refine ⟨_, rfl, ?_⟩
   refine pT ?_
   refine asg ?_
   refine WL.dn ?_
   refine WC.ret (fun a_ ha => ?_)
   exact bodyPost_tmp rfl ha rfl ⟨(by simp only [hc16, hc20, Bool.false_and, Bool.true_and, Bool.and_true, Bool.and_false]), ((((hE5.trans hE11).trans hE14).trans hE18).trans hE24)⟩
end Go.Proofs.Ytaggidjijekpbaa
namespace Go.Proofs.Ytaggidjijekpbaa
theorem ask_drawn {α : Type} (a : Ask α) : ∀ w : World, w.drawn ≤ (w.ask a).2.drawn := by
  induction a with
  | done a => intro w; exact Nat.le_refl _
  | ask what range k ih =>
    intro w
    simp only [World.ask]
    split
    · exact ih _ w
    · exact Nat.le_trans (Nat.le_succ _) (ih _ { w with drawn := w.drawn + 1 })
theorem sys_drawn (w : World) (c : Sys) : w.drawn ≤ (w.sys c).2.drawn := by
  have h := ask_drawn (Kernel.perform c w.os) w
  unfold World.sys
  revert h
  generalize w.ask (Kernel.perform c w.os) = r
  obtain ⟨⟨r, os⟩, w2⟩ := r
  intro h
  cases r <;> first | exact Nat.le_refl _ | exact h
def EP (w : World) (x : Except String (World × List Addr)) : Prop := ∀ r, x = .ok r → w.drawn ≤ r.1.drawn
theorem EP.bind {w : World} {α : Type} {x : Except String α} {f : α → Except String (World × List Addr)} (h : ∀ y, EP w (f y)) : EP w (x >>= f) := by
  intro r hr
  cases x with
  | error e => cases hr
  | ok y => exact h y r hr
theorem EP.thr (w : World) (e : String) : EP w (MonadExcept.throw e) := fun r hr => by cases hr
theorem EP.pure {w w' : World} {l : List Addr} (h : w.drawn ≤ w'.drawn) : EP w (Pure.pure (w', l)) := fun r hr => by cases hr; exact h
theorem viewStore_drawn {p : Program} {w w' : World} {a k : Addr} {u : TypeId} {v : Value} {b : Bool} {l : List Addr} (h : w.viewStore p a u k v b = .ok (w', l)) : w.drawn ≤ w'.drawn := by
  have : EP w (w.viewStore p a u k v b) := by
    unfold World.viewStore
    repeat' (first | exact EP.thr _ _ | exact EP.pure (Nat.le_refl _) | refine EP.bind (fun y => ?_) | split)
  exact this _ h
theorem farStore_drawn {p : Program} {w w' : World} {a : Addr} {v : Value} {b : Bool} {l : List Addr} (h : w.farStore p a v b = .ok (w', l)) : w.drawn ≤ w'.drawn := by
  unfold World.farStore at h
  split at h
  · rename_i at_ u _
    cases hv : w.viewStore p at_ u a v b with
    | ok r => obtain ⟨r1, r2⟩ := r; rw [hv] at h; cases h; exact viewStore_drawn hv
    | error e => rw [hv] at h; cases h
  · cases h
theorem run_drawn {α : Type} {P : Program} (m : Sem α) : ∀ {w w' : World} {v : α}, m.run P w = .ok v w' → w.drawn ≤ w'.drawn := by
  induction m with
  | pure a => intro w w' v h; simp only [Sem.run] at h; cases h; exact Nat.le_refl _
  | load m a k ih =>
    intro w w' v h
    simp only [Sem.run] at h
    split at h
    · exact ih _ h
    · split at h
      · exact ih _ h
      · cases h
  | store m a x k ih =>
    intro w w' v h
    cases x <;> simp only [Sem.run] at h <;> first
      | (cases h; done)
      | (split at h
         · split at h
           · cases h
           · have := ih h; exact this
         · split at h
           · rename_i hf; exact Nat.le_trans (farStore_drawn hf) (ih h)
           · cases h)
  | new o k ih => intro w w' v h; simp only [Sem.run] at h; have q := ih _ h; exact q
  | shape r k ih => intro w w' v h; simp only [Sem.run] at h; exact ih _ h
  | freeze a n k ih =>
    intro w w' v h
    simp only [Sem.run] at h
    refine Nat.le_trans ?_ (ih h)
    unfold World.freeze
    split <;> exact Nat.le_refl _
  | frozen a k ih => intro w w' v h; simp only [Sem.run] at h; exact ih _ h
  | getObj r k ih =>
    intro w w' v h
    simp only [Sem.run] at h
    split at h
    · cases h
    · exact ih _ h
    · cases h
  | setObj r o k ih =>
    intro w w' v h
    simp only [Sem.run] at h
    split at h
    · cases h
    · have q := ih h; exact q
    · cases h
  | choose q k ih =>
    intro w w' v h
    simp only [Sem.run] at h
    split at h
    · exact ih _ h
    · exact Nat.le_trans (Nat.le_succ _) (ih _ h)
  | sys c k ih => intro w w' v h; simp only [Sem.run] at h; exact Nat.le_trans (sys_drawn w c) (ih _ h)
  | program k ih => intro w w' v h; simp only [Sem.run] at h; exact ih _ h
  | mark m k ih => intro w w' v h; simp only [Sem.run] at h; exact ih h
  | halt h0 => intro w w' v h; simp only [Sem.run] at h; cases h
end Go.Proofs.Ytaggidjijekpbaa
namespace Go.Proofs.Ytaggidjijekpbaa
open Go.RowKit
def upTo (m k : Nat) : Array Bool := ((List.range m).map fun i => Nat.blt i k).toArray
def reachB (ops : Array Oper) : Nat → Nat → Nat → Bool
  | 0, i, j => match ops[i]? with | some o => o.after.any fun e => e.on == j && Region.binds .any e | none => false
  | n + 1, i, j => match ops[i]? with | some o => (o.after.any fun e => e.on == j && Region.binds .any e) || (o.after.any fun e => Region.binds .any e && reachB ops n e.on j) | none => false
theorem reachB_listed {ops : Array Oper} {listed : Array Bool} (hcl : ∀ (i : Nat) (o : Oper), listed.getD i false = true → ops[i]? = some o → ∀ e ∈ o.after, Region.binds .any e = true → listed.getD e.on false = true) :
    ∀ (n i j : Nat) (o : Oper), ops[i]? = some o → (∀ e ∈ o.after, Region.binds .any e = true → listed.getD e.on false = true) → reachB ops n i j = true → listed.getD j false = true := by
  intro n
  induction n with
  | zero =>
    intro i j o ho ha h
    simp only [reachB, ho, ← Array.any_toList, List.any_eq_true, Bool.and_eq_true, beq_iff_eq] at h
    obtain ⟨e, he, rfl, hb⟩ := h
    exact ha e (by simpa using he) hb
  | succ n ih =>
    intro i j o ho ha h
    simp only [reachB, ho, Bool.or_eq_true, ← Array.any_toList, List.any_eq_true, Bool.and_eq_true, beq_iff_eq] at h
    rcases h with ⟨e, he, rfl, hb⟩ | ⟨e, he, hb, hr⟩
    · exact ha e (by simpa using he) hb
    · have hl := ha e (by simpa using he) hb
      have hs : ∃ o', ops[e.on]? = some o' := by
        cases hq : ops[e.on]? with
        | none => cases n <;> simp [reachB, hq] at hr
        | some o' => exact ⟨o', rfl⟩
      obtain ⟨o', ho'⟩ := hs
      exact ih e.on j o' ho' (hcl _ _ hl ho') hr
def drawB (ops : Array Oper) (m1 : Nat) (ds : List Nat) : Bool :=
  Nat.ble m1 ops.size && ds.length == m1 && ds.eraseDups.length == m1 &&
  ((List.range ops.size).all fun i => match ops[i]? with
    | some o => o.after.all (fun e => !Region.binds .any e || Nat.blt e.on i) &&
      (bif Nat.blt i m1 then o.dst == ds[i]? else (List.range m1).all fun j => reachB ops 3 i j)
    | none => false) &&
  ((List.range (ops.size - m1)).all fun j => Region.ready .any ops (upTo ops.size (m1 + j)) == [m1 + j])
theorem upTo_get (m k i : Nat) (b : Bool) (h : i < m) : (upTo m k).getD i b = decide (i < k) := by
  have : (upTo m k)[i]? = some (Nat.blt i k) := by simp [upTo, h]
  simp only [Array.getD_eq_getD_getElem?, this, Option.getD_some]
  rw [Bool.eq_iff_iff]; simp
theorem upTo_set (m k : Nat) (_h : k < m) : (upTo m k).setIfInBounds k true = upTo m (k + 1) := by
  apply Array.ext_getElem?
  intro i
  by_cases hi : i < m
  · by_cases e : k = i
    · subst e; simp [upTo, hi]
    · rw [Array.getElem?_setIfInBounds_ne e]
      simp only [upTo, List.getElem?_toArray, List.getElem?_map, List.getElem?_range hi, Option.map_some, Option.some.injEq]
      rw [Bool.eq_iff_iff]; simp; omega
  · rw [Array.getElem?_eq_none (by simp [upTo]; omega), Array.getElem?_eq_none (by simp [upTo]; omega)]
section
variable {ro : Option Nat} {P : Program} {Q : Exit → Act → World → Prop} {N : Nat} {ds : List Deferred} {r : Reg} {w : World}
theorem Oper.wpIn_monoQ {F : Fence} {n : Nat} {o : Oper} {a : Act} {w : World} {K : Act → World → Prop} {Q Q' : Exit → Act → World → Prop} (h : ∀ e a w, e ≠ .normal → Q e a w → Q' e a w)
    (hh : o.wpIn F n P a w K Q) : o.wpIn F n P a w K Q' := by
  unfold Oper.wpIn at *
  refine ⟨hh.1, ?_⟩
  have hh := hh.2
  have hlo : LetsOut Q → LetsOut Q' := fun ⟨a, w, q⟩ => ⟨a, w, h _ _ _ (by simp) q⟩
  generalize (o.semAt F.round a.eval).run P w = r at *
  cases r with
  | ok x w' =>
    cases x <;> simp only [Oper.uponIn] at hh ⊢ <;>
      first
        | exact hh
        | exact ⟨hh.1, CallsIn.mono hh.2 (fun e w'' he => by cases e <;> first | exact he | exact h _ _ _ (by simp) he | exact hlo he)⟩
        | exact ⟨hh.1, RoundIn.mono hh.2 (fun e w'' he => by cases e <;> first | exact he | exact h _ _ _ (by simp) he | exact hlo he)⟩
  | halt x w' => cases x <;> simp only [Oper.uponIn] at hh ⊢ <;> first | exact hh | exact h _ _ _ (by simp) hh
theorem one_op {ops : Array Oper} {i : Nat} {o : Oper} (ho : ops[i]? = some o) {K : Act → World → Prop} {a : Act} {w : World}
    (h : wpListIn (Wd ro) 0 P ops (Exit.then K Q) [o] a w) : wpOpIn (Wd ro) 0 P ops Q i K a w := by
  unfold wpOpIn
  simp only [ho]
  simp only [wpListIn] at h
  split
  · rename_i hw; rw [if_pos hw] at h
    exact Oper.wpIn_monoQ (Q := Exit.then K Q) (fun e a w he q => by cases e <;> first | exact absurd rfl he | exact q) h
  · rename_i hw; rw [if_neg hw] at h; exact h
theorem any_seq {l : List Oper} (k : Nat) : ∀ (j : Nat) (a : Act) (w : World), k + j = l.length →
    ((List.range j).all fun q => Region.ready .any l.toArray (upTo l.length (k + q)) == [k + q]) = true → wpListIn (Wd ro) 0 P l.toArray Q (l.drop k) a w →
    wpAnyIn (Wd ro) 0 P .any l.toArray Q j (upTo l.length k) a w := by
  intro j
  induction j generalizing k with
  | zero =>
    intro a w hk _ h
    rw [List.drop_of_length_le (by omega)] at h
    refine ⟨?_, h⟩
    apply List.eq_nil_iff_forall_not_mem.2
    intro i hi
    rw [mem_ready] at hi
    obtain ⟨h1, o, ho, _⟩ := hi
    have hlt : i < l.length := by simpa using (Array.getElem?_eq_some_iff.1 ho).1
    rw [upTo_get _ _ _ _ hlt] at h1
    simp at h1; omega
  | succ j ih =>
    intro a w hk hall h
    have hlt : k < l.length := by omega
    rw [List.all_eq_true] at hall
    have hr : Region.ready .any l.toArray (upTo l.length k) = [k] := by
      have := hall 0 (by simp); simpa using this
    refine ⟨(fun h0 => by rw [hr] at h0; cases h0), fun i hi => ?_⟩
    rw [hr] at hi
    have : i = k := by simpa using hi
    subst this
    have ho : l.toArray[i]? = some l[i] := by simp [hlt]
    rw [List.drop_eq_getElem_cons hlt] at h
    refine wpOpIn_mono (K := fun a w => wpListIn (Wd ro) 0 P l.toArray Q (l.drop (i + 1)) a w) (fun a w h => ?_) ?_
    · rw [upTo_set _ _ hlt]
      refine ih (i + 1) a w (by omega) ?_ h
      rw [List.all_eq_true]
      intro q hq
      have := hall (q + 1) (by simp at hq ⊢; omega)
      have e : i + 1 + q = i + (q + 1) := by omega
      rw [e]; exact this
    · unfold wpOpIn
      simp only [ho]
      exact h
abbrev Boxes := List (Nat × Nat)
structure BExt (w : World) (β β' : Boxes) : Prop where
  sub : ∀ x, x ∈ β → x ∈ β'
  new : ∀ x, x ∈ β' → x ∈ β ∨ w.heap.size ≤ x.2
theorem BExt.refl (w : World) (β : Boxes) : BExt w β β := ⟨fun _ h => h, fun _ h => .inl h⟩
structure BInv (w0 w : World) (β : Boxes) : Prop where
  lo : ∀ x, x ∈ β → w0.heap.size ≤ x.2
  hi : ∀ x, x ∈ β → x.2 < w.heap.size
  one : ∀ x y, x ∈ β → y ∈ β → x.2 = y.2 → x = y
theorem BInv.ext {w0 w w' : World} {β : Boxes} (h : BInv w0 w β) (e : Ext w w') : BInv w0 w' β := ⟨h.lo, fun x hx => Nat.lt_of_lt_of_le (h.hi x hx) e.size, h.one⟩
theorem BInv.cons {w0 w w' : World} {β : Boxes} {d b : Nat} (h : BInv w0 w β) (e : Ext w w') (h0 : w0.heap.size ≤ w.heap.size) (hb : w.heap.size ≤ b) (hb' : b < w'.heap.size) : BInv w0 w' ((d, b) :: β) := by
  refine ⟨?_, ?_, ?_⟩
  · intro x hx
    cases hx with
    | head => omega
    | tail _ hx => exact h.lo x hx
  · intro x hx
    cases hx with
    | head => exact hb'
    | tail _ hx => exact (h.ext e).hi x hx
  · intro x y hx hy he
    cases hx with
    | head =>
      cases hy with
      | head => rfl
      | tail _ hy => have := h.hi y hy; dsimp only at he; omega
    | tail _ hx =>
      cases hy with
      | head => have := h.hi x hx; dsimp only at he; omega
      | tail _ hy => exact h.one x y hx hy he
theorem BExt.cons {w : World} {β : Boxes} {d b : Nat} (hb : w.heap.size ≤ b) : BExt w β ((d, b) :: β) :=
  ⟨fun _ h => .tail _ h, fun x h => by cases h with | head => exact .inr hb | tail _ h => exact .inl h⟩
abbrev Post := Value → World → Boxes → Prop
def KW (P : Post) : Prop := ∀ v w w' β β', Ext w w' → BExt w β β' → P v w β → P v w' β'
def KWs : List Post → Prop
  | [] => True
  | p :: ps => KW p ∧ KWs ps
theorem KWs.get {ps : List Post} (h : KWs ps) : ∀ p ∈ ps, KW p := by
  induction ps with
  | nil => intro p hp; cases hp
  | cons q ps ih =>
    intro p hp
    cases hp with
    | head => exact h.1
    | tail _ hp => exact ih h.2 p hp
inductive StepsOn (Φ : Oper → Nat → Post → Prop) : List Oper → List Nat → List Post → Prop
  | nil (l : List Oper) : StepsOn Φ l [] []
  | cons {o : Oper} {d : Nat} {p : Post} {l : List Oper} {dl : List Nat} {ps : List Post} (h : Φ o d p) (t : StepsOn Φ l dl ps) : StepsOn Φ (o :: l) (d :: dl) (p :: ps)
theorem StepsOn.get {Φ : Oper → Nat → Post → Prop} {l : List Oper} {dl : List Nat} {ps : List Post} (h : StepsOn Φ l dl ps) : ∀ (i : Nat) (o : Oper) (d : Nat) (p : Post), l[i]? = some o → dl[i]? = some d → ps[i]? = some p → Φ o d p := by
  induction h with
  | nil => intro i o d p _ hd _; simp at hd
  | cons h _ ih =>
    intro i o d p ho hd hp
    cases i with
    | zero => simp at ho hd hp; subst ho; subst hd; subst hp; exact h
    | succ i => exact ih i o d p (by simpa using ho) (by simpa using hd) (by simpa using hp)
theorem look_append (a b : Reg) (t : Nat) : look (a ++ b) t = (look a t).or (look b t) := by
  induction a with
  | nil => simp [look]
  | cons x a ih =>
    obtain ⟨k, v⟩ := x
    simp only [List.cons_append, look]
    cases Nat.beq k t <;> simp [ih]
def agree (κ ρ : Reg) : Prop := ∀ t v, look κ t = some v → look ρ t = some v
theorem agree_nil (ρ : Reg) : agree [] ρ := fun _ _ h => by simp [look] at h
theorem agree_cons {κ ρ : Reg} {k : Nat} {v : Value} (hk : look ρ k = some v) (h : agree κ ρ) : agree ((k, v) :: κ) ρ := subReg_cons (r := ρ) hk h
theorem WL.know {all : Array Oper} {ops : List Oper} {ρ : Reg} (κ : Reg) (hk : agree κ ρ) (h : WL ro P all Q N ds ops (κ ++ ρ) w) : WL ro P all Q N ds ops ρ w := by
  intro a ha
  refine h a (ha.weaken fun t v hv => ?_)
  rw [look_append] at hv
  cases hl : look κ t with
  | none => rw [hl] at hv; simpa using hv
  | some u => rw [hl] at hv; simp at hv; subst hv; exact hk t u hl
theorem WL.weaken {all : Array Oper} {ops : List Oper} {ρ ρ' : Reg} (hr : subReg ρ ρ') (h : WL ro P all Q N ds ops ρ' w) : WL ro P all Q N ds ops ρ w := fun a ha => h a (ha.weaken hr)
def Known (dl : List Nat) (posts : List Post) (σ : Reg) (w : World) (β : Boxes) (i : Nat) : Prop :=
  ∀ (d : Nat) (p : Post), dl[i]? = some d → posts[i]? = some p → ∃ v, look σ d = some v ∧ p v w β
theorem look_right {r σ : Reg} {d : Nat} {v : Value} (hr : look r d = none) (h : look σ d = some v) : look (r ++ σ) d = some v := by rw [look_append, hr]; simpa using h
theorem WC.draw {id : Nat} {l : List Oper} (m1 : Nat) (dl : List Nat) (posts : List Post) (hB : drawB l.toArray m1 dl = true) (hf : P.follows .mixedOrders = true)
    (hps : KWs posts) (hpl : posts.length = m1)
    (hr : dl.all (fun d => (look r d).isNone) = true) (hN : dl.all (fun d => Nat.blt d N) = true)
    (steps : StepsOn (fun o d p => ∀ (σ : Reg) (β : Boxes) w', Ext w w' → BInv w w' β →
      (∀ j, (o.after.any fun e => e.on == j && Region.binds .any e) = true → Known dl posts σ w' β j) →
      ∃ κ, agree κ (r ++ σ) ∧ WL ro P l.toArray (Exit.then (fun a2 w2 => ∃ v β', Fits N ds ((d, v) :: (κ ++ (r ++ σ))) a2 ∧ Ext w' w2 ∧ BExt w' β β' ∧ BInv w w2 β' ∧ p v w2 β') Q) N ds [o] (κ ++ (r ++ σ)) w') l dl posts)
    (fin : ∀ (σ : Reg) (β : Boxes) w', Ext w w' → BInv w w' β → (∀ j, j < m1 → Known dl posts σ w' β j) → WL ro P l.toArray Q N ds (l.drop m1) (r ++ σ) w') :
    WC ro P Q N ds (.region id l.toArray true) r w := by
  intro a ha
  have step := steps.get
  have hp := hps.get
  simp only [drawB, Bool.and_eq_true, List.all_eq_true, beq_iff_eq] at hB
  obtain ⟨⟨⟨⟨hm1, hdl⟩, hnd0⟩, hops⟩, hseq⟩ := hB
  have hm1 : m1 ≤ l.length := by simpa using Nat.le_of_ble_eq_true hm1
  have hnd : ∀ i j d : Nat, dl[i]? = some d → dl[j]? = some d → i = j := by
    have key : ∀ (q : List Nat), q.eraseDups.length = q.length → q.Nodup := by
      intro q
      induction q with
      | nil => intro _; simp
      | cons x q ih =>
        intro h
        rw [List.eraseDups_cons] at h
        simp only [List.length_cons] at h
        have h1 : (q.filter fun b => !b == x).eraseDups.length ≤ (q.filter fun b => !b == x).length := by
          have : ∀ (n : Nat) (z : List Nat), z.length ≤ n → z.eraseDups.length ≤ z.length := by
            intro n
            induction n with
            | zero => intro z hz; have : z = [] := List.eq_nil_of_length_eq_zero (by omega); subst this; simp
            | succ n ihn =>
              intro z hz
              cases z with
              | nil => simp
              | cons y z =>
                rw [List.eraseDups_cons]
                have h2 := List.length_filter_le (fun b => !b == y) z
                have := ihn (z.filter fun b => !b == y) (by simp at hz; omega)
                simp only [List.length_cons]; omega
          exact this _ _ (Nat.le_refl _)
        have h2 := List.length_filter_le (fun b => !b == x) q
        have h3 : (q.filter fun b => !b == x).length = q.length := by omega
        have h4 : q.filter (fun b => !b == x) = q := List.filter_eq_self.2 (List.length_filter_eq_length_iff.1 h3)
        refine List.nodup_cons.2 ⟨fun hm => ?_, ih (by rw [h4] at h; omega)⟩
        have := List.length_filter_eq_length_iff.1 h3 x hm
        simp at this
    have hq := key dl (by rw [hnd0, hdl])
    intro i j d hi hj
    exact (List.getElem?_inj (List.getElem?_eq_some_iff.1 hi).1 hq).1 (hi.trans hj.symm)
  have hdst : ∀ i, i < m1 → ∃ o d, l[i]? = some o ∧ o.dst = some d ∧ dl[i]? = some d := by
    intro i hi
    have h := hops i (by simp; omega)
    have ho : l.toArray[i]? = some l[i] := by simp
    rw [ho] at h
    simp only [Bool.and_eq_true] at h
    have hb : Nat.blt i m1 = true := by simpa using hi
    rw [hb] at h
    have h2 := h.2
    simp only [cond_true, beq_iff_eq] at h2
    have : i < dl.length := by omega
    refine ⟨l[i], dl[i], by simp, by rw [h2]; simp, by simp⟩
  refine wpIn_region_any hf ?_
  have hw1 : Ext w { w with drawn := w.drawn + 1 } := Ext.drew w
  have main : ∀ (fuel : Nat) (listed : Array Bool) (a : Act) (w' : World), listed.size = l.length → (listed.toList.filter fun b => !b).length = fuel →
      (∀ i, m1 ≤ i → i < l.length → listed.getD i true = false) → (∀ (i : Nat) (o : Oper), listed.getD i false = true → l.toArray[i]? = some o → ∀ e ∈ o.after, Region.binds .any e = true → listed.getD e.on false = true) → (∃ σ β, Fits N ds (r ++ σ) a ∧ BInv w w' β ∧ ∀ i, listed.getD i false = true → Known dl posts σ w' β i) → Ext w w' →
      wpAnyIn (Wd ro) 0 P .any l.toArray Q fuel listed a w' := by
    intro fuel
    induction fuel with
    | zero =>
      intro listed a w' hsz hfu hsuf hcl ⟨σ, β, hfit, hbi, hpo⟩ hE
      have hall : ∀ i, i < l.length → listed.getD i false = true := by
        intro i hi
        have hmem : listed[i]'(by omega) ∈ listed.toList := by simp
        have hnil : listed.toList.filter (fun b => !b) = [] := List.eq_nil_of_length_eq_zero hfu
        have := List.filter_eq_nil_iff.1 hnil _ hmem
        have hlt : i < listed.size := by omega
        simp only [Array.getD_eq_getD_getElem?, Array.getElem?_eq_getElem hlt, Option.getD_some]
        simpa using this
      have hm : m1 = l.length := by
        rcases Nat.lt_or_ge m1 l.length with h | h
        · have h1 := hsuf m1 (Nat.le_refl _) h
          have h2 := hall m1 h
          have hlt : m1 < listed.size := by omega
          simp only [Array.getD_eq_getD_getElem?, Array.getElem?_eq_getElem hlt, Option.getD_some] at h1 h2
          rw [h1] at h2; cases h2
        · omega
      have hf := fin σ β w' hE hbi (fun i hi => hpo i (hall i (by omega))) a hfit
      rw [List.drop_of_length_le (by omega)] at hf
      refine ⟨?_, hf⟩
      apply List.eq_nil_iff_forall_not_mem.2
      intro i hi
      rw [mem_ready] at hi
      obtain ⟨h1, o, ho, _⟩ := hi
      have hlt : i < l.length := by simpa using (Array.getElem?_eq_some_iff.1 ho).1
      have h2 := hall i hlt
      have hlt' : i < listed.size := by omega
      simp only [Array.getD_eq_getD_getElem?, Array.getElem?_eq_getElem hlt', Option.getD_some] at h1 h2
      rw [h1] at h2; cases h2
    | succ fuel ih =>
      intro listed a w' hsz hfu hsuf hcl ⟨σ, β, hfit, hbi, hpo⟩ hE
      by_cases hdone : ∀ i, i < m1 → listed.getD i false = true
      · -- the first part is over
        have hl : listed = upTo l.length m1 := by
          apply Array.ext_getElem?
          intro i
          by_cases hi : i < l.length
          · have hlt : i < listed.size := by omega
            rw [Array.getElem?_eq_getElem hlt]
            have hu : (upTo l.length m1)[i]? = some (Nat.blt i m1) := by simp [upTo, hi]
            rw [hu]
            rcases Nat.lt_or_ge i m1 with h | h
            · have := hdone i h
              simp only [Array.getD_eq_getD_getElem?, Array.getElem?_eq_getElem hlt, Option.getD_some] at this
              rw [this]; simp; exact h
            · have := hsuf i h hi
              simp only [Array.getD_eq_getD_getElem?, Array.getElem?_eq_getElem hlt, Option.getD_some] at this
              rw [this]; congr 1; symm; rw [Bool.eq_false_iff]; simp; omega
          · rw [Array.getElem?_eq_none (by omega), Array.getElem?_eq_none (by simp [upTo]; omega)]
        subst hl
        have hfuel : fuel + 1 = l.length - m1 := by
          rw [← hfu]
          have : ∀ m k : Nat, k ≤ m → ((upTo m k).toList.filter fun b => !b).length = m - k := by
            intro m k hk
            simp only [upTo, List.filter_map, List.length_map]
            have e : ((fun b => !b) ∘ fun i => Nat.blt i k) = fun i => decide (k ≤ i) := by
              funext i; simp only [Function.comp]; rw [Bool.eq_iff_iff]; simp only [Bool.not_eq_true', decide_eq_true_eq, Bool.eq_false_iff, ne_eq, Nat.blt_eq]; omega
            rw [e]
            have : ∀ m, k ≤ m → ((List.range m).filter fun i => decide (k ≤ i)).length = m - k := by
              intro m
              induction m with
              | zero => intro _; simp
              | succ m ihm =>
                intro hk
                rw [List.range_succ, List.filter_append, List.length_append]
                rcases Nat.lt_or_ge m k with h | h
                · have : ((List.range m).filter fun i => decide (k ≤ i)) = [] := List.filter_eq_nil_iff.2 (fun x hx => by simp at hx ⊢; omega)
                  rw [this]; simp [h]; omega
                · rw [ihm h]; simp [h]; omega
            exact this m hk
          exact this _ _ hm1
        rw [hfuel]
        refine any_seq m1 _ a w' (by omega) ?_ (fin σ β w' hE hbi (fun i hi => hpo i (hdone i hi)) a hfit)
        rw [List.all_eq_true]
        intro q hq
        have := hseq q (by simpa using hq)
        simpa using this
      · -- one more of the first part
        have hex : ∃ i, i < m1 ∧ listed.getD i false = false := by
          refine Classical.byContradiction fun hne => hdone fun i hi => ?_
          cases hb : listed.getD i false with
          | true => rfl
          | false => exact absurd ⟨i, hi, hb⟩ hne
        have conv : ∀ i, i < l.length → listed.getD i true = listed.getD i false := by
          intro i hi
          have hlt : i < listed.size := by omega
          simp only [Array.getD_eq_getD_getElem?, Array.getElem?_eq_getElem hlt, Option.getD_some]
        refine ⟨fun hnil => ?_, fun i hi => ?_⟩
        · -- something is always ready
          exfalso
          obtain ⟨i0, hi0, hb0⟩ := hex
          have : ∃ i, i < m1 ∧ listed.getD i false = false ∧ ∀ j, j < i → listed.getD j false = true := by
            have strong : ∀ n i, i ≤ n → i < m1 → listed.getD i false = false → ∃ i, i < m1 ∧ listed.getD i false = false ∧ ∀ j, j < i → listed.getD j false = true := by
              intro n
              induction n with
              | zero => intro i hi h1 h2; exact ⟨i, h1, h2, fun j hj => by omega⟩
              | succ n ihn =>
                intro i hi h1 h2
                by_cases hall : ∀ j, j < i → listed.getD j false = true
                · exact ⟨i, h1, h2, hall⟩
                · obtain ⟨j, hj, hjb⟩ : ∃ j, j < i ∧ listed.getD j false = false := by
                    refine Classical.byContradiction fun hne => hall fun j hj => ?_
                    cases hb : listed.getD j false with
                    | true => rfl
                    | false => exact absurd ⟨j, hj, hb⟩ hne
                  exact ihn j (by omega) (by omega) hjb
            exact strong i0 i0 (Nat.le_refl _) hi0 hb0
          obtain ⟨i, hi, hbi, hlow⟩ := this
          have hmem : i ∈ Region.ready .any l.toArray listed := by
            rw [mem_ready]
            refine ⟨by rw [conv i (by omega)]; exact hbi, l[i], by simp, fun e he hbnd => hlow _ ?_⟩
            have h := hops i (by simp; omega)
            have ho : l.toArray[i]? = some l[i] := by simp
            rw [ho] at h
            simp only [Bool.and_eq_true, Array.all_eq_true_iff_forall_mem] at h
            have h1 := h.1 e he
            rw [hbnd] at h1
            simpa using h1
          rw [hnil] at hmem; cases hmem
        · have hi' := hi
          rw [mem_ready] at hi
          obtain ⟨hb, o, ho, hafter⟩ := hi
          have hlt : i < l.length := by simpa using (Array.getElem?_eq_some_iff.1 ho).1
          have him : i < m1 := by
            rcases Nat.lt_or_ge i m1 with h | h
            · exact h
            · exfalso
              apply hdone
              intro j hj
              have hh := hops i (by simpa using hlt)
              rw [ho] at hh
              simp only [Bool.and_eq_true] at hh
              have hbl : Nat.blt i m1 = false := by rw [Bool.eq_false_iff]; simp; omega
              rw [hbl] at hh
              have h2 := hh.2
              simp only [cond_false, List.all_eq_true] at h2
              exact reachB_listed hcl 3 i j o ho hafter (h2 j (by simpa using hj))
          obtain ⟨o', d, ho', hd, hdl'⟩ := hdst i him
          have hoo : o = o' := by
            have : l.toArray[i]? = l[i]? := by simp
            rw [this, ho'] at ho; cases ho; rfl
          subst hoo
          have hpi : ∃ p, posts[i]? = some p := ⟨posts[i]'(by omega), by simp⟩
          obtain ⟨p, hpp⟩ := hpi
          have hdN : d < N := by
            have := List.all_eq_true.1 hN d (List.mem_of_getElem? hdl')
            simpa using this
          obtain ⟨κ, hκ, hs⟩ := step i o d p ho' hdl' hpp σ β w' hE hbi (fun j hj => by
            rw [← Array.any_toList, List.any_eq_true] at hj
            obtain ⟨e, he, hb⟩ := hj
            simp only [Bool.and_eq_true, beq_iff_eq] at hb
            obtain ⟨rfl, hb⟩ := hb
            exact hpo _ (hafter e (by simpa using he) hb))
          have hfit2 : Fits N ds (κ ++ (r ++ σ)) a := hfit.weaken (fun t v hv => by
            rw [look_append] at hv
            cases hl : look κ t with
            | none => rw [hl] at hv; simpa using hv
            | some u => rw [hl] at hv; simp at hv; subst hv; exact hκ t u hl)
          refine wpOpIn_mono ?_ (one_op ho (hs a hfit2))
          rintro a2 w2 ⟨v, β', hf2, hE2, hbe, hbi2, hpv⟩
          have hrd : look r d = none := by
            have := List.all_eq_true.1 hr d (List.mem_of_getElem? hdl')
            simpa using this
          refine ih _ _ _ (by simp [hsz]) ?_ ?_ ?_ ⟨(d, v) :: σ, β', ?_, hbi2, ?_⟩ (hE.trans hE2)
          · -- one fewer
            have : ∀ (q : List Bool) (i : Nat), q[i]? = some false → ((q.set i true).filter fun b => !b).length + 1 = (q.filter fun b => !b).length := by
              intro q
              induction q with
              | nil => intro i h; simp at h
              | cons x q ihq =>
                intro i h
                cases i with
                | zero => simp at h; subst h; simp
                | succ i =>
                  simp at h
                  have := ihq i h
                  cases x <;> simp [] <;> omega
            have hget : listed.toList[i]? = some false := by
              have hlt' : i < listed.size := by omega
              simp only [Array.getD_eq_getD_getElem?, Array.getElem?_eq_getElem hlt', Option.getD_some] at hb
              simp [hlt', hb]
            have h2 := this listed.toList i hget
            rw [Array.toList_setIfInBounds]
            omega
          · intro j hj1 hj2
            rw [getD_set_ne true (by omega)]; exact hsuf j hj1 hj2
          · have mono : ∀ q, listed.getD q false = true → (listed.setIfInBounds i true).getD q false = true := by
              intro q hq
              by_cases e : i = q
              · subst e
                have hlt' : i < listed.size := by omega
                simp [Array.getD_eq_getD_getElem?, hlt']
              · rw [getD_set_ne false e]; exact hq
            intro q oq hq hoq e he hbd
            by_cases e1 : i = q
            · subst e1
              rw [ho] at hoq; cases hoq
              exact mono _ (hafter e he hbd)
            · rw [getD_set_ne false e1] at hq
              exact mono _ (hcl q oq hq hoq e he hbd)
          · refine hf2.weaken (fun t u hu => ?_)
            rw [look_append] at hu
            simp only [look]
            cases hb : Nat.beq d t with
            | true =>
              have : d = t := Nat.eq_of_beq_eq_true hb
              subst this
              rw [hrd] at hu
              simp only [look, hb, cond_true, Option.or_some, Option.some.injEq] at hu ⊢
              exact hu
            | false =>
              simp only [cond_false]
              rw [look_append]
              have hu2 : look (r ++ σ) t = some u := by
                rw [look_append]
                cases hlr : look r t with
                | some q => rw [hlr] at hu; simpa using hu
                | none => rw [hlr] at hu; simp only [look, hb, cond_false, Option.none_or] at hu ⊢; exact hu
              cases hl : look κ t with
              | none => simpa using hu2
              | some q => have := hκ t q hl; rw [hu2] at this; cases this; rfl
          · intro j hlj d' p' hd' hp'
            by_cases e : i = j
            · subst e
              rw [hdl'] at hd'; cases hd'
              rw [hpp] at hp'; cases hp'
              exact ⟨v, by simp [look], hpv⟩
            · rw [getD_set_ne false e] at hlj
              obtain ⟨u, hu, hpu⟩ := hpo j hlj d' p' hd' hp'
              have hne : d ≠ d' := fun h => by subst h; exact e (hnd i j d hdl' hd')
              refine ⟨u, ?_, hp p' (List.mem_of_getElem? hp') u w' w2 β β' hE2 hbe hpu⟩
              have : Nat.beq d d' = false := Bool.eq_false_iff.2 (fun h => hne (Nat.eq_of_beq_eq_true h))
              simp only [look, this, cond_false]; exact hu
  have hno : ∀ i, (Array.replicate l.toArray.size false).getD i false = true → False := by
    intro i hl
    have : (Array.replicate l.toArray.size false).getD i false = false := by
      simp only [Array.getD_eq_getD_getElem?]
      by_cases hi : i < l.length
      · simp [hi]
      · rw [Array.getElem?_eq_none (by simp; omega)]; rfl
    rw [this] at hl; cases hl
  exact main _ _ a _ (by simp) (by simp) (fun i _ hi => by have hi' : i < l.toArray.size := (by simpa using hi); simp [hi]) (fun i o hl _ => (hno i hl).elim) ⟨[], [], by simpa using ha, ⟨by simp, by simp, by simp⟩, fun i hl => (hno i hl).elim⟩ hw1
def pc (x : Value) : Post := fun v _ _ => v = x
theorem KW_pc (x : Value) : KW (pc x) := fun _ _ _ _ _ _ _ h => h
end
theorem ag {κ ρ σ : Reg} {k : Nat} {v : Value} (hk : look σ k = some v) (h : agree κ (ρ ++ σ)) (hr : look ρ k = none := by rfl) : agree ((k, v) :: κ) (ρ ++ σ) := agree_cons (look_right hr hk) h
theorem kn {F : Nat → Bool} {dl : List Nat} {posts : List Post} {σ : Reg} {w : World} {β : Boxes} {d : Nat} {p : Post} (hk : ∀ j, F j = true → Known dl posts σ w β j) (j : Nat) (hd : dl[j]? = some d) (hp : posts[j]? = some p) (h : F j = true := by kernel_rfl) : ∃ v, look σ d = some v ∧ p v w β := hk j h d p hd hp
theorem dqE {ro : Option Nat} {P : Program} {all : Array Oper} {Q : Exit → Act → World → Prop} {N : Nat} {ds : List Deferred} {ρ : Reg} {w0 w' w3 : World} {d : Nat} {v : Value} {β : Boxes} {p : Post} (hbi : BInv w0 w' β) (hE : Ext w' w3) (h : p v w3 β) : WL ro P all (Exit.then (fun a2 w2 => ∃ v' β', Fits N ds ((d, v') :: ρ) a2 ∧ Ext w' w2 ∧ BExt w' β β' ∧ BInv w0 w2 β' ∧ p v' w2 β') Q) N ds [] ((d, v) :: ρ) w3 := WL.nil (fun _ ha => ⟨v, β, ha, hE, BExt.refl _ _, hbi.ext hE, h⟩)
theorem dq {ro : Option Nat} {P : Program} {all : Array Oper} {Q : Exit → Act → World → Prop} {N : Nat} {ds : List Deferred} {ρ : Reg} {w0 w' : World} {d : Nat} {v : Value} {β : Boxes} {p : Post} (hbi : BInv w0 w' β) (h : p v w' β) : WL ro P all (Exit.then (fun a2 w2 => ∃ v' β', Fits N ds ((d, v') :: ρ) a2 ∧ Ext w' w2 ∧ BExt w' β β' ∧ BInv w0 w2 β' ∧ p v' w2 β') Q) N ds [] ((d, v) :: ρ) w' := dqE hbi (Ext.refl _) h
theorem sc {Φ : Oper → Nat → Post → Prop} {o : Oper} {d : Nat} {p : Post} {l : List Oper} {dl : List Nat} {ps : List Post} (h : Φ o d p) (t : StepsOn Φ l dl ps) : StepsOn Φ (o :: l) (d :: dl) (p :: ps) := StepsOn.cons h t
theorem ak {F : Nat → Bool} {dl : List Nat} {posts : List Post} {κ r σ : Reg} {w : World} {β : Boxes} {d : Nat} {v : Value} (hk : ∀ j, F j = true → Known dl posts σ w β j) (j : Nat) (h : agree κ (r ++ σ)) (hd : dl[j]? = some d := by exact rfl) (hp : posts[j]? = some (pc v) := by exact rfl) (hF : F j = true := by kernel_rfl) (hr : look r d = none := by exact rfl) : agree ((d, v) :: κ) (r ++ σ) := by
 obtain ⟨u, h1, h2⟩ := hk j hF d _ hd hp
 obtain rfl : u = v := h2
 exact agree_cons (look_right hr h1) h
theorem aj {dl : List Nat} {posts : List Post} {κ r σ : Reg} {w : World} {β : Boxes} {m d : Nat} {v : Value} (hk : ∀ j, j < m → Known dl posts σ w β j) (j : Nat) (h : agree κ (r ++ σ)) (hd : dl[j]? = some d := by exact rfl) (hp : posts[j]? = some (pc v) := by exact rfl) (hF : j < m := by decide) (hr : look r d = none := by exact rfl) : agree ((d, v) :: κ) (r ++ σ) := by
 obtain ⟨u, h1, h2⟩ := hk j hF d _ hd hp
 obtain rfl : u = v := h2
 exact agree_cons (look_right hr h1) h
theorem k4 {a b c d : Value} {l : List Post} (h : KWs l) : KWs (pc a :: pc b :: pc c :: pc d :: l) := ⟨KW_pc _, KW_pc _, KW_pc _, KW_pc _, h⟩
theorem sc4 {Φ : Oper → Nat → Post → Prop} {o1 o2 o3 o4 : Oper} {d1 d2 d3 d4 : Nat} {p1 p2 p3 p4 : Post} {l : List Oper} {dl : List Nat} {ps : List Post} (h1 : Φ o1 d1 p1) (h2 : Φ o2 d2 p2) (h3 : Φ o3 d3 p3) (h4 : Φ o4 d4 p4) (t : StepsOn Φ l dl ps) : StepsOn Φ (o1 :: o2 :: o3 :: o4 :: l) (d1 :: d2 :: d3 :: d4 :: dl) (p1 :: p2 :: p3 :: p4 :: ps) := StepsOn.cons h1 (StepsOn.cons h2 (StepsOn.cons h3 (StepsOn.cons h4 t)))
end Go.Proofs.Ytaggidjijekpbaa
namespace Go.Proofs.Ytaggidjijekpbaa
open Go.RowKit
abbrev Off (D : Nat → Prop) (w : World) (β : Boxes) : Nat → Prop := fun k => D k ∧ (∀ x, x ∈ β → x.2 ≠ k) ∧ k < w.heap.size
theorem Off.mono {D : Nat → Prop} {w w' : World} {β β' : Boxes} (e : Ext w w') (h : BExt w β β') : ∀ k, Off D w β k → Off D w' β' k := by
  rintro k ⟨h1, h2, h3⟩
  refine ⟨h1, fun x hx => ?_, Nat.lt_of_lt_of_le h3 e.size⟩
  rcases h.new x hx with hx | hx
  · exact h2 x hx
  · omega
def pnode (D : Nat → Prop) (T : Nd) : Post := fun v w β => ∃ l, v = .agg l.toArray ∧ NodeL (Off D w β) w l T
theorem KW_pnode (D : Nat → Prop) (T : Nd) : KW (pnode D T) := fun _ _ _ _ _ e h ⟨l, h1, h2⟩ => ⟨l, h1, (h2.ext e).dom (Off.mono e h)⟩
def pnodes (D : Nat → Prop) (ts : List Nd) : Post := fun v w β => ∃ a cap, v = .slice a ts.length cap ∧ NodesV (Off D w β) w (.slice a ts.length cap) ts
theorem KW_pnodes (D : Nat → Prop) (ts : List Nd) : KW (pnodes D ts) := fun _ _ _ _ _ e h ⟨a, c, h1, h2⟩ => ⟨a, c, h1, (h2.ext e).dom (Off.mono e h)⟩
def palloc (d : Nat) (l : List Value) (t : TypeId) : Post := fun v w β => ∃ b, v = .pointer (some ⟨b, 0, none⟩) ∧ Row w b l t ∧ (d, b) ∈ β
theorem KW_palloc (d : Nat) (l : List Value) (t : TypeId) : KW (palloc d l t) := fun _ _ _ _ _ e h ⟨b, h1, h2, h3⟩ => ⟨b, h1, h2.ext e, h.sub _ h3⟩
theorem NodeL.off {D : Nat → Prop} {w0 w w' : World} {β : Boxes} {l : List Value} {T : Nd} (h : NodeL (fun k => (D k ∧ (∀ x, x ∈ β → x.2 ≠ k)) ∨ w.heap.size ≤ k) w' l T) (hb : BInv w0 w β) (hD : ∀ k, w.heap.size ≤ k → D k) : NodeL (Off D w' β) w' l T := by
  refine h.lt.dom ?_
  rintro k ⟨h1, h2⟩
  rcases h1 with ⟨h1, h3⟩ | h1
  · exact ⟨h1, h3, h2⟩
  · exact ⟨hD k h1, fun x hx => by have := hb.hi x hx; omega, h2⟩
section
variable {ro : Option Nat} {P : Program} {all : Array Oper} {Q : Exit → Act → World → Prop} {N : Nat} {ds : List Deferred} {r : Reg} {w : World} {rest : List Oper}
  {ty : TypeId} {pos : String} {aft : Array Edge} {g : Option (Nat × Bool)}
theorem WL.buildSlice {d : Nat} {t e n len : Nat} {parts : Array (Nat × Operand)} {vs : List Value} {z : Value} {cells : List Value} (hw : want all r g = some true) (hd : Nat.blt d N = true) (ht : sliceB P t e n = true) (hz : zeroB P e z)
    (hp : (parts.toList.mapM fun p => (ev r p.2).map fun v => (p.1, v)) = some ((vs.zipIdx 0).map fun x => (x.2, x.1))) (hlen : vs.length = len) (hn0 : (vs.all fun v => v.cells.size == n) = true) (hc : (vs.flatMap fun v => v.cells.toList) = cells) (h0 : Nat.blt 0 (len * n) = true) (hsmall : Nat.ble (len * n) 16777216 = true)
    (next : ∀ b w', b = w.heap.size → Ext w w' → w'.heap.size = w.heap.size + 1 → Row w' b cells e → WL ro P all Q N ds rest ((d, .slice (some ⟨b, 0, none⟩) len len) :: r) w') :
    WL ro P all Q N ds (⟨some d, .buildSlice t len parts, ty, pos, aft, g⟩ :: rest) r w := by
  obtain ⟨hu, q, hq, hs⟩ := sliceB_u ht
  subst hc
  have hn : ∀ v ∈ vs, v.cells.size = n := fun v hv => by have := List.all_eq_true.1 hn0 v hv; simpa using this
  refine WL.val hw hd (by intro c h; cases h) (w' := w.alloc (.cells (vs.flatMap fun v => v.cells.toList).toArray e)) (v := .slice (some ⟨w.heap.size, 0, none⟩) len len) (fun a ha => ?_) (next _ _ rfl (Ext.alloc _ _) (by simp) (Row.new _ _ _))
  have hm : (parts.map fun (i, x) => (i, a.eval x)).toList = (vs.zipIdx 0).map fun x => (x.2, x.1) := by
    simp only [Array.toList_map]
    clear next hw hlen hn hn0 hsmall
    generalize (vs.zipIdx 0).map (fun (x : Value × Nat) => ((x.2, x.1) : Nat × Value)) = us at hp ⊢
    generalize parts.toList = q at hp
    induction q generalizing us with
    | nil => simp at hp; subst hp; rfl
    | cons x q ih =>
      simp only [List.mapM_cons, Option.bind_eq_bind, Option.bind_eq_some_iff, Option.pure_def, Option.some.injEq, Option.map_eq_some_iff] at hp
      obtain ⟨_, ⟨v, hv, rfl⟩, us', hus, rfl⟩ := hp
      simp [ha.ev hv, ih us' hus]
  have h0 : 0 < len * n := by simpa using h0
  have hsm : len * n ≤ 16777216 := Nat.le_of_ble_eq_true hsmall
  have hnp : 0 < n := Nat.pos_of_mul_pos_left h0
  have hsz : ¬ (len * n > 2 ^ 24) := by omega
  simp only [execOp, Instr.buildSlice, Sem.run_bind, run_underlying hu, Result.andThen_ok, sizeOf, typeInfo, run_program, hq, Sem.run_pure, hs, if_neg hsz, hm]
  have h1 : ¬ (len * n = 0) := by omega
  simp only [if_neg h1, Sem.run_bind, run_zeroValue hz, Result.andThen_ok, Sem.run_pure]
  have hfl := Go.Great.fill_whole hnp vs (Array.map (fun x => z.cells[x % z.cells.size]!) (Array.range (len * n))) hn (by simp [hlen])
  rw [hfl]
  simp [newRow]
end
end Go.Proofs.Ytaggidjijekpbaa
