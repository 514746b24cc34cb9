/- A range over a function, for a caller and for an iterator that hands yield on: the wide fence, blocks alone. -/
import Derived.Test.YtaggidjijekpbaaRep
import Derived.Scope
namespace Go.Proofs.Ytaggidjijekpbaa
open Go.RowKit

/-- what lies in a block that S does not name lies -/
structure Keep (S : Nat → Prop) (w w' : World) : Prop where
  os : w'.os = w.os
  tape : w'.tape = w.tape
  output : w'.output = w.output
  size : w.heap.size ≤ w'.heap.size
  block : ∀ k, k < w.heap.size → ¬ S k → w'.heap[k]? = w.heap[k]?

theorem Keep.refl (S : Nat → Prop) (w : World) : Keep S w w := ⟨rfl, rfl, rfl, Nat.le_refl _, fun _ _ _ => rfl⟩
theorem Keep.trans {S : Nat → Prop} {a b c : World} (h : Keep S a b) (k : Keep S b c) : Keep S a c :=
  ⟨k.os.trans h.os, k.tape.trans h.tape, k.output.trans h.output, Nat.le_trans h.size k.size, fun i hi hs => (k.block i (Nat.lt_of_lt_of_le hi h.size) hs).trans (h.block i hi hs)⟩
theorem Keep.mono {S S' : Nat → Prop} {a b : World} (h : Keep S a b) (hs : ∀ k, k < a.heap.size → S k → S' k) : Keep S' a b := ⟨h.os, h.tape, h.output, h.size, fun i hi hn => h.block i hi (fun hk => hn (hs i hi hk))⟩
theorem Keep.ext {S : Nat → Prop} {a b : World} (h : Keep S a b) (hs : ∀ k, k < a.heap.size → ¬ S k) : Ext a b := ⟨h.os, h.tape, h.output, h.size, fun i hi => h.block i hi (hs i hi)⟩
theorem Keep.below {S : Nat → Prop} {n : Nat} {a b : World} (h : Keep S a b) (hn : n ≤ a.heap.size) (hs : ∀ k, k < n → ¬ S k) : Below n a b := ⟨h.os, h.tape, h.output, h.size, fun i hi => h.block i (by omega) (hs i hi)⟩
theorem Below.keep {S : Nat → Prop} {n : Nat} {a b : World} (h : Below n a b) (hs : ∀ k, n ≤ k → k < a.heap.size → S k) : Keep S a b := ⟨h.os, h.tape, h.output, h.size, fun i hi hn => h.block i (by rcases Nat.lt_or_ge i n with h | h; exact h; exact absurd (hs i h hi) hn)⟩
theorem Ext.keep {a b : World} (S : Nat → Prop) (h : Ext a b) : Keep S a b := ⟨h.os, h.tape, h.output, h.size, fun i hi _ => h.block i hi⟩
theorem But.keep {S : Nat → Prop} {b : Nat} {w w' : World} (h : But b w w') (hb : S b) : Keep S w w' := ⟨h.os, h.tape, h.output, Nat.le_of_eq h.size.symm, fun i _ hn => h.block i (fun e => hn (e ▸ hb))⟩
theorem Keep.obj {S : Nat → Prop} {a b : World} (h : Keep S a b) {k : Nat} {o : Obj} (hk : a.heap[k]? = some o) (hs : ¬ S k) : b.heap[k]? = some o :=
  (h.block k (Array.getElem?_eq_some_iff.1 hk).1 hs).trans hk
theorem Keep.row {S : Nat → Prop} {a b : World} (h : Keep S a b) {k : Nat} {l : List Value} {t : TypeId} (hk : Row a k l t) (hs : ¬ S k) : Row b k l t := h.obj hk hs
theorem Keep.reads {S : Nat → Prop} {a b : World} (h : Keep S a b) {k o : Nat} {l : List Value} (hk : Reads a k o l) (hs : ¬ S k) : Reads b k o l := fun j v hj => by
  have hc := hk j v hj
  have hlt : k < a.heap.size := World.block_lt_of_cell? a ⟨k, o + j, none⟩ hc
  exact (World.cell?_of_block (w := a) (h.block k hlt hs)).trans hc
theorem Keep.node {S D : Nat → Prop} {a b : World} (h : Keep S a b) {l : List Value} {t : Nd} (hn : NodeL D a l t) (hs : ∀ k, D k → ¬ S k) : NodeL D b l t :=
  hn.step (fun _ h => h) (fun c _ _ hc hr => h.reads hr (hs c hc))
theorem Keep.nodes {S D : Nat → Prop} {a b : World} (h : Keep S a b) {sl : Value} {ts : List Nd} (hn : NodesV D a sl ts) (hs : ∀ k, D k → ¬ S k) : NodesV D b sl ts :=
  hn.step (fun _ h => h) (fun c _ _ hc hr => h.reads hr (hs c hc))
theorem But.putObj {w : World} (l : Nat) (o : Obj) : But l w (w.putObj l o) := ⟨rfl, rfl, rfl, World.putObj_size, fun _k hk => World.putObj_heap_other hk⟩

theorem Keep.after {S : Nat → Prop} {a b c : World} (h : Keep S b c) (e : Ext a b) (hs : ∀ k, S k → a.heap.size ≤ k) : Ext a c :=
  Below.trans e (h.below e.size (fun k hk h => by have := hs k h; omega))
theorem But.keepNew {S : Nat → Prop} {b : Nat} {a w w' : World} (h : But b w w') (k : Keep S a w) (hb : a.heap.size ≤ b) : Keep S a w' :=
  ⟨h.os.trans k.os, h.tape.trans k.tape, h.output.trans k.output, by rw [h.size]; exact k.size, fun i hi hs => (h.block i (by omega)).trans (k.block i hi hs)⟩
theorem Row.below {n : Nat} {w w' : World} {b : Nat} {l : List Value} {t : TypeId} (h : Row w b l t) (k : Below n w w') (hb : b < n) : Row w' b l t := (k.block b hb).trans h

/-- a call of yield -/
abbrev YieldC (P : Program) (l : Nat) (args : Array Value) (w : World) (R : Ending → World → Prop) : Prop := YieldAt Fence.wide 0 P l args w R

section
variable {ro : Option Nat} {P : Program} {all : Array Oper} {Q : Exit → Act → World → Prop} {N : Nat} {ds : List Deferred} {r : Reg} {w : World} {rest : List Oper}
  {ty : TypeId} {pos : String} {aft : Array Edge} {g : Option (Nat × Bool)}

theorem WL.yield {d l : Nat} {x : Operand} {args : Array Operand} {ats : Array TypeId} {vs : List Value} {R : Ending → World → Prop} (hw : want all r g = some true) (hd : Nat.blt d N = true)
    (hx : ev r x = some (.func (.yield l) #[] #[])) (hargs : args.toList.mapM (ev r) = some vs)
    (hc : YieldC P l vs.toArray w R) (next : ∀ e w', R e w' → ∃ v, e = .returned v ∧ WL ro P all Q N ds rest ((d, v) :: r) w') :
    WL ro P all Q N ds (⟨some d, .call ⟨.value x, args, ats⟩, ty, pos, aft, g⟩ :: rest) r w := by
  intro a ha
  unfold wpListIn
  rw [if_pos (want_wanted ha (o := ⟨some d, .call ⟨.value x, args, ats⟩, ty, pos, aft, g⟩) hw)]
  refine ⟨fun _ _ => trivial, ?_⟩
  have hm : args.map a.eval = vs.toArray := by
    apply Array.ext'
    simp only [Array.toList_map]
    clear hc next hw
    generalize args.toList = l at hargs
    induction l generalizing vs with
    | nil => simp at hargs; subst hargs; rfl
    | cons x l ih =>
      simp only [List.mapM_cons, Option.bind_eq_bind, Option.bind_eq_some_iff, Option.pure_def, Option.some.injEq] at hargs
      obtain ⟨v, hv, vs', hvs, rfl⟩ := hargs
      simp [ha.ev hv, ih hvs]
  obtain ⟨fn, tmps, assign, body, hy, hR⟩ := hc
  rw [semAt_wd (by intro c h; cases h)]
  have : (execOp a.eval ⟨some d, .call ⟨.value x, args, ats⟩, ty, pos, aft, g⟩).run P w = .ok (.round l fn tmps assign body) w := by
    simp [execOp, resolve, hm, ha.ev hx, Deferred.ofValue, invoke, hy]
  rw [this, Oper.uponIn_round]
  refine ⟨(fun h => by cases h), ?_⟩
  have hR' : RoundIn (Wd ro) (0 - 1) P l fn tmps assign body w R := ⟨trivial, fun c cs _ => hR.2 c cs (room_wide _)⟩
  refine hR'.mono ?_
  intro e w' h
  obtain ⟨v, rfl, hn⟩ := next e w' h
  exact hn _ (ha.put hd)

/-- a loop whose rounds may leave marks -/
theorem WC.loopD {σ : Type} {c : Code} (I : σ → List Deferred → Reg → World → Prop) (μ : σ → Nat) (s0 : σ) (h0 : I s0 ds r w)
    (round : ∀ s ds r w, I s ds r w → WC ro P (Exit.then (fun a' w' => ∃ s' ds' r', Fits N ds' r' a' ∧ I s' ds' r' w' ∧ μ s' < μ s) Q) N ds c r w) : WC ro P Q N ds (.loop c) r w := by
  intro a ha b k cs hro hb hr
  have key : ∀ j (s : σ) ds r w a, μ s = j → I s ds r w → Fits N ds r a →
      ∃ e a' w', Q e a' w' ∧ ArrivesIn (Machine.fenced P (Wd ro)) P (lone (b.atR a (.code c :: .inLoop c :: k)) cs w) b k cs e a' w' := by
    intro j
    induction j using Nat.strongRecOn with
    | _ j ih =>
      intro s ds r w a hj hI hf
      obtain ⟨e, a₁, w₁, hq, harr⟩ := round s ds r w hI a hf b (.inLoop c :: k) cs hro hb hr
      cases e with
      | normal =>
        obtain ⟨s', ds', r', hf', hI', hlt⟩ := hq
        obtain ⟨e₂, a₂, w₂, hq₂, harr₂⟩ := ih (μ s') (hj ▸ hlt) s' ds' r' w₁ a₁ rfl hI' hf'
        exact ⟨e₂, a₂, w₂, hq₂, .of_steps (StepsIn.trans harr (.one (fenced_calm hb hr rfl) stepR_inLoop)) harr₂⟩
      | exit id => exact ⟨_, a₁, w₁, hq, .pass (x := .inLoop c) rfl (fun _ _ => .inl (by simp)) harr⟩
      | goto l => exact ⟨_, a₁, w₁, hq, .pass (x := .inLoop c) rfl (fun _ _ => .inl (by simp)) harr⟩
      | ret => exact ⟨_, a₁, w₁, hq, .pass (x := .inLoop c) rfl (fun _ _ => .inl (by simp)) harr⟩
      | panic ch => exact ⟨_, a₁, w₁, hq, .pass (x := .inLoop c) rfl (fun _ _ => .inl (by simp)) harr⟩
      | outgrown => exact ⟨_, a₁, w₁, hq, .pass (x := .inLoop c) rfl (fun _ _ => .inl (by simp)) harr⟩
  obtain ⟨e, a', w', hq, harr⟩ := key _ s0 ds r w a rfl h0 ha
  exact ⟨e, a', w', hq, .of_steps (.one (fenced_calm hb hr rfl) stepR_loop) harr⟩

/-- WHAT AN ITERATOR IS: closure f over caps, in a world: it hands to yield N things, the i-th such as Ok i says; Dat are the blocks that it leans on. -/
def IterV (P : Program) (f : FuncId) (caps : Array Value) (Ok : Nat → Value → World → Prop) (Nn : Nat) (Dat : Nat → Prop) (w : World) : Prop :=
  ∀ (l : Nat) (S : Nat → Prop) (J : Nat → World → Prop) (Jx : World → Prop) (W : World), Ext w W → (∀ k, S k → k < W.heap.size) → (∀ k, S k → ¬ Dat k) →
    (∀ i A B, J i A → Below W.heap.size A B → J i B) → (∀ A B, Jx A → Below W.heap.size A B → Jx B) →
    (∀ i W1 v, i < Nn → Ok i v W1 → W.heap.size ≤ W1.heap.size → J i W1 → YieldC P l #[v] W1 fun e W' =>
      (e = .returned (.bool true) ∧ J (i + 1) W' ∧ Keep S W1 W') ∨ (e = .returned (.bool false) ∧ Jx W' ∧ Keep S W1 W')) →
    J 0 W → Calls P f (#[.func (.yield l) #[] #[]] ++ caps) W fun e W' => (∃ v, e = .returned v) ∧ (J Nn W' ∨ Jx W')

/-- .. of aggregates: closure f over caps, in a world: it hands to yield N things, the i-th such as Ok i says; Dat are the blocks that it leans on. -/
def IterC (P : Program) (f : FuncId) (caps : Array Value) (Ok : Nat → List Value → World → Prop) (Nn : Nat) (Dat : Nat → Prop) (w : World) : Prop :=
  ∀ (l : Nat) (S : Nat → Prop) (J : Nat → World → Prop) (Jx : World → Prop) (W : World), Ext w W → (∀ k, S k → k < W.heap.size) → (∀ k, S k → ¬ Dat k) →
    (∀ i A B, J i A → Below W.heap.size A B → J i B) → (∀ A B, Jx A → Below W.heap.size A B → Jx B) →
    (∀ i W1 cells, i < Nn → Ok i cells W1 → W.heap.size ≤ W1.heap.size → J i W1 → YieldC P l #[.agg cells.toArray] W1 fun e W' =>
      (e = .returned (.bool true) ∧ J (i + 1) W' ∧ Keep S W1 W') ∨ (e = .returned (.bool false) ∧ Jx W' ∧ Keep S W1 W')) →
    J 0 W → Calls P f (#[.func (.yield l) #[] #[]] ++ caps) W fun e W' => (∃ v, e = .returned v) ∧ (J Nn W' ∨ Jx W')

def markOf (D : Nat) : Deferred := { target := .collected D, args := #[] }

/-- HOW THE BODY OF A ROUND IS LEFT -/
def RQ (S : Nat → Prop) (Inext : World → Prop) (X : Code → World → Prop) (w3 : World) : Exit → Act → World → Prop
  | .normal, _, w' => Keep S w3 w' ∧ Inext w'
  | .ret, _, w' => Keep S w3 w' ∧ X .ret w'
  | .exit id, _, w' => Keep S w3 w' ∧ X (.exit id) w'
  | _, _, _ => False

theorem WC.rangeFuncV {x : Operand} {p : Nat} {assign body : Code} {f : FuncId} {caps : Array Value} {Ok : Nat → Value → World → Prop} {Nn : Nat} {Dat : Nat → Prop} {w0 : World}
    (hx : ev r x = some (.func (.func f) #[] caps)) (hp : Nat.blt p N = true) (hf : ∀ vs w, (callFunc f vs).run P w = .ok (.enter f vs) w)
    (hit : IterV P f caps Ok Nn Dat w0) (hw0 : Ext w0 w) (hDat : ∀ k, Dat k → k < w.heap.size)
    (S : Nat → Prop) (hS : ∀ k, S k → k < w.heap.size) (hSD : ∀ k, S k → ¬ Dat k)
    (I : Nat → World → Prop) (X : Code → World → Prop) (hI : ∀ i A B, I i A → Below w.heap.size A B → I i B) (hX : ∀ c A B, X c A → Below w.heap.size A B → X c B)
    (h0 : I 0 w)
    (round : ∀ i W1 v l, i < Nn → Ok i v W1 → w.heap.size < l → l < W1.heap.size → Keep S w W1 → I i W1 →
      WC (some l) P (Exit.then (fun a2 w2 => Keep S W1 w2 ∧ ∀ w3, But l w2 w3 → body.wpIn (Wd (some l)) 0 P (RQ S (I (i + 1)) X w3) a2 w3) (fun _ _ _ => False)) N [] assign ((p, v) :: r) W1)
    (done : ∀ w' D, w.heap.size ≤ D → w'.heap[D]? = some (.deferred (some [])) → Keep S w w' → I Nn w' → ∀ a, Fits N (markOf D :: ds) r a → Q .normal a w')
    (stop : ∀ w' D c, w.heap.size ≤ D → w'.heap[D]? = some (.deferred (some [])) → Keep S w w' → X c w' → WC none P Q N (markOf D :: ds) c r w') :
    WC none P Q N ds (.rangeFunc x #[p] assign body) r w := by
  intro a ha
  refine wpIn_rangeFunc ?_
  intro fn _
  obtain ⟨rec, hrec⟩ : ∃ rec : LoopState → Option Code → Loop, rec = fun st pe => { state := st, pending := pe, fn, tmps := a.tmps, params := #[p], assign, body, defers := w.heap.size } := ⟨_, rfl⟩
  obtain ⟨W1, hW1⟩ : ∃ W1, (w.alloc (.deferred (some []))).alloc (.loop (rec .ready none)) = W1 := ⟨_, rfl⟩
  have hz1 : W1.heap.size = w.heap.size + 2 := by rw [← hW1]; simp
  have hL1 : W1.heap[w.heap.size + 1]? = some (.loop (rec .ready none)) := by
    rw [← hW1]; have := World.alloc_heap_new (w.alloc (.deferred (some []))) (.loop (rec .ready none)); rwa [World.size_alloc] at this
  have hK1 : W1.heap[w.heap.size]? = some (.deferred (some [])) := by
    rw [← hW1]; exact (Below.heap_alloc _ _ _ (by simp)).trans (World.alloc_heap_new w _)
  have hE1 : Ext w W1 := by rw [← hW1]; exact (Ext.alloc w _).trans (Ext.alloc _ _)
  have ek : ∀ {A B : World}, Below W1.heap.size A B → w.heap.size ≤ A.heap.size → Below w.heap.size A B := fun h _ => h.mono (by omega)
  have hSl : ¬ S (w.heap.size + 1) := fun h => by have := hS _ h; omega
  have hSd : ¬ S w.heap.size := fun h => by have := hS _ h; omega
  have hcall := hit (w.heap.size + 1) (fun k => S k ∨ k = w.heap.size + 1)
    (fun i A => I i A ∧ A.heap[w.heap.size + 1]? = some (.loop (rec .ready none)) ∧ A.heap[w.heap.size]? = some (.deferred (some [])) ∧ Keep S w A)
    (fun A => ∃ c, X c A ∧ A.heap[w.heap.size + 1]? = some (.loop (rec .done (some c))) ∧ A.heap[w.heap.size]? = some (.deferred (some [])) ∧ Keep S w A)
    W1 (hw0.trans hE1) (by rintro k (h | h); · have := hS k h; omega
                           · omega)
    (by rintro k (h | h) hd
        · exact hSD k h hd
        · have := hDat k hd; omega)
    (fun i A B ⟨h1, h2, h3, h4⟩ hb => ⟨hI i A B h1 (hb.mono (by omega)), (hb.block _ (by omega)).trans h2, (hb.block _ (by omega)).trans h3,
      ⟨hb.os.trans h4.os, hb.tape.trans h4.tape, hb.output.trans h4.output, Nat.le_trans h4.size hb.size, fun k hk hs => (hb.block k (by omega)).trans (h4.block k hk hs)⟩⟩)
    (fun A B ⟨c, h1, h2, h3, h4⟩ hb => ⟨c, hX c A B h1 (hb.mono (by omega)), (hb.block _ (by omega)).trans h2, (hb.block _ (by omega)).trans h3,
      ⟨hb.os.trans h4.os, hb.tape.trans h4.tape, hb.output.trans h4.output, Nat.le_trans h4.size hb.size, fun k hk hs => (hb.block k (by omega)).trans (h4.block k hk hs)⟩⟩)
    (fun i W cells hlen hok hsz ⟨h1, h2, h3, h4⟩ => by
      have hy := run_yield (P := P) (args := #[cells]) h2 (by rw [hrec]; rfl)
      rw [hrec] at hy
      refine ⟨fn, _, assign, body, hy, roundIn_of_wpIn trivial ?_⟩
      have hr := round i W cells (w.heap.size + 1) hlen hok (by omega) (by omega) h4 h1
      have hfit : Fits N [] ((p, cells) :: r) { tmps := ((#[p] : Array Tmp).zip #[cells]).foldl (fun tmps (t, a) => tmps.setIfInBounds t a) a.tmps, defers := [] } := by
        have h5 := (Fits.mk (N := N) (ds := []) (r := r) (a := { tmps := a.tmps, defers := [] }) ha.size rfl ha.get).put (v := cells) hp
        simpa [Act.put] using h5
      refine wpIn_mono (hr _ hfit) ?_
      intro e a2 w2 hq
      cases e with
      | normal =>
        obtain ⟨hk2, hbody⟩ := hq
        have hl2 : w2.heap[w.heap.size + 1]? = some (.loop (rec .ready none)) := hk2.obj h2 hSl
        have hd2 : w2.heap[w.heap.size]? = some (.deferred (some [])) := hk2.obj h3 hSd
        refine ⟨_, run_beginRound hl2 (by rw [hrec]), ?_⟩
        have hbut := But.putObj (w := w2) (w.heap.size + 1) (.loop { rec .ready none with state := .busy })
        have hl3 : (w2.putObj (w.heap.size + 1) (.loop { rec .ready none with state := .busy })).heap[w.heap.size + 1]? = some (.loop { rec .ready none with state := .busy }) := World.putObj_heap_same (Array.getElem?_eq_some_iff.1 hl2).1
        have hd3 : (w2.putObj (w.heap.size + 1) (.loop { rec .ready none with state := .busy })).heap[w.heap.size]? = some (.deferred (some [])) := (World.putObj_heap_other (by omega)).trans hd2
        have hwp := hbody _ hbut
        have hmain : ∀ (jump : Option Code) (W3 : World), Keep S (w2.putObj (w.heap.size + 1) (.loop { rec .ready none with state := .busy })) W3 →
            (Instr.endRound (w.heap.size + 1) jump).run P W3 = .ok (.bool jump.isNone) (W3.putObj (w.heap.size + 1) (.loop (rec (if jump.isNone then .ready else .done) jump))) ∧
            (W3.putObj (w.heap.size + 1) (.loop (rec (if jump.isNone then .ready else .done) jump))).heap[w.heap.size + 1]? = some (.loop (rec (if jump.isNone then .ready else .done) jump)) ∧
            (W3.putObj (w.heap.size + 1) (.loop (rec (if jump.isNone then .ready else .done) jump))).heap[w.heap.size]? = some (.deferred (some [])) ∧
            Keep (fun k => S k ∨ k = w.heap.size + 1) W (W3.putObj (w.heap.size + 1) (.loop (rec (if jump.isNone then .ready else .done) jump))) ∧
            Keep S w (W3.putObj (w.heap.size + 1) (.loop (rec (if jump.isNone then .ready else .done) jump))) := by
          intro jump W3 hk3
          have hl4 := hk3.obj hl3 hSl
          have hd4 := hk3.obj hd3 hSd
          have he := run_endRound (P := P) jump hl4
          rw [hrec] at he ⊢
          rw [hrec] at hl4
          have hkk : Keep (fun k => S k ∨ k = w.heap.size + 1) W (W3.putObj (w.heap.size + 1) (.loop ((fun st pe => { state := st, pending := pe, fn, tmps := a.tmps, params := #[p], assign, body, defers := w.heap.size } : LoopState → Option Code → Loop) (if jump.isNone then .ready else .done) jump))) := by
            refine (hk2.mono (fun _ _ h => .inl h)).trans ((hbut.keep (.inr rfl)).trans ?_)
            rw [hrec]
            rw [hrec] at hk3
            exact (hk3.mono (fun _ _ h => .inl h)).trans ((But.putObj _ _).keep (.inr rfl))
          refine ⟨he, World.putObj_heap_same (Array.getElem?_eq_some_iff.1 hl4).1, (World.putObj_heap_other (by omega)).trans hd4, hkk, ?_⟩
          refine ⟨hkk.os.trans h4.os, hkk.tape.trans h4.tape, hkk.output.trans h4.output, Nat.le_trans h4.size hkk.size, fun k hk hs => (hkk.block k (by have := h4.size; omega) ?_).trans (h4.block k hk hs)⟩
          rintro (h | h)
          · exact hs h
          · omega
        have hbel : ∀ (o : Obj) (W3 : World), Below w.heap.size W3 (W3.putObj (w.heap.size + 1) o) := fun o W3 => (But.putObj (w := W3) (w.heap.size + 1) o).below (Below.refl _ _) (by omega)
        refine wpIn_mono hwp ?_
        rintro e a3 W3 hp
        cases e with
        | normal =>
          obtain ⟨hk3, hi3⟩ := hp
          obtain ⟨e1, e2, e3, e4, e5⟩ := hmain none W3 hk3
          exact ⟨_, _, e1, .inl ⟨rfl, ⟨hI _ _ _ hi3 (hbel _ _), e2, e3, e5⟩, e4⟩⟩
        | ret =>
          obtain ⟨hk3, hi3⟩ := hp
          obtain ⟨e1, e2, e3, e4, e5⟩ := hmain (some .ret) W3 hk3
          exact ⟨_, _, e1, .inr ⟨rfl, ⟨.ret, hX _ _ _ hi3 (hbel _ _), e2, e3, e5⟩, e4⟩⟩
        | exit id =>
          obtain ⟨hk3, hi3⟩ := hp
          obtain ⟨e1, e2, e3, e4, e5⟩ := hmain (some (.exit id)) W3 hk3
          exact ⟨_, _, e1, .inr ⟨rfl, ⟨.exit id, hX _ _ _ hi3 (hbel _ _), e2, e3, e5⟩, e4⟩⟩
        | goto t => exact hp.elim
        | panic ch => exact hp.elim
        | outgrown => exact hp.elim
      | exit id => exact hq.elim
      | goto t => exact hq.elim
      | ret => exact hq.elim
      | panic ch => exact hq.elim
      | outgrown => exact hq.elim)
    ⟨hI _ _ _ h0 (hE1.mono (Nat.le_refl _)), hL1, hK1, hE1.keep S⟩
  refine ⟨w.heap.size + 1, [markOf w.heap.size], W1, { target := .fn (.func f) caps, args := #[.func (.yield (w.heap.size + 1)) #[] #[]] }, W1, f,
    #[.func (.yield (w.heap.size + 1)) #[] #[]] ++ caps, W1, ?_, ?_, fun _ _ => trivial, ?_, (fun h => by cases h), ?_⟩
  · rw [← hW1, hrec]; exact run_enterLoop_outer _ _ _ _ _
  · have he : a.eval (.const (.func (.yield (w.heap.size + 1)) #[] #[])) = .func (.yield (w.heap.size + 1)) #[] #[] := rfl
    simp [resolve, ha.ev hx, Deferred.ofValue, he]
  · simp [invoke, hf]
  · refine (CallsIn.wd hcall).mono ?_
    rintro e W2 ⟨⟨v, rfl⟩, (⟨hi, hl, hk, hkp⟩ | ⟨c, hi, hl, hk, hkp⟩)⟩
    · have hb := (But.putObj (w := W2) (w.heap.size + 1) (.loop { rec .ready none with state := .exhausted }))
      have hkeep : Keep S w (W2.putObj (w.heap.size + 1) (.loop { rec .ready none with state := .exhausted })) :=
        ⟨hb.os.trans hkp.os, hb.tape.trans hkp.tape, hb.output.trans hkp.output, by rw [hb.size]; exact hkp.size, fun k hk' hs => (hb.block k (by omega)).trans (hkp.block k hk' hs)⟩
      refine ⟨none, _, by have := run_endLoop (P := P) hl (by rw [hrec]; simp); rw [hrec] at this; exact this, ?_⟩
      have := done _ w.heap.size (Nat.le_refl _) ((World.putObj_heap_other (by omega)).trans hk) hkeep (hI _ _ _ hi (hb.below (Below.refl _ _) (by omega))) { a with defers := [markOf w.heap.size] ++ a.defers } ⟨ha.size, by simp [ha.defers], ha.get⟩
      rw [hrec] at this; exact this
    · have hb := (But.putObj (w := W2) (w.heap.size + 1) (.loop { rec .done (some c) with state := .exhausted }))
      have hkeep : Keep S w (W2.putObj (w.heap.size + 1) (.loop { rec .done (some c) with state := .exhausted })) :=
        ⟨hb.os.trans hkp.os, hb.tape.trans hkp.tape, hb.output.trans hkp.output, by rw [hb.size]; exact hkp.size, fun k hk' hs => (hb.block k (by omega)).trans (hkp.block k hk' hs)⟩
      refine ⟨some c, _, by have := run_endLoop (P := P) hl (by rw [hrec]; simp); rw [hrec] at this; exact this, ?_⟩
      have := stop _ w.heap.size c (Nat.le_refl _) ((World.putObj_heap_other (by omega)).trans hk) hkeep (hX _ _ _ hi (hb.below (Below.refl _ _) (by omega))) { a with defers := [markOf w.heap.size] ++ a.defers } ⟨ha.size, by simp [ha.defers], ha.get⟩
      rw [hrec] at this; exact this

theorem WC.rangeFunc {x : Operand} {p : Nat} {assign body : Code} {f : FuncId} {caps : Array Value} {Ok : Nat → List Value → World → Prop} {Nn : Nat} {Dat : Nat → Prop} {w0 : World}
    (hx : ev r x = some (.func (.func f) #[] caps)) (hp : Nat.blt p N = true) (hf : ∀ vs w, (callFunc f vs).run P w = .ok (.enter f vs) w)
    (hit : IterC P f caps Ok Nn Dat w0) (hw0 : Ext w0 w) (hDat : ∀ k, Dat k → k < w.heap.size)
    (S : Nat → Prop) (hS : ∀ k, S k → k < w.heap.size) (hSD : ∀ k, S k → ¬ Dat k)
    (I : Nat → World → Prop) (X : Code → World → Prop) (hI : ∀ i A B, I i A → Below w.heap.size A B → I i B) (hX : ∀ c A B, X c A → Below w.heap.size A B → X c B)
    (h0 : I 0 w)
    (round : ∀ i W1 cells l, i < Nn → Ok i cells W1 → w.heap.size < l → l < W1.heap.size → Keep S w W1 → I i W1 →
      WC (some l) P (Exit.then (fun a2 w2 => Keep S W1 w2 ∧ ∀ w3, But l w2 w3 → body.wpIn (Wd (some l)) 0 P (RQ S (I (i + 1)) X w3) a2 w3) (fun _ _ _ => False)) N [] assign ((p, .agg cells.toArray) :: r) W1)
    (done : ∀ w' D, w.heap.size ≤ D → w'.heap[D]? = some (.deferred (some [])) → Keep S w w' → I Nn w' → ∀ a, Fits N (markOf D :: ds) r a → Q .normal a w')
    (stop : ∀ w' D c, w.heap.size ≤ D → w'.heap[D]? = some (.deferred (some [])) → Keep S w w' → X c w' → WC none P Q N (markOf D :: ds) c r w') :
    WC none P Q N ds (.rangeFunc x #[p] assign body) r w :=
  WC.rangeFuncV (Ok := fun i v W1 => ∃ cells, v = .agg cells.toArray ∧ Ok i cells W1) hx hp hf
    (fun l S J Jx W h1 h2 h3 h4 h5 h6 h7 => hit l S J Jx W h1 h2 h3 h4 h5 (fun i W1 cells hi hok => h6 i W1 _ hi ⟨cells, rfl, hok⟩) h7)
    hw0 hDat S hS hSD I X hI hX h0 (fun i W1 _ l hi hok => by obtain ⟨cells, rfl, hok⟩ := hok; exact round i W1 cells l hi hok) done stop

/-- the marks that a frame has, each of them with a block for calls of its own, from n0 on -/
def Marks (w : World) (n0 : Nat) (ds : List Deferred) : Prop := ∃ Ds : List Nat, ds = Ds.map markOf ∧ Ds.Nodup ∧ ∀ D ∈ Ds, n0 ≤ D ∧ w.heap[D]? = some (.deferred (some []))
theorem Marks.nil (w : World) (n0 : Nat) : Marks w n0 [] := ⟨[], rfl, List.nodup_nil, by simp⟩
theorem Marks.one {w : World} {n0 D : Nat} (h : n0 ≤ D) (hd : w.heap[D]? = some (.deferred (some []))) : Marks w n0 [markOf D] := ⟨[D], rfl, by simp, by simpa using ⟨h, hd⟩⟩
theorem Marks.lt {w : World} {n0 : Nat} {Ds : List Nat} (h : ∀ D ∈ Ds, n0 ≤ D ∧ w.heap[D]? = some (.deferred (some []))) : ∀ D ∈ Ds, D < w.heap.size := fun D hD => (Array.getElem?_eq_some_iff.1 (h D hD).2).1
theorem Marks.keep {S : Nat → Prop} {w w' : World} {n0 : Nat} {ds : List Deferred} (h : Marks w n0 ds) (k : Keep S w w') (hS : ∀ k, S k → k < n0) : Marks w' n0 ds := by
  obtain ⟨Ds, rfl, hn, hd⟩ := h
  exact ⟨Ds, rfl, hn, fun D hD => ⟨(hd D hD).1, k.obj (hd D hD).2 (fun h => by have := hS D h; have := (hd D hD).1; omega)⟩⟩
theorem Marks.cons {w w' : World} {n0 D : Nat} {ds : List Deferred} {S : Nat → Prop} (h : Marks w n0 ds) (k : Keep S w w') (hS : ∀ k, S k → k < n0) (hn : n0 ≤ w.heap.size) (hD : w.heap.size ≤ D) (hd : w'.heap[D]? = some (.deferred (some []))) : Marks w' n0 (markOf D :: ds) := by
  obtain ⟨Ds, rfl, hnd, hd'⟩ := h
  refine ⟨D :: Ds, rfl, List.nodup_cons.2 ⟨fun hm => ?_, hnd⟩, ?_⟩
  · have := Marks.lt hd' D hm; omega
  · intro E hE
    cases hE with
    | head => exact ⟨by omega, hd⟩
    | tail _ hm => exact ⟨(hd' E hm).1, k.obj (hd' E hm).2 (fun h => by have := hS E h; have := (hd' E hm).1; omega)⟩

theorem leavesM {fn : Func} {tmps : Array Value} {R : Ending → World → Prop} {n0 : Nat} : ∀ (Ds : List Nat) (w : World), Ds.Nodup → (∀ D ∈ Ds, n0 ≤ D ∧ w.heap[D]? = some (.deferred (some []))) →
    (∀ w', Keep (fun k => k ∈ Ds) w w' → ∃ v, (results fn tmps).run P w' = .ok v w' ∧ R (.returned v) w') → LeavesInM Fence.wide 0 P fn tmps R (Ds.map markOf) .returning w
  | [], w, _, _, h => h w (Keep.refl _ _)
  | D :: Ds, w, hn, hd, h => by
    have hD := (hd D (by simp)).2
    have hnd := List.nodup_cons.1 hn
    refine ⟨by simp, .inl ⟨D, _, rfl, run_takeDeferred hD, leavesM (n0 := n0) Ds _ hnd.2 (fun E hE => ?_) (fun w' hk => h w' ?_)⟩⟩
    · have hne : E ≠ D := fun e => hnd.1 (by rw [← e]; exact hE)
      exact ⟨(hd E (by simp [hE])).1, (World.putObj_heap_other hne).trans (hd E (by simp [hE])).2⟩
    · refine Keep.trans ?_ (hk.mono (fun _ _ hm => by simp [hm]))
      exact (But.putObj (w := w) D (.deferred none)).keep (by simp)

theorem Calls.enterM {f : FuncId} {fn : Func} {c : Code} {args : List Value} {r : Reg} {N : Nat} {R : Ending → World → Prop} (hf : P.funcs[f]? = some fn) (hb : fn.body = some c)
    (hn : fn.ntmps = N) (hN : Nat.ble args.length N = true) (hr : (args.zipIdx.map fun (v, i) => (i, v)) = r) (h : WC none P (bodyPostM Fence.wide 0 P fn R) N [] c r w) : Calls P f args.toArray w R := by
  subst hn; subst hr
  have hN := Nat.le_of_ble_eq_true hN
  refine callsIn_wide.1 (callsIn_of_wp_marks (n := 0) hf hb trivial (h _ ?_))
  refine ⟨by simp; omega, rfl, ?_⟩
  intro t v hl
  have key : ∀ (l : List Value) (k : Nat), look ((l.zipIdx k).map fun (v, i) => (i, v)) t = some v → k ≤ t ∧ l[t - k]? = some v := by
    intro l
    induction l with
    | nil => intro k h; simp [look] at h
    | cons x l ih =>
      intro k h
      simp only [List.zipIdx_cons, List.map_cons, look] at h
      by_cases e : Nat.beq k t = true
      · rw [e] at h
        have : k = t := Nat.eq_of_beq_eq_true e
        subst this
        simpa using h
      · have e' : Nat.beq k t = false := Bool.eq_false_iff.2 e
        rw [e'] at h
        obtain ⟨h1, h2⟩ := ih (k + 1) h
        refine ⟨by omega, ?_⟩
        have : t - k = (t - (k + 1)) + 1 := by omega
        rw [this]; simpa using h2
  obtain ⟨_, h2⟩ := key args 0 hl
  have hlt : t < args.length := by
    rcases Nat.lt_or_ge t args.length with h | h
    · exact h
    · rw [List.getElem?_eq_none (by simpa using h)] at h2; cases h2
  show (args.toArray ++ Array.replicate (fn.ntmps - args.toArray.size) undef)[t]? = some v
  rw [Array.getElem?_append_left (by simpa using hlt)]
  simpa using h2

theorem bodyPostM_tmp {fn : Func} {R : Ending → World → Prop} {t : Nat} {v : Value} {a : Act} {n0 : Nat} (hres : fn.results = #[.tmp t]) (h : Fits N ds r a) (hl : look r t = some v) (hm : Marks w n0 ds)
    (hR : ∀ w', Keep (fun k => n0 ≤ k) w w' → R (.returned v) w') : bodyPostM Fence.wide 0 P fn R .ret a w := by
  obtain ⟨Ds, rfl, hnd, hd⟩ := hm
  show LeavesInM Fence.wide 0 P fn a.tmps R a.defers .returning w
  rw [h.defers]
  exact leavesM Ds w hnd hd (fun w' hk => ⟨v, by rw [results_tmp hres]; simp [h.get t v hl], hR w' (hk.mono (fun k _ hm => (hd k hm).1))⟩)
theorem bodyPostM_unit {fn : Func} {R : Ending → World → Prop} {a : Act} {n0 : Nat} {e : Exit} (he : e = .ret ∨ e = .normal) (hres : fn.results = #[]) (h : Fits N ds r a) (hm : Marks w n0 ds)
    (hR : ∀ w', Keep (fun k => n0 ≤ k) w w' → R (.returned (.tuple #[])) w') : bodyPostM Fence.wide 0 P fn R e a w := by
  obtain ⟨Ds, rfl, hnd, hd⟩ := hm
  have : LeavesInM Fence.wide 0 P fn a.tmps R a.defers .returning w := by
    rw [h.defers]
    exact leavesM Ds w hnd hd (fun w' hk => ⟨_, results_none hres _ _ _, hR w' (hk.mono (fun k _ hm => (hd k hm).1))⟩)
  rcases he with rfl | rfl <;> exact this
theorem bodyPostM_cell1 {fn : Func} {R : Ending → World → Prop} {t : Nat} {ct t' : TypeId} {b : Nat} {v : Value} {a : Act} {n0 : Nat} (hres : fn.results = #[.cell t ct]) (h : Fits N ds r a) (hl : look r t = some (.pointer (some ⟨b, 0, none⟩)))
    (ht : flatB P ct = true) (hr : Row w b [v] t') (hb : b < n0) (hm : Marks w n0 ds)
    (hR : ∀ w', Keep (fun k => n0 ≤ k) w w' → R (.returned v) w') : bodyPostM Fence.wide 0 P fn R .ret a w := by
  obtain ⟨Ds, rfl, hnd, hd⟩ := hm
  show LeavesInM Fence.wide 0 P fn a.tmps R a.defers .returning w
  rw [h.defers]
  refine leavesM Ds w hnd hd (fun w' hk => ?_)
  have hk' := hk.mono (S' := fun k => n0 ≤ k) (fun k _ hm => (hd k hm).1)
  have hr' : Row w' b [v] t' := hk'.row hr (by omega)
  exact ⟨v, by simp [results, hres, h.get _ _ hl, asAddr, run_loadVar_flat ht (hr'.cell 0)], hR w' hk'⟩

theorem WC.scope {c : Code} (h : WC none P (Exit.noGoto Q) N ds c r w) : WC none P Q N ds (.scope c) r w := fun a ha => wpIn_wide.2 (wp_scope_straight (wpIn_wide.1 (h a ha)))
theorem WC.label {l : Nat} (h : ∀ a, Fits N ds r a → Q .normal a w) : WC ro P Q N ds (.label l) r w := fun a ha => wpIn_label (h a ha)
theorem WC.label' {l : Nat} {c : Code} {Q' : Exit → Act → World → Prop} (h : WC ro P Q' N ds c r w) (hq : ∀ a w, c.wpIn (Wd ro) 0 P Q' a w → Q .normal a w) : WC ro P Q N ds (.label l) r w := fun a ha => wpIn_label (hq a w (h a ha))
theorem exit_scope {id : Nat} {a : Act} (h : Q (.exit id) a w) : Exit.noGoto Q (.exit id) a w := h
theorem ret_scope {a : Act} (h : Q .ret a w) : Exit.noGoto Q .ret a w := h
end
end Go.Proofs.Ytaggidjijekpbaa
