/- A region whose order is open: what each operation comes to holds in every later world, so every order comes to the same. -/
import Derived.Test.YtaggidjijekpbaaSx
import Derived.OrdersIn
namespace Go.Proofs.Ytaggidjijekpbaa
open Go.RowKit

/-- edges point back; the first m1 operations write, each, a place of its own; the others come behind them, one after the other -/
def upTo (m k : Nat) : Array Bool := ((List.range m).map fun i => Nat.blt i k).toArray
/-- operation i waits, over at most that many others, for operation j -/
def reachB (ops : Array Oper) : Nat → Nat → Nat → Bool
  | 0, i, j => match ops[i]? with | some o => o.after.any fun e => e.on == j && Region.binds .any e | none => false
  | n + 1, i, j => match ops[i]? with | some o => (o.after.any fun e => e.on == j && Region.binds .any e) || (o.after.any fun e => Region.binds .any e && reachB ops n e.on j) | none => false
theorem reachB_listed {ops : Array Oper} {listed : Array Bool} (hcl : ∀ (i : Nat) (o : Oper), listed.getD i false = true → ops[i]? = some o → ∀ e ∈ o.after, Region.binds .any e = true → listed.getD e.on false = true) :
    ∀ (n i j : Nat) (o : Oper), ops[i]? = some o → (∀ e ∈ o.after, Region.binds .any e = true → listed.getD e.on false = true) → reachB ops n i j = true → listed.getD j false = true := by
  intro n
  induction n with
  | zero =>
    intro i j o ho ha h
    simp only [reachB, ho, ← Array.any_toList, List.any_eq_true, Bool.and_eq_true, beq_iff_eq] at h
    obtain ⟨e, he, rfl, hb⟩ := h
    exact ha e (by simpa using he) hb
  | succ n ih =>
    intro i j o ho ha h
    simp only [reachB, ho, Bool.or_eq_true, ← Array.any_toList, List.any_eq_true, Bool.and_eq_true, beq_iff_eq] at h
    rcases h with ⟨e, he, rfl, hb⟩ | ⟨e, he, hb, hr⟩
    · exact ha e (by simpa using he) hb
    · have hl := ha e (by simpa using he) hb
      have hs : ∃ o', ops[e.on]? = some o' := by
        cases hq : ops[e.on]? with
        | none => cases n <;> simp [reachB, hq] at hr
        | some o' => exact ⟨o', rfl⟩
      obtain ⟨o', ho'⟩ := hs
      exact ih e.on j o' ho' (hcl _ _ hl ho') hr
def drawB (ops : Array Oper) (m1 : Nat) (ds : List Nat) : Bool :=
  Nat.ble m1 ops.size && ds.length == m1 && ds.eraseDups.length == m1 &&
  ((List.range ops.size).all fun i => match ops[i]? with
    | some o => o.after.all (fun e => !Region.binds .any e || Nat.blt e.on i) &&
      (bif Nat.blt i m1 then o.dst == ds[i]? else (List.range m1).all fun j => reachB ops 3 i j)
    | none => false) &&
  ((List.range (ops.size - m1)).all fun j => Region.ready .any ops (upTo ops.size (m1 + j)) == [m1 + j])

theorem upTo_size (m k : Nat) : (upTo m k).size = m := by simp [upTo]
theorem upTo_get (m k i : Nat) (b : Bool) (h : i < m) : (upTo m k).getD i b = decide (i < k) := by
  have : (upTo m k)[i]? = some (Nat.blt i k) := by simp [upTo, h]
  simp only [Array.getD_eq_getD_getElem?, this, Option.getD_some]
  rw [Bool.eq_iff_iff]; simp
theorem upTo_set (m k : Nat) (_h : k < m) : (upTo m k).setIfInBounds k true = upTo m (k + 1) := by
  apply Array.ext_getElem?
  intro i
  by_cases hi : i < m
  · by_cases e : k = i
    · subst e; simp [upTo, hi]
    · rw [Array.getElem?_setIfInBounds_ne e]
      simp only [upTo, List.getElem?_toArray, List.getElem?_map, List.getElem?_range hi, Option.map_some, Option.some.injEq]
      rw [Bool.eq_iff_iff]; simp; omega
  · rw [Array.getElem?_eq_none (by simp [upTo]; omega), Array.getElem?_eq_none (by simp [upTo]; omega)]

section
variable {ro : Option Nat} {P : Program} {Q : Exit → Act → World → Prop} {N : Nat} {ds : List Deferred} {r : Reg} {w : World}

theorem Oper.wpIn_monoQ {F : Fence} {n : Nat} {o : Oper} {a : Act} {w : World} {K : Act → World → Prop} {Q Q' : Exit → Act → World → Prop} (h : ∀ e a w, e ≠ .normal → Q e a w → Q' e a w)
    (hh : o.wpIn F n P a w K Q) : o.wpIn F n P a w K Q' := by
  unfold Oper.wpIn at *
  refine ⟨hh.1, ?_⟩
  have hh := hh.2
  have hlo : LetsOut Q → LetsOut Q' := fun ⟨a, w, q⟩ => ⟨a, w, h _ _ _ (by simp) q⟩
  generalize (o.semAt F.round a.eval).run P w = r at *
  cases r with
  | ok x w' =>
    cases x <;> simp only [Oper.uponIn] at hh ⊢ <;>
      first
        | exact hh
        | exact ⟨hh.1, CallsIn.mono hh.2 (fun e w'' he => by cases e <;> first | exact he | exact h _ _ _ (by simp) he | exact hlo he)⟩
        | exact ⟨hh.1, RoundIn.mono hh.2 (fun e w'' he => by cases e <;> first | exact he | exact h _ _ _ (by simp) he | exact hlo he)⟩
  | halt x w' => cases x <;> simp only [Oper.uponIn] at hh ⊢ <;> first | exact hh | exact h _ _ _ (by simp) hh

/-- one operation by itself -/
theorem one_op {ops : Array Oper} {i : Nat} {o : Oper} (ho : ops[i]? = some o) {K : Act → World → Prop} {a : Act} {w : World}
    (h : wpListIn (Wd ro) 0 P ops (Exit.then K Q) [o] a w) : wpOpIn (Wd ro) 0 P ops Q i K a w := by
  unfold wpOpIn
  simp only [ho]
  simp only [wpListIn] at h
  split
  · rename_i hw; rw [if_pos hw] at h
    exact Oper.wpIn_monoQ (Q := Exit.then K Q) (fun e a w he q => by cases e <;> first | exact absurd rfl he | exact q) h
  · rename_i hw; rw [if_neg hw] at h; exact h

theorem any_seq {l : List Oper} (k : Nat) : ∀ (j : Nat) (a : Act) (w : World), k + j = l.length →
    ((List.range j).all fun q => Region.ready .any l.toArray (upTo l.length (k + q)) == [k + q]) = true → wpListIn (Wd ro) 0 P l.toArray Q (l.drop k) a w →
    wpAnyIn (Wd ro) 0 P .any l.toArray Q j (upTo l.length k) a w := by
  intro j
  induction j generalizing k with
  | zero =>
    intro a w hk _ h
    rw [List.drop_of_length_le (by omega)] at h
    refine ⟨?_, h⟩
    apply List.eq_nil_iff_forall_not_mem.2
    intro i hi
    rw [mem_ready] at hi
    obtain ⟨h1, o, ho, _⟩ := hi
    have hlt : i < l.length := by simpa using (Array.getElem?_eq_some_iff.1 ho).1
    rw [upTo_get _ _ _ _ hlt] at h1
    simp at h1; omega
  | succ j ih =>
    intro a w hk hall h
    have hlt : k < l.length := by omega
    rw [List.all_eq_true] at hall
    have hr : Region.ready .any l.toArray (upTo l.length k) = [k] := by
      have := hall 0 (by simp); simpa using this
    refine ⟨(fun h0 => by rw [hr] at h0; cases h0), fun i hi => ?_⟩
    rw [hr] at hi
    have : i = k := by simpa using hi
    subst this
    have ho : l.toArray[i]? = some l[i] := by simp [hlt]
    rw [List.drop_eq_getElem_cons hlt] at h
    refine wpOpIn_mono (K := fun a w => wpListIn (Wd ro) 0 P l.toArray Q (l.drop (i + 1)) a w) (fun a w h => ?_) ?_
    · rw [upTo_set _ _ hlt]
      refine ih (i + 1) a w (by omega) ?_ h
      rw [List.all_eq_true]
      intro q hq
      have := hall (q + 1) (by simp at hq ⊢; omega)
      have e : i + 1 + q = i + (q + 1) := by omega
      rw [e]; exact this
    · unfold wpOpIn
      simp only [ho]
      exact h

/-- the boxes that a region's operations have laid: by the place that names each -/
abbrev Boxes := List (Nat × Nat)
structure BExt (w : World) (β β' : Boxes) : Prop where
  sub : ∀ x, x ∈ β → x ∈ β'
  new : ∀ x, x ∈ β' → x ∈ β ∨ w.heap.size ≤ x.2
theorem BExt.refl (w : World) (β : Boxes) : BExt w β β := ⟨fun _ h => h, fun _ h => .inl h⟩
structure BInv (w0 w : World) (β : Boxes) : Prop where
  lo : ∀ x, x ∈ β → w0.heap.size ≤ x.2
  hi : ∀ x, x ∈ β → x.2 < w.heap.size
  one : ∀ x y, x ∈ β → y ∈ β → x.2 = y.2 → x = y
theorem BInv.ext {w0 w w' : World} {β : Boxes} (h : BInv w0 w β) (e : Ext w w') : BInv w0 w' β := ⟨h.lo, fun x hx => Nat.lt_of_lt_of_le (h.hi x hx) e.size, h.one⟩
theorem BInv.cons {w0 w w' : World} {β : Boxes} {d b : Nat} (h : BInv w0 w β) (e : Ext w w') (h0 : w0.heap.size ≤ w.heap.size) (hb : w.heap.size ≤ b) (hb' : b < w'.heap.size) : BInv w0 w' ((d, b) :: β) := by
  refine ⟨?_, ?_, ?_⟩
  · intro x hx
    cases hx with
    | head => omega
    | tail _ hx => exact h.lo x hx
  · intro x hx
    cases hx with
    | head => exact hb'
    | tail _ hx => exact (h.ext e).hi x hx
  · intro x y hx hy he
    cases hx with
    | head =>
      cases hy with
      | head => rfl
      | tail _ hy => have := h.hi y hy; dsimp only at he; omega
    | tail _ hx =>
      cases hy with
      | head => have := h.hi x hx; dsimp only at he; omega
      | tail _ hy => exact h.one x y hx hy he
theorem BExt.cons {w : World} {β : Boxes} {d b : Nat} (hb : w.heap.size ≤ b) : BExt w β ((d, b) :: β) :=
  ⟨fun _ h => .tail _ h, fun x h => by cases h with | head => exact .inr hb | tail _ h => exact .inl h⟩
abbrev Post := Value → World → Boxes → Prop
def KW (P : Post) : Prop := ∀ v w w' β β', Ext w w' → BExt w β β' → P v w β → P v w' β'
def KWs : List Post → Prop
  | [] => True
  | p :: ps => KW p ∧ KWs ps
theorem KWs.get {ps : List Post} (h : KWs ps) : ∀ p ∈ ps, KW p := by
  induction ps with
  | nil => intro p hp; cases hp
  | cons q ps ih =>
    intro p hp
    cases hp with
    | head => exact h.1
    | tail _ hp => exact ih h.2 p hp
inductive StepsOn (Φ : Oper → Nat → Post → Prop) : List Oper → List Nat → List Post → Prop
  | nil (l : List Oper) : StepsOn Φ l [] []
  | cons {o : Oper} {d : Nat} {p : Post} {l : List Oper} {dl : List Nat} {ps : List Post} (h : Φ o d p) (t : StepsOn Φ l dl ps) : StepsOn Φ (o :: l) (d :: dl) (p :: ps)
theorem StepsOn.get {Φ : Oper → Nat → Post → Prop} {l : List Oper} {dl : List Nat} {ps : List Post} (h : StepsOn Φ l dl ps) : ∀ (i : Nat) (o : Oper) (d : Nat) (p : Post), l[i]? = some o → dl[i]? = some d → ps[i]? = some p → Φ o d p := by
  induction h with
  | nil => intro i o d p _ hd _; simp at hd
  | cons h _ ih =>
    intro i o d p ho hd hp
    cases i with
    | zero => simp at ho hd hp; subst ho; subst hd; subst hp; exact h
    | succ i => exact ih i o d p (by simpa using ho) (by simpa using hd) (by simpa using hp)

theorem look_append (a b : Reg) (t : Nat) : look (a ++ b) t = (look a t).or (look b t) := by
  induction a with
  | nil => simp [look]
  | cons x a ih =>
    obtain ⟨k, v⟩ := x
    simp only [List.cons_append, look]
    cases Nat.beq k t <;> simp [ih]
/-- what κ says, ρ says -/
def agree (κ ρ : Reg) : Prop := ∀ t v, look κ t = some v → look ρ t = some v
theorem agree_nil (ρ : Reg) : agree [] ρ := fun _ _ h => by simp [look] at h
theorem agree_cons {κ ρ : Reg} {k : Nat} {v : Value} (hk : look ρ k = some v) (h : agree κ ρ) : agree ((k, v) :: κ) ρ := subReg_cons (r := ρ) hk h
theorem WL.know {all : Array Oper} {ops : List Oper} {ρ : Reg} (κ : Reg) (hk : agree κ ρ) (h : WL ro P all Q N ds ops (κ ++ ρ) w) : WL ro P all Q N ds ops ρ w := by
  intro a ha
  refine h a (ha.weaken fun t v hv => ?_)
  rw [look_append] at hv
  cases hl : look κ t with
  | none => rw [hl] at hv; simpa using hv
  | some u => rw [hl] at hv; simp at hv; subst hv; exact hk t u hl
theorem WL.weaken {all : Array Oper} {ops : List Oper} {ρ ρ' : Reg} (hr : subReg ρ ρ') (h : WL ro P all Q N ds ops ρ' w) : WL ro P all Q N ds ops ρ w := fun a ha => h a (ha.weaken hr)
/-- what is known of the places written: in σ -/
def Known (dl : List Nat) (posts : List Post) (σ : Reg) (w : World) (β : Boxes) (i : Nat) : Prop :=
  ∀ (d : Nat) (p : Post), dl[i]? = some d → posts[i]? = some p → ∃ v, look σ d = some v ∧ p v w β
theorem look_right {r σ : Reg} {d : Nat} {v : Value} (hr : look r d = none) (h : look σ d = some v) : look (r ++ σ) d = some v := by rw [look_append, hr]; simpa using h

theorem WC.draw {id : Nat} {l : List Oper} (m1 : Nat) (dl : List Nat) (posts : List Post) (hB : drawB l.toArray m1 dl = true) (hf : P.follows .mixedOrders = true)
    (hps : KWs posts) (hpl : posts.length = m1)
    (hr : dl.all (fun d => (look r d).isNone) = true) (hN : dl.all (fun d => Nat.blt d N) = true)
    (steps : StepsOn (fun o d p => ∀ (σ : Reg) (β : Boxes) w', Ext w w' → BInv w w' β →
      (∀ j, (o.after.any fun e => e.on == j && Region.binds .any e) = true → Known dl posts σ w' β j) →
      ∃ κ, agree κ (r ++ σ) ∧ WL ro P l.toArray (Exit.then (fun a2 w2 => ∃ v β', Fits N ds ((d, v) :: (κ ++ (r ++ σ))) a2 ∧ Ext w' w2 ∧ BExt w' β β' ∧ BInv w w2 β' ∧ p v w2 β') Q) N ds [o] (κ ++ (r ++ σ)) w') l dl posts)
    (fin : ∀ (σ : Reg) (β : Boxes) w', Ext w w' → BInv w w' β → (∀ j, j < m1 → Known dl posts σ w' β j) → WL ro P l.toArray Q N ds (l.drop m1) (r ++ σ) w') :
    WC ro P Q N ds (.region id l.toArray true) r w := by
  intro a ha
  have step := steps.get
  have hp := hps.get
  simp only [drawB, Bool.and_eq_true, List.all_eq_true, beq_iff_eq] at hB
  obtain ⟨⟨⟨⟨hm1, hdl⟩, hnd0⟩, hops⟩, hseq⟩ := hB
  have hm1 : m1 ≤ l.length := by simpa using Nat.le_of_ble_eq_true hm1
  have hnd : ∀ i j d : Nat, dl[i]? = some d → dl[j]? = some d → i = j := by
    have key : ∀ (q : List Nat), q.eraseDups.length = q.length → q.Nodup := by
      intro q
      induction q with
      | nil => intro _; simp
      | cons x q ih =>
        intro h
        rw [List.eraseDups_cons] at h
        simp only [List.length_cons] at h
        have h1 : (q.filter fun b => !b == x).eraseDups.length ≤ (q.filter fun b => !b == x).length := by
          have : ∀ (n : Nat) (z : List Nat), z.length ≤ n → z.eraseDups.length ≤ z.length := by
            intro n
            induction n with
            | zero => intro z hz; have : z = [] := List.eq_nil_of_length_eq_zero (by omega); subst this; simp
            | succ n ihn =>
              intro z hz
              cases z with
              | nil => simp
              | cons y z =>
                rw [List.eraseDups_cons]
                have h2 := List.length_filter_le (fun b => !b == y) z
                have := ihn (z.filter fun b => !b == y) (by simp at hz; omega)
                simp only [List.length_cons]; omega
          exact this _ _ (Nat.le_refl _)
        have h2 := List.length_filter_le (fun b => !b == x) q
        have h3 : (q.filter fun b => !b == x).length = q.length := by omega
        have h4 : q.filter (fun b => !b == x) = q := List.filter_eq_self.2 (List.length_filter_eq_length_iff.1 h3)
        refine List.nodup_cons.2 ⟨fun hm => ?_, ih (by rw [h4] at h; omega)⟩
        have := List.length_filter_eq_length_iff.1 h3 x hm
        simp at this
    have hq := key dl (by rw [hnd0, hdl])
    intro i j d hi hj
    exact (List.getElem?_inj (List.getElem?_eq_some_iff.1 hi).1 hq).1 (hi.trans hj.symm)
  have hdst : ∀ i, i < m1 → ∃ o d, l[i]? = some o ∧ o.dst = some d ∧ dl[i]? = some d := by
    intro i hi
    have h := hops i (by simp; omega)
    have ho : l.toArray[i]? = some l[i] := by simp
    rw [ho] at h
    simp only [Bool.and_eq_true] at h
    have hb : Nat.blt i m1 = true := by simpa using hi
    rw [hb] at h
    have h2 := h.2
    simp only [cond_true, beq_iff_eq] at h2
    have : i < dl.length := by omega
    refine ⟨l[i], dl[i], by simp, by rw [h2]; simp, by simp⟩
  refine wpIn_region_any hf ?_
  have hw1 : Ext w { w with drawn := w.drawn + 1 } := (Below.refl _ w).drew
  -- the walk
  have main : ∀ (fuel : Nat) (listed : Array Bool) (a : Act) (w' : World), listed.size = l.length → (listed.toList.filter fun b => !b).length = fuel →
      (∀ i, m1 ≤ i → i < l.length → listed.getD i true = false) → (∀ (i : Nat) (o : Oper), listed.getD i false = true → l.toArray[i]? = some o → ∀ e ∈ o.after, Region.binds .any e = true → listed.getD e.on false = true) → (∃ σ β, Fits N ds (r ++ σ) a ∧ BInv w w' β ∧ ∀ i, listed.getD i false = true → Known dl posts σ w' β i) → Ext w w' →
      wpAnyIn (Wd ro) 0 P .any l.toArray Q fuel listed a w' := by
    intro fuel
    induction fuel with
    | zero =>
      intro listed a w' hsz hfu hsuf hcl ⟨σ, β, hfit, hbi, hpo⟩ hE
      have hall : ∀ i, i < l.length → listed.getD i false = true := by
        intro i hi
        have hmem : listed[i]'(by omega) ∈ listed.toList := by simp
        have hnil : listed.toList.filter (fun b => !b) = [] := List.eq_nil_of_length_eq_zero hfu
        have := List.filter_eq_nil_iff.1 hnil _ hmem
        have hlt : i < listed.size := by omega
        simp only [Array.getD_eq_getD_getElem?, Array.getElem?_eq_getElem hlt, Option.getD_some]
        simpa using this
      have hm : m1 = l.length := by
        rcases Nat.lt_or_ge m1 l.length with h | h
        · have h1 := hsuf m1 (Nat.le_refl _) h
          have h2 := hall m1 h
          have hlt : m1 < listed.size := by omega
          simp only [Array.getD_eq_getD_getElem?, Array.getElem?_eq_getElem hlt, Option.getD_some] at h1 h2
          rw [h1] at h2; cases h2
        · omega
      have hf := fin σ β w' hE hbi (fun i hi => hpo i (hall i (by omega))) a hfit
      rw [List.drop_of_length_le (by omega)] at hf
      refine ⟨?_, hf⟩
      apply List.eq_nil_iff_forall_not_mem.2
      intro i hi
      rw [mem_ready] at hi
      obtain ⟨h1, o, ho, _⟩ := hi
      have hlt : i < l.length := by simpa using (Array.getElem?_eq_some_iff.1 ho).1
      have h2 := hall i hlt
      have hlt' : i < listed.size := by omega
      simp only [Array.getD_eq_getD_getElem?, Array.getElem?_eq_getElem hlt', Option.getD_some] at h1 h2
      rw [h1] at h2; cases h2
    | succ fuel ih =>
      intro listed a w' hsz hfu hsuf hcl ⟨σ, β, hfit, hbi, hpo⟩ hE
      by_cases hdone : ∀ i, i < m1 → listed.getD i false = true
      · -- the first part is over
        have hl : listed = upTo l.length m1 := by
          apply Array.ext_getElem?
          intro i
          by_cases hi : i < l.length
          · have hlt : i < listed.size := by omega
            rw [Array.getElem?_eq_getElem hlt]
            have hu : (upTo l.length m1)[i]? = some (Nat.blt i m1) := by simp [upTo, hi]
            rw [hu]
            rcases Nat.lt_or_ge i m1 with h | h
            · have := hdone i h
              simp only [Array.getD_eq_getD_getElem?, Array.getElem?_eq_getElem hlt, Option.getD_some] at this
              rw [this]; simp; exact h
            · have := hsuf i h hi
              simp only [Array.getD_eq_getD_getElem?, Array.getElem?_eq_getElem hlt, Option.getD_some] at this
              rw [this]; congr 1; symm; rw [Bool.eq_false_iff]; simp; omega
          · rw [Array.getElem?_eq_none (by omega), Array.getElem?_eq_none (by simp [upTo]; omega)]
        subst hl
        have hfuel : fuel + 1 = l.length - m1 := by
          rw [← hfu]
          have : ∀ m k : Nat, k ≤ m → ((upTo m k).toList.filter fun b => !b).length = m - k := by
            intro m k hk
            simp only [upTo, List.filter_map, List.length_map]
            have e : ((fun b => !b) ∘ fun i => Nat.blt i k) = fun i => decide (k ≤ i) := by
              funext i; simp only [Function.comp]; rw [Bool.eq_iff_iff]; simp only [Bool.not_eq_true', decide_eq_true_eq, Bool.eq_false_iff, ne_eq, Nat.blt_eq]; omega
            rw [e]
            have : ∀ m, k ≤ m → ((List.range m).filter fun i => decide (k ≤ i)).length = m - k := by
              intro m
              induction m with
              | zero => intro _; simp
              | succ m ihm =>
                intro hk
                rw [List.range_succ, List.filter_append, List.length_append]
                rcases Nat.lt_or_ge m k with h | h
                · have : ((List.range m).filter fun i => decide (k ≤ i)) = [] := List.filter_eq_nil_iff.2 (fun x hx => by simp at hx ⊢; omega)
                  rw [this]; simp [h]; omega
                · rw [ihm h]; simp [h]; omega
            exact this m hk
          exact this _ _ hm1
        rw [hfuel]
        refine any_seq m1 _ a w' (by omega) ?_ (fin σ β w' hE hbi (fun i hi => hpo i (hdone i hi)) a hfit)
        rw [List.all_eq_true]
        intro q hq
        have := hseq q (by simpa using hq)
        simpa using this
      · -- one more of the first part
        have hex : ∃ i, i < m1 ∧ listed.getD i false = false := by
          refine Classical.byContradiction fun hne => hdone fun i hi => ?_
          cases hb : listed.getD i false with
          | true => rfl
          | false => exact absurd ⟨i, hi, hb⟩ hne
        have conv : ∀ i, i < l.length → listed.getD i true = listed.getD i false := by
          intro i hi
          have hlt : i < listed.size := by omega
          simp only [Array.getD_eq_getD_getElem?, Array.getElem?_eq_getElem hlt, Option.getD_some]
        refine ⟨fun hnil => ?_, fun i hi => ?_⟩
        · -- something is always ready
          exfalso
          obtain ⟨i0, hi0, hb0⟩ := hex
          have : ∃ i, i < m1 ∧ listed.getD i false = false ∧ ∀ j, j < i → listed.getD j false = true := by
            have strong : ∀ n i, i ≤ n → i < m1 → listed.getD i false = false → ∃ i, i < m1 ∧ listed.getD i false = false ∧ ∀ j, j < i → listed.getD j false = true := by
              intro n
              induction n with
              | zero => intro i hi h1 h2; exact ⟨i, h1, h2, fun j hj => by omega⟩
              | succ n ihn =>
                intro i hi h1 h2
                by_cases hall : ∀ j, j < i → listed.getD j false = true
                · exact ⟨i, h1, h2, hall⟩
                · obtain ⟨j, hj, hjb⟩ : ∃ j, j < i ∧ listed.getD j false = false := by
                    refine Classical.byContradiction fun hne => hall fun j hj => ?_
                    cases hb : listed.getD j false with
                    | true => rfl
                    | false => exact absurd ⟨j, hj, hb⟩ hne
                  exact ihn j (by omega) (by omega) hjb
            exact strong i0 i0 (Nat.le_refl _) hi0 hb0
          obtain ⟨i, hi, hbi, hlow⟩ := this
          have hmem : i ∈ Region.ready .any l.toArray listed := by
            rw [mem_ready]
            refine ⟨by rw [conv i (by omega)]; exact hbi, l[i], by simp, fun e he hbnd => hlow _ ?_⟩
            have h := hops i (by simp; omega)
            have ho : l.toArray[i]? = some l[i] := by simp
            rw [ho] at h
            simp only [Bool.and_eq_true, Array.all_eq_true_iff_forall_mem] at h
            have h1 := h.1 e he
            rw [hbnd] at h1
            simpa using h1
          rw [hnil] at hmem; cases hmem
        · have hi' := hi
          rw [mem_ready] at hi
          obtain ⟨hb, o, ho, hafter⟩ := hi
          have hlt : i < l.length := by simpa using (Array.getElem?_eq_some_iff.1 ho).1
          have him : i < m1 := by
            rcases Nat.lt_or_ge i m1 with h | h
            · exact h
            · exfalso
              apply hdone
              intro j hj
              have hh := hops i (by simpa using hlt)
              rw [ho] at hh
              simp only [Bool.and_eq_true] at hh
              have hbl : Nat.blt i m1 = false := by rw [Bool.eq_false_iff]; simp; omega
              rw [hbl] at hh
              have h2 := hh.2
              simp only [cond_false, List.all_eq_true] at h2
              exact reachB_listed hcl 3 i j o ho hafter (h2 j (by simpa using hj))
          obtain ⟨o', d, ho', hd, hdl'⟩ := hdst i him
          have hoo : o = o' := by
            have : l.toArray[i]? = l[i]? := by simp
            rw [this, ho'] at ho; cases ho; rfl
          subst hoo
          have hpi : ∃ p, posts[i]? = some p := ⟨posts[i]'(by omega), by simp⟩
          obtain ⟨p, hpp⟩ := hpi
          have hdN : d < N := by
            have := List.all_eq_true.1 hN d (List.mem_of_getElem? hdl')
            simpa using this
          obtain ⟨κ, hκ, hs⟩ := step i o d p ho' hdl' hpp σ β w' hE hbi (fun j hj => by
            rw [← Array.any_toList, List.any_eq_true] at hj
            obtain ⟨e, he, hb⟩ := hj
            simp only [Bool.and_eq_true, beq_iff_eq] at hb
            obtain ⟨rfl, hb⟩ := hb
            exact hpo _ (hafter e (by simpa using he) hb))
          have hfit2 : Fits N ds (κ ++ (r ++ σ)) a := hfit.weaken (fun t v hv => by
            rw [look_append] at hv
            cases hl : look κ t with
            | none => rw [hl] at hv; simpa using hv
            | some u => rw [hl] at hv; simp at hv; subst hv; exact hκ t u hl)
          refine wpOpIn_mono ?_ (one_op ho (hs a hfit2))
          rintro a2 w2 ⟨v, β', hf2, hE2, hbe, hbi2, hpv⟩
          have hrd : look r d = none := by
            have := List.all_eq_true.1 hr d (List.mem_of_getElem? hdl')
            simpa using this
          refine ih _ _ _ (by simp [hsz]) ?_ ?_ ?_ ⟨(d, v) :: σ, β', ?_, hbi2, ?_⟩ (hE.trans hE2)
          · -- one fewer
            have : ∀ (q : List Bool) (i : Nat), q[i]? = some false → ((q.set i true).filter fun b => !b).length + 1 = (q.filter fun b => !b).length := by
              intro q
              induction q with
              | nil => intro i h; simp at h
              | cons x q ihq =>
                intro i h
                cases i with
                | zero => simp at h; subst h; simp
                | succ i =>
                  simp at h
                  have := ihq i h
                  cases x <;> simp [] <;> omega
            have hget : listed.toList[i]? = some false := by
              have hlt' : i < listed.size := by omega
              simp only [Array.getD_eq_getD_getElem?, Array.getElem?_eq_getElem hlt', Option.getD_some] at hb
              simp [hlt', hb]
            have h2 := this listed.toList i hget
            rw [Array.toList_setIfInBounds]
            omega
          · intro j hj1 hj2
            rw [getD_set_ne true (by omega)]; exact hsuf j hj1 hj2
          · have mono : ∀ q, listed.getD q false = true → (listed.setIfInBounds i true).getD q false = true := by
              intro q hq
              by_cases e : i = q
              · subst e
                have hlt' : i < listed.size := by omega
                simp [Array.getD_eq_getD_getElem?, hlt']
              · rw [getD_set_ne false e]; exact hq
            intro q oq hq hoq e he hbd
            by_cases e1 : i = q
            · subst e1
              rw [ho] at hoq; cases hoq
              exact mono _ (hafter e he hbd)
            · rw [getD_set_ne false e1] at hq
              exact mono _ (hcl q oq hq hoq e he hbd)
          · refine hf2.weaken (fun t u hu => ?_)
            rw [look_append] at hu
            simp only [look]
            cases hb : Nat.beq d t with
            | true =>
              have : d = t := Nat.eq_of_beq_eq_true hb
              subst this
              rw [hrd] at hu
              simp only [look, hb, cond_true, Option.or_some, Option.some.injEq] at hu ⊢
              exact hu
            | false =>
              simp only [cond_false]
              rw [look_append]
              have hu2 : look (r ++ σ) t = some u := by
                rw [look_append]
                cases hlr : look r t with
                | some q => rw [hlr] at hu; simpa using hu
                | none => rw [hlr] at hu; simp only [look, hb, cond_false, Option.none_or] at hu ⊢; exact hu
              cases hl : look κ t with
              | none => simpa using hu2
              | some q => have := hκ t q hl; rw [hu2] at this; cases this; rfl
          · intro j hlj d' p' hd' hp'
            by_cases e : i = j
            · subst e
              rw [hdl'] at hd'; cases hd'
              rw [hpp] at hp'; cases hp'
              exact ⟨v, by simp [look], hpv⟩
            · rw [getD_set_ne false e] at hlj
              obtain ⟨u, hu, hpu⟩ := hpo j hlj d' p' hd' hp'
              have hne : d ≠ d' := fun h => by subst h; exact e (hnd i j d hdl' hd')
              refine ⟨u, ?_, hp p' (List.mem_of_getElem? hp') u w' w2 β β' hE2 hbe hpu⟩
              have : Nat.beq d d' = false := Bool.eq_false_iff.2 (fun h => hne (Nat.eq_of_beq_eq_true h))
              simp only [look, this, cond_false]; exact hu
  have hno : ∀ i, (Array.replicate l.toArray.size false).getD i false = true → False := by
    intro i hl
    have : (Array.replicate l.toArray.size false).getD i false = false := by
      simp only [Array.getD_eq_getD_getElem?]
      by_cases hi : i < l.length
      · simp [hi]
      · rw [Array.getElem?_eq_none (by simp; omega)]; rfl
    rw [this] at hl; cases hl
  exact main _ _ a _ (by simp) (by simp) (fun i _ hi => by have hi' : i < l.toArray.size := (by simpa using hi); simp [hi]) (fun i o hl _ => (hno i hl).elim) ⟨[], [], by simpa using ha, ⟨by simp, by simp, by simp⟩, fun i hl => (hno i hl).elim⟩ hw1
/-! ### the posts -/
def pc (x : Value) : Post := fun v _ _ => v = x
theorem KW_pc (x : Value) : KW (pc x) := fun _ _ _ _ _ _ _ h => h
end
end Go.Proofs.Ytaggidjijekpbaa
