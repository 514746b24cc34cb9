/- Sets of bytes as four words, and orders made of orders: in plain Lean. No program in sight. -/
import Derived.Test.YtaggidjijekpbaaLawT
namespace Go.Proofs.Ytaggidjijekpbaa
namespace Nd
def W64 (x : Int) : Prop := 0 ≤ x ∧ x < 18446744073709551616
def SOk (s : S4) : Prop := W64 s.a ∧ W64 s.b ∧ W64 s.c ∧ W64 s.d
instance (x : Int) : Decidable (W64 x) := by unfold W64; infer_instance
instance (s : S4) : Decidable (SOk s) := by unfold SOk; infer_instance
def wbit (x : Int) (i : Nat) : Bool := (BitVec.ofInt 64 x).getLsbD i
def sbit (s : S4) (c : Nat) : Bool := wbit (S4get s (c / 64)) (c % 64)
theorem S4get_ok {s : S4} (h : SOk s) (i : Nat) : W64 (S4get s i) := by
  unfold S4get
  split
  · exact h.1
  · exact h.2.1
  · exact h.2.2.1
  · exact h.2.2.2
theorem wrap64 (n : Int) (h : W64 n) : IntKind.u64.wrap n = n := by
  exact IntWalk.u64_in n ⟨h.1, by have := h.2; omega⟩
theorem bv_wrap (x : BitVec 64) : IntKind.u64.wrap (x.toNat : Int) = (x.toNat : Int) := wrap64 _ ⟨by omega, by have := x.isLt; omega⟩
theorem bv_ok (x : BitVec 64) : W64 (x.toNat : Int) := ⟨by omega, by have := x.isLt; omega⟩
theorem wbit_bv (x : BitVec 64) (i : Nat) : wbit (x.toNat : Int) i = x.getLsbD i := by
  unfold wbit
  have : BitVec.ofInt 64 (x.toNat : Int) = x := by
    apply BitVec.eq_of_toNat_eq
    rw [BitVec.toNat_ofInt]
    have := x.isLt
    omega
  rw [this]
theorem w_ext {x y : Int} (hx : W64 x) (hy : W64 y) (h : ∀ i, i < 64 → wbit x i = wbit y i) : x = y := by
  have e : BitVec.ofInt 64 x = BitVec.ofInt 64 y := BitVec.eq_of_getLsbD_eq (fun i hi => h i hi)
  have := congrArg BitVec.toNat e
  rw [BitVec.toNat_ofInt, BitVec.toNat_ofInt] at this
  unfold W64 at hx hy
  omega
theorem s_ext {s t : S4} (hs : SOk s) (ht : SOk t) (h : ∀ c, c < 256 → sbit s c = sbit t c) : s = t := by
  have key : ∀ i, i < 4 → S4get s i = S4get t i := by
    intro i hi
    refine w_ext (S4get_ok hs i) (S4get_ok ht i) (fun j hj => ?_)
    have := h (i * 64 + j) (by omega)
    unfold sbit at this
    rw [show (i * 64 + j) / 64 = i by omega, show (i * 64 + j) % 64 = j by omega] at this
    exact this
  have h0 := key 0 (by omega)
  have h1 := key 1 (by omega)
  have h2 := key 2 (by omega)
  have h3 := key 3 (by omega)
  cases s; cases t
  simp only [S4get] at h0 h1 h2 h3
  subst h0; subst h1; subst h2; subst h3; rfl
def andI (a b : Int) : Int := IntKind.u64.wrap ((BitVec.ofInt IntKind.u64.bits a &&& BitVec.ofInt IntKind.u64.bits b).toNat : Int)
def lessI (a b : Int) : Int := IntKind.u64.wrap ((BitVec.ofInt IntKind.u64.bits a &&& ~~~BitVec.ofInt IntKind.u64.bits b).toNat : Int)
theorem orI_bv (a b : Int) : orI a b = ((BitVec.ofInt 64 a ||| BitVec.ofInt 64 b).toNat : Int) := bv_wrap _
theorem lessI_bv (a b : Int) : lessI a b = ((BitVec.ofInt 64 a &&& ~~~BitVec.ofInt 64 b).toNat : Int) := bv_wrap _
theorem andI_bv (a b : Int) : andI a b = ((BitVec.ofInt 64 a &&& BitVec.ofInt 64 b).toNat : Int) := bv_wrap _
theorem wbit_or (a b : Int) (i : Nat) : wbit (orI a b) i = (wbit a i || wbit b i) := by rw [orI_bv, wbit_bv]; simp [wbit]
theorem wbit_and (a b : Int) (i : Nat) : wbit (andI a b) i = (wbit a i && wbit b i) := by rw [andI_bv, wbit_bv]; simp [wbit]
theorem wbit_less (a b : Int) {i : Nat} (hi : i < 64) : wbit (lessI a b) i = (wbit a i && !wbit b i) := by rw [lessI_bv, wbit_bv]; simp [wbit, hi]
def eachS (f : Int → Int → Int) (s t : S4) : S4 := ⟨f s.a t.a, f s.b t.b, f s.c t.c, f s.d t.d⟩
theorem S4get_each (f : Int → Int → Int) (s t : S4) (i : Nat) : S4get (eachS f s t) i = f (S4get s i) (S4get t i) := by
  unfold S4get eachS; split <;> rfl
def orS (s t : S4) : S4 := eachS orI s t
def andS (s t : S4) : S4 := eachS andI s t
def lessS (s t : S4) : S4 := eachS lessI s t
theorem each_ok {f : Int → Int → Int} (hf : ∀ a b, W64 (f a b)) (s t : S4) : SOk (eachS f s t) := ⟨hf _ _, hf _ _, hf _ _, hf _ _⟩
theorem orI_ok (a b : Int) : W64 (orI a b) := by rw [orI_bv]; exact bv_ok _
theorem lessI_ok (a b : Int) : W64 (lessI a b) := by rw [lessI_bv]; exact bv_ok _
theorem andI_ok (a b : Int) : W64 (andI a b) := by rw [andI_bv]; exact bv_ok _
theorem sbit_or (s t : S4) (c : Nat) : sbit (orS s t) c = (sbit s c || sbit t c) := by unfold sbit orS; rw [S4get_each, wbit_or]
theorem sbit_and (s t : S4) (c : Nat) : sbit (andS s t) c = (sbit s c && sbit t c) := by unfold sbit andS; rw [S4get_each, wbit_and]
theorem sbit_less (s t : S4) (c : Nat) : sbit (lessS s t) c = (sbit s c && !sbit t c) := by unfold sbit lessS; rw [S4get_each, wbit_less _ _ (by omega)]
/-- what the program's test for a byte computes -/
theorem hasI {x : Int} (h : W64 x) {i : Nat} (hi : i < 64) : (andI (x.fdiv (2 ^ (min i IntKind.u64.bits))) 1 == 1) = wbit x i := by
  obtain ⟨n, rfl⟩ : ∃ n : Nat, x = n := ⟨x.toNat, by have := h.1; omega⟩
  have hn : n < 18446744073709551616 := by have := h.2; omega
  have e1 : min i IntKind.u64.bits = i := by simp [IntKind.bits]; omega
  have e2 : (n : Int).fdiv (2 ^ i) = ((n >>> i : Nat) : Int) := by
    rw [Int.fdiv_eq_ediv_of_nonneg _ (by exact Int.le_of_lt (Int.pow_pos (by decide)))]
    rw [Nat.shiftRight_eq_div_pow]
    simp
  have e3 : ∀ m : Nat, m < 18446744073709551616 → (BitVec.ofInt 64 (m : Int)).toNat = m := by
    intro m hm; rw [BitVec.toNat_ofInt]; omega
  rw [e1, e2, andI_bv]
  have h1 : n >>> i < 18446744073709551616 := Nat.lt_of_le_of_lt (Nat.shiftRight_le _ _) hn
  have e4 : (BitVec.ofInt 64 ((n >>> i : Nat) : Int) &&& BitVec.ofInt 64 1).toNat = (n >>> i) % 2 := by
    rw [BitVec.toNat_and, e3 _ h1]
    have : (BitVec.ofInt 64 1).toNat = 1 := rfl
    rw [this, Nat.and_one_is_mod]
  rw [e4]
  unfold wbit
  rw [← BitVec.testBit_toNat, e3 _ hn, Nat.testBit_eq_decide_div_mod_eq, Nat.shiftRight_eq_div_pow, Bool.eq_iff_iff]
  simp only [beq_iff_eq, decide_eq_true_eq]
  omega
def firstS (s : S4) : Option Nat := (List.range 256).find? (sbit s)
def cmpS (s t : S4) : Int := match firstS (orS (lessS s t) (lessS t s)) with | .none => 0 | .some c => if sbit s c then -1 else 1

def eachK (f : Int → Int → Int) (s t : S4) : Nat → S4
  | 0 => zero
  | k + 1 => S4put (eachK f s t k) k (f (S4get s k) (S4get t k))
theorem eachK4 (f : Int → Int → Int) (s t : S4) : eachK f s t 4 = eachS f s t := rfl
theorem firstS_lt {s : S4} {c : Nat} (h : firstS s = some c) : c < 256 := by
  have := List.mem_of_find?_eq_some h; simpa using this
/-- the bytes of a set, in order -/
def bytes (s : S4) : List Nat := (List.range 256).filter (sbit s)
theorem firstS_eq (s : S4) : firstS s = (bytes s)[0]? := by
  unfold firstS bytes; rw [← List.head?_filter, List.head?_eq_getElem?]
/-- how many bytes below k a set has -/
def upTo (s : S4) (k : Nat) : Nat := ((List.range k).filter (sbit s)).length
theorem upTo_succ (s : S4) (k : Nat) : upTo s (k + 1) = upTo s k + (if sbit s k then 1 else 0) := by
  unfold upTo; rw [List.range_succ, List.filter_append, List.length_append]
  by_cases h : sbit s k <;> simp [h]
theorem bytes_at {s : S4} {k : Nat} (hk : k < 256) (h : sbit s k = true) : (bytes s)[upTo s k]? = some k := by
  have e : List.range 256 = List.range k ++ (k :: List.range' (k + 1) (255 - k)) := by
    rw [List.range_eq_range', List.range_eq_range', show 256 = k + (1 + (255 - k)) by omega, ← List.range'_append_1, ← List.range'_append_1]
    simp [List.range'_one]
  unfold bytes upTo
  rw [e, List.filter_append, List.getElem?_append_right (Nat.le_refl _), Nat.sub_self, List.filter_cons, if_pos h]; rfl
theorem upTo256 (s : S4) : upTo s 256 = (bytes s).length := rfl
theorem and63 : ∀ c : Fin 256, IntKind.u8.wrap ((BitVec.ofInt IntKind.u8.bits (c.val : Int) &&& BitVec.ofInt IntKind.u8.bits 63).toNat : Int) = ((c.val % 64 : Nat) : Int) := by decide +kernel
theorem shr6 : ∀ c : Fin 256, (c.val : Int).fdiv (2 ^ (min 6 IntKind.u8.bits)) = ((c.val / 64 : Nat) : Int) := by decide +kernel
/-! ### orders -/
/-- what an order is on the things of which P speaks -/
structure Ord3 {α : Type} (P : α → Prop) (cmp : α → α → Int) : Prop where
  bd : ∀ a b, P a → P b → -1 ≤ cmp a b ∧ cmp a b ≤ 1
  eq : ∀ a b, P a → P b → (cmp a b = 0 ↔ a = b)
  anti : ∀ a b, P a → P b → cmp b a = -cmp a b
  trans : ∀ a b c, P a → P b → P c → cmp a b ≤ 0 → cmp b c ≤ 0 → cmp a c ≤ 0
def cmpL {α : Type} (cmp : α → α → Int) : List α → List α → Int
  | [], [] => 0
  | [], _ :: _ => -1
  | _ :: _, [] => 1
  | x :: xs, y :: ys => if cmp x y ≠ 0 then cmp x y else cmpL cmp xs ys
theorem Ord3.lt {α : Type} {P : α → Prop} {cmp : α → α → Int} (h : Ord3 P cmp) {a b c : α} (ha : P a) (hb : P b) (hc : P c) (h1 : cmp a b ≤ 0) (h2 : cmp b c ≤ 0) (h3 : cmp a c = 0) : cmp a b = 0 ∧ cmp b c = 0 := by
  have e := (h.eq a c ha hc).1 h3
  subst e
  have := h.anti a b ha hb
  omega
theorem cmpL_ord {α : Type} {cmp : α → α → Int} {P : α → Prop} (h : Ord3 P cmp) : Ord3 (fun l : List α => ∀ x ∈ l, P x) (cmpL cmp) := by
  refine ⟨?_, ?_, ?_, ?_⟩
  · intro a
    induction a with
    | nil => intro b _ _; cases b <;> simp [cmpL]
    | cons x a ih =>
      intro b ha hb
      cases b with
      | nil => simp [cmpL]
      | cons y b =>
        simp only [cmpL]
        split
        · exact h.bd x y (ha x (by simp)) (hb y (by simp))
        · exact ih b (fun z hz => ha z (by simp [hz])) (fun z hz => hb z (by simp [hz]))
  · intro a
    induction a with
    | nil => intro b _ _; cases b <;> simp [cmpL]
    | cons x a ih =>
      intro b ha hb
      cases b with
      | nil => simp [cmpL]
      | cons y b =>
        have hx := h.eq x y (ha x (by simp)) (hb y (by simp))
        have hr := ih b (fun z hz => ha z (by simp [hz])) (fun z hz => hb z (by simp [hz]))
        simp only [cmpL]
        by_cases hc : cmp x y = 0
        · rw [if_neg (by simp [hc]), hr, hx.1 hc]; simp
        · rw [if_pos hc]
          constructor
          · intro h0; exact absurd h0 hc
          · intro he; simp only [List.cons.injEq] at he; exact absurd (hx.2 he.1) hc
  · intro a
    induction a with
    | nil => intro b _ _; cases b <;> simp [cmpL]
    | cons x a ih =>
      intro b ha hb
      cases b with
      | nil => simp [cmpL]
      | cons y b =>
        have hx := h.anti x y (ha x (by simp)) (hb y (by simp))
        have hr := ih b (fun z hz => ha z (by simp [hz])) (fun z hz => hb z (by simp [hz]))
        simp only [cmpL]
        by_cases hc : cmp x y = 0
        · have hc' : cmp y x = 0 := by rw [hx, hc]; rfl
          rw [if_neg (fun h => h hc'), if_neg (fun h => h hc)]; exact hr
        · have hc' : cmp y x ≠ 0 := by rw [hx]; omega
          rw [if_pos hc', if_pos hc]; exact hx
  · intro a
    induction a with
    | nil => intro b c _ _ _ _ _; cases c <;> simp [cmpL]
    | cons x a ih =>
      intro b c ha hb hc h1 h2
      cases b with
      | nil => simp [cmpL] at h1
      | cons y b =>
        cases c with
        | nil => simp [cmpL] at h2
        | cons z c =>
          have px := ha x (by simp)
          have py := hb y (by simp)
          have pz := hc z (by simp)
          have hr := ih b c (fun z hz => ha z (by simp [hz])) (fun z hz => hb z (by simp [hz])) (fun z hz => hc z (by simp [hz]))
          simp only [cmpL] at h1 h2 ⊢
          by_cases q1 : cmp x y = 0
          · have e := (h.eq x y px py).1 q1
            subst e
            rw [if_neg (by simp [q1])] at h1
            by_cases q2 : cmp x z = 0
            · rw [if_neg (by simp [q2])] at h2 ⊢; exact hr h1 h2
            · rw [if_pos q2] at h2 ⊢; exact h2
          · rw [if_pos q1] at h1
            by_cases q2 : cmp y z = 0
            · have e := (h.eq y z py pz).1 q2
              subst e
              rw [if_pos q1]; exact h1
            · rw [if_pos q2] at h2
              have q3 := h.trans x y z px py pz h1 h2
              by_cases q4 : cmp x z = 0
              · have := h.lt px py pz h1 h2 q4; exact absurd this.1 q1
              · rw [if_pos q4]; exact q3
theorem cmpL_step {α : Type} {cmp : α → α → Int} {ts us : List α} {k : Nat} {t u : α} (ht : ts[k]? = some t) (hu : us[k]? = some u) : cmpL cmp (ts.drop k) (us.drop k) = if cmp t u ≠ 0 then cmp t u else cmpL cmp (ts.drop (k + 1)) (us.drop (k + 1)) := by
  obtain ⟨h1, rfl⟩ := List.getElem?_eq_some_iff.1 ht
  obtain ⟨h2, rfl⟩ := List.getElem?_eq_some_iff.1 hu
  rw [List.drop_eq_getElem_cons h1, List.drop_eq_getElem_cons h2]; rfl
theorem cmpL_more {α : Type} {cmp : α → α → Int} {ts us : List α} {k : Nat} (h1 : k < ts.length) (h2 : us.length ≤ k) : cmpL cmp (ts.drop k) (us.drop k) = 1 := by
  rw [List.drop_eq_getElem_cons h1, List.drop_of_length_le h2]; rfl
theorem cmpL_less {α : Type} {cmp : α → α → Int} {ts us : List α} {k : Nat} (h1 : ts.length ≤ k) (h2 : k < us.length) : cmpL cmp (ts.drop k) (us.drop k) = -1 := by
  rw [List.drop_eq_getElem_cons h2, List.drop_of_length_le h1]; rfl
theorem cmpL_end {α : Type} {cmp : α → α → Int} {ts us : List α} {k : Nat} (h1 : ts.length ≤ k) (h2 : us.length ≤ k) : cmpL cmp (ts.drop k) (us.drop k) = 0 := by
  rw [List.drop_of_length_le h1, List.drop_of_length_le h2]; rfl
def pick2 (k : Nat) (x y : Int) : Int := if k = 0 then x else y
def cmpB (x y : Bool) : Int := if x = y then 0 else if x then -1 else 1
theorem cmpB_ord : Ord3 (fun _ => True) cmpB := by
  refine ⟨?_, ?_, ?_, ?_⟩
  · intro a b _ _; revert a b; decide
  · intro a b _ _; revert a b; decide
  · intro a b _ _; revert a b; decide
  · intro a b c _ _ _; revert a b c; decide
theorem find_cmp (s t : S4) (l : List Nat) : (match l.find? (fun c => sbit s c != sbit t c) with | .none => (0 : Int) | .some c => if sbit s c then -1 else 1) = cmpL cmpB (l.map (sbit s)) (l.map (sbit t)) := by
  induction l with
  | nil => rfl
  | cons x l ih =>
    simp only [List.find?_cons, List.map_cons, cmpL]
    by_cases h : sbit s x = sbit t x
    · have e : (sbit s x != sbit t x) = false := by rw [h]; simp
      have e2 : cmpB (sbit s x) (sbit t x) = 0 := by rw [h]; simp [cmpB]
      rw [e, if_neg (by simp [e2])]; exact ih
    · have e : (sbit s x != sbit t x) = true := by simpa using h
      have e2 : cmpB (sbit s x) (sbit t x) ≠ 0 := by unfold cmpB; rw [if_neg h]; split <;> decide
      rw [e, if_pos e2]
      unfold cmpB; rw [if_neg h]
theorem cmpS_eq (s t : S4) : cmpS s t = cmpL cmpB ((List.range 256).map (sbit s)) ((List.range 256).map (sbit t)) := by
  rw [← find_cmp]
  unfold cmpS firstS
  have : sbit (orS (lessS s t) (lessS t s)) = fun c => sbit s c != sbit t c := by
    funext c; rw [sbit_or, sbit_less, sbit_less]; cases sbit s c <;> cases sbit t c <;> rfl
  rw [this]
theorem cmpS_ord : Ord3 SOk cmpS := by
  have h := cmpL_ord cmpB_ord
  refine ⟨fun a b _ _ => ?_, fun a b ha hb => ?_, fun a b _ _ => ?_, fun a b c _ _ _ => ?_⟩
  · rw [cmpS_eq]; exact h.bd _ _ (fun _ _ => trivial) (fun _ _ => trivial)
  · rw [cmpS_eq, h.eq _ _ (fun _ _ => trivial) (fun _ _ => trivial)]
    constructor
    · intro he
      refine s_ext ha hb (fun c hc => ?_)
      have := List.map_inj_left.1 he c (by simpa using hc)
      exact this
    · rintro rfl; rfl
  · rw [cmpS_eq, cmpS_eq]; exact h.anti _ _ (fun _ _ => trivial) (fun _ _ => trivial)
  · rw [cmpS_eq, cmpS_eq, cmpS_eq]; exact h.trans _ _ _ (fun _ _ => trivial) (fun _ _ => trivial) (fun _ _ => trivial)
theorem cmpI_ord : Ord3 (fun _ => True) cmpI := by
  refine ⟨fun a b _ _ => ?_, fun a b _ _ => ?_, fun a b _ _ => ?_, fun a b c _ _ _ => ?_⟩
  · unfold cmpI; (repeat' split) <;> omega
  · unfold cmpI; (repeat' split) <;> omega
  · unfold cmpI; (repeat' split) <;> omega
  · unfold cmpI; (repeat' split) <;> omega
end Nd
end Go.Proofs.Ytaggidjijekpbaa
