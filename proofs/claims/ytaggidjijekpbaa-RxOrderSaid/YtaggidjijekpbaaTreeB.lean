/- Trees in plain Lean: more. No program in sight. -/
import Derived.Test.YtaggidjijekpbaaTree
namespace Go.Proofs.Ytaggidjijekpbaa
namespace Nd
theorem sameL_iff (ts us : List Nd) : sameL ts us = true ↔ ts = us := by
  induction ts generalizing us with
  | nil => cases us <;> simp [sameL]
  | cons x l ih => cases us <;> simp [sameL, same_iff, ih]
theorem sameL_ne {ts us : List Nd} (h : ts ≠ us) : sameL ts us = false := by
  cases hb : sameL ts us with
  | false => rfl
  | true => exact absurd ((sameL_iff _ _).1 hb) h
theorem same_eq (t u : Nd) : t.same u = (t.kind == u.kind && t.set == u.set && t.least == u.least && t.most == u.most && sameL t.subs u.subs) := by
  cases t; cases u; rfl
def checked (t : Nd) : Nd := bif t.clean then t else none
def good (t : Nd) : Bool := t.same none || t.clean
def flat1 (kind without : Int) (x : Nd) : List Nd := bif x.kind == kind then x.subs else bif x.kind == without then [] else [x]
def flat (kind without : Int) (l : List Nd) : List Nd := l.flatMap (flat1 kind without)
def joined (kind : Int) (l : List Nd) (n : Nd) : Nd :=
  bif ((l.length : Int) == 0) then n else bif ((l.length : Int) == 1) then (l[0]?.getD none).checked else (mk kind zero 0 0 l).checked
def bad0 (x : Nd) : Bool := x.kind == 0 || !x.clean
def seq (l : List Nd) : Nd := bif l.any bad0 then none else joined 3 (flat 3 1 l) empty
def or (l : List Nd) : Nd := bif l.any (fun x => !x.good) then none else joined 4 (flat 4 0 l) none
def times (n : Nd) (mn mx : Int) : Nd :=
  let zr := (mn == 0) && (mx == 0)
  let one := (mn == 1) && (mx == 1)
  bif !n.good || (!zr && !one && !bounds mn mx) then none
  else bif (n.kind == 0) && decide ((0 : Int) < mn) then none
  else bif zr || (n.kind == 0) || (n.kind == 1) then empty
  else bif one then n
  else (mk 5 zero mn mx [n]).checked
def capture (n : Nd) : Nd := (mk 6 zero 0 0 [n]).checked
def ofS (s : S4) : Nd := bif s == zero then none else mk 2 s 0 0 []
theorem flat1_len (kind without : Int) (x : Nd) : (flat1 kind without x).length ≤ x.size := by
  unfold flat1
  have h1 := size_subs x
  have h2 := length_le_sizeL x.subs
  have h3 := size_pos x
  cases (x.kind == kind) <;> cases (x.kind == without) <;> simp <;> omega
theorem flat_len (kind without : Int) (l : List Nd) : (flat kind without l).length ≤ sizeL l := by
  induction l with
  | nil => simp [flat]
  | cons x l ih => have := flat1_len kind without x; simp only [flat, List.flatMap_cons, List.length_append, sizeL] at *; omega
theorem sizeL_take {l : List Nd} {k : Nat} {t : Nd} (h : l[k]? = some t) : sizeL (l.take k) + t.size ≤ sizeL l := by
  have h1 : l.take (k + 1) = l.take k ++ [t] := by rw [List.take_add_one, h]; rfl
  have h2 : sizeL (l.take (k + 1)) + sizeL (l.drop (k + 1)) = sizeL l := by rw [← sizeL_append, List.take_append_drop]
  rw [h1, sizeL_append] at h2
  simp only [sizeL] at h2; omega
theorem flat_succ (kind without : Int) {l : List Nd} {k : Nat} {t : Nd} (h : l[k]? = some t) : flat kind without (l.take (k + 1)) = flat kind without (l.take k) ++ flat1 kind without t := by
  have h1 : l.take (k + 1) = l.take k ++ [t] := by rw [List.take_add_one, h]; rfl
  simp [flat, h1]
theorem sizeL_le {l : List Nd} (h : ∀ t ∈ l, t.size ≤ 10000) : sizeL l ≤ 10000 * l.length := by
  induction l with
  | nil => simp [sizeL]
  | cons x l ih => have := h x (by simp); have := ih (fun t ht => h t (by simp [ht])); simp [sizeL]; omega
theorem clean_size {t : Nd} (h : t.clean = true) : t.size ≤ 10000 := by simp [clean, light] at h; exact h.1
theorem good_size {t : Nd} (h : t.good = true) : t.size ≤ 10000 := by
  simp only [good, Bool.or_eq_true] at h
  rcases h with h | h
  · rw [(same_iff _ _).1 h]; simp [none, size, sizeL]
  · exact clean_size h
theorem any_at {p : Nd → Bool} {l : List Nd} {k : Nat} {t : Nd} (h : l[k]? = some t) (hp : p t = true) : l.any p = true := List.any_eq_true.2 ⟨t, List.mem_of_getElem? h, hp⟩
theorem any_no {p : Nd → Bool} {l : List Nd} {k : Nat} (hk : l.length ≤ k) (h : ∀ (m : Nat) (t : Nd), m < k → l[m]? = some t → p t = false) : l.any p = false := by
  rw [List.any_eq_false]
  intro t ht
  obtain ⟨i, hi, rfl⟩ := List.mem_iff_getElem.1 ht
  rw [h i _ (by omega) (List.getElem?_eq_getElem hi)]; simp
/-- the laws' own: what is put together without the program -/
def flatJ1 (kind : Int) (x : Nd) : List Nd := bif x.kind == kind then x.subs else bif (kind == 3) && (x.kind == 1) then [] else [x]
def flatJ (kind : Int) (l : List Nd) : List Nd := l.flatMap (flatJ1 kind)
def joinsL (kind : Int) (l : List Nd) : Nd := bif ((l.length : Int) == 0) then empty else bif ((l.length : Int) == 1) then (l[0]?.getD none) else mk kind zero 0 0 l
def joins (kind : Int) (a b : Nd) : Nd := joinsL kind (flatJ kind [a, b])
theorem flatJ_succ (kind : Int) {l : List Nd} {k : Nat} {t : Nd} (h : l[k]? = some t) : flatJ kind (l.take (k + 1)) = flatJ kind (l.take k) ++ flatJ1 kind t := by
  have h1 : l.take (k + 1) = l.take k ++ [t] := by rw [List.take_add_one, h]; rfl
  simp [flatJ, h1]
theorem flatJ1_len (kind : Int) (x : Nd) : (flatJ1 kind x).length ≤ x.size := by
  unfold flatJ1
  have h1 := size_subs x
  have h2 := length_le_sizeL x.subs
  have h3 := size_pos x
  cases (x.kind == kind) <;> cases ((kind == 3) && (x.kind == 1)) <;> simp <;> omega
theorem flatJ_len (kind : Int) (l : List Nd) : (flatJ kind l).length ≤ sizeL l := by
  induction l with
  | nil => simp [flatJ]
  | cons x l ih => have := flatJ1_len kind x; simp only [flatJ, List.flatMap_cons, List.length_append, sizeL] at *; omega
/-- the word of a set in which a byte lies, with its bit -/
def S4get (s : S4) (i : Nat) : Int := match i with | 0 => s.a | 1 => s.b | 2 => s.c | _ => s.d
def S4put (s : S4) (i : Nat) (v : Int) : S4 := match i with | 0 => { s with a := v } | 1 => { s with b := v } | 2 => { s with c := v } | _ => { s with d := v }
def orI (a b : Int) : Int := IntKind.u64.wrap ((BitVec.ofInt IntKind.u64.bits a ||| BitVec.ofInt IntKind.u64.bits b).toNat : Int)
def bit1 (c : Nat) : Int := IntKind.u64.wrap ((1 : Int) * 2 ^ (min (c % 64) IntKind.u64.bits))
def set1 (s : S4) (c : Nat) : S4 := S4put s (c / 64) (orI (S4get s (c / 64)) (bit1 c))
def setB (l : List UInt8) : S4 := l.foldl (fun s c => set1 s c.toNat) zero
def classS (l : List UInt8) : Nd := mk 2 (setB l) 0 0 []
def L12 : List (List UInt8) := [[97], [98], [97, 98], [97], [98], [99], [97, 98, 99], [98, 99], [10], [0, 255], [97], [98]]
def lettersS (n : Int) : List UInt8 := (L12[(n.tmod 12).toNat]?).getD []
theorem L12_len : ∀ l ∈ L12, l.length ≤ 100 ∧ 0 < l.length := by decide
theorem lettersS_len (n : Int) : (lettersS n).length ≤ 100 := by
  unfold lettersS
  cases h : L12[(n.tmod 12).toNat]? with
  | none => simp
  | some l => exact (L12_len l (List.mem_of_getElem? h)).1
theorem setB_succ {l : List UInt8} {k : Nat} {c : UInt8} (h : l[k]? = some c) : setB (l.take (k + 1)) = set1 (setB (l.take k)) c.toNat := by
  have h1 : l.take (k + 1) = l.take k ++ [c] := by rw [List.take_add_one, h]; rfl
  rw [h1]; simp [setB]
theorem quo64 (n : Nat) (h : n < 256) : IntKind.u8.wrap ((n : Int).tdiv 64) = ((n / 64 : Nat) : Int) := by
  have h1 : (n : Int).tdiv 64 = ((n / 64 : Nat) : Int) := by
    rw [Int.tdiv_eq_ediv_of_nonneg (by omega)]; simp
  rw [h1]
  have : n / 64 < 4 := by omega
  generalize n / 64 = q at this
  have hq : q = 0 ∨ q = 1 ∨ q = 2 ∨ q = 3 := by omega
  rcases hq with rfl | rfl | rfl | rfl <;> rfl
theorem rem64 (n : Nat) : (n : Int).tmod 64 = ((n % 64 : Nat) : Int) := by
  rw [Int.tmod_eq_emod_of_nonneg (by omega)]; simp
end Nd
end Go.Proofs.Ytaggidjijekpbaa
