/- The trees that the laws put together, in plain Lean. No program in sight. -/
import Derived.Test.YtaggidjijekpbaaTreeB
namespace Go.Proofs.Ytaggidjijekpbaa
namespace Nd
structure M3 where
  pile : List Nd
  u : Int
  g : Int
/-- the last tree, and the last but one -/
def top (l : List Nd) : Nd := l[l.length - 1]?.getD none
def top2 (l : List Nd) : Nd := l[l.length - 2]?.getD none
def mostM (least most : Int) : Int := bif decide (most < least) || (most == 0) || ((least == 1) && (most == 1)) then -1 else most
def max3 (a b c : Int) : Int := if (if a < b then b else a) < c then c else (if a < b then b else a)
def stepM (s : M3) (x : Int × Int × Int) : M3 :=
  let k := x.1.tmod 12
  let n : Int := s.pile.length
  bif decide (k < 4) then { s with pile := s.pile ++ [classS (lettersS x.2.1)] }
  else bif k == 4 then { s with pile := s.pile ++ [empty] }
  else bif decide (k < 7) && decide (1 < n) then { s with pile := s.pile.take (s.pile.length - 2) ++ [joins 3 (top2 s.pile) (top s.pile)] }
  else bif decide (k < 9) && decide (1 < n) then { s with pile := s.pile.take (s.pile.length - 2) ++ [joins 4 (top2 s.pile) (top s.pile)] }
  else bif (k == 9) && decide (0 < n) && decide (s.g < 9) then { s with pile := s.pile.set (s.pile.length - 1) (mk 6 zero 0 0 [top s.pile]), g := s.g + 1 }
  else bif decide (9 < k) && decide (0 < n) && ((top s.pile).kind != 1) then
    bif decide (s.u * max3 (x.2.1.tmod 3) (mostM (x.2.1.tmod 3) (x.2.2.tmod 4)) 1 ≤ 16) then
      { s with pile := s.pile.set (s.pile.length - 1) (mk 5 zero (x.2.1.tmod 3) (mostM (x.2.1.tmod 3) (x.2.2.tmod 4)) [top s.pile]), u := s.u * max3 (x.2.1.tmod 3) (mostM (x.2.1.tmod 3) (x.2.2.tmod 4)) 1 }
    else s
  else s
def madeSt (l : List (Int × Int × Int)) : M3 := l.foldl stepM ⟨[], 1, 0⟩
def madeEnd (p : List Nd) : Nd := match p with | [] => classS [97] | t :: ts => ts.foldl (joins 4) t
def made (l : List (Int × Int × Int)) : Nd := madeEnd (madeSt (l.take 25)).pile
theorem madeSt_succ {l : List (Int × Int × Int)} {k : Nat} {x : Int × Int × Int} (h : l[k]? = some x) : madeSt (l.take (k + 1)) = stepM (madeSt (l.take k)) x := by
  have h1 : l.take (k + 1) = l.take k ++ [x] := by rw [List.take_add_one, h]; rfl
  rw [h1]; simp [madeSt]

theorem top_at {l : List Nd} {t : Nd} (h : l[l.length - 1]? = some t) : top l = t := by unfold top; rw [h]; rfl
theorem top2_at {l : List Nd} {t : Nd} (h : l[l.length - 2]? = some t) : top2 l = t := by unfold top2; rw [h]; rfl
theorem mul_bd {u m : Int} (h1 : 1 ≤ u) (h2 : u ≤ 16) (h3 : 1 ≤ m ∧ m ≤ 16) : 1 ≤ u * m ∧ u * m ≤ 256 := by
  have a := Int.mul_le_mul h2 h3.2 (by omega) (by omega)
  have b := Int.mul_pos (show 0 < u by omega) (show 0 < m by omega)
  omega
theorem madeEnd_at {p : List Nd} {t : Nd} (h : p[0]? = some t) : madeEnd p = (p.drop 1).foldl (joins 4) t := by
  cases p with
  | nil => simp at h
  | cons x p => simp at h; subst h; rfl
theorem madeEnd_nil {p : List Nd} (h : p.length = 0) : madeEnd p = classS [97] := by
  rw [List.eq_nil_of_length_eq_zero h]; rfl
theorem made_eq {xs : List (Int × Int × Int)} {k : Nat} {m : M3} (hst : m = madeSt ((xs.take 25).take k)) (hk : (xs.take 25).length ≤ k) : made xs = madeEnd m.pile := by
  rw [List.take_of_length_le hk] at hst
  rw [hst]; rfl
/-! sizes -/
theorem size_mk (k : Int) (s : S4) (a b : Int) (ts : List Nd) : (mk k s a b ts).size = 1 + sizeL ts := rfl
theorem flatJ1_size (kind : Int) (x : Nd) : sizeL (flatJ1 kind x) ≤ x.size := by
  unfold flatJ1
  have h1 := size_subs x
  cases (x.kind == kind) <;> cases ((kind == 3) && (x.kind == 1)) <;> simp [sizeL] <;> omega
theorem flatJ_size (kind : Int) (l : List Nd) : sizeL (flatJ kind l) ≤ sizeL l := by
  induction l with
  | nil => simp [flatJ, sizeL]
  | cons x l ih => have := flatJ1_size kind x; simp only [flatJ, List.flatMap_cons, sizeL_append, sizeL] at *; omega
theorem joinsL_size (kind : Int) (l : List Nd) : (joinsL kind l).size ≤ 1 + sizeL l := by
  unfold joinsL
  cases h0 : ((l.length : Int) == 0)
  · cases h1 : ((l.length : Int) == 1)
    · simp [size_mk]
    · simp only [cond_true, cond_false]
      cases l with
      | nil => simp at h0
      | cons x l => simp [sizeL]; omega
  · simp [empty, size_mk, sizeL]
theorem joins_size (kind : Int) (a b : Nd) : (joins kind a b).size ≤ 1 + a.size + b.size := by
  have h1 := joinsL_size kind (flatJ kind [a, b])
  have h2 := flatJ_size kind [a, b]
  simp only [sizeL] at h2
  unfold joins; omega
theorem foldl_size (l : List Nd) : ∀ t : Nd, (l.foldl (joins 4) t).size ≤ t.size + sizeL l + l.length := by
  induction l with
  | nil => intro t; simp
  | cons x l ih => intro t; have h1 := ih (joins 4 t x); have h2 := joins_size 4 t x; simp only [List.foldl_cons, sizeL, List.length_cons]; omega
theorem sizeL_take_le (l : List Nd) (k : Nat) : sizeL (l.take k) ≤ sizeL l := by
  have : sizeL (l.take k) + sizeL (l.drop k) = sizeL l := by rw [← sizeL_append, List.take_append_drop]
  omega
theorem sizeL_drop1 {l : List Nd} {t : Nd} (h : l[0]? = some t) : t.size + sizeL (l.drop 1) = sizeL l := by
  cases l with
  | nil => simp at h
  | cons x l => simp at h; subst h; simp [sizeL]
theorem top_size {l : List Nd} (h : 0 < l.length) : sizeL (l.take (l.length - 1)) + (top l).size = sizeL l := by
  have hl : l[l.length - 1]? = some (l[l.length - 1]'(by omega)) := by simp
  have : sizeL (l.take (l.length - 1 + 1)) = sizeL l := by rw [List.take_of_length_le (by omega)]
  rw [List.take_add_one, hl, sizeL_append] at this
  simp only [Option.toList_some, sizeL] at this
  unfold top
  rw [hl, Option.getD_some]; omega
theorem top2_size {l : List Nd} (h : 1 < l.length) : sizeL (l.take (l.length - 2)) + (top2 l).size + (top l).size = sizeL l := by
  have h1 := top_size (l := l) (by omega)
  have hl : l[l.length - 2]? = some (l[l.length - 2]'(by omega)) := by simp
  have e : l.length - 1 = l.length - 2 + 1 := by omega
  rw [e, List.take_add_one, hl, sizeL_append] at h1
  simp only [Option.toList_some, sizeL] at h1
  have : top2 l = l[l.length - 2]'(by omega) := by unfold top2; rw [hl]; rfl
  rw [this]; omega
theorem set_top_size {l : List Nd} (h : 0 < l.length) (t : Nd) : sizeL (l.set (l.length - 1) t) + (top l).size = sizeL l + t.size := by
  have h1 := top_size h
  have e : l.set (l.length - 1) t = l.take (l.length - 1) ++ [t] := by
    rw [List.set_eq_take_append_cons_drop]
    rw [if_pos (by omega), List.drop_of_length_le (by omega)]
  rw [e, sizeL_append]; simp only [sizeL]; omega
/-- what the steps keep -/
structure MB (s : M3) (k : Nat) : Prop where
  len : s.pile.length ≤ k
  size : sizeL s.pile ≤ k
  u1 : 1 ≤ s.u
  u2 : s.u ≤ 16
  g1 : 0 ≤ s.g
  g2 : s.g ≤ 9
theorem max3_pos (a b : Int) : 1 ≤ max3 a b 1 := by unfold max3; (repeat' split) <;> omega
theorem MB_step {s : M3} {k : Nat} (h : MB s k) (x : Int × Int × Int) : MB (stepM s x) (k + 1) := by
  obtain ⟨h1, h2, h3, h4, h5, h6⟩ := h
  unfold stepM
  dsimp only
  generalize x.1.tmod 12 = kk
  generalize mostM (x.2.1.tmod 3) (x.2.2.tmod 4) = mx
  generalize x.2.1.tmod 3 = mn
  have triv : MB s (k + 1) := ⟨by omega, by omega, h3, h4, h5, h6⟩
  have add : ∀ t : Nd, t.size = 1 → MB { s with pile := s.pile ++ [t] } (k + 1) := fun t ht => ⟨by simp; omega, by simp [sizeL_append, sizeL, ht]; omega, h3, h4, h5, h6⟩
  cases c1 : decide (kk < 4) with
  | true => exact add _ (by simp [classS, size_mk, sizeL])
  | false =>
    cases c2 : (kk == 4) with
    | true => exact add _ (by simp [empty, size_mk, sizeL])
    | false =>
      simp only [cond_false]
      cases c3 : (decide (kk < 7) && decide (1 < (s.pile.length : Int))) with
      | true =>
        simp only [Bool.and_eq_true, decide_eq_true_eq] at c3
        have h7 := top2_size (l := s.pile) (by omega)
        have h8 := joins_size 3 (top2 s.pile) (top s.pile)
        exact ⟨by simp; omega, by simp [sizeL_append, sizeL]; omega, h3, h4, h5, h6⟩
      | false =>
        simp only [cond_false]
        cases c4 : (decide (kk < 9) && decide (1 < (s.pile.length : Int))) with
        | true =>
          simp only [Bool.and_eq_true, decide_eq_true_eq] at c4
          have h7 := top2_size (l := s.pile) (by omega)
          have h8 := joins_size 4 (top2 s.pile) (top s.pile)
          exact ⟨by simp; omega, by simp [sizeL_append, sizeL]; omega, h3, h4, h5, h6⟩
        | false =>
          simp only [cond_false]
          cases c5 : ((kk == 9) && decide (0 < (s.pile.length : Int)) && decide (s.g < 9)) with
          | true =>
            simp only [Bool.and_eq_true, decide_eq_true_eq] at c5
            have h7 := set_top_size (l := s.pile) (by omega) (mk 6 zero 0 0 [top s.pile])
            simp only [size_mk, sizeL] at h7
            exact ⟨by simp; omega, by simp only [cond_true]; omega, h3, h4, by simp only [cond_true]; omega, by simp only [cond_true]; omega⟩
          | false =>
            simp only [cond_false]
            cases c6 : (decide (9 < kk) && decide (0 < (s.pile.length : Int)) && ((top s.pile).kind != 1)) with
            | true =>
              simp only [Bool.and_eq_true, decide_eq_true_eq] at c6
              simp only [cond_true]
              cases c7 : decide (s.u * max3 mn mx 1 ≤ 16) with
              | true =>
                simp only [decide_eq_true_eq] at c7
                have h7 := set_top_size (l := s.pile) (by omega) (mk 5 zero mn mx [top s.pile])
                simp only [size_mk, sizeL] at h7
                have h8 : 1 ≤ s.u * max3 mn mx 1 := Int.mul_pos (by omega) (by have := max3_pos mn mx; omega)
                exact ⟨by simp; omega, by simp only [cond_true]; omega, by simp only [cond_true]; exact h8, by simp only [cond_true]; exact c7, h5, h6⟩
              | false => exact triv
            | false => exact triv
theorem madeSt_bd : ∀ (l : List (Int × Int × Int)), MB (madeSt l) l.length := by
  have key : ∀ (l : List (Int × Int × Int)) (s : M3) (k : Nat), MB s k → MB (l.foldl stepM s) (k + l.length) := by
    intro l
    induction l with
    | nil => intro s k h; exact h
    | cons x l ih => intro s k h; have := ih _ _ (MB_step h x); simp only [List.foldl_cons, List.length_cons]; rw [show k + (l.length + 1) = k + 1 + l.length by omega]; exact this
  intro l
  have := key l ⟨[], 1, 0⟩ 0 ⟨by simp, by simp [sizeL], by simp, by simp, by simp, by simp⟩
  simpa [madeSt] using this
end Nd
end Go.Proofs.Ytaggidjijekpbaa
