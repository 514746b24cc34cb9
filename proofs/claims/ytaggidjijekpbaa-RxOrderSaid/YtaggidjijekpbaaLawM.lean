/- What Made makes is clean and small: in plain Lean. No program in sight. -/
import Derived.Test.YtaggidjijekpbaaLawT
namespace Go.Proofs.Ytaggidjijekpbaa
namespace Nd
/-- steps of bytes -/
def Bytes (xs : List (Int × Int × Int)) : Prop := ∀ x ∈ xs, 0 ≤ x.1 ∧ 0 ≤ x.2.1 ∧ 0 ≤ x.2.2
theorem two3 : Two 3 1 Nd.empty := .inl ⟨rfl, rfl, rfl⟩
theorem two4 : Two 4 0 Nd.none := .inr ⟨rfl, rfl, rfl⟩
theorem L12_set : ∀ l ∈ L12, (setB l != zero) = true := by decide
theorem lettersS_mem (n : Int) : lettersS n ∈ L12 := by
  unfold lettersS
  have h : (n.tmod 12).toNat < 12 := by
    have h1 := Int.tmod_lt_of_pos n (show (0 : Int) < 12 by decide)
    omega
  have h2 : (n.tmod 12).toNat < L12.length := h
  rw [List.getElem?_eq_getElem h2]; exact List.getElem_mem h2
theorem class_nice (n : Int) : (classS (lettersS n)).nice = true := by
  refine nice_mk ?_ (fun u hu => by cases hu)
  have h := L12_set _ (lettersS_mem n)
  unfold classS right
  simp only [kind, set, least, most, subs, h]; simp
theorem class_gr (l : List UInt8) : (classS l).gr = 0 := by unfold classS; rw [gr_mk]; rfl
theorem class_posn (l : List UInt8) : (classS l).posn = 1 := by unfold classS; rw [posn_mk]; rfl
theorem class_size (l : List UInt8) : (classS l).size = 1 := rfl
theorem group_nice {t : Nd} (h : t.nice = true) : (mk 6 zero 0 0 [t]).nice = true := nice_mk rfl (fun u hu => by simp [subs] at hu; subst hu; exact h)
theorem group_gr (t : Nd) : (mk 6 zero 0 0 [t]).gr = 1 + t.gr := by rw [gr_mk, grL_cons, grL_nil]; rfl
theorem group_posn (t : Nd) : (mk 6 zero 0 0 [t]).posn = t.posn := by
  rw [posn_mk]; have := posn_bd t; simp [posnL]; unfold minI; split <;> omega
theorem rep_nice {t : Nd} {mn mx : Int} (h : t.nice = true) (hk : t.kind ≠ 1) (hb : bounds mn mx = true) : (mk 5 zero mn mx [t]).nice = true := by
  refine nice_mk ?_ (fun u hu => by simp [subs] at hu; subst hu; exact h)
  have a := has_no (t := mk 5 zero mn mx [t]) (k := 1) (fun u hu => by simp [subs] at hu; subst hu; exact hk)
  unfold right
  simp only [kind, set, least, most, subs, a, hb]; simp
theorem rep_gr (t : Nd) (mn mx : Int) : (mk 5 zero mn mx [t]).gr = t.gr := by rw [gr_mk, grL_cons, grL_nil]; simp
theorem rep_posn (t : Nd) (mn mx : Int) : (mk 5 zero mn mx [t]).posn = minI (t.posn * minI (tms mn mx) 10001) 10001 := by
  rw [posn_mk]; simp [posnL]
theorem rep_posn_le {t : Nd} {mn mx m : Int} (hm : tms mn mx ≤ m) : (mk 5 zero mn mx [t]).posn ≤ t.posn * m := by
  rw [rep_posn]
  have h1 := posn_bd t
  have h2 : minI (tms mn mx) 10001 ≤ m := by unfold minI; split <;> omega
  have h3 := Int.mul_le_mul_of_nonneg_left h2 h1.1
  have h4 : ∀ z : Int, minI z 10001 ≤ z := fun z => by unfold minI; split <;> omega
  exact Int.le_trans (h4 _) h3
theorem bounds_most {a b : Int} (ha : 0 ≤ a ∧ a ≤ 2) (hb : 0 ≤ b ∧ b ≤ 3) : bounds a (mostM a b) = true ∧ tms a (mostM a b) ≤ max3 a (mostM a b) 1 := by
  have ea : a = 0 ∨ a = 1 ∨ a = 2 := by omega
  have eb : b = 0 ∨ b = 1 ∨ b = 2 ∨ b = 3 := by omega
  rcases ea with rfl | rfl | rfl <;> rcases eb with rfl | rfl | rfl | rfl <;> decide
theorem mod_bd {x n : Int} (hx : 0 ≤ x) (hn : 0 < n) : 0 ≤ x.tmod n ∧ x.tmod n ≤ n - 1 := by
  have := Int.tmod_lt_of_pos x hn
  have := Int.tmod_nonneg n hx
  omega
theorem max3_bd {a b : Int} (ha : a ≤ 2) (hb : b ≤ 3) : 1 ≤ max3 a b 1 ∧ max3 a b 1 ≤ 16 := by
  unfold max3; (repeat' split) <;> omega
theorem top_mem {l : List Nd} (h : 0 < l.length) : top l ∈ l := by
  unfold top; rw [List.getElem?_eq_getElem (by omega)]; exact List.getElem_mem _
theorem top2_mem {l : List Nd} (h : 1 < l.length) : top2 l ∈ l := by
  unfold top2; rw [List.getElem?_eq_getElem (by omega)]; exact List.getElem_mem _
theorem split1 {l : List Nd} (h : 0 < l.length) : l = l.take (l.length - 1) ++ [top l] := by
  have hl : l[l.length - 1]? = some (l[l.length - 1]'(by omega)) := by simp
  have e : l.take (l.length - 1 + 1) = l := List.take_of_length_le (by omega)
  rw [List.take_add_one, hl] at e
  unfold top; rw [hl]; exact e.symm
theorem split2 {l : List Nd} (h : 1 < l.length) : l = l.take (l.length - 2) ++ [top2 l, top l] := by
  have hl : l[l.length - 2]? = some (l[l.length - 2]'(by omega)) := by simp
  have h1 := split1 (l := l) (by omega)
  have e : l.length - 1 = l.length - 2 + 1 := by omega
  rw [e, List.take_add_one, hl] at h1
  have : top2 l = l[l.length - 2]'(by omega) := by unfold top2; rw [hl]; rfl
  rw [this]; simp only [Option.toList_some, List.append_assoc, List.cons_append, List.nil_append] at h1; exact h1
theorem set_top {l : List Nd} (h : 0 < l.length) (t : Nd) : l.set (l.length - 1) t = l.take (l.length - 1) ++ [t] := by
  rw [List.set_eq_take_append_cons_drop, if_pos (by omega), List.drop_of_length_le (by omega)]
theorem posnL_one (t : Nd) : posnL [t] = t.posn := by simp [posnL]
/-- what the steps keep besides -/
structure MN (s : M3) (k : Nat) : Prop where
  nice : ∀ t ∈ s.pile, t.nice = true
  gr : (grL s.pile : Int) ≤ s.g
  posn : posnL s.pile ≤ k * s.u
  ku : (k : Int) ≤ 25
theorem MN_step {s : M3} {k : Nat} (h0 : MB s k) (h : MN s k) (hk : k < 25) {x : Int × Int × Int} (hx : 0 ≤ x.1 ∧ 0 ≤ x.2.1 ∧ 0 ≤ x.2.2) : MN (stepM s x) (k + 1) := by
  obtain ⟨hn, hg, hp, hku⟩ := h
  obtain ⟨_, _, u1, u2, _, _⟩ := h0
  have ha := mod_bd (x := x.2.1) (n := 3) hx.2.1 (by decide)
  have hb := mod_bd (x := x.2.2) (n := 4) hx.2.2 (by decide)
  have hbd := bounds_most (a := x.2.1.tmod 3) (b := x.2.2.tmod 4) (by omega) (by omega)
  unfold stepM
  dsimp only
  generalize x.1.tmod 12 = kk
  generalize mostM (x.2.1.tmod 3) (x.2.2.tmod 4) = mx at hbd
  generalize x.2.1.tmod 3 = mn at hbd
  have hk1 : ((k + 1 : Nat) : Int) ≤ 25 := by omega
  have hku1 : ((k + 1 : Nat) : Int) * s.u = k * s.u + s.u := by rw [Int.natCast_add, Int.add_mul]; simp
  have triv : MN s (k + 1) := ⟨hn, hg, by omega, hk1⟩
  have add : ∀ t : Nd, t.nice = true → t.gr = 0 → t.posn ≤ 1 → MN { s with pile := s.pile ++ [t] } (k + 1) := fun t h1 h2 h3 =>
    ⟨fun u hu => by rcases List.mem_append.1 hu with hu | hu; exact hn u hu; simp at hu; subst hu; exact h1, by rw [grL_append, grL_cons, grL_nil]; simp only; omega, by rw [posnL_append, posnL_one]; simp only; omega, hk1⟩
  have hku16 : (k : Int) * s.u ≤ 400 := by
    have := Int.mul_le_mul hku u2 (by omega) (by omega); omega
  have join : ∀ kd wo e, Two kd wo e → 1 < s.pile.length → MN { s with pile := s.pile.take (s.pile.length - 2) ++ [joins kd (top2 s.pile) (top s.pile)] } (k + 1) := by
    intro kd wo e h2 hl
    have e1 := split2 hl
    have n1 := hn _ (top_mem (l := s.pile) (by omega))
    have n2 := hn _ (top2_mem hl)
    have g1 : grL s.pile = grL (s.pile.take (s.pile.length - 2)) + ((top2 s.pile).gr + (top s.pile).gr) := by
      conv => lhs; rw [e1]
      rw [grL_append, grL_cons, grL_cons, grL_nil]; omega
    have p1 : posnL s.pile = posnL (s.pile.take (s.pile.length - 2)) + ((top2 s.pile).posn + (top s.pile).posn) := by
      conv => lhs; rw [e1]
      rw [posnL_append]; simp [posnL]
    have p2 := posnL_bd (s.pile.take (s.pile.length - 2))
    have g2 := joins_gr h2 n2 n1
    have p3 := joins_posn h2 n2 n1 (by omega)
    refine ⟨fun u hu => ?_, ?_, ?_, hk1⟩
    · rcases List.mem_append.1 hu with hu | hu
      · exact hn u (List.mem_of_mem_take hu)
      · simp at hu; subst hu; exact joins_nice h2 n2 n1
    · simp only; rw [grL_append, grL_cons, grL_nil, g2]; omega
    · simp only; rw [posnL_append, posnL_one, p3]; omega
  have g1 : 0 < s.pile.length → grL s.pile = grL (s.pile.take (s.pile.length - 1)) + (top s.pile).gr := fun hl => by
    conv => lhs; rw [split1 hl]
    rw [grL_append, grL_cons, grL_nil]; omega
  have p1 : 0 < s.pile.length → posnL s.pile = posnL (s.pile.take (s.pile.length - 1)) + (top s.pile).posn := fun hl => by
    conv => lhs; rw [split1 hl]
    rw [posnL_append]; simp [posnL]
  cases c1 : decide (kk < 4) with
  | true => exact add _ (class_nice _) (class_gr _) (by rw [class_posn]; omega)
  | false =>
    cases c2 : (kk == 4) with
    | true => exact add _ rfl rfl (by decide)
    | false =>
      simp only [cond_false]
      cases c3 : (decide (kk < 7) && decide (1 < (s.pile.length : Int))) with
      | true =>
        simp only [Bool.and_eq_true, decide_eq_true_eq] at c3
        exact join 3 1 _ two3 (by omega)
      | false =>
        simp only [cond_false]
        cases c4 : (decide (kk < 9) && decide (1 < (s.pile.length : Int))) with
        | true =>
          simp only [Bool.and_eq_true, decide_eq_true_eq] at c4
          exact join 4 0 _ two4 (by omega)
        | false =>
          simp only [cond_false]
          cases c5 : ((kk == 9) && decide (0 < (s.pile.length : Int)) && decide (s.g < 9)) with
          | true =>
            simp only [Bool.and_eq_true, decide_eq_true_eq] at c5
            have hl : 0 < s.pile.length := by omega
            have q1 := g1 hl
            have q2 := p1 hl
            simp only [cond_true]
            refine ⟨fun u hu => ?_, ?_, ?_, hk1⟩
            · simp only [set_top hl] at hu
              rcases List.mem_append.1 hu with hu | hu
              · exact hn u (List.mem_of_mem_take hu)
              · simp at hu; subst hu; exact group_nice (hn _ (top_mem hl))
            · simp only [set_top hl]; rw [grL_append, grL_cons, grL_nil, group_gr]; omega
            · simp only [set_top hl]; rw [posnL_append, posnL_one, group_posn]; omega
          | false =>
            simp only [cond_false]
            cases c6 : (decide (9 < kk) && decide (0 < (s.pile.length : Int)) && ((top s.pile).kind != 1)) with
            | true =>
              simp only [Bool.and_eq_true, decide_eq_true_eq, bne_iff_ne] at c6
              simp only [cond_true]
              have hl : 0 < s.pile.length := by omega
              have q1 := g1 hl
              have q2 := p1 hl
              cases c7 : decide (s.u * max3 mn mx 1 ≤ 16) with
              | true =>
                simp only [cond_true]
                have hm := max3_pos mn mx
                have r1 := rep_posn_le (t := top s.pile) hbd.2
                have r2 := posnL_bd (s.pile.take (s.pile.length - 1))
                refine ⟨fun u hu => ?_, ?_, ?_, hk1⟩
                · simp only [set_top hl] at hu
                  rcases List.mem_append.1 hu with hu | hu
                  · exact hn u (List.mem_of_mem_take hu)
                  · simp at hu; subst hu; exact rep_nice (hn _ (top_mem hl)) c6.2 hbd.1
                · simp only [set_top hl]; rw [grL_append, grL_cons, grL_nil, rep_gr]; omega
                · simp only [set_top hl]; rw [posnL_append, posnL_one]
                  generalize max3 mn mx 1 = m at *
                  have r3 : posnL (s.pile.take (s.pile.length - 1)) * 1 ≤ posnL (s.pile.take (s.pile.length - 1)) * m := Int.mul_le_mul_of_nonneg_left hm r2.1
                  have r4 : (posnL s.pile) * m ≤ (k * s.u) * m := Int.mul_le_mul_of_nonneg_right hp (by omega)
                  rw [q2, Int.add_mul] at r4
                  have r5 : ((k + 1 : Nat) : Int) * (s.u * m) = (k * s.u) * m + s.u * m := by rw [Int.natCast_add, Int.add_mul, Int.mul_assoc]; simp
                  have r6 : 0 ≤ s.u * m := Int.mul_nonneg (by omega) (by omega)
                  rw [r5]; omega
              | false => exact triv
            | false => exact triv
theorem madeSt_mn {xs : List (Int × Int × Int)} (hb : Bytes xs) (hl : xs.length ≤ 25) : MN (madeSt xs) xs.length := by
  have key : ∀ (l : List (Int × Int × Int)) (s : M3) (k : Nat), Bytes l → k + l.length ≤ 25 → MB s k → MN s k → MN (l.foldl stepM s) (k + l.length) := by
    intro l
    induction l with
    | nil => intro s k _ _ _ h; exact h
    | cons x l ih =>
      intro s k hB hk h0 h
      simp only [List.length_cons] at hk
      have := ih _ _ (fun y hy => hB y (by simp [hy])) (by omega) (MB_step h0 x) (MN_step h0 h (by omega) (hB x (by simp)))
      simp only [List.foldl_cons, List.length_cons]; rw [show k + (l.length + 1) = k + 1 + l.length by omega]; exact this
  have := key xs ⟨[], 1, 0⟩ 0 hb (by omega) ⟨by simp, by simp [sizeL], by simp, by simp, by simp, by simp⟩ ⟨by simp, by simp [grL, preL], by simp [posnL], by simp⟩
  simpa [madeSt] using this
/-- what Made makes -/
structure MadeOk (t : Nd) : Prop where
  nice : t.nice = true
  size : t.size ≤ 50
  gr : t.gr ≤ 9
  posn : t.posn ≤ 400
theorem made_ok' {xs : List (Int × Int × Int)} (hb : Bytes xs) : MadeOk (made xs) := by
  have hl : (xs.take 25).length ≤ 25 := List.length_take_le _ _
  have hB : Bytes (xs.take 25) := fun x hx => hb x (List.mem_of_mem_take hx)
  obtain ⟨n1, n2, n3, n4⟩ := madeSt_mn hB hl
  obtain ⟨m1, m2, m3, m4, m5, m6⟩ := madeSt_bd (xs.take 25)
  unfold made
  have hp : posnL (madeSt (xs.take 25)).pile ≤ 400 := by
    have := Int.mul_le_mul n4 m4 (by omega) (by omega); omega
  generalize madeSt (xs.take 25) = s at *
  obtain ⟨p, u, g⟩ := s
  simp only at *
  cases p with
  | nil => exact ⟨by decide, by decide, by decide, by decide⟩
  | cons t ts =>
    simp only [madeEnd]
    have key : ∀ (l : List Nd) (t : Nd), t.nice = true → (∀ u ∈ l, u.nice = true) → t.posn + posnL l ≤ 400 →
        (l.foldl (joins 4) t).nice = true ∧ (l.foldl (joins 4) t).gr = t.gr + grL l ∧ (l.foldl (joins 4) t).posn = t.posn + posnL l := by
      intro l
      induction l with
      | nil => intro t h _ _; exact ⟨h, by simp [grL, preL], by simp [posnL]⟩
      | cons x l ih =>
        intro t h hl hp
        simp only [posnL] at hp
        have b1 := posnL_bd l
        have e1 := joins_posn two4 h (hl x (by simp)) (by omega)
        have e2 := joins_gr two4 h (hl x (by simp))
        obtain ⟨i1, i2, i3⟩ := ih (joins 4 t x) (joins_nice two4 h (hl x (by simp))) (fun u hu => hl u (by simp [hu])) (by omega)
        simp only [List.foldl_cons]
        exact ⟨i1, by rw [i2, e2, grL_cons]; omega, by rw [i3, e1]; simp only [posnL]; omega⟩
    obtain ⟨k1, k2, k3⟩ := key ts t (n1 t (by simp)) (fun u hu => n1 u (by simp [hu])) (by simp only [posnL] at hp; omega)
    have hs := foldl_size ts t
    rw [grL_cons] at n2
    simp only [posnL] at hp
    simp only [sizeL, List.length_cons] at m1 m2
    exact ⟨k1, by omega, by rw [k2]; omega, by rw [k3]; exact hp⟩
theorem MadeOk.fine {t : Nd} (h : MadeOk t) : Fine t := ⟨h.nice, by have := h.size; omega⟩
theorem gr_eq {t : Nd} (h : t.light = true) : t.groups = t.gr := by unfold groups gr; rw [h]; simp
theorem sizes_eq {t : Nd} (h : t.light = true) : t.sizes = t.size := by unfold sizes; rw [h]; simp
theorem posns_eq {t : Nd} (h : t.light = true) : t.posns = t.posn := by unfold posns; rw [h]; simp
theorem MadeOk.check {t : Nd} (h : MadeOk t) : t.check = 0 := by
  have hl := h.fine.light
  unfold Nd.check
  rw [h.fine.clean, sizes_eq hl, posns_eq hl, gr_eq hl]
  have := h.size; have := h.gr; have := h.posn
  rw [if_neg (by simp), if_neg (by omega), if_neg (by omega), if_neg (by omega)]
end Nd
end Go.Proofs.Ytaggidjijekpbaa
