/- Part 3 of the proof: walks through the program's functions, and what they compute in plain Lean. -/
import Derived.Test.YtaggidjijekpbaaPq2
import Derived.KernelRfl
set_option linter.all false
namespace Go.Proofs.Ytaggidjijekpbaa
namespace Nd
def nice (t : Nd) : Bool := t.pre.all right
theorem preL_all (p : Nd → Bool) (ts : List Nd) : (preL ts).all p = ts.all fun t => t.pre.all p := by
  induction ts with
  | nil => rfl
  | cons x l ih => simp [preL, ih]
theorem nice_eq (t : Nd) : t.nice = (t.right && t.subs.all nice) := by
  cases t with
  | mk k s mn mx ts => simp only [nice, pre, List.all_cons, preL_all, subs]; rfl
theorem clean_iff (t : Nd) : t.clean = true ↔ t.size ≤ 10000 ∧ t.nice = true := by simp [clean, light, nice]
theorem nice_right {t : Nd} (h : t.nice = true) : t.right = true := by rw [nice_eq] at h; simp at h; exact h.1
theorem nice_subs {t u : Nd} (h : t.nice = true) (hu : u ∈ t.subs) : u.nice = true := by rw [nice_eq] at h; simp at h; exact h.2 u hu
theorem nice_mk {t : Nd} (h : t.right = true) (hs : ∀ u ∈ t.subs, u.nice = true) : t.nice = true := by rw [nice_eq, h]; simpa using hs
theorem has_false {t : Nd} {k : Int} (h : t.has k = false) : ∀ u ∈ t.subs, u.kind ≠ k := by
  intro u hu he
  have : t.has k = true := List.any_eq_true.2 ⟨u, hu, by simp [he]⟩
  rw [this] at h; cases h
theorem has_no {t : Nd} {k : Int} (h : ∀ u ∈ t.subs, u.kind ≠ k) : t.has k = false := by
  unfold has; rw [List.any_eq_false]; intro u hu; simpa using h u hu
theorem right_kind {t : Nd} (h : t.right = true) : 1 ≤ t.kind ∧ t.kind ≤ 6 := by
  obtain ⟨k, s, mn, mx, ts⟩ := t
  simp only [right, kind, set, least, most, subs] at h
  show 1 ≤ k ∧ k ≤ 6
  by_cases h1 : k = 1
  · omega
  by_cases h2 : k = 2
  · omega
  by_cases h3 : k = 3
  · omega
  by_cases h4 : k = 4
  · omega
  by_cases h5 : k = 5
  · omega
  simp [h1, h2, h3, h4, h5] at h
  have := h.2.1
  omega
theorem right_three {t : Nd} {kd : Int} (h : t.right = true) (hk : t.kind = kd) (h5 : kd ≠ 5) (h2 : kd ≠ 2) : t.set = zero ∧ t.least = 0 ∧ t.most = 0 := by
  obtain ⟨k, s, mn, mx, ts⟩ := t
  simp only [right, kind, set, least, most, subs] at h hk ⊢
  subst hk
  simp [h5, h2] at h
  exact ⟨h.1.1.1, h.1.1.2⟩
theorem right_empty {t : Nd} (h : t.right = true) (hk : t.kind = 1) : t = empty := by
  obtain ⟨e1, e2, e3⟩ := right_three h hk (by decide) (by decide)
  obtain ⟨k, s, mn, mx, ts⟩ := t
  simp only [right, kind, set, least, most, subs] at h hk e1 e2 e3
  subst hk; subst e1; subst e2; subst e3
  simp at h
  subst h; rfl
theorem right_cat {t : Nd} (h : t.right = true) (hk : t.kind = 3) : 1 < t.subs.length ∧ t.has 1 = false ∧ t.has 3 = false := by
  obtain ⟨k, s, mn, mx, ts⟩ := t
  simp only [kind] at hk
  subst hk
  simp only [right, kind, set, least, most, subs] at h ⊢
  simp at h
  exact ⟨by have := of_decide_eq_true h.2.1.1; omega, h.2.1.2, h.2.2⟩
theorem right_alt {t : Nd} (h : t.right = true) (hk : t.kind = 4) : 1 < t.subs.length ∧ t.has 4 = false := by
  obtain ⟨k, s, mn, mx, ts⟩ := t
  simp only [kind] at hk
  subst hk
  simp only [right, kind, set, least, most, subs] at h ⊢
  simp at h
  exact ⟨by have := of_decide_eq_true h.2.1; omega, h.2.2⟩
def Two (kd wo : Int) (e : Nd) : Prop := (kd = 3 ∧ wo = 1 ∧ e = empty) ∨ (kd = 4 ∧ wo = 0 ∧ e = none)
def Norm (kd wo : Int) (l : List Nd) : Prop := ∀ t ∈ l, t.nice = true ∧ t.kind ≠ kd ∧ t.kind ≠ wo
def mkJ (kd : Int) (l : List Nd) (e : Nd) : Nd := match l with | [] => e | [x] => x | x :: y :: l => mk kd zero 0 0 (x :: y :: l)
theorem Norm.append {kd wo : Int} {l l' : List Nd} (h : Norm kd wo l) (h' : Norm kd wo l') : Norm kd wo (l ++ l') := by
  intro t ht
  rcases List.mem_append.1 ht with ht | ht
  · exact h t ht
  · exact h' t ht
theorem Norm.nil (kd wo : Int) : Norm kd wo [] := fun t h => by cases h
theorem Two.right {kd wo : Int} {e : Nd} (h2 : Two kd wo e) {l : List Nd} (hl : 1 < l.length) (h : Norm kd wo l) : (mk kd zero 0 0 l).right = true := by
  rcases h2 with ⟨rfl, rfl, rfl⟩ | ⟨rfl, rfl, rfl⟩
  · have a := has_no (t := mk 3 zero 0 0 l) (k := 1) (fun u hu => (h u hu).2.2)
    have b := has_no (t := mk 3 zero 0 0 l) (k := 3) (fun u hu => (h u hu).2.1)
    simp only [Nd.right, kind, set, least, most, subs, a, b]
    simp; exact decide_eq_true (by omega)
  · have a := has_no (t := mk 4 zero 0 0 l) (k := 4) (fun u hu => (h u hu).2.1)
    simp only [Nd.right, kind, set, least, most, subs, a]
    simp; exact decide_eq_true (by omega)
theorem Two.norm {kd wo : Int} {e : Nd} (h2 : Two kd wo e) {t : Nd} (h : t.nice = true) : Norm kd wo (flat1 kd wo t) := by
  have hr := nice_right h
  have hk := right_kind hr
  unfold flat1
  by_cases e1 : t.kind = kd
  · rw [show (t.kind == kd) = true by simpa using e1]
    simp only [cond_true]
    intro u hu
    refine ⟨nice_subs h hu, ?_⟩
    rcases h2 with ⟨rfl, rfl, rfl⟩ | ⟨rfl, rfl, rfl⟩
    · have := right_cat hr e1
      exact ⟨has_false this.2.2 u hu, has_false this.2.1 u hu⟩
    · have := right_alt hr e1
      refine ⟨has_false this.2 u hu, ?_⟩
      have := right_kind (nice_right (nice_subs h hu)); omega
  · rw [show (t.kind == kd) = false by simpa using e1]
    by_cases e2 : t.kind = wo
    · rw [show (t.kind == wo) = true by simpa using e2]; exact Norm.nil _ _
    · rw [show (t.kind == wo) = false by simpa using e2]
      simp only [cond_false]
      intro u hu
      simp at hu; subst hu
      exact ⟨h, e1, e2⟩
theorem Two.back {kd wo : Int} {e : Nd} (h2 : Two kd wo e) {t : Nd} (h : t.nice = true) : mkJ kd (flat1 kd wo t) e = t := by
  have hr := nice_right h
  have hk := right_kind hr
  unfold flat1
  by_cases e1 : t.kind = kd
  · rw [show (t.kind == kd) = true by simpa using e1]
    simp only [cond_true]
    have hl : 1 < t.subs.length := by
      rcases h2 with ⟨rfl, rfl, rfl⟩ | ⟨rfl, rfl, rfl⟩
      · exact (right_cat hr e1).1
      · exact (right_alt hr e1).1
    obtain ⟨q1, q2, q3⟩ := right_three hr e1 (by rcases h2 with ⟨rfl, _⟩ | ⟨rfl, _⟩ <;> decide) (by rcases h2 with ⟨rfl, _⟩ | ⟨rfl, _⟩ <;> decide)
    obtain ⟨k, s, mn, mx, ts⟩ := t
    simp only [kind, set, least, most, subs] at *
    subst e1; subst q1; subst q2; subst q3
    match ts, hl with
    | x :: y :: l, _ => rfl
  · rw [show (t.kind == kd) = false by simpa using e1]
    by_cases e2 : t.kind = wo
    · rw [show (t.kind == wo) = true by simpa using e2]
      simp only [cond_true, cond_false]
      rcases h2 with ⟨rfl, rfl, rfl⟩ | ⟨rfl, rfl, rfl⟩
      · exact (right_empty hr e2).symm
      · omega
    · rw [show (t.kind == wo) = false by simpa using e2]; rfl
theorem Two.flat1 {kd wo : Int} {e : Nd} (h2 : Two kd wo e) {l : List Nd} (h : Norm kd wo l) : flat1 kd wo (mkJ kd l e) = l := by
  match l, h with
  | [], _ => rcases h2 with ⟨rfl, rfl, rfl⟩ | ⟨rfl, rfl, rfl⟩ <;> rfl
  | [x], h =>
    have := h x (by simp)
    simp only [mkJ, Nd.flat1, show (x.kind == kd) = false by simpa using this.2.1, show (x.kind == wo) = false by simpa using this.2.2, cond_false]
  | x :: y :: l, _ => simp [mkJ, Nd.flat1, kind, subs]
theorem Two.nice {kd wo : Int} {e : Nd} (h2 : Two kd wo e) {l : List Nd} (h : Norm kd wo l) (hl : kd = 3 ∨ l ≠ []) : (mkJ kd l e).nice = true := by
  match l, h with
  | [], _ =>
    rcases h2 with ⟨rfl, rfl, rfl⟩ | ⟨rfl, rfl, rfl⟩
    · rfl
    · rcases hl with hl | hl
      · cases hl
      · exact absurd rfl hl
  | [x], h => exact (h x (by simp)).1
  | x :: y :: l, h => exact nice_mk (h2.right (by simp) h) (fun u hu => (h u hu).1)
theorem mkJ_size (kd : Int) (l : List Nd) {e : Nd} (he : e.size = 1) : (mkJ kd l e).size ≤ 1 + sizeL l := by
  match l with
  | [] => simp [mkJ, he, sizeL]
  | [x] => simp [mkJ, sizeL]
  | x :: y :: l => simp [mkJ, size_mk]
theorem Two.esize {kd wo : Int} {e : Nd} (h2 : Two kd wo e) : e.size = 1 := by rcases h2 with ⟨rfl, rfl, rfl⟩ | ⟨rfl, rfl, rfl⟩ <;> rfl
theorem checked_clean {t : Nd} (h : t.clean = true) : t.checked = t := by unfold checked; rw [h]; rfl
theorem Two.joined {kd wo : Int} {e : Nd} (h2 : Two kd wo e) {l : List Nd} (h : Norm kd wo l) (hs : sizeL l ≤ 9999) : Nd.joined kd l e = mkJ kd l e := by
  have hc : l ≠ [] → (mkJ kd l e).checked = mkJ kd l e := fun hl => checked_clean ((clean_iff _).2 ⟨by have := mkJ_size kd l h2.esize; omega, h2.nice h (.inr hl)⟩)
  match l, h, hc with
  | [], _, _ => rfl
  | [x], h, hc => exact hc (by simp)
  | x :: y :: l, h, hc =>
    have q := hc (by simp)
    have h0 : (((x :: y :: l).length : Int) == 0) = false := by rw [beq_eq_false_iff_ne]; simp only [List.length_cons]; omega
    have h1 : (((x :: y :: l).length : Int) == 1) = false := by rw [beq_eq_false_iff_ne]; simp only [List.length_cons]; omega
    unfold Nd.joined
    rw [h0, h1]; exact q
def Fine (t : Nd) : Prop := t.nice = true ∧ t.size ≤ 1000
theorem Fine.clean {t : Nd} (h : Fine t) : t.clean = true := (clean_iff t).2 ⟨by have := h.2; omega, h.1⟩
theorem Fine.light {t : Nd} (h : Fine t) : t.light = true := by have := h.2; simp [Nd.light]; omega
theorem Fine.kind {t : Nd} (h : Fine t) : 1 ≤ t.kind ∧ t.kind ≤ 6 := right_kind (nice_right h.1)
theorem Fine.bad0 {t : Nd} (h : Fine t) : t.bad0 = false := by
  unfold Nd.bad0; rw [h.clean]; have := h.kind; simp; omega
theorem Fine.good {t : Nd} (h : Fine t) : t.good = true := by unfold Nd.good; rw [h.clean]; simp
theorem Fine.empty : Fine Nd.empty := ⟨rfl, by decide⟩
def gr (t : Nd) : Nat := (t.pre.filter fun x => x.kind == 6).length
def grL (ts : List Nd) : Nat := ((preL ts).filter fun x => x.kind == 6).length
theorem gr_mk (k : Int) (s : S4) (mn mx : Int) (ts : List Nd) : (mk k s mn mx ts).gr = (if k = 6 then 1 else 0) + grL ts := by
  unfold gr grL
  rw [pre, List.filter_cons]
  by_cases h : k = 6
  · simp [kind, h]; omega
  · simp [kind, h]
theorem grL_cons (t : Nd) (ts : List Nd) : grL (t :: ts) = t.gr + grL ts := by simp [grL, gr, preL]
theorem grL_append (a b : List Nd) : grL (a ++ b) = grL a + grL b := by simp [grL, preL_append]
theorem grL_nil : grL [] = 0 := rfl
theorem posn_mk (k : Int) (s : S4) (mn mx : Int) (ts : List Nd) : (mk k s mn mx ts).posn = minI (bif k == 5 then ((bif k == 2 then 1 else 0) + posnL ts) * minI (tms mn mx) 10001 else (bif k == 2 then 1 else 0) + posnL ts) 10001 := posn_eq _
theorem posn34 {kd : Int} (h : kd = 3 ∨ kd = 4) (ts : List Nd) : (mk kd zero 0 0 ts).posn = minI (posnL ts) 10001 := by
  rcases h with rfl | rfl <;> (rw [posn_mk]; simp)
theorem Two.kd {kd wo : Int} {e : Nd} (h2 : Two kd wo e) : kd = 3 ∨ kd = 4 := by rcases h2 with ⟨h, _⟩ | ⟨h, _⟩ <;> simp [h]
theorem Two.posn {kd wo : Int} {e : Nd} (h2 : Two kd wo e) {l : List Nd} (hp : posnL l ≤ 10001) : (mkJ kd l e).posn = posnL l := by
  match l, hp with
  | [], _ => rcases h2 with ⟨rfl, rfl, rfl⟩ | ⟨rfl, rfl, rfl⟩ <;> rfl
  | [x], _ => simp [mkJ, posnL]
  | x :: y :: l, hp => simp only [mkJ]; rw [posn34 h2.kd]; unfold minI; split <;> omega
theorem Two.posn1 {kd wo : Int} {e : Nd} (h2 : Two kd wo e) {t : Nd} (h : t.nice = true) (hp : t.posn ≤ 10000) : posnL (Nd.flat1 kd wo t) = t.posn := by
  have hb := h2.back h
  have hn := h2.norm h
  rcases Int.lt_or_le 10001 (posnL (Nd.flat1 kd wo t)) with hq | hq
  · exfalso
    generalize Nd.flat1 kd wo t = l at hb hn hq
    match l, hb with
    | [], _ => simp [posnL] at hq
    | [x], hb => have := posn_bd x; simp [posnL] at hq; omega
    | x :: y :: l, hb =>
      rw [← hb] at hp; simp only [mkJ] at hp; rw [posn34 h2.kd] at hp
      unfold minI at hp; rw [if_pos hq] at hp; omega
  · have := h2.posn hq
    rw [hb] at this; exact this.symm
theorem Two.gr {kd wo : Int} {e : Nd} (h2 : Two kd wo e) (l : List Nd) : (mkJ kd l e).gr = grL l := by
  match l with
  | [] => rcases h2 with ⟨rfl, rfl, rfl⟩ | ⟨rfl, rfl, rfl⟩ <;> rfl
  | [x] => simp [mkJ, grL_cons, grL_nil]
  | x :: y :: l => simp only [mkJ]; rw [gr_mk]; rw [if_neg (by rcases h2.kd with h | h <;> omega)]; omega
theorem Two.gr1 {kd wo : Int} {e : Nd} (h2 : Two kd wo e) {t : Nd} (h : t.nice = true) : grL (Nd.flat1 kd wo t) = t.gr := by
  rw [← h2.gr (Nd.flat1 kd wo t), h2.back h]
theorem flatJ1_eq {kd wo : Int} {e : Nd} (h2 : Two kd wo e) {t : Nd} (h : t.nice = true) : flatJ1 kd t = Nd.flat1 kd wo t := by
  have hk := right_kind (nice_right h)
  unfold flatJ1 Nd.flat1
  rcases h2 with ⟨rfl, rfl, rfl⟩ | ⟨rfl, rfl, rfl⟩
  · simp
  · have : (t.kind == 0) = false := by rw [beq_eq_false_iff_ne]; omega
    rw [this]; simp
theorem joinsL_eq (kd : Int) (l : List Nd) : joinsL kd l = mkJ kd l Nd.empty := by
  match l with
  | [] => rfl
  | [x] => rfl
  | x :: y :: l =>
    have h0 : (((x :: y :: l).length : Int) == 0) = false := by rw [beq_eq_false_iff_ne]; simp only [List.length_cons]; omega
    have h1 : (((x :: y :: l).length : Int) == 1) = false := by rw [beq_eq_false_iff_ne]; simp only [List.length_cons]; omega
    unfold joinsL
    rw [h0, h1]; rfl
theorem flat1_alt_ne {t : Nd} (h : t.nice = true) : Nd.flat1 4 0 t ≠ [] := by
  have h2 : Two 4 0 Nd.none := .inr ⟨rfl, rfl, rfl⟩
  intro h0
  have := h2.back h
  rw [h0] at this
  have hk := right_kind (nice_right h)
  rw [← this] at hk
  simp [mkJ, Nd.none, Nd.kind] at hk
theorem joins_eq {kd wo : Int} {e : Nd} (h2 : Two kd wo e) {a b : Nd} (ha : a.nice = true) (hb : b.nice = true) : joins kd a b = mkJ kd (Nd.flat1 kd wo a ++ Nd.flat1 kd wo b) e := by
  unfold joins flatJ
  simp only [List.flatMap_cons, List.flatMap_nil, List.append_nil]
  rw [flatJ1_eq h2 ha, flatJ1_eq h2 hb, joinsL_eq]
  rcases h2 with ⟨rfl, rfl, rfl⟩ | ⟨rfl, rfl, rfl⟩
  · rfl
  · have := flat1_alt_ne ha
    match hq : Nd.flat1 4 0 a ++ Nd.flat1 4 0 b with
    | [] => simp at hq; exact absurd hq.1 this
    | [x] => rfl
    | x :: y :: l => rfl
theorem joins_nice {kd wo : Int} {e : Nd} (h2 : Two kd wo e) {a b : Nd} (ha : a.nice = true) (hb : b.nice = true) : (joins kd a b).nice = true := by
  rw [joins_eq h2 ha hb]
  refine h2.nice ((h2.norm ha).append (h2.norm hb)) ?_
  rcases h2 with ⟨rfl, rfl, rfl⟩ | ⟨rfl, rfl, rfl⟩
  · exact .inl rfl
  · right; intro h0; simp at h0; exact flat1_alt_ne ha h0.1
theorem joins_gr {kd wo : Int} {e : Nd} (h2 : Two kd wo e) {a b : Nd} (ha : a.nice = true) (hb : b.nice = true) : (joins kd a b).gr = a.gr + b.gr := by
  rw [joins_eq h2 ha hb, h2.gr, grL_append, h2.gr1 ha, h2.gr1 hb]
theorem joins_posn {kd wo : Int} {e : Nd} (h2 : Two kd wo e) {a b : Nd} (ha : a.nice = true) (hb : b.nice = true) (hp : a.posn + b.posn ≤ 10000) : (joins kd a b).posn = a.posn + b.posn := by
  have p1 := posn_bd a
  have p2 := posn_bd b
  have q1 := h2.posn1 ha (by omega)
  have q2 := h2.posn1 hb (by omega)
  rw [joins_eq h2 ha hb, h2.posn (by rw [posnL_append]; omega), posnL_append, q1, q2]
end Nd
end Go.Proofs.Ytaggidjijekpbaa
namespace Go.Proofs.Ytaggidjijekpbaa
namespace Nd
def Bytes (xs : List (Int × Int × Int)) : Prop := ∀ x ∈ xs, 0 ≤ x.1 ∧ 0 ≤ x.2.1 ∧ 0 ≤ x.2.2
theorem two3 : Two 3 1 Nd.empty := .inl ⟨rfl, rfl, rfl⟩
theorem two4 : Two 4 0 Nd.none := .inr ⟨rfl, rfl, rfl⟩
theorem L12_set : ∀ l ∈ L12, (setB l != zero) = true := by decide
theorem lettersS_mem (n : Int) : lettersS n ∈ L12 := by
  unfold lettersS
  have h : (n.tmod 12).toNat < 12 := by
    have h1 := Int.tmod_lt_of_pos n (show (0 : Int) < 12 by decide)
    omega
  have h2 : (n.tmod 12).toNat < L12.length := h
  rw [List.getElem?_eq_getElem h2]; exact List.getElem_mem h2
theorem class_nice (n : Int) : (classS (lettersS n)).nice = true := by
  refine nice_mk ?_ (fun u hu => by cases hu)
  have h := L12_set _ (lettersS_mem n)
  unfold classS right
  simp only [kind, set, least, most, subs, h]; simp
theorem class_gr (l : List UInt8) : (classS l).gr = 0 := by unfold classS; rw [gr_mk]; rfl
theorem class_posn (l : List UInt8) : (classS l).posn = 1 := by unfold classS; rw [posn_mk]; rfl
theorem group_nice {t : Nd} (h : t.nice = true) : (mk 6 zero 0 0 [t]).nice = true := nice_mk rfl (fun u hu => by simp [subs] at hu; subst hu; exact h)
theorem group_gr (t : Nd) : (mk 6 zero 0 0 [t]).gr = 1 + t.gr := by rw [gr_mk, grL_cons, grL_nil]; rfl
theorem group_posn (t : Nd) : (mk 6 zero 0 0 [t]).posn = t.posn := by
  rw [posn_mk]; have := posn_bd t; simp [posnL]; unfold minI; split <;> omega
theorem rep_nice {t : Nd} {mn mx : Int} (h : t.nice = true) (hk : t.kind ≠ 1) (hb : bounds mn mx = true) : (mk 5 zero mn mx [t]).nice = true := by
  refine nice_mk ?_ (fun u hu => by simp [subs] at hu; subst hu; exact h)
  have a := has_no (t := mk 5 zero mn mx [t]) (k := 1) (fun u hu => by simp [subs] at hu; subst hu; exact hk)
  unfold right
  simp only [kind, set, least, most, subs, a, hb]; simp
theorem rep_gr (t : Nd) (mn mx : Int) : (mk 5 zero mn mx [t]).gr = t.gr := by rw [gr_mk, grL_cons, grL_nil]; simp
theorem rep_posn (t : Nd) (mn mx : Int) : (mk 5 zero mn mx [t]).posn = minI (t.posn * minI (tms mn mx) 10001) 10001 := by
  rw [posn_mk]; simp [posnL]
theorem rep_posn_le {t : Nd} {mn mx m : Int} (hm : tms mn mx ≤ m) : (mk 5 zero mn mx [t]).posn ≤ t.posn * m := by
  rw [rep_posn]
  have h1 := posn_bd t
  have h2 : minI (tms mn mx) 10001 ≤ m := by unfold minI; split <;> omega
  have h3 := Int.mul_le_mul_of_nonneg_left h2 h1.1
  have h4 : ∀ z : Int, minI z 10001 ≤ z := fun z => by unfold minI; split <;> omega
  exact Int.le_trans (h4 _) h3
theorem bounds_most {a b : Int} (ha : 0 ≤ a ∧ a ≤ 2) (hb : 0 ≤ b ∧ b ≤ 3) : bounds a (mostM a b) = true ∧ tms a (mostM a b) ≤ max3 a (mostM a b) 1 := by
  have ea : a = 0 ∨ a = 1 ∨ a = 2 := by omega
  have eb : b = 0 ∨ b = 1 ∨ b = 2 ∨ b = 3 := by omega
  rcases ea with rfl | rfl | rfl <;> rcases eb with rfl | rfl | rfl | rfl <;> decide
theorem mod_bd {x n : Int} (hx : 0 ≤ x) (hn : 0 < n) : 0 ≤ x.tmod n ∧ x.tmod n ≤ n - 1 := by
  have := Int.tmod_lt_of_pos x hn
  have := Int.tmod_nonneg n hx
  omega
theorem max3_bd {a b : Int} (ha : a ≤ 2) (hb : b ≤ 3) : 1 ≤ max3 a b 1 ∧ max3 a b 1 ≤ 16 := by
  unfold max3; (repeat' split) <;> omega
theorem top_mem {l : List Nd} (h : 0 < l.length) : top l ∈ l := by
  unfold top; rw [List.getElem?_eq_getElem (by omega)]; exact List.getElem_mem _
theorem top2_mem {l : List Nd} (h : 1 < l.length) : top2 l ∈ l := by
  unfold top2; rw [List.getElem?_eq_getElem (by omega)]; exact List.getElem_mem _
theorem split1 {l : List Nd} (h : 0 < l.length) : l = l.take (l.length - 1) ++ [top l] := by
  have hl : l[l.length - 1]? = some (l[l.length - 1]'(by omega)) := by simp
  have e : l.take (l.length - 1 + 1) = l := List.take_of_length_le (by omega)
  rw [List.take_add_one, hl] at e
  unfold top; rw [hl]; exact e.symm
theorem split2 {l : List Nd} (h : 1 < l.length) : l = l.take (l.length - 2) ++ [top2 l, top l] := by
  have hl : l[l.length - 2]? = some (l[l.length - 2]'(by omega)) := by simp
  have h1 := split1 (l := l) (by omega)
  have e : l.length - 1 = l.length - 2 + 1 := by omega
  rw [e, List.take_add_one, hl] at h1
  have : top2 l = l[l.length - 2]'(by omega) := by unfold top2; rw [hl]; rfl
  rw [this]; simp only [Option.toList_some, List.append_assoc, List.cons_append, List.nil_append] at h1; exact h1
theorem set_top {l : List Nd} (h : 0 < l.length) (t : Nd) : l.set (l.length - 1) t = l.take (l.length - 1) ++ [t] := by
  rw [List.set_eq_take_append_cons_drop, if_pos (by omega), List.drop_of_length_le (by omega)]
theorem posnL_one (t : Nd) : posnL [t] = t.posn := by simp [posnL]
structure MN (s : M3) (k : Nat) : Prop where
  nice : ∀ t ∈ s.pile, t.nice = true
  gr : (grL s.pile : Int) ≤ s.g
  posn : posnL s.pile ≤ k * s.u
  ku : (k : Int) ≤ 25
theorem MN_step {s : M3} {k : Nat} (h0 : MB s k) (h : MN s k) (hk : k < 25) {x : Int × Int × Int} (hx : 0 ≤ x.1 ∧ 0 ≤ x.2.1 ∧ 0 ≤ x.2.2) : MN (stepM s x) (k + 1) := by
  obtain ⟨hn, hg, hp, hku⟩ := h
  obtain ⟨_, _, u1, u2, _, _⟩ := h0
  have ha := mod_bd (x := x.2.1) (n := 3) hx.2.1 (by decide)
  have hb := mod_bd (x := x.2.2) (n := 4) hx.2.2 (by decide)
  have hbd := bounds_most (a := x.2.1.tmod 3) (b := x.2.2.tmod 4) (by omega) (by omega)
  unfold stepM
  dsimp only
  generalize x.1.tmod 12 = kk
  generalize mostM (x.2.1.tmod 3) (x.2.2.tmod 4) = mx at hbd
  generalize x.2.1.tmod 3 = mn at hbd
  have hk1 : ((k + 1 : Nat) : Int) ≤ 25 := by omega
  have hku1 : ((k + 1 : Nat) : Int) * s.u = k * s.u + s.u := by rw [Int.natCast_add, Int.add_mul]; simp
  have triv : MN s (k + 1) := ⟨hn, hg, by omega, hk1⟩
  have add : ∀ t : Nd, t.nice = true → t.gr = 0 → t.posn ≤ 1 → MN { s with pile := s.pile ++ [t] } (k + 1) := fun t h1 h2 h3 =>
    ⟨fun u hu => by rcases List.mem_append.1 hu with hu | hu; exact hn u hu; simp at hu; subst hu; exact h1, by rw [grL_append, grL_cons, grL_nil]; simp only; omega, by rw [posnL_append, posnL_one]; simp only; omega, hk1⟩
  have hku16 : (k : Int) * s.u ≤ 400 := by
    have := Int.mul_le_mul hku u2 (by omega) (by omega); omega
  have join : ∀ kd wo e, Two kd wo e → 1 < s.pile.length → MN { s with pile := s.pile.take (s.pile.length - 2) ++ [joins kd (top2 s.pile) (top s.pile)] } (k + 1) := by
    intro kd wo e h2 hl
    have e1 := split2 hl
    have n1 := hn _ (top_mem (l := s.pile) (by omega))
    have n2 := hn _ (top2_mem hl)
    have g1 : grL s.pile = grL (s.pile.take (s.pile.length - 2)) + ((top2 s.pile).gr + (top s.pile).gr) := by
      conv => lhs; rw [e1]
      rw [grL_append, grL_cons, grL_cons, grL_nil]; omega
    have p1 : posnL s.pile = posnL (s.pile.take (s.pile.length - 2)) + ((top2 s.pile).posn + (top s.pile).posn) := by
      conv => lhs; rw [e1]
      rw [posnL_append]; simp [posnL]
    have p2 := posnL_bd (s.pile.take (s.pile.length - 2))
    have g2 := joins_gr h2 n2 n1
    have p3 := joins_posn h2 n2 n1 (by omega)
    refine ⟨fun u hu => ?_, ?_, ?_, hk1⟩
    · rcases List.mem_append.1 hu with hu | hu
      · exact hn u (List.mem_of_mem_take hu)
      · simp at hu; subst hu; exact joins_nice h2 n2 n1
    · simp only; rw [grL_append, grL_cons, grL_nil, g2]; omega
    · simp only; rw [posnL_append, posnL_one, p3]; omega
  have g1 : 0 < s.pile.length → grL s.pile = grL (s.pile.take (s.pile.length - 1)) + (top s.pile).gr := fun hl => by
    conv => lhs; rw [split1 hl]
    rw [grL_append, grL_cons, grL_nil]; omega
  have p1 : 0 < s.pile.length → posnL s.pile = posnL (s.pile.take (s.pile.length - 1)) + (top s.pile).posn := fun hl => by
    conv => lhs; rw [split1 hl]
    rw [posnL_append]; simp [posnL]
  cases c1 : decide (kk < 4) with
  | true => exact add _ (class_nice _) (class_gr _) (by rw [class_posn]; omega)
  | false =>
    cases c2 : (kk == 4) with
    | true => exact add _ rfl rfl (by decide)
    | false =>
      simp only [cond_false]
      cases c3 : (decide (kk < 7) && decide (1 < (s.pile.length : Int))) with
      | true =>
        simp only [Bool.and_eq_true, decide_eq_true_eq] at c3
        exact join 3 1 _ two3 (by omega)
      | false =>
        simp only [cond_false]
        cases c4 : (decide (kk < 9) && decide (1 < (s.pile.length : Int))) with
        | true =>
          simp only [Bool.and_eq_true, decide_eq_true_eq] at c4
          exact join 4 0 _ two4 (by omega)
        | false =>
          simp only [cond_false]
          cases c5 : ((kk == 9) && decide (0 < (s.pile.length : Int)) && decide (s.g < 9)) with
          | true =>
            simp only [Bool.and_eq_true, decide_eq_true_eq] at c5
            have hl : 0 < s.pile.length := by omega
            have q1 := g1 hl
            have q2 := p1 hl
            simp only [cond_true]
            refine ⟨fun u hu => ?_, ?_, ?_, hk1⟩
            · simp only [set_top hl] at hu
              rcases List.mem_append.1 hu with hu | hu
              · exact hn u (List.mem_of_mem_take hu)
              · simp at hu; subst hu; exact group_nice (hn _ (top_mem hl))
            · simp only [set_top hl]; rw [grL_append, grL_cons, grL_nil, group_gr]; omega
            · simp only [set_top hl]; rw [posnL_append, posnL_one, group_posn]; omega
          | false =>
            simp only [cond_false]
            cases c6 : (decide (9 < kk) && decide (0 < (s.pile.length : Int)) && ((top s.pile).kind != 1)) with
            | true =>
              simp only [Bool.and_eq_true, decide_eq_true_eq, bne_iff_ne] at c6
              simp only [cond_true]
              have hl : 0 < s.pile.length := by omega
              have q1 := g1 hl
              have q2 := p1 hl
              cases c7 : decide (s.u * max3 mn mx 1 ≤ 16) with
              | true =>
                simp only [cond_true]
                have hm := max3_pos mn mx
                have r1 := rep_posn_le (t := top s.pile) hbd.2
                have r2 := posnL_bd (s.pile.take (s.pile.length - 1))
                refine ⟨fun u hu => ?_, ?_, ?_, hk1⟩
                · simp only [set_top hl] at hu
                  rcases List.mem_append.1 hu with hu | hu
                  · exact hn u (List.mem_of_mem_take hu)
                  · simp at hu; subst hu; exact rep_nice (hn _ (top_mem hl)) c6.2 hbd.1
                · simp only [set_top hl]; rw [grL_append, grL_cons, grL_nil, rep_gr]; omega
                · simp only [set_top hl]; rw [posnL_append, posnL_one]
                  generalize max3 mn mx 1 = m at *
                  have r3 : posnL (s.pile.take (s.pile.length - 1)) * 1 ≤ posnL (s.pile.take (s.pile.length - 1)) * m := Int.mul_le_mul_of_nonneg_left hm r2.1
                  have r4 : (posnL s.pile) * m ≤ (k * s.u) * m := Int.mul_le_mul_of_nonneg_right hp (by omega)
                  rw [q2, Int.add_mul] at r4
                  have r5 : ((k + 1 : Nat) : Int) * (s.u * m) = (k * s.u) * m + s.u * m := by rw [Int.natCast_add, Int.add_mul, Int.mul_assoc]; simp
                  have r6 : 0 ≤ s.u * m := Int.mul_nonneg (by omega) (by omega)
                  rw [r5]; omega
              | false => exact triv
            | false => exact triv
theorem madeSt_mn {xs : List (Int × Int × Int)} (hb : Bytes xs) (hl : xs.length ≤ 25) : MN (madeSt xs) xs.length := by
  have key : ∀ (l : List (Int × Int × Int)) (s : M3) (k : Nat), Bytes l → k + l.length ≤ 25 → MB s k → MN s k → MN (l.foldl stepM s) (k + l.length) := by
    intro l
    induction l with
    | nil => intro s k _ _ _ h; exact h
    | cons x l ih =>
      intro s k hB hk h0 h
      simp only [List.length_cons] at hk
      have := ih _ _ (fun y hy => hB y (by simp [hy])) (by omega) (MB_step h0 x) (MN_step h0 h (by omega) (hB x (by simp)))
      simp only [List.foldl_cons, List.length_cons]; rw [show k + (l.length + 1) = k + 1 + l.length by omega]; exact this
  have := key xs ⟨[], 1, 0⟩ 0 hb (by omega) ⟨by simp, by simp [sizeL], by simp, by simp, by simp, by simp⟩ ⟨by simp, by simp [grL, preL], by simp [posnL], by simp⟩
  simpa [madeSt] using this
structure MadeOk (t : Nd) : Prop where
  nice : t.nice = true
  size : t.size ≤ 50
  gr : t.gr ≤ 9
  posn : t.posn ≤ 400
theorem made_ok' {xs : List (Int × Int × Int)} (hb : Bytes xs) : MadeOk (made xs) := by
  have hl : (xs.take 25).length ≤ 25 := List.length_take_le _ _
  have hB : Bytes (xs.take 25) := fun x hx => hb x (List.mem_of_mem_take hx)
  obtain ⟨n1, n2, n3, n4⟩ := madeSt_mn hB hl
  obtain ⟨m1, m2, m3, m4, m5, m6⟩ := madeSt_bd (xs.take 25)
  unfold made
  have hp : posnL (madeSt (xs.take 25)).pile ≤ 400 := by
    have := Int.mul_le_mul n4 m4 (by omega) (by omega); omega
  generalize madeSt (xs.take 25) = s at *
  obtain ⟨p, u, g⟩ := s
  simp only at *
  cases p with
  | nil => exact ⟨by decide, by decide, by decide, by decide⟩
  | cons t ts =>
    simp only [madeEnd]
    have key : ∀ (l : List Nd) (t : Nd), t.nice = true → (∀ u ∈ l, u.nice = true) → t.posn + posnL l ≤ 400 →
        (l.foldl (joins 4) t).nice = true ∧ (l.foldl (joins 4) t).gr = t.gr + grL l ∧ (l.foldl (joins 4) t).posn = t.posn + posnL l := by
      intro l
      induction l with
      | nil => intro t h _ _; exact ⟨h, by simp [grL, preL], by simp [posnL]⟩
      | cons x l ih =>
        intro t h hl hp
        simp only [posnL] at hp
        have b1 := posnL_bd l
        have e1 := joins_posn two4 h (hl x (by simp)) (by omega)
        have e2 := joins_gr two4 h (hl x (by simp))
        obtain ⟨i1, i2, i3⟩ := ih (joins 4 t x) (joins_nice two4 h (hl x (by simp))) (fun u hu => hl u (by simp [hu])) (by omega)
        simp only [List.foldl_cons]
        exact ⟨i1, by rw [i2, e2, grL_cons]; omega, by rw [i3, e1]; simp only [posnL]; omega⟩
    obtain ⟨k1, k2, k3⟩ := key ts t (n1 t (by simp)) (fun u hu => n1 u (by simp [hu])) (by simp only [posnL] at hp; omega)
    have hs := foldl_size ts t
    rw [grL_cons] at n2
    simp only [posnL] at hp
    simp only [sizeL, List.length_cons] at m1 m2
    exact ⟨k1, by omega, by rw [k2]; omega, by rw [k3]; exact hp⟩
theorem MadeOk.fine {t : Nd} (h : MadeOk t) : Fine t := ⟨h.nice, by have := h.size; omega⟩
theorem gr_eq {t : Nd} (h : t.light = true) : t.groups = t.gr := by unfold groups gr; rw [h]; simp
theorem sizes_eq {t : Nd} (h : t.light = true) : t.sizes = t.size := by unfold sizes; rw [h]; simp
theorem posns_eq {t : Nd} (h : t.light = true) : t.posns = t.posn := by unfold posns; rw [h]; simp
theorem MadeOk.check {t : Nd} (h : MadeOk t) : t.check = 0 := by
  have hl := h.fine.light
  unfold Nd.check
  rw [h.fine.clean, sizes_eq hl, posns_eq hl, gr_eq hl]
  have := h.size; have := h.gr; have := h.posn
  rw [if_neg (by simp), if_neg (by omega), if_neg (by omega), if_neg (by omega)]
end Nd
end Go.Proofs.Ytaggidjijekpbaa
namespace Go.Proofs.Ytaggidjijekpbaa
open Go.Proofs Go.RowKit
set_option maxRecDepth 20000 in
set_option maxHeartbeats 4000000 in
theorem made_ok (D : Nat → Prop) (w : World) (a : Option Addr) (cap : Nat) (xs : List (Int × Int × Int)) (hxs : SmallV D w (.slice a xs.length cap) xs) :
  Calls Try.prog 9 #[.slice a xs.length cap] w fun e w' => ∃ l', e = .returned (.agg l'.toArray) ∧ NodeL (fun k => w.heap.size ≤ k) w' l' (Nd.made xs) ∧ Ext w w' := by
 have hlen := hxs.len
 have hxt := hxs.take25
 have hlt := hxt.len
 refine Calls.enter (args := [.slice a xs.length cap]) Try.func9 rfl rfl rfl rfl ?_
 refine sq ?_
 refine WL.alloc rfl rfl Ty.zero29 rfl (fun b1 w6 hb2 hE5 hs3 hR4 => ?_)
 refine WL.dn ?_
 refine sq ?_
 refine asg ?_
 refine WL.dn ?_
 refine sq ?_
 refine asg ?_
 refine asg ?_
 refine WL.dn ?_
 refine WC.seqk ?_
 refine sq ?_
 refine mv ?_
 refine mv ?_
 refine WL.len rfl rfl Try.underlying22 rfl ?_
 refine WL.min2 (v := minI xs.length 25) rfl rfl rfl rfl rfl ?_
 refine WL.slice_h (m := (xs.take 25).length) rfl rfl Ty.slice22 rfl rfl (min25 xs) (by omega) ?_
 refine WL.len rfl rfl Try.underlying22 rfl ?_
 refine mv ?_
 refine WL.dn ?_
 refine WC.block ?_
 refine WC.weaken (r' := [(2, pt b1 0), (20, .slice a ((xs.take 25).length) cap), (21, .int .i64 ((xs.take 25).length)), (22, .int .i64 0), (3, .slice none 0 0), (4, .int .i64 1), (5, .int .i64 0)]) (s4 (sr rfl (sr rfl (sr rfl (subReg_nil _))))) ?_
 refine WC.loop (σ := Nat × Value × Nd.M3) (fun s r_ w_ => r_ = [(2, pt b1 0), (20, .slice a ((xs.take 25).length) cap), (21, .int .i64 ((xs.take 25).length)), (22, .int .i64 (s.1 : Int)), (3, s.2.1), (4, .int .i64 s.2.2.u), (5, .int .i64 s.2.2.g)] ∧ Ext w w_ ∧ (s.1 ≤ (xs.take 25).length ∧ w6.heap.size ≤ w_.heap.size ∧ s.2.2 = Nd.madeSt ((xs.take 25).take s.1) ∧ Row w_ b1 (zc 0 0 0 (.slice none 0 0)) 29 ∧ OwnV 29 w6.heap.size (fun k => w6.heap.size ≤ k) w_ s.2.1 s.2.2.pile)) (fun s => (xs.take 25).length - s.1) (0, .slice none 0 0, ⟨[], 1, 0⟩) ⟨rfl, hE5, ⟨Nat.zero_le _, Nat.le_refl _, rfl, hR4, OwnV.nil _ _ _ _⟩⟩ ?_
 rintro ⟨k, v, m⟩ r_ w9 ⟨rfl, hE7, hI8⟩
 have hzhE7 := hE7.size
 dsimp only at hI8
 obtain ⟨hk, hWw, hst, hR2, hO⟩ := hI8
 have hbd := Nd.madeSt_bd ((xs.take 25).take k)
 rw [← hst] at hbd
 obtain ⟨pile, u, gr⟩ := m
 obtain ⟨hb1, hb2, hb3, hb4, hb5, hb6⟩ := hbd
 dsimp only at hst hO hb1 hb2 hb3 hb4 hb5 hb6
 have hO := hO.dom (D' := fun k => w6.heap.size ≤ k ∧ k < w9.heap.size) (fun k h1 h2 _ => ⟨h1, h2⟩)
 have hb7 : pile.length ≤ 25 := by have := hb1; rw [List.length_take, List.length_take] at this; omega
 have hb8 : Nd.sizeL pile ≤ 25 := by have := hb2; rw [List.length_take, List.length_take] at this; omega
 clear hb1 hb2
 obtain ⟨ap, capp, rfl, hnn, hxx⟩ := hO.cases
 have hol := hO.own
 have hcapp := hO.nodes.len
 have hts := hO.nodes.lt
 have hM := hO.mix
 refine WC.weaken (r' := [(2, pt b1 0), (20, .slice a ((xs.take 25).length) cap), (21, .int .i64 ((xs.take 25).length)), (22, .int .i64 (k : Int)), (3, .slice ap pile.length capp), (4, .int .i64 u), (5, .int .i64 gr)]) (s4 (sr rfl (sr rfl (sr rfl (subReg_nil _))))) ?_
 refine sq ?_
 cases hc10 : decide (((k : Int) : Int) < ((xs.take 25).length)) with
 | false =>
  refine WL.lss rfl rfl rfl rfl hc10 ?_
  have hp10 := of_decide_eq_false hc10
  refine WL.dn ?_
  refine WC.seqk ?_
  refine cF ?_
  refine WC.exit (fun a_ ha => ?_)
  refine exit_then ?_
  refine exit_then ?_
  refine exit_here ?_
  refine WC.at ?_ ha
  refine WC.seqk ?_
  refine sq ?_
  refine mv ?_
  refine WL.len rfl rfl Try.underlying27 rfl ?_
  cases hc11 : ((pile.length : Int) == 0) with
  | false =>
   refine WL.eql rfl rfl rfl rfl hc11 ?_
   have hp11 := beq_eq_false_iff_ne.1 hc11
   refine WL.dn ?_
   refine cF ?_
   refine WC.sk ?_
   refine sq ?_
   refine mv ?_
   have hrest := (hts).drop1 (by omega)
   obtain ⟨t12, ht12⟩ : ∃ t, pile[0]? = some t := ⟨_, List.getElem?_eq_getElem (by omega)⟩
   obtain ⟨eb12, el12, hea12, hgb12, hgl12, her12, hn12⟩ := hM.at ht12
   obtain ⟨a12, cap12, rfl, hts12, hlen12⟩ := hn12.op2
   subst hea12
   refine WL.indexAddr (i := 0) rfl rfl Ty.slice27 rfl rfl rfl (by omega) ?_
   refine WL.load_agg (l := tcells t12 (.slice a12 t12.subs.length cap12)) rfl rfl Ty.agg29 rfl her12 ?_
   refine WL.alloc rfl rfl Ty.zero29 rfl (fun b13 w18 hb14 hE17 hs15 hR16 => ?_)
   refine WL.store_box rfl rfl rfl hR16 Ty.agg29 rfl rfl (fun w21 hB20 hR19 => ?_)
   have hzhB20 := hB20.size
   refine WL.dn ?_
   refine WC.seqk ?_
   refine sq ?_
   refine mv ?_
   refine WL.slice_l (m := 1) rfl rfl Ty.slice27 rfl rfl rfl (by omega) ?_
   refine WL.len rfl rfl Try.underlying27 rfl ?_
   refine mv ?_
   refine WL.dn ?_
   refine WC.block ?_
   generalize hA : (if capp = 1 then (some ⟨eb12, 0, none⟩) else Option.map (fun z => Addr.add z (1 * 8)) (some ⟨eb12, 0, none⟩)) = ar at hrest ⊢
   have h22 := (hB20.row (hR2.ext hE17) (by omega))
   have h23 := ((hn12.ext hE17).bu hB20)
   refine WC.weaken (r' := [(2, pt b1 0), (13, pt b13 0), (193, .slice ar (pile.length - 1 : Nat) (capp - 1)), (194, .int .i64 (pile.length - 1 : Nat)), (195, .int .i64 0)]) (s4 (sr rfl (subReg_nil _))) ?_
   refine WC.loop (σ := Nat × List Value) (fun s r_ w_ => r_ = [(2, pt b1 0), (13, pt b13 0), (193, .slice ar (pile.length - 1 : Nat) (capp - 1)), (194, .int .i64 (pile.length - 1 : Nat)), (195, .int .i64 (s.1 : Int))] ∧ Ext w9 w_ ∧ (s.1 ≤ pile.length - 1 ∧ w9.heap.size + 1 ≤ w_.heap.size ∧ Row w_ b1 (zc 0 0 0 (.slice none 0 0)) 29 ∧ Row w_ b13 s.2 29 ∧ NodeL (fun k => w6.heap.size ≤ k ∧ k ≠ b13) w_ s.2 (((pile.drop 1).take s.1).foldl (Nd.joins 4) t12))) (fun s => pile.length - 1 - s.1) (0, (tcells t12 (.slice a12 t12.subs.length cap12))) ⟨rfl, (hB20.onto hE17 (by omega)), ⟨Nat.zero_le _, by omega, h22, hR19, (h23.dom (by intro k h1; (try dsimp only at h1); (repeat' first | (guard_hyp h1 : _ ∨ _; refine Or.elim h1 (fun h1 => ?_) (fun h1 => ?_)) | (guard_hyp h1 : _ ∧ _; have hx := h1.2; replace h1 := h1.1)) <;> first | contradiction | omega | (dsimp only; omega)))⟩⟩ ?_
   rintro ⟨k, l13⟩ r_ w26 ⟨rfl, hE24, hI25⟩
   have hzhE24 := hE24.size
   dsimp only at hI25
   obtain ⟨hk2, hWw2, hR2, hR13, hN⟩ := hI25
   have hN := hN.lt
   obtain ⟨a27, cap27, rfl, hts27, hlen27⟩ := hN.op2
   refine WC.weaken (r' := [(2, pt b1 0), (13, pt b13 0), (193, .slice ar (pile.length - 1 : Nat) (capp - 1)), (194, .int .i64 (pile.length - 1 : Nat)), (195, .int .i64 (k : Int))]) (s4 (sr rfl (subReg_nil _))) ?_
   refine sq ?_
   cases hc28 : decide (((k : Int) : Int) < (pile.length - 1 : Nat)) with
   | false =>
    refine WL.lss rfl rfl rfl rfl hc28 ?_
    have hp28 := of_decide_eq_false hc28
    refine WL.dn ?_
    refine WC.seqk ?_
    refine cF ?_
    refine WC.exit (fun a_ ha => ?_)
    refine exit_then ?_
    refine exit_then ?_
    refine exit_here ?_
    refine WC.at ?_ ha
    refine sq ?_
    refine WL.load_box rfl rfl rfl hR13 Ty.agg29 ?_
    refine WL.store_box rfl rfl rfl hR2 Ty.agg29 rfl rfl (fun w31 hB30 hR29 => ?_)
    have hzhB30 := hB30.size
    refine WL.dn ?_
    refine WC.ret (fun a_ ha => ?_)
    exact bodyPost_cell (l := (tcells (((pile.drop 1).take k).foldl (Nd.joins 4) t12) (.slice a27 (((pile.drop 1).take k).foldl (Nd.joins 4) t12).subs.length cap27))) rfl ha rfl Ty.agg29 hR29 ⟨_, rfl, (by rw [Nd.made_eq hst (by omega), Nd.madeEnd_at ht12]; have hkk : (pile.drop 1).take k = pile.drop 1 := List.take_of_length_le (by rw [List.length_drop]; omega); have hT : ((pile.drop 1).take k).foldl (Nd.joins 4) t12 = (pile.drop 1).foldl (Nd.joins 4) t12 := (by rw [hkk]); rw [← hT]; exact (hN.bu hB30).dom (by intro k h1; (try dsimp only at h1); (repeat' first | (guard_hyp h1 : _ ∨ _; refine Or.elim h1 (fun h1 => ?_) (fun h1 => ?_)) | (guard_hyp h1 : _ ∧ _; have hx := h1.2; replace h1 := h1.1)) <;> first | contradiction | omega | (dsimp only; omega))), (hB30.onto (hE7.trans hE24) (by omega))⟩
   | true =>
    refine WL.lss rfl rfl rfl rfl hc28 ?_
    have hp28 := of_decide_eq_true hc28
    refine WL.dn ?_
    refine WC.seqk ?_
    refine cT ?_
    refine WC.sk ?_
    refine WC.seqk ?_
    refine WC.block ?_
    refine sq ?_
    obtain ⟨t29, ht29⟩ : ∃ t, (pile.drop 1)[k]? = some t := ⟨_, List.getElem?_eq_getElem (by first | omega | (rw [List.length_drop]; omega))⟩
    obtain ⟨eb29, eo29, el29, hea29, hD29, her29, hn29⟩ := (hrest.ext hE24).at ht29
    obtain ⟨a29, cap29, rfl, hts29, hlen29⟩ := hn29.op2
    subst hea29
    refine WL.indexAddr (i := k) rfl rfl Ty.slice27 rfl rfl rfl (by first | omega | (rw [List.length_drop]; omega)) ?_
    refine WL.load_agg (l := tcells t29 (.slice a29 t29.subs.length cap29)) rfl rfl Ty.agg29 rfl her29 ?_
    refine WL.alloc rfl rfl Ty.zero29 rfl (fun b30 w35 hb31 hE34 hs32 hR33 => ?_)
    refine WL.store_box rfl rfl rfl hR33 Ty.agg29 rfl rfl (fun w38 hB37 hR36 => ?_)
    have hzhB37 := hB37.size
    refine WL.dn ?_
    refine WC.region ?_
    have h39 := (hB37.row (hR13.ext hE34) (by omega))
    refine WL.load_box rfl rfl rfl h39 Ty.agg29 ?_
    refine WL.load_box rfl rfl rfl hR36 Ty.agg29 ?_
    have h40 := ((hN.ext hE34).bu hB37)
    have h41 := ((hn29.ext hE34).bu hB37)
    refine WL.call rfl rfl rfl Ty.ent18 (joins_ok _ _ _ 4 _ _ (((pile.drop 1).take k).foldl (Nd.joins 4) t12) t29 h40 h41 (by have h1 := Nd.foldl_size ((pile.drop 1).take k) t12; have h2 := Nd.sizeL_take_le (pile.drop 1) k; have h3 := Nd.sizeL_drop1 ht12; have h4 : ((pile.drop 1).take k).length ≤ pile.length := (by rw [List.length_take, List.length_drop]; omega); omega) (by have h1 := Nd.size_le_sizeL (List.mem_of_getElem? ht29); have h2 := Nd.sizeL_drop1 ht12; omega)) ?_
    rintro _ w44 ⟨l42, rfl, hr42, hE43⟩
    have hzhE43 := hE43.size
    refine ⟨_, rfl, ?_⟩
    have hn42 := hr42.lt
    obtain ⟨a42, cap42, rfl, hts42, hlen42⟩ := hn42.op2
    refine WL.store_box rfl rfl rfl (h39.ext hE43) Ty.agg29 rfl rfl (fun w47 hB46 hR45 => ?_)
    have hzhB46 := hB46.size
    refine WL.dn ?_
    refine WC.region ?_
    refine WL.add (v := (k : Int) + 1) rfl rfl rfl rfl (IntWalk.i64_in _ (by omega)) ?_
    refine mv ?_
    refine WL.nil (fun a_ ha => ?_)
    have h48 := (hB46.row ((hB37.row (hR2.ext hE34) (by omega)).ext hE43) (by omega))
    exact ⟨(k + 1, (tcells (Nd.joins 4 (((pile.drop 1).take k).foldl (Nd.joins 4) t12) t29) (.slice a42 (Nd.joins 4 (((pile.drop 1).take k).foldl (Nd.joins 4) t12) t29).subs.length cap42))), _, ha.weaken (s4 (sr rfl (subReg_nil _))), ⟨rfl, (hB46.onto ((hB37.onto (hE24.trans hE34) (by omega)).trans hE43) (by omega)), ⟨by first | omega | (dsimp only; omega), by omega, h48, hR45, (by have ht := ht29; rw [List.take_add_one, ht, List.foldl_append]; exact (hn42.bu hB46).dom (by intro k h1; (try dsimp only at h1); (repeat' first | (guard_hyp h1 : _ ∨ _; refine Or.elim h1 (fun h1 => ?_) (fun h1 => ?_)) | (guard_hyp h1 : _ ∧ _; have hx := h1.2; replace h1 := h1.1)) <;> first | contradiction | omega | (dsimp only; omega)))⟩⟩, by first | omega | (dsimp only; omega)⟩
  | true =>
   refine WL.eql rfl rfl rfl rfl hc11 ?_
   have hp11 := beq_iff_eq.1 hc11
   refine WL.dn ?_
   refine cT ?_
   refine sq ?_
   refine WL.call rfl rfl rfl Ty.ent20 (class_ok _ ([97]) (by first | decide | exact Nd.lettersS_len _)) ?_
   rintro _ w14 ⟨l12, rfl, hr12, hE13⟩
   have hzhE13 := hE13.size
   refine ⟨_, rfl, ?_⟩
   have hn12 := hr12.lt
   obtain ⟨a12, cap12, rfl, hts12, hlen12⟩ := hn12.op2
   refine WL.store_box rfl rfl rfl (hR2.ext hE13) Ty.agg29 rfl rfl (fun w17 hB16 hR15 => ?_)
   have hzhB16 := hB16.size
   refine WL.dn ?_
   refine WC.ret (fun a_ ha => ?_)
   refine ret_then ?_
   exact bodyPost_cell (l := (tcells (Nd.classS ([97])) (.slice a12 (Nd.classS ([97])).subs.length cap12))) rfl ha rfl Ty.agg29 hR15 ⟨_, rfl, (by rw [Nd.made_eq hst (by omega), Nd.madeEnd_nil (p := pile) (by omega)]; exact (hn12.bu hB16).dom (by intro k h1; (try dsimp only at h1); (repeat' first | (guard_hyp h1 : _ ∨ _; refine Or.elim h1 (fun h1 => ?_) (fun h1 => ?_)) | (guard_hyp h1 : _ ∧ _; have hx := h1.2; replace h1 := h1.1)) <;> first | contradiction | omega | (dsimp only; omega))), (hB16.onto (hE7.trans hE13) (by omega))⟩
 | true =>
  refine WL.lss rfl rfl rfl rfl hc10 ?_
  have hp10 := of_decide_eq_true hc10
  refine WL.dn ?_
  refine WC.seqk ?_
  refine cT ?_
  refine WC.sk ?_
  refine WC.seqk ?_
  refine WC.block ?_
  refine sq ?_
  obtain ⟨x11, hx11⟩ : ∃ x, (xs.take 25)[k]? = some x := ⟨_, List.getElem?_eq_getElem (by omega)⟩
  obtain ⟨eb11, eo11, hea11, her11, hxb11⟩ := (hxt.ext hE7).at hx11
  subst hea11
  refine WL.indexAddr (i := k) rfl rfl Ty.slice22 rfl rfl rfl (by omega) ?_
  refine WL.load_agg (l := cells3 x11) rfl rfl Ty.agg53 rfl her11 ?_
  refine WL.alloc rfl rfl Ty.zero53 rfl (fun b12 w17 hb13 hE16 hs14 hR15 => ?_)
  refine WL.store_box rfl rfl rfl hR15 Ty.agg53 rfl rfl (fun w20 hB19 hR18 => ?_)
  have hzhB19 := hB19.size
  refine WL.dn ?_
  refine sq ?_
  refine mv ?_
  refine WL.len rfl rfl Try.underlying27 rfl ?_
  refine asg ?_
  refine WL.dn ?_
  refine sq ?_
  refine WL.fieldAddr rfl rfl Ty.fld53_0 rfl ?_
  refine WL.load_fld rfl rfl Ty.flat5 rfl hR18 rfl ?_
  refine WL.rem (v := (x11.1.tmod 12)) rfl rfl rfl rfl (by decide) rfl ?_
  refine asg ?_
  refine WL.dn ?_
  refine WC.block ?_
  refine sq ?_
  refine mv ?_
  cases hc21 : decide (((x11.1.tmod 12) : Int) < 4) with
  | false =>
   refine WL.lss rfl rfl rfl rfl hc21 ?_
   have hp21 := of_decide_eq_false hc21
   refine asg ?_
   refine WL.dn ?_
   refine cF ?_
   refine sq ?_
   refine mv ?_
   cases hc22 : (((x11.1.tmod 12) : Int) == 4) with
   | false =>
    refine WL.eql rfl rfl rfl rfl hc22 ?_
    have hp22 := beq_eq_false_iff_ne.1 hc22
    refine asg ?_
    refine WL.dn ?_
    refine cF ?_
    refine sq ?_
    refine mv ?_
    cases hc23 : decide (((x11.1.tmod 12) : Int) < 7) with
    | false =>
     refine WL.lss rfl rfl rfl rfl hc23 ?_
     have hp23 := of_decide_eq_false hc23
     refine mv ?_
     refine ps ?_
     refine ps ?_
     refine pF ?_
     refine asg ?_
     refine WL.dn ?_
     refine cF ?_
     refine sq ?_
     refine mv ?_
     cases hc24 : decide (((x11.1.tmod 12) : Int) < 9) with
     | false =>
      refine WL.lss rfl rfl rfl rfl hc24 ?_
      have hp24 := of_decide_eq_false hc24
      refine mv ?_
      refine ps ?_
      refine ps ?_
      refine pF ?_
      refine asg ?_
      refine WL.dn ?_
      refine cF ?_
      refine sq ?_
      refine mv ?_
      cases hc25 : (((x11.1.tmod 12) : Int) == 9) with
      | false =>
       refine WL.eql rfl rfl rfl rfl hc25 ?_
       have hp25 := beq_eq_false_iff_ne.1 hc25
       refine mv ?_
       refine ps ?_
       refine ps ?_
       refine pF ?_
       refine mv ?_
       refine ps ?_
       refine ps ?_
       refine pF ?_
       refine asg ?_
       refine WL.dn ?_
       refine cF ?_
       refine sq ?_
       refine mv ?_
       cases hc26 : decide ((9 : Int) < (x11.1.tmod 12)) with
       | false =>
        refine WL.gtr rfl rfl rfl rfl hc26 ?_
        have hp26 := of_decide_eq_false hc26
        refine mv ?_
        refine ps ?_
        refine ps ?_
        refine pF ?_
        refine mv ?_
        refine ps ?_
        refine ps ?_
        refine ps ?_
        refine ps ?_
        refine ps ?_
        refine ps ?_
        refine ps ?_
        refine pF ?_
        refine asg ?_
        refine WL.dn ?_
        refine cF ?_
        refine WC.sk ?_
        refine WC.region ?_
        refine WL.add (v := (k : Int) + 1) rfl rfl rfl rfl (IntWalk.i64_in _ (by omega)) ?_
        refine mv ?_
        refine WL.nil (fun a_ ha => ?_)
        have h27 := ((hO.ext hE16).but hB19 (fun h1 => by first | omega | (dsimp only at h1; omega)) (fun hk => by have := (hO.ext hE16).own _ hk; have := hol _ hk; omega))
        have h28 := (hB19.row (hR2.ext hE16) (by omega))
        exact ⟨(k + 1, .slice ap pile.length capp, ⟨pile, u, gr⟩), _, ha.weaken (s4 (sr rfl (sr rfl (sr rfl (subReg_nil _))))), ⟨rfl, (hB19.onto (hE7.trans hE16) (by omega)), ⟨by first | omega | (dsimp only; omega), by omega, (by rw [Nd.madeSt_succ hx11, ← hst]; simp only [Nd.stepM, hc10, hc21, hc22, hc23, hc24, hc25, hc26, Nd.mostM, Nd.empty, Bool.or_true, Bool.true_or, Bool.or_false, Bool.false_or, cond_true, cond_false, Bool.true_and, Bool.false_and, Bool.and_true, Bool.and_false]), h28, (h27.dom (by intro k h1 _ _; (try dsimp only at h1); (repeat' first | (guard_hyp h1 : _ ∨ _; refine Or.elim h1 (fun h1 => ?_) (fun h1 => ?_)) | (guard_hyp h1 : _ ∧ _; have hx := h1.2; replace h1 := h1.1)) <;> first | contradiction | omega | (dsimp only; omega)))⟩⟩, by first | omega | (dsimp only; omega)⟩
       | true =>
        refine WL.gtr rfl rfl rfl rfl hc26 ?_
        have hp26 := of_decide_eq_true hc26
        refine mv ?_
        refine mv ?_
        cases hc27 : decide ((0 : Int) < pile.length) with
        | false =>
         refine WL.gtr rfl rfl rfl rfl hc27 ?_
         have hp27 := of_decide_eq_false hc27
         refine pT ?_
         refine mv ?_
         refine ps ?_
         refine ps ?_
         refine ps ?_
         refine ps ?_
         refine ps ?_
         refine ps ?_
         refine ps ?_
         refine pF ?_
         refine asg ?_
         refine WL.dn ?_
         refine cF ?_
         refine WC.sk ?_
         refine WC.region ?_
         refine WL.add (v := (k : Int) + 1) rfl rfl rfl rfl (IntWalk.i64_in _ (by omega)) ?_
         refine mv ?_
         refine WL.nil (fun a_ ha => ?_)
         have h28 := ((hO.ext hE16).but hB19 (fun h1 => by first | omega | (dsimp only at h1; omega)) (fun hk => by have := (hO.ext hE16).own _ hk; have := hol _ hk; omega))
         have h29 := (hB19.row (hR2.ext hE16) (by omega))
         exact ⟨(k + 1, .slice ap pile.length capp, ⟨pile, u, gr⟩), _, ha.weaken (s4 (sr rfl (sr rfl (sr rfl (subReg_nil _))))), ⟨rfl, (hB19.onto (hE7.trans hE16) (by omega)), ⟨by first | omega | (dsimp only; omega), by omega, (by rw [Nd.madeSt_succ hx11, ← hst]; simp only [Nd.stepM, hc10, hc21, hc22, hc23, hc24, hc25, hc26, hc27, Nd.mostM, Nd.empty, Bool.or_true, Bool.true_or, Bool.or_false, Bool.false_or, cond_true, cond_false, Bool.true_and, Bool.false_and, Bool.and_true, Bool.and_false]), h29, (h28.dom (by intro k h1 _ _; (try dsimp only at h1); (repeat' first | (guard_hyp h1 : _ ∨ _; refine Or.elim h1 (fun h1 => ?_) (fun h1 => ?_)) | (guard_hyp h1 : _ ∧ _; have hx := h1.2; replace h1 := h1.1)) <;> first | contradiction | omega | (dsimp only; omega)))⟩⟩, by first | omega | (dsimp only; omega)⟩
        | true =>
         refine WL.gtr rfl rfl rfl rfl hc27 ?_
         have hp27 := of_decide_eq_true hc27
         refine pT ?_
         refine mv ?_
         refine mv ?_
         refine mv ?_
         refine WL.sub (v := ((pile.length - 1 : Nat) : Int)) rfl rfl rfl rfl (by rw [IntWalk.i64_in _ (by omega)]; omega) ?_
         have h28 := ((hM.ext hE16).but hB19 (by rintro i hi ⟨h1, h2⟩; first | omega | (dsimp only at h1; omega) | ((try dsimp only at h1); (repeat' first | (guard_hyp h1 : _ ∨ _; refine Or.elim h1 (fun h1 => ?_) (fun h1 => ?_)) | (guard_hyp h1 : _ ∧ _; have hx := h1.2; replace h1 := h1.1)) <;> first | contradiction | omega)) (fun hk => by have := (hM.ext hE16).block _ hk; have := hol _ hk; omega))
         obtain ⟨t29, ht29⟩ : ∃ t, pile[(pile.length - 1)]? = some t := ⟨_, List.getElem?_eq_getElem (by omega)⟩
         obtain ⟨eb29, el29, hea29, hgb29, hgl29, her29, hn29⟩ := h28.at ht29
         obtain ⟨a29, cap29, rfl, hts29, hlen29⟩ := hn29.op2
         subst hea29
         refine WL.indexAddr (i := (pile.length - 1)) rfl rfl Ty.slice27 rfl rfl rfl (by omega) ?_
         refine WL.fieldAddr rfl rfl Ty.fld29_0 rfl ?_
         refine WL.load_flat rfl rfl Ty.flat5 rfl (her29 0 _ rfl) ?_
         cases hc30 : ((t29.kind : Int) != 1) with
         | false =>
          refine WL.neq rfl rfl rfl rfl hc30 ?_
          have hp30 := bne_eq_false_iff_eq.1 hc30
          refine pT ?_
          refine asg ?_
          refine WL.dn ?_
          refine cF ?_
          refine WC.sk ?_
          refine WC.region ?_
          refine WL.add (v := (k : Int) + 1) rfl rfl rfl rfl (IntWalk.i64_in _ (by omega)) ?_
          refine mv ?_
          refine WL.nil (fun a_ ha => ?_)
          have h31 := ((hO.ext hE16).but hB19 (fun h1 => by first | omega | (dsimp only at h1; omega)) (fun hk => by have := (hO.ext hE16).own _ hk; have := hol _ hk; omega))
          have h32 := (hB19.row (hR2.ext hE16) (by omega))
          exact ⟨(k + 1, .slice (some ⟨eb29, 0, none⟩) pile.length capp, ⟨pile, u, gr⟩), _, ha.weaken (s4 (sr rfl (sr rfl (sr rfl (subReg_nil _))))), ⟨rfl, (hB19.onto (hE7.trans hE16) (by omega)), ⟨by first | omega | (dsimp only; omega), by omega, (by rw [Nd.madeSt_succ hx11, ← hst]; simp only [Nd.stepM, hc10, hc21, hc22, hc23, hc24, hc25, hc26, hc27, hc30, Nd.mostM, Nd.empty, Nd.top_at ht29, Bool.or_true, Bool.true_or, Bool.or_false, Bool.false_or, cond_true, cond_false, Bool.true_and, Bool.false_and, Bool.and_true, Bool.and_false]), h32, (h31.dom (by intro k h1 _ _; (try dsimp only at h1); (repeat' first | (guard_hyp h1 : _ ∨ _; refine Or.elim h1 (fun h1 => ?_) (fun h1 => ?_)) | (guard_hyp h1 : _ ∧ _; have hx := h1.2; replace h1 := h1.1)) <;> first | contradiction | omega | (dsimp only; omega)))⟩⟩, by first | omega | (dsimp only; omega)⟩
         | true =>
          refine WL.neq rfl rfl rfl rfl hc30 ?_
          have hp30 := bne_iff_ne.1 hc30
          refine pT ?_
          refine asg ?_
          refine WL.dn ?_
          refine cT ?_
          refine WC.seqk ?_
          have h31 := ((hO.ext hE16).but hB19 (fun h1 => by first | omega | (dsimp only at h1; omega)) (fun hk => by have := (hO.ext hE16).own _ hk; have := hol _ hk; omega))
          have h32 := (hB19.row (hR2.ext hE16) (by omega))
          refine WC.weaken (r' := [(2, pt b1 0), (20, .slice (some ⟨eb11, eo11, none⟩) ((xs.take 25).length) cap), (21, .int .i64 ((xs.take 25).length)), (22, .int .i64 (k : Int)), (3, .slice (some ⟨eb29, 0, none⟩) pile.length capp), (4, .int .i64 u), (5, .int .i64 gr), (23, .bool true), (24, pt eb11 (eo11 + k * 3)), (25, .agg #[.int .u8 x11.1, .int .u8 x11.2.1, .int .u8 x11.2.2]), (7, pt b12 0), (26, .slice (some ⟨eb29, 0, none⟩) pile.length capp), (27, .int .i64 pile.length), (8, .int .i64 pile.length), (28, pt b12 0), (29, .int .u8 x11.1), (30, .int .u8 (x11.1.tmod 12)), (9, .int .u8 (x11.1.tmod 12)), (32, .int .u8 (x11.1.tmod 12)), (33, .bool false), (31, .bool false), (42, .int .u8 (x11.1.tmod 12)), (43, .bool false), (41, .bool false), (49, .int .u8 (x11.1.tmod 12)), (50, .bool false), (51, .bool false), (52, undef), (53, undef), (54, .bool false), (48, .bool false), (75, .int .u8 (x11.1.tmod 12)), (76, .bool false), (77, .bool false), (78, undef), (79, undef), (80, .bool false), (74, .bool false), (101, .int .u8 (x11.1.tmod 12)), (102, .bool false), (103, .bool false), (104, undef), (105, undef), (106, .bool false), (107, .bool false), (108, undef), (109, undef), (110, .bool false), (100, .bool false), (124, .int .u8 (x11.1.tmod 12)), (125, .bool true), (126, .bool true), (127, .int .i64 pile.length), (128, .bool true), (129, .bool true), (130, .bool true), (131, .slice (some ⟨eb29, 0, none⟩) pile.length capp), (132, .int .i64 pile.length), (133, .int .i64 ((pile.length - 1 : Nat) : Int)), (134, pt eb29 (0 + (pile.length - 1) * 8)), (135, pt eb29 (0 + (pile.length - 1) * 8 + 0)), (136, .int .u8 t29.kind), (137, .bool true), (138, .bool true), (123, .bool true)]) (s4 (s4 (s4 (s4 (s4 (s4 (s4 (s4 (s4 (s4 (s4 (s4 (s4 (s4 (s4 (s4 (sr rfl (subReg_nil _)))))))))))))))))) ?_
          refine WC.draw 9 [139, 140, 141, 142, 143, 144, 145, 146, 10] [pc (pt b12 1), pc (.int .u8 x11.2.1), pc (.int .u8 (x11.2.1.tmod 3)), pc (.int .i64 (x11.2.1.tmod 3)), pc (pt b12 2), pc (.int .u8 x11.2.2), pc (.int .u8 (x11.2.2.tmod 4)), pc (.int .i64 (x11.2.2.tmod 4)), pc (.int .i64 (x11.2.1.tmod 3))] (by kernel_rfl) (by kernel_rfl) (k4 (k4 ⟨KW_pc _, trivial⟩)) rfl rfl rfl (sc4 ?_ ?_ ?_ ?_ (sc4 ?_ ?_ ?_ ?_ (sc ?_ (StepsOn.nil _)))) ?_
          ·intro σ β w1 hE1 hbi hk
           refine ⟨[], (agree_nil _), ?_⟩
           refine WL.fieldAddr rfl rfl Ty.fld53_1 rfl ?_
           exact dq hbi rfl
          ·intro σ β w1 hE1 hbi hk
           refine ⟨[(139, pt b12 1)], (ak hk 0 (agree_nil _)), ?_⟩
           refine WL.load_fld rfl rfl Ty.flat5 rfl (hR18.ext hE1) rfl ?_
           exact dq hbi rfl
          ·intro σ β w1 hE1 hbi hk
           refine ⟨[(140, .int .u8 x11.2.1)], (ak hk 1 (agree_nil _)), ?_⟩
           refine WL.rem (v := (x11.2.1.tmod 3)) rfl rfl rfl rfl (by decide) rfl ?_
           exact dq hbi rfl
          ·intro σ β w1 hE1 hbi hk
           have hz1 := hE1.size
           refine ⟨[(141, .int .u8 (x11.2.1.tmod 3))], (ak hk 2 (agree_nil _)), ?_⟩
           refine WL.convInt (v := (x11.2.1.tmod 3)) rfl rfl Try.underlying5 Try.underlying3 rfl (by have := Nd.mod_bd (x := x11.2.1) (n := 3) (by omega) (by decide); exact IntWalk.i64_in _ (by omega)) ?_
           exact dq hbi rfl
          ·intro σ β w1 hE1 hbi hk
           refine ⟨[], (agree_nil _), ?_⟩
           refine WL.fieldAddr rfl rfl Ty.fld53_2 rfl ?_
           exact dq hbi rfl
          ·intro σ β w1 hE1 hbi hk
           refine ⟨[(143, pt b12 2)], (ak hk 4 (agree_nil _)), ?_⟩
           refine WL.load_fld rfl rfl Ty.flat5 rfl (hR18.ext hE1) rfl ?_
           exact dq hbi rfl
          ·intro σ β w1 hE1 hbi hk
           refine ⟨[(144, .int .u8 x11.2.2)], (ak hk 5 (agree_nil _)), ?_⟩
           refine WL.rem (v := (x11.2.2.tmod 4)) rfl rfl rfl rfl (by decide) rfl ?_
           exact dq hbi rfl
          ·intro σ β w1 hE1 hbi hk
           have hz1 := hE1.size
           refine ⟨[(145, .int .u8 (x11.2.2.tmod 4))], (ak hk 6 (agree_nil _)), ?_⟩
           refine WL.convInt (v := (x11.2.2.tmod 4)) rfl rfl Try.underlying5 Try.underlying3 rfl (by have := Nd.mod_bd (x := x11.2.2) (n := 4) (by omega) (by decide); exact IntWalk.i64_in _ (by omega)) ?_
           exact dq hbi rfl
          ·intro σ β w1 hE1 hbi hk
           refine ⟨[(142, .int .i64 (x11.2.1.tmod 3))], (ak hk 3 (agree_nil _)), ?_⟩
           refine asg ?_
           exact dq hbi rfl
          intro σ β w33 hE33 hbi33 hk
          have hz33 := hE33.size
          have hbi := hbi33
          refine WL.know [(146, .int .i64 (x11.2.2.tmod 4)), (10, .int .i64 (x11.2.1.tmod 3))] (aj hk 7 (aj hk 8 (agree_nil _))) ?_
          refine asg ?_
          refine WL.dn ?_
          refine WC.seqk ?_
          refine sq ?_
          refine mv ?_
          refine mv ?_
          cases hc36 : decide (((x11.2.2.tmod 4) : Int) < (x11.2.1.tmod 3)) with
          | false =>
           refine WL.lss rfl rfl rfl rfl hc36 ?_
           have hp36 := of_decide_eq_false hc36
           refine mv ?_
           refine mv ?_
           cases hc37 : (((x11.2.2.tmod 4) : Int) == 0) with
           | false =>
            refine WL.eql rfl rfl rfl rfl hc37 ?_
            have hp37 := beq_eq_false_iff_ne.1 hc37
            refine pF ?_
            refine mv ?_
            refine mv ?_
            cases hc38 : (((x11.2.1.tmod 3) : Int) == 1) with
            | false =>
             refine WL.eql rfl rfl rfl rfl hc38 ?_
             have hp38 := beq_eq_false_iff_ne.1 hc38
             refine mv ?_
             refine ps ?_
             refine ps ?_
             refine pF ?_
             refine pF ?_
             refine WL.dn ?_
             refine cF ?_
             refine WC.sk ?_
             refine sq ?_
             refine mv ?_
             refine mv ?_
             refine WL.max3 (v := Nd.max3 (x11.2.1.tmod 3) (x11.2.2.tmod 4) 1) rfl rfl rfl rfl rfl rfl ?_
             refine asg ?_
             refine WL.dn ?_
             refine sq ?_
             refine mv ?_
             refine mv ?_
             refine WL.mul (v := u * (Nd.max3 (x11.2.1.tmod 3) (x11.2.2.tmod 4) 1)) rfl rfl rfl rfl (IntWalk.i64_in _ (by have h1 := Nd.mod_bd (x := x11.2.1) (n := 3) (by omega) (by decide); have h2 := Nd.mod_bd (x := x11.2.2) (n := 4) (by omega) (by decide); have := Nd.mul_bd hb3 hb4 (Nd.max3_bd (a := x11.2.1.tmod 3) (b := x11.2.2.tmod 4) (by omega) (by omega)); omega)) ?_
             cases hc39 : decide (((u * (Nd.max3 (x11.2.1.tmod 3) (x11.2.2.tmod 4) 1)) : Int) ≤ 16) with
             | false =>
              refine WL.leq rfl rfl rfl rfl hc39 ?_
              have hp39 := of_decide_eq_false hc39
              refine WL.dn ?_
              refine cF ?_
              refine WC.sk ?_
              refine WC.region ?_
              refine WL.add (v := (k : Int) + 1) rfl rfl rfl rfl (IntWalk.i64_in _ (by omega)) ?_
              refine mv ?_
              refine WL.nil (fun a_ ha => ?_)
              exact ⟨(k + 1, .slice (some ⟨eb29, 0, none⟩) pile.length capp, ⟨pile, u, gr⟩), _, ha.weaken (s4 (sr rfl (sr rfl (sr rfl (subReg_nil _))))), ⟨rfl, ((hB19.onto (hE7.trans hE16) (by omega)).trans hE33), ⟨by first | omega | (dsimp only; omega), by omega, (by rw [Nd.madeSt_succ hx11, ← hst]; simp only [Nd.stepM, hc10, hc21, hc22, hc23, hc24, hc25, hc26, hc27, hc30, hc36, hc37, hc38, hc39, Nd.mostM, Nd.empty, Nd.top_at ht29, Bool.or_true, Bool.true_or, Bool.or_false, Bool.false_or, cond_true, cond_false, Bool.true_and, Bool.false_and, Bool.and_true, Bool.and_false]), (h32.ext hE33), ((h31.ext hE33).dom (by intro k h1 _ _; (try dsimp only at h1); (repeat' first | (guard_hyp h1 : _ ∨ _; refine Or.elim h1 (fun h1 => ?_) (fun h1 => ?_)) | (guard_hyp h1 : _ ∧ _; have hx := h1.2; replace h1 := h1.1)) <;> first | contradiction | omega | (dsimp only; omega)))⟩⟩, by first | omega | (dsimp only; omega)⟩
             | true =>
              refine WL.leq rfl rfl rfl rfl hc39 ?_
              have hp39 := of_decide_eq_true hc39
              refine WL.dn ?_
              refine cT ?_
              refine sq ?_
              refine mv ?_
              refine mv ?_
              refine WL.mul (v := u * (Nd.max3 (x11.2.1.tmod 3) (x11.2.2.tmod 4) 1)) rfl rfl rfl rfl (IntWalk.i64_in _ (by have h1 := Nd.mod_bd (x := x11.2.1) (n := 3) (by omega) (by decide); have h2 := Nd.mod_bd (x := x11.2.2) (n := 4) (by omega) (by decide); have := Nd.mul_bd hb3 hb4 (Nd.max3_bd (a := x11.2.1.tmod 3) (b := x11.2.2.tmod 4) (by omega) (by omega)); omega)) ?_
              refine asg ?_
              refine WL.dn ?_
              refine WC.region ?_
              refine mv ?_
              refine mv ?_
              refine WL.sub (v := ((pile.length - 1 : Nat) : Int)) rfl rfl rfl rfl (by rw [IntWalk.i64_in _ (by omega)]; omega) ?_
              refine mv ?_
              refine mv ?_
              refine WL.sub (v := ((pile.length - 1 : Nat) : Int)) rfl rfl rfl rfl (by rw [IntWalk.i64_in _ (by omega)]; omega) ?_
              refine WL.indexAddr (i := (pile.length - 1)) rfl rfl Ty.slice27 rfl rfl rfl (by omega) ?_
              refine WL.load_agg (l := tcells t29 (.slice a29 t29.subs.length cap29)) rfl rfl Ty.agg29 rfl (her29.ext hE33) ?_
              refine mv ?_
              refine mv ?_
              refine WL.call rfl rfl rfl Ty.ent23 (rep_ok _ _ _ t29 (x11.2.1.tmod 3) (x11.2.2.tmod 4) (hn29.ext hE33)) ?_
              rintro _ w42 ⟨l40, rfl, hr40, hE41⟩
              have hzhE41 := hE41.size
              refine ⟨_, rfl, ?_⟩
              have hn40 := hr40.lt
              obtain ⟨a40, cap40, rfl, hts40, hlen40⟩ := hn40.op2
              refine WL.indexAddr (i := (pile.length - 1)) rfl rfl Ty.slice27 rfl rfl rfl (by omega) ?_
              have h45 := ((h28.ext hE33).ext hE41)
              refine WL.storeV (i := (pile.length - 1)) (T := (Nd.mk 5 Nd.zero (x11.2.1.tmod 3) (x11.2.2.tmod 4) [t29])) rfl Ty.agg29 rfl rfl h45 (by omega) hn40 (by first | (rintro k ⟨h1, h2⟩ h3; first | omega | (dsimp only at h1; omega)) | (intro k h1 h3; (try dsimp only at h1); (repeat' first | (guard_hyp h1 : _ ∨ _; refine Or.elim h1 (fun h1 => ?_) (fun h1 => ?_)) | (guard_hyp h1 : _ ∧ _; have hx := h1.2; replace h1 := h1.1)) <;> first | contradiction | omega)) (fun w46 hB44 hM43 => ?_)
              have hzhB44 := hB44.size
              refine WL.dn ?_
              refine WC.region ?_
              refine WL.add (v := (k : Int) + 1) rfl rfl rfl rfl (IntWalk.i64_in _ (by omega)) ?_
              refine mv ?_
              refine WL.nil (fun a_ ha => ?_)
              have h47 := (hB44.row ((h32.ext hE33).ext hE41) (by omega))
              exact ⟨(k + 1, .slice (some ⟨eb29, 0, none⟩) pile.length capp, ⟨(pile.set (pile.length - 1) (Nd.mk 5 Nd.zero (x11.2.1.tmod 3) (x11.2.2.tmod 4) [t29])), u * (Nd.max3 (x11.2.1.tmod 3) (x11.2.2.tmod 4) 1), gr⟩), _, ha.weaken (s4 (sr rfl (sr rfl (sr rfl (subReg_nil _))))), ⟨rfl, (hB44.onto (((hB19.onto (hE7.trans hE16) (by omega)).trans hE33).trans hE41) (by omega)), ⟨by first | omega | (dsimp only; omega), by omega, (by rw [Nd.madeSt_succ hx11, ← hst]; simp only [Nd.stepM, hc10, hc21, hc22, hc23, hc24, hc25, hc26, hc27, hc30, hc36, hc37, hc38, hc39, Nd.mostM, Nd.empty, Nd.top_at ht29, Bool.or_true, Bool.true_or, Bool.or_false, Bool.false_or, cond_true, cond_false, Bool.true_and, Bool.false_and, Bool.and_true, Bool.and_false]), h47, ((hM43).own (by rintro i b hi h1 h2 h3; (try dsimp only at h1); omega))⟩⟩, by first | omega | (dsimp only; omega)⟩
            | true =>
             refine WL.eql rfl rfl rfl rfl hc38 ?_
             have hp38 := beq_iff_eq.1 hc38
             refine mv ?_
             refine mv ?_
             cases hc39 : (((x11.2.2.tmod 4) : Int) == 1) with
             | false =>
              refine WL.eql rfl rfl rfl rfl hc39 ?_
              have hp39 := beq_eq_false_iff_ne.1 hc39
              refine pT ?_
              refine pF ?_
              refine WL.dn ?_
              refine cF ?_
              refine WC.sk ?_
              refine sq ?_
              refine mv ?_
              refine mv ?_
              refine WL.max3 (v := Nd.max3 (x11.2.1.tmod 3) (x11.2.2.tmod 4) 1) rfl rfl rfl rfl rfl rfl ?_
              refine asg ?_
              refine WL.dn ?_
              refine sq ?_
              refine mv ?_
              refine mv ?_
              refine WL.mul (v := u * (Nd.max3 (x11.2.1.tmod 3) (x11.2.2.tmod 4) 1)) rfl rfl rfl rfl (IntWalk.i64_in _ (by have h1 := Nd.mod_bd (x := x11.2.1) (n := 3) (by omega) (by decide); have h2 := Nd.mod_bd (x := x11.2.2) (n := 4) (by omega) (by decide); have := Nd.mul_bd hb3 hb4 (Nd.max3_bd (a := x11.2.1.tmod 3) (b := x11.2.2.tmod 4) (by omega) (by omega)); omega)) ?_
              cases hc40 : decide (((u * (Nd.max3 (x11.2.1.tmod 3) (x11.2.2.tmod 4) 1)) : Int) ≤ 16) with
              | false =>
               refine WL.leq rfl rfl rfl rfl hc40 ?_
               have hp40 := of_decide_eq_false hc40
               refine WL.dn ?_
               refine cF ?_
               refine WC.sk ?_
               refine WC.region ?_
               refine WL.add (v := (k : Int) + 1) rfl rfl rfl rfl (IntWalk.i64_in _ (by omega)) ?_
               refine mv ?_
               refine WL.nil (fun a_ ha => ?_)
               exact ⟨(k + 1, .slice (some ⟨eb29, 0, none⟩) pile.length capp, ⟨pile, u, gr⟩), _, ha.weaken (s4 (sr rfl (sr rfl (sr rfl (subReg_nil _))))), ⟨rfl, ((hB19.onto (hE7.trans hE16) (by omega)).trans hE33), ⟨by first | omega | (dsimp only; omega), by omega, (by rw [Nd.madeSt_succ hx11, ← hst]; simp only [Nd.stepM, hc10, hc21, hc22, hc23, hc24, hc25, hc26, hc27, hc30, hc36, hc37, hc38, hc39, hc40, Nd.mostM, Nd.empty, Nd.top_at ht29, Bool.or_true, Bool.true_or, Bool.or_false, Bool.false_or, cond_true, cond_false, Bool.true_and, Bool.false_and, Bool.and_true, Bool.and_false]), (h32.ext hE33), ((h31.ext hE33).dom (by intro k h1 _ _; (try dsimp only at h1); (repeat' first | (guard_hyp h1 : _ ∨ _; refine Or.elim h1 (fun h1 => ?_) (fun h1 => ?_)) | (guard_hyp h1 : _ ∧ _; have hx := h1.2; replace h1 := h1.1)) <;> first | contradiction | omega | (dsimp only; omega)))⟩⟩, by first | omega | (dsimp only; omega)⟩
              | true =>
               refine WL.leq rfl rfl rfl rfl hc40 ?_
               have hp40 := of_decide_eq_true hc40
               refine WL.dn ?_
               refine cT ?_
               refine sq ?_
               refine mv ?_
               refine mv ?_
               refine WL.mul (v := u * (Nd.max3 (x11.2.1.tmod 3) (x11.2.2.tmod 4) 1)) rfl rfl rfl rfl (IntWalk.i64_in _ (by have h1 := Nd.mod_bd (x := x11.2.1) (n := 3) (by omega) (by decide); have h2 := Nd.mod_bd (x := x11.2.2) (n := 4) (by omega) (by decide); have := Nd.mul_bd hb3 hb4 (Nd.max3_bd (a := x11.2.1.tmod 3) (b := x11.2.2.tmod 4) (by omega) (by omega)); omega)) ?_
               refine asg ?_
               refine WL.dn ?_
               refine WC.region ?_
               refine mv ?_
               refine mv ?_
               refine WL.sub (v := ((pile.length - 1 : Nat) : Int)) rfl rfl rfl rfl (by rw [IntWalk.i64_in _ (by omega)]; omega) ?_
               refine mv ?_
               refine mv ?_
               refine WL.sub (v := ((pile.length - 1 : Nat) : Int)) rfl rfl rfl rfl (by rw [IntWalk.i64_in _ (by omega)]; omega) ?_
               refine WL.indexAddr (i := (pile.length - 1)) rfl rfl Ty.slice27 rfl rfl rfl (by omega) ?_
               refine WL.load_agg (l := tcells t29 (.slice a29 t29.subs.length cap29)) rfl rfl Ty.agg29 rfl (her29.ext hE33) ?_
               refine mv ?_
               refine mv ?_
               refine WL.call rfl rfl rfl Ty.ent23 (rep_ok _ _ _ t29 (x11.2.1.tmod 3) (x11.2.2.tmod 4) (hn29.ext hE33)) ?_
               rintro _ w43 ⟨l41, rfl, hr41, hE42⟩
               have hzhE42 := hE42.size
               refine ⟨_, rfl, ?_⟩
               have hn41 := hr41.lt
               obtain ⟨a41, cap41, rfl, hts41, hlen41⟩ := hn41.op2
               refine WL.indexAddr (i := (pile.length - 1)) rfl rfl Ty.slice27 rfl rfl rfl (by omega) ?_
               have h46 := ((h28.ext hE33).ext hE42)
               refine WL.storeV (i := (pile.length - 1)) (T := (Nd.mk 5 Nd.zero (x11.2.1.tmod 3) (x11.2.2.tmod 4) [t29])) rfl Ty.agg29 rfl rfl h46 (by omega) hn41 (by first | (rintro k ⟨h1, h2⟩ h3; first | omega | (dsimp only at h1; omega)) | (intro k h1 h3; (try dsimp only at h1); (repeat' first | (guard_hyp h1 : _ ∨ _; refine Or.elim h1 (fun h1 => ?_) (fun h1 => ?_)) | (guard_hyp h1 : _ ∧ _; have hx := h1.2; replace h1 := h1.1)) <;> first | contradiction | omega)) (fun w47 hB45 hM44 => ?_)
               have hzhB45 := hB45.size
               refine WL.dn ?_
               refine WC.region ?_
               refine WL.add (v := (k : Int) + 1) rfl rfl rfl rfl (IntWalk.i64_in _ (by omega)) ?_
               refine mv ?_
               refine WL.nil (fun a_ ha => ?_)
               have h48 := (hB45.row ((h32.ext hE33).ext hE42) (by omega))
               exact ⟨(k + 1, .slice (some ⟨eb29, 0, none⟩) pile.length capp, ⟨(pile.set (pile.length - 1) (Nd.mk 5 Nd.zero (x11.2.1.tmod 3) (x11.2.2.tmod 4) [t29])), u * (Nd.max3 (x11.2.1.tmod 3) (x11.2.2.tmod 4) 1), gr⟩), _, ha.weaken (s4 (sr rfl (sr rfl (sr rfl (subReg_nil _))))), ⟨rfl, (hB45.onto (((hB19.onto (hE7.trans hE16) (by omega)).trans hE33).trans hE42) (by omega)), ⟨by first | omega | (dsimp only; omega), by omega, (by rw [Nd.madeSt_succ hx11, ← hst]; simp only [Nd.stepM, hc10, hc21, hc22, hc23, hc24, hc25, hc26, hc27, hc30, hc36, hc37, hc38, hc39, hc40, Nd.mostM, Nd.empty, Nd.top_at ht29, Bool.or_true, Bool.true_or, Bool.or_false, Bool.false_or, cond_true, cond_false, Bool.true_and, Bool.false_and, Bool.and_true, Bool.and_false]), h48, ((hM44).own (by rintro i b hi h1 h2 h3; (try dsimp only at h1); omega))⟩⟩, by first | omega | (dsimp only; omega)⟩
             | true =>
              refine WL.eql rfl rfl rfl rfl hc39 ?_
              have hp39 := beq_iff_eq.1 hc39
              refine pT ?_
              refine pF ?_
              refine WL.dn ?_
              refine cT ?_
              refine WC.region ?_
              refine asg ?_
              refine WL.dn ?_
              refine sq ?_
              refine mv ?_
              refine mv ?_
              refine WL.max3 (v := Nd.max3 (x11.2.1.tmod 3) (-1) 1) rfl rfl rfl rfl rfl rfl ?_
              refine asg ?_
              refine WL.dn ?_
              refine sq ?_
              refine mv ?_
              refine mv ?_
              refine WL.mul (v := u * (Nd.max3 (x11.2.1.tmod 3) (-1) 1)) rfl rfl rfl rfl (IntWalk.i64_in _ (by have h1 := Nd.mod_bd (x := x11.2.1) (n := 3) (by omega) (by decide); have h2 := Nd.mod_bd (x := x11.2.2) (n := 4) (by omega) (by decide); have := Nd.mul_bd hb3 hb4 (Nd.max3_bd (a := x11.2.1.tmod 3) (b := -1) (by omega) (by omega)); omega)) ?_
              cases hc40 : decide (((u * (Nd.max3 (x11.2.1.tmod 3) (-1) 1)) : Int) ≤ 16) with
              | false =>
               refine WL.leq rfl rfl rfl rfl hc40 ?_
               have hp40 := of_decide_eq_false hc40
               refine WL.dn ?_
               refine cF ?_
               refine WC.sk ?_
               refine WC.region ?_
               refine WL.add (v := (k : Int) + 1) rfl rfl rfl rfl (IntWalk.i64_in _ (by omega)) ?_
               refine mv ?_
               refine WL.nil (fun a_ ha => ?_)
               exact ⟨(k + 1, .slice (some ⟨eb29, 0, none⟩) pile.length capp, ⟨pile, u, gr⟩), _, ha.weaken (s4 (sr rfl (sr rfl (sr rfl (subReg_nil _))))), ⟨rfl, ((hB19.onto (hE7.trans hE16) (by omega)).trans hE33), ⟨by first | omega | (dsimp only; omega), by omega, (by rw [Nd.madeSt_succ hx11, ← hst]; simp only [Nd.stepM, hc10, hc21, hc22, hc23, hc24, hc25, hc26, hc27, hc30, hc36, hc37, hc38, hc39, hc40, Nd.mostM, Nd.empty, Nd.top_at ht29, Bool.or_true, Bool.true_or, Bool.or_false, Bool.false_or, cond_true, cond_false, Bool.true_and, Bool.false_and, Bool.and_true, Bool.and_false]), (h32.ext hE33), ((h31.ext hE33).dom (by intro k h1 _ _; (try dsimp only at h1); (repeat' first | (guard_hyp h1 : _ ∨ _; refine Or.elim h1 (fun h1 => ?_) (fun h1 => ?_)) | (guard_hyp h1 : _ ∧ _; have hx := h1.2; replace h1 := h1.1)) <;> first | contradiction | omega | (dsimp only; omega)))⟩⟩, by first | omega | (dsimp only; omega)⟩
              | true =>
               refine WL.leq rfl rfl rfl rfl hc40 ?_
               have hp40 := of_decide_eq_true hc40
               refine WL.dn ?_
               refine cT ?_
               refine sq ?_
               refine mv ?_
               refine mv ?_
               refine WL.mul (v := u * (Nd.max3 (x11.2.1.tmod 3) (-1) 1)) rfl rfl rfl rfl (IntWalk.i64_in _ (by have h1 := Nd.mod_bd (x := x11.2.1) (n := 3) (by omega) (by decide); have h2 := Nd.mod_bd (x := x11.2.2) (n := 4) (by omega) (by decide); have := Nd.mul_bd hb3 hb4 (Nd.max3_bd (a := x11.2.1.tmod 3) (b := -1) (by omega) (by omega)); omega)) ?_
               refine asg ?_
               refine WL.dn ?_
               refine WC.region ?_
               refine mv ?_
               refine mv ?_
               refine WL.sub (v := ((pile.length - 1 : Nat) : Int)) rfl rfl rfl rfl (by rw [IntWalk.i64_in _ (by omega)]; omega) ?_
               refine mv ?_
               refine mv ?_
               refine WL.sub (v := ((pile.length - 1 : Nat) : Int)) rfl rfl rfl rfl (by rw [IntWalk.i64_in _ (by omega)]; omega) ?_
               refine WL.indexAddr (i := (pile.length - 1)) rfl rfl Ty.slice27 rfl rfl rfl (by omega) ?_
               refine WL.load_agg (l := tcells t29 (.slice a29 t29.subs.length cap29)) rfl rfl Ty.agg29 rfl (her29.ext hE33) ?_
               refine mv ?_
               refine mv ?_
               refine WL.call rfl rfl rfl Ty.ent23 (rep_ok _ _ _ t29 (x11.2.1.tmod 3) (-1) (hn29.ext hE33)) ?_
               rintro _ w43 ⟨l41, rfl, hr41, hE42⟩
               have hzhE42 := hE42.size
               refine ⟨_, rfl, ?_⟩
               have hn41 := hr41.lt
               obtain ⟨a41, cap41, rfl, hts41, hlen41⟩ := hn41.op2
               refine WL.indexAddr (i := (pile.length - 1)) rfl rfl Ty.slice27 rfl rfl rfl (by omega) ?_
               have h46 := ((h28.ext hE33).ext hE42)
               refine WL.storeV (i := (pile.length - 1)) (T := (Nd.mk 5 Nd.zero (x11.2.1.tmod 3) (-1) [t29])) rfl Ty.agg29 rfl rfl h46 (by omega) hn41 (by first | (rintro k ⟨h1, h2⟩ h3; first | omega | (dsimp only at h1; omega)) | (intro k h1 h3; (try dsimp only at h1); (repeat' first | (guard_hyp h1 : _ ∨ _; refine Or.elim h1 (fun h1 => ?_) (fun h1 => ?_)) | (guard_hyp h1 : _ ∧ _; have hx := h1.2; replace h1 := h1.1)) <;> first | contradiction | omega)) (fun w47 hB45 hM44 => ?_)
               have hzhB45 := hB45.size
               refine WL.dn ?_
               refine WC.region ?_
               refine WL.add (v := (k : Int) + 1) rfl rfl rfl rfl (IntWalk.i64_in _ (by omega)) ?_
               refine mv ?_
               refine WL.nil (fun a_ ha => ?_)
               have h48 := (hB45.row ((h32.ext hE33).ext hE42) (by omega))
               exact ⟨(k + 1, .slice (some ⟨eb29, 0, none⟩) pile.length capp, ⟨(pile.set (pile.length - 1) (Nd.mk 5 Nd.zero (x11.2.1.tmod 3) (-1) [t29])), u * (Nd.max3 (x11.2.1.tmod 3) (-1) 1), gr⟩), _, ha.weaken (s4 (sr rfl (sr rfl (sr rfl (subReg_nil _))))), ⟨rfl, (hB45.onto (((hB19.onto (hE7.trans hE16) (by omega)).trans hE33).trans hE42) (by omega)), ⟨by first | omega | (dsimp only; omega), by omega, (by rw [Nd.madeSt_succ hx11, ← hst]; simp only [Nd.stepM, hc10, hc21, hc22, hc23, hc24, hc25, hc26, hc27, hc30, hc36, hc37, hc38, hc39, hc40, Nd.mostM, Nd.empty, Nd.top_at ht29, Bool.or_true, Bool.true_or, Bool.or_false, Bool.false_or, cond_true, cond_false, Bool.true_and, Bool.false_and, Bool.and_true, Bool.and_false]), h48, ((hM44).own (by rintro i b hi h1 h2 h3; (try dsimp only at h1); omega))⟩⟩, by first | omega | (dsimp only; omega)⟩
           | true =>
            refine WL.eql rfl rfl rfl rfl hc37 ?_
            have hp37 := beq_iff_eq.1 hc37
            refine pF ?_
            refine mv ?_
            refine ps ?_
            refine ps ?_
            refine ps ?_
            refine ps ?_
            refine ps ?_
            refine ps ?_
            refine pT ?_
            refine WL.dn ?_
            refine cT ?_
            refine WC.region ?_
            refine asg ?_
            refine WL.dn ?_
            refine sq ?_
            refine mv ?_
            refine mv ?_
            refine WL.max3 (v := Nd.max3 (x11.2.1.tmod 3) (-1) 1) rfl rfl rfl rfl rfl rfl ?_
            refine asg ?_
            refine WL.dn ?_
            refine sq ?_
            refine mv ?_
            refine mv ?_
            refine WL.mul (v := u * (Nd.max3 (x11.2.1.tmod 3) (-1) 1)) rfl rfl rfl rfl (IntWalk.i64_in _ (by have h1 := Nd.mod_bd (x := x11.2.1) (n := 3) (by omega) (by decide); have h2 := Nd.mod_bd (x := x11.2.2) (n := 4) (by omega) (by decide); have := Nd.mul_bd hb3 hb4 (Nd.max3_bd (a := x11.2.1.tmod 3) (b := -1) (by omega) (by omega)); omega)) ?_
            cases hc38 : decide (((u * (Nd.max3 (x11.2.1.tmod 3) (-1) 1)) : Int) ≤ 16) with
            | false =>
             refine WL.leq rfl rfl rfl rfl hc38 ?_
             have hp38 := of_decide_eq_false hc38
             refine WL.dn ?_
             refine cF ?_
             refine WC.sk ?_
             refine WC.region ?_
             refine WL.add (v := (k : Int) + 1) rfl rfl rfl rfl (IntWalk.i64_in _ (by omega)) ?_
             refine mv ?_
             refine WL.nil (fun a_ ha => ?_)
             exact ⟨(k + 1, .slice (some ⟨eb29, 0, none⟩) pile.length capp, ⟨pile, u, gr⟩), _, ha.weaken (s4 (sr rfl (sr rfl (sr rfl (subReg_nil _))))), ⟨rfl, ((hB19.onto (hE7.trans hE16) (by omega)).trans hE33), ⟨by first | omega | (dsimp only; omega), by omega, (by rw [Nd.madeSt_succ hx11, ← hst]; simp only [Nd.stepM, hc10, hc21, hc22, hc23, hc24, hc25, hc26, hc27, hc30, hc36, hc37, hc38, Nd.mostM, Nd.empty, Nd.top_at ht29, Bool.or_true, Bool.true_or, Bool.or_false, Bool.false_or, cond_true, cond_false, Bool.true_and, Bool.false_and, Bool.and_true, Bool.and_false]), (h32.ext hE33), ((h31.ext hE33).dom (by intro k h1 _ _; (try dsimp only at h1); (repeat' first | (guard_hyp h1 : _ ∨ _; refine Or.elim h1 (fun h1 => ?_) (fun h1 => ?_)) | (guard_hyp h1 : _ ∧ _; have hx := h1.2; replace h1 := h1.1)) <;> first | contradiction | omega | (dsimp only; omega)))⟩⟩, by first | omega | (dsimp only; omega)⟩
            | true =>
             refine WL.leq rfl rfl rfl rfl hc38 ?_
             have hp38 := of_decide_eq_true hc38
             refine WL.dn ?_
             refine cT ?_
             refine sq ?_
             refine mv ?_
             refine mv ?_
             refine WL.mul (v := u * (Nd.max3 (x11.2.1.tmod 3) (-1) 1)) rfl rfl rfl rfl (IntWalk.i64_in _ (by have h1 := Nd.mod_bd (x := x11.2.1) (n := 3) (by omega) (by decide); have h2 := Nd.mod_bd (x := x11.2.2) (n := 4) (by omega) (by decide); have := Nd.mul_bd hb3 hb4 (Nd.max3_bd (a := x11.2.1.tmod 3) (b := -1) (by omega) (by omega)); omega)) ?_
             refine asg ?_
             refine WL.dn ?_
             refine WC.region ?_
             refine mv ?_
             refine mv ?_
             refine WL.sub (v := ((pile.length - 1 : Nat) : Int)) rfl rfl rfl rfl (by rw [IntWalk.i64_in _ (by omega)]; omega) ?_
             refine mv ?_
             refine mv ?_
             refine WL.sub (v := ((pile.length - 1 : Nat) : Int)) rfl rfl rfl rfl (by rw [IntWalk.i64_in _ (by omega)]; omega) ?_
             refine WL.indexAddr (i := (pile.length - 1)) rfl rfl Ty.slice27 rfl rfl rfl (by omega) ?_
             refine WL.load_agg (l := tcells t29 (.slice a29 t29.subs.length cap29)) rfl rfl Ty.agg29 rfl (her29.ext hE33) ?_
             refine mv ?_
             refine mv ?_
             refine WL.call rfl rfl rfl Ty.ent23 (rep_ok _ _ _ t29 (x11.2.1.tmod 3) (-1) (hn29.ext hE33)) ?_
             rintro _ w41 ⟨l39, rfl, hr39, hE40⟩
             have hzhE40 := hE40.size
             refine ⟨_, rfl, ?_⟩
             have hn39 := hr39.lt
             obtain ⟨a39, cap39, rfl, hts39, hlen39⟩ := hn39.op2
             refine WL.indexAddr (i := (pile.length - 1)) rfl rfl Ty.slice27 rfl rfl rfl (by omega) ?_
             have h44 := ((h28.ext hE33).ext hE40)
             refine WL.storeV (i := (pile.length - 1)) (T := (Nd.mk 5 Nd.zero (x11.2.1.tmod 3) (-1) [t29])) rfl Ty.agg29 rfl rfl h44 (by omega) hn39 (by first | (rintro k ⟨h1, h2⟩ h3; first | omega | (dsimp only at h1; omega)) | (intro k h1 h3; (try dsimp only at h1); (repeat' first | (guard_hyp h1 : _ ∨ _; refine Or.elim h1 (fun h1 => ?_) (fun h1 => ?_)) | (guard_hyp h1 : _ ∧ _; have hx := h1.2; replace h1 := h1.1)) <;> first | contradiction | omega)) (fun w45 hB43 hM42 => ?_)
             have hzhB43 := hB43.size
             refine WL.dn ?_
             refine WC.region ?_
             refine WL.add (v := (k : Int) + 1) rfl rfl rfl rfl (IntWalk.i64_in _ (by omega)) ?_
             refine mv ?_
             refine WL.nil (fun a_ ha => ?_)
             have h46 := (hB43.row ((h32.ext hE33).ext hE40) (by omega))
             exact ⟨(k + 1, .slice (some ⟨eb29, 0, none⟩) pile.length capp, ⟨(pile.set (pile.length - 1) (Nd.mk 5 Nd.zero (x11.2.1.tmod 3) (-1) [t29])), u * (Nd.max3 (x11.2.1.tmod 3) (-1) 1), gr⟩), _, ha.weaken (s4 (sr rfl (sr rfl (sr rfl (subReg_nil _))))), ⟨rfl, (hB43.onto (((hB19.onto (hE7.trans hE16) (by omega)).trans hE33).trans hE40) (by omega)), ⟨by first | omega | (dsimp only; omega), by omega, (by rw [Nd.madeSt_succ hx11, ← hst]; simp only [Nd.stepM, hc10, hc21, hc22, hc23, hc24, hc25, hc26, hc27, hc30, hc36, hc37, hc38, Nd.mostM, Nd.empty, Nd.top_at ht29, Bool.or_true, Bool.true_or, Bool.or_false, Bool.false_or, cond_true, cond_false, Bool.true_and, Bool.false_and, Bool.and_true, Bool.and_false]), h46, ((hM42).own (by rintro i b hi h1 h2 h3; (try dsimp only at h1); omega))⟩⟩, by first | omega | (dsimp only; omega)⟩
          | true =>
           refine WL.lss rfl rfl rfl rfl hc36 ?_
           have hp36 := of_decide_eq_true hc36
           refine mv ?_
           refine ps ?_
           refine ps ?_
           refine pT ?_
           refine mv ?_
           refine ps ?_
           refine ps ?_
           refine ps ?_
           refine ps ?_
           refine ps ?_
           refine ps ?_
           refine pT ?_
           refine WL.dn ?_
           refine cT ?_
           refine WC.region ?_
           refine asg ?_
           refine WL.dn ?_
           refine sq ?_
           refine mv ?_
           refine mv ?_
           refine WL.max3 (v := Nd.max3 (x11.2.1.tmod 3) (-1) 1) rfl rfl rfl rfl rfl rfl ?_
           refine asg ?_
           refine WL.dn ?_
           refine sq ?_
           refine mv ?_
           refine mv ?_
           refine WL.mul (v := u * (Nd.max3 (x11.2.1.tmod 3) (-1) 1)) rfl rfl rfl rfl (IntWalk.i64_in _ (by have h1 := Nd.mod_bd (x := x11.2.1) (n := 3) (by omega) (by decide); have h2 := Nd.mod_bd (x := x11.2.2) (n := 4) (by omega) (by decide); have := Nd.mul_bd hb3 hb4 (Nd.max3_bd (a := x11.2.1.tmod 3) (b := -1) (by omega) (by omega)); omega)) ?_
           cases hc37 : decide (((u * (Nd.max3 (x11.2.1.tmod 3) (-1) 1)) : Int) ≤ 16) with
           | false =>
            refine WL.leq rfl rfl rfl rfl hc37 ?_
            have hp37 := of_decide_eq_false hc37
            refine WL.dn ?_
            refine cF ?_
            refine WC.sk ?_
            refine WC.region ?_
            refine WL.add (v := (k : Int) + 1) rfl rfl rfl rfl (IntWalk.i64_in _ (by omega)) ?_
            refine mv ?_
            refine WL.nil (fun a_ ha => ?_)
            exact ⟨(k + 1, .slice (some ⟨eb29, 0, none⟩) pile.length capp, ⟨pile, u, gr⟩), _, ha.weaken (s4 (sr rfl (sr rfl (sr rfl (subReg_nil _))))), ⟨rfl, ((hB19.onto (hE7.trans hE16) (by omega)).trans hE33), ⟨by first | omega | (dsimp only; omega), by omega, (by rw [Nd.madeSt_succ hx11, ← hst]; simp only [Nd.stepM, hc10, hc21, hc22, hc23, hc24, hc25, hc26, hc27, hc30, hc36, hc37, Nd.mostM, Nd.empty, Nd.top_at ht29, Bool.or_true, Bool.true_or, Bool.or_false, Bool.false_or, cond_true, cond_false, Bool.true_and, Bool.false_and, Bool.and_true, Bool.and_false]), (h32.ext hE33), ((h31.ext hE33).dom (by intro k h1 _ _; (try dsimp only at h1); (repeat' first | (guard_hyp h1 : _ ∨ _; refine Or.elim h1 (fun h1 => ?_) (fun h1 => ?_)) | (guard_hyp h1 : _ ∧ _; have hx := h1.2; replace h1 := h1.1)) <;> first | contradiction | omega | (dsimp only; omega)))⟩⟩, by first | omega | (dsimp only; omega)⟩
           | true =>
            refine WL.leq rfl rfl rfl rfl hc37 ?_
            have hp37 := of_decide_eq_true hc37
            refine WL.dn ?_
            refine cT ?_
            refine sq ?_
            refine mv ?_
            refine mv ?_
            refine WL.mul (v := u * (Nd.max3 (x11.2.1.tmod 3) (-1) 1)) rfl rfl rfl rfl (IntWalk.i64_in _ (by have h1 := Nd.mod_bd (x := x11.2.1) (n := 3) (by omega) (by decide); have h2 := Nd.mod_bd (x := x11.2.2) (n := 4) (by omega) (by decide); have := Nd.mul_bd hb3 hb4 (Nd.max3_bd (a := x11.2.1.tmod 3) (b := -1) (by omega) (by omega)); omega)) ?_
            refine asg ?_
            refine WL.dn ?_
            refine WC.region ?_
            refine mv ?_
            refine mv ?_
            refine WL.sub (v := ((pile.length - 1 : Nat) : Int)) rfl rfl rfl rfl (by rw [IntWalk.i64_in _ (by omega)]; omega) ?_
            refine mv ?_
            refine mv ?_
            refine WL.sub (v := ((pile.length - 1 : Nat) : Int)) rfl rfl rfl rfl (by rw [IntWalk.i64_in _ (by omega)]; omega) ?_
            refine WL.indexAddr (i := (pile.length - 1)) rfl rfl Ty.slice27 rfl rfl rfl (by omega) ?_
            refine WL.load_agg (l := tcells t29 (.slice a29 t29.subs.length cap29)) rfl rfl Ty.agg29 rfl (her29.ext hE33) ?_
            refine mv ?_
            refine mv ?_
            refine WL.call rfl rfl rfl Ty.ent23 (rep_ok _ _ _ t29 (x11.2.1.tmod 3) (-1) (hn29.ext hE33)) ?_
            rintro _ w40 ⟨l38, rfl, hr38, hE39⟩
            have hzhE39 := hE39.size
            refine ⟨_, rfl, ?_⟩
            have hn38 := hr38.lt
            obtain ⟨a38, cap38, rfl, hts38, hlen38⟩ := hn38.op2
            refine WL.indexAddr (i := (pile.length - 1)) rfl rfl Ty.slice27 rfl rfl rfl (by omega) ?_
            have h43 := ((h28.ext hE33).ext hE39)
            refine WL.storeV (i := (pile.length - 1)) (T := (Nd.mk 5 Nd.zero (x11.2.1.tmod 3) (-1) [t29])) rfl Ty.agg29 rfl rfl h43 (by omega) hn38 (by first | (rintro k ⟨h1, h2⟩ h3; first | omega | (dsimp only at h1; omega)) | (intro k h1 h3; (try dsimp only at h1); (repeat' first | (guard_hyp h1 : _ ∨ _; refine Or.elim h1 (fun h1 => ?_) (fun h1 => ?_)) | (guard_hyp h1 : _ ∧ _; have hx := h1.2; replace h1 := h1.1)) <;> first | contradiction | omega)) (fun w44 hB42 hM41 => ?_)
            have hzhB42 := hB42.size
            refine WL.dn ?_
            refine WC.region ?_
            refine WL.add (v := (k : Int) + 1) rfl rfl rfl rfl (IntWalk.i64_in _ (by omega)) ?_
            refine mv ?_
            refine WL.nil (fun a_ ha => ?_)
            have h45 := (hB42.row ((h32.ext hE33).ext hE39) (by omega))
            exact ⟨(k + 1, .slice (some ⟨eb29, 0, none⟩) pile.length capp, ⟨(pile.set (pile.length - 1) (Nd.mk 5 Nd.zero (x11.2.1.tmod 3) (-1) [t29])), u * (Nd.max3 (x11.2.1.tmod 3) (-1) 1), gr⟩), _, ha.weaken (s4 (sr rfl (sr rfl (sr rfl (subReg_nil _))))), ⟨rfl, (hB42.onto (((hB19.onto (hE7.trans hE16) (by omega)).trans hE33).trans hE39) (by omega)), ⟨by first | omega | (dsimp only; omega), by omega, (by rw [Nd.madeSt_succ hx11, ← hst]; simp only [Nd.stepM, hc10, hc21, hc22, hc23, hc24, hc25, hc26, hc27, hc30, hc36, hc37, Nd.mostM, Nd.empty, Nd.top_at ht29, Bool.or_true, Bool.true_or, Bool.or_false, Bool.false_or, cond_true, cond_false, Bool.true_and, Bool.false_and, Bool.and_true, Bool.and_false]), h45, ((hM41).own (by rintro i b hi h1 h2 h3; (try dsimp only at h1); omega))⟩⟩, by first | omega | (dsimp only; omega)⟩
      | true =>
       refine WL.eql rfl rfl rfl rfl hc25 ?_
       have hp25 := beq_iff_eq.1 hc25
       refine mv ?_
       refine mv ?_
       cases hc26 : decide ((0 : Int) < pile.length) with
       | false =>
        refine WL.gtr rfl rfl rfl rfl hc26 ?_
        have hp26 := of_decide_eq_false hc26
        refine pT ?_
        refine mv ?_
        refine ps ?_
        refine ps ?_
        refine pF ?_
        refine asg ?_
        refine WL.dn ?_
        refine cF ?_
        refine sq ?_
        refine mv ?_
        have hc27 : decide ((9 : Int) < (x11.1.tmod 12)) = false := decide_eq_false (by omega)
        refine WL.gtr rfl rfl rfl rfl hc27 ?_
        refine mv ?_
        refine ps ?_
        refine ps ?_
        refine pF ?_
        refine mv ?_
        refine ps ?_
        refine ps ?_
        refine ps ?_
        refine ps ?_
        refine ps ?_
        refine ps ?_
        refine ps ?_
        refine pF ?_
        refine asg ?_
        refine WL.dn ?_
        refine cF ?_
        refine WC.sk ?_
        refine WC.region ?_
        refine WL.add (v := (k : Int) + 1) rfl rfl rfl rfl (IntWalk.i64_in _ (by omega)) ?_
        refine mv ?_
        refine WL.nil (fun a_ ha => ?_)
        have h28 := ((hO.ext hE16).but hB19 (fun h1 => by first | omega | (dsimp only at h1; omega)) (fun hk => by have := (hO.ext hE16).own _ hk; have := hol _ hk; omega))
        have h29 := (hB19.row (hR2.ext hE16) (by omega))
        exact ⟨(k + 1, .slice ap pile.length capp, ⟨pile, u, gr⟩), _, ha.weaken (s4 (sr rfl (sr rfl (sr rfl (subReg_nil _))))), ⟨rfl, (hB19.onto (hE7.trans hE16) (by omega)), ⟨by first | omega | (dsimp only; omega), by omega, (by rw [Nd.madeSt_succ hx11, ← hst]; simp only [Nd.stepM, hc10, hc21, hc22, hc23, hc24, hc25, hc26, hc27, Nd.mostM, Nd.empty, Bool.or_true, Bool.true_or, Bool.or_false, Bool.false_or, cond_true, cond_false, Bool.true_and, Bool.false_and, Bool.and_true, Bool.and_false]), h29, (h28.dom (by intro k h1 _ _; (try dsimp only at h1); (repeat' first | (guard_hyp h1 : _ ∨ _; refine Or.elim h1 (fun h1 => ?_) (fun h1 => ?_)) | (guard_hyp h1 : _ ∧ _; have hx := h1.2; replace h1 := h1.1)) <;> first | contradiction | omega | (dsimp only; omega)))⟩⟩, by first | omega | (dsimp only; omega)⟩
       | true =>
        refine WL.gtr rfl rfl rfl rfl hc26 ?_
        have hp26 := of_decide_eq_true hc26
        refine pT ?_
        refine mv ?_
        refine mv ?_
        cases hc27 : decide ((gr : Int) < 9) with
        | false =>
         refine WL.lss rfl rfl rfl rfl hc27 ?_
         have hp27 := of_decide_eq_false hc27
         refine pT ?_
         refine asg ?_
         refine WL.dn ?_
         refine cF ?_
         refine sq ?_
         refine mv ?_
         have hc28 : decide ((9 : Int) < (x11.1.tmod 12)) = false := decide_eq_false (by omega)
         refine WL.gtr rfl rfl rfl rfl hc28 ?_
         refine mv ?_
         refine ps ?_
         refine ps ?_
         refine pF ?_
         refine mv ?_
         refine ps ?_
         refine ps ?_
         refine ps ?_
         refine ps ?_
         refine ps ?_
         refine ps ?_
         refine ps ?_
         refine pF ?_
         refine asg ?_
         refine WL.dn ?_
         refine cF ?_
         refine WC.sk ?_
         refine WC.region ?_
         refine WL.add (v := (k : Int) + 1) rfl rfl rfl rfl (IntWalk.i64_in _ (by omega)) ?_
         refine mv ?_
         refine WL.nil (fun a_ ha => ?_)
         have h29 := ((hO.ext hE16).but hB19 (fun h1 => by first | omega | (dsimp only at h1; omega)) (fun hk => by have := (hO.ext hE16).own _ hk; have := hol _ hk; omega))
         have h30 := (hB19.row (hR2.ext hE16) (by omega))
         exact ⟨(k + 1, .slice ap pile.length capp, ⟨pile, u, gr⟩), _, ha.weaken (s4 (sr rfl (sr rfl (sr rfl (subReg_nil _))))), ⟨rfl, (hB19.onto (hE7.trans hE16) (by omega)), ⟨by first | omega | (dsimp only; omega), by omega, (by rw [Nd.madeSt_succ hx11, ← hst]; simp only [Nd.stepM, hc10, hc21, hc22, hc23, hc24, hc25, hc26, hc27, hc28, Nd.mostM, Nd.empty, Bool.or_true, Bool.true_or, Bool.or_false, Bool.false_or, cond_true, cond_false, Bool.true_and, Bool.false_and, Bool.and_true, Bool.and_false]), h30, (h29.dom (by intro k h1 _ _; (try dsimp only at h1); (repeat' first | (guard_hyp h1 : _ ∨ _; refine Or.elim h1 (fun h1 => ?_) (fun h1 => ?_)) | (guard_hyp h1 : _ ∧ _; have hx := h1.2; replace h1 := h1.1)) <;> first | contradiction | omega | (dsimp only; omega)))⟩⟩, by first | omega | (dsimp only; omega)⟩
        | true =>
         refine WL.lss rfl rfl rfl rfl hc27 ?_
         have hp27 := of_decide_eq_true hc27
         refine pT ?_
         refine asg ?_
         refine WL.dn ?_
         refine cT ?_
         refine sq ?_
         refine mv ?_
         refine mv ?_
         refine WL.sub (v := ((pile.length - 1 : Nat) : Int)) rfl rfl rfl rfl (by rw [IntWalk.i64_in _ (by omega)]; omega) ?_
         refine mv ?_
         refine mv ?_
         refine WL.sub (v := ((pile.length - 1 : Nat) : Int)) rfl rfl rfl rfl (by rw [IntWalk.i64_in _ (by omega)]; omega) ?_
         have h28 := ((hM.ext hE16).but hB19 (by rintro i hi ⟨h1, h2⟩; first | omega | (dsimp only at h1; omega) | ((try dsimp only at h1); (repeat' first | (guard_hyp h1 : _ ∨ _; refine Or.elim h1 (fun h1 => ?_) (fun h1 => ?_)) | (guard_hyp h1 : _ ∧ _; have hx := h1.2; replace h1 := h1.1)) <;> first | contradiction | omega)) (fun hk => by have := (hM.ext hE16).block _ hk; have := hol _ hk; omega))
         obtain ⟨t29, ht29⟩ : ∃ t, pile[(pile.length - 1)]? = some t := ⟨_, List.getElem?_eq_getElem (by omega)⟩
         obtain ⟨eb29, el29, hea29, hgb29, hgl29, her29, hn29⟩ := h28.at ht29
         obtain ⟨a29, cap29, rfl, hts29, hlen29⟩ := hn29.op2
         subst hea29
         refine WL.indexAddr (i := (pile.length - 1)) rfl rfl Ty.slice27 rfl rfl rfl (by omega) ?_
         refine WL.load_agg (l := tcells t29 (.slice a29 t29.subs.length cap29)) rfl rfl Ty.agg29 rfl her29 ?_
         refine WL.call rfl rfl rfl Ty.ent24 (group_ok _ _ _ t29 hn29) ?_
         rintro _ w32 ⟨l30, rfl, hr30, hE31⟩
         have hzhE31 := hE31.size
         refine ⟨_, rfl, ?_⟩
         have hn30 := hr30.lt
         obtain ⟨a30, cap30, rfl, hts30, hlen30⟩ := hn30.op2
         refine WL.indexAddr (i := (pile.length - 1)) rfl rfl Ty.slice27 rfl rfl rfl (by omega) ?_
         refine WL.storeV (i := (pile.length - 1)) (T := (Nd.mk 6 Nd.zero 0 0 [t29])) rfl Ty.agg29 rfl rfl (h28.ext hE31) (by omega) hn30 (by first | (rintro k ⟨h1, h2⟩ h3; first | omega | (dsimp only at h1; omega)) | (intro k h1 h3; (try dsimp only at h1); (repeat' first | (guard_hyp h1 : _ ∨ _; refine Or.elim h1 (fun h1 => ?_) (fun h1 => ?_)) | (guard_hyp h1 : _ ∧ _; have hx := h1.2; replace h1 := h1.1)) <;> first | contradiction | omega)) (fun w35 hB34 hM33 => ?_)
         have hzhB34 := hB34.size
         refine WL.dn ?_
         refine WC.region ?_
         refine mv ?_
         refine WL.add (v := gr + 1) rfl rfl rfl rfl (IntWalk.i64_in _ (by omega)) ?_
         refine asg ?_
         refine WL.dn ?_
         refine WC.region ?_
         refine WL.add (v := (k : Int) + 1) rfl rfl rfl rfl (IntWalk.i64_in _ (by omega)) ?_
         refine mv ?_
         refine WL.nil (fun a_ ha => ?_)
         have h36 := (hB34.row ((hB19.row (hR2.ext hE16) (by omega)).ext hE31) (by omega))
         exact ⟨(k + 1, .slice (some ⟨eb29, 0, none⟩) pile.length capp, ⟨(pile.set (pile.length - 1) (Nd.mk 6 Nd.zero 0 0 [t29])), u, gr + 1⟩), _, ha.weaken (s4 (sr rfl (sr rfl (sr rfl (subReg_nil _))))), ⟨rfl, (hB34.onto ((hB19.onto (hE7.trans hE16) (by omega)).trans hE31) (by omega)), ⟨by first | omega | (dsimp only; omega), by omega, (by rw [Nd.madeSt_succ hx11, ← hst]; simp only [Nd.stepM, hc10, hc21, hc22, hc23, hc24, hc25, hc26, hc27, Nd.mostM, Nd.empty, Nd.top_at ht29, Bool.or_true, Bool.true_or, Bool.or_false, Bool.false_or, cond_true, cond_false, Bool.true_and, Bool.false_and, Bool.and_true, Bool.and_false]), h36, ((hM33).own (by rintro i b hi h1 h2 h3; (try dsimp only at h1); omega))⟩⟩, by first | omega | (dsimp only; omega)⟩
     | true =>
      refine WL.lss rfl rfl rfl rfl hc24 ?_
      have hp24 := of_decide_eq_true hc24
      refine mv ?_
      refine mv ?_
      cases hc25 : decide ((1 : Int) < pile.length) with
      | false =>
       refine WL.gtr rfl rfl rfl rfl hc25 ?_
       have hp25 := of_decide_eq_false hc25
       refine pT ?_
       refine asg ?_
       refine WL.dn ?_
       refine cF ?_
       refine sq ?_
       refine mv ?_
       have hc26 : (((x11.1.tmod 12) : Int) == 9) = false := beq_eq_false_iff_ne.2 (by omega)
       refine WL.eql rfl rfl rfl rfl hc26 ?_
       refine mv ?_
       refine ps ?_
       refine ps ?_
       refine pF ?_
       refine mv ?_
       refine ps ?_
       refine ps ?_
       refine pF ?_
       refine asg ?_
       refine WL.dn ?_
       refine cF ?_
       refine sq ?_
       refine mv ?_
       have hc27 : decide ((9 : Int) < (x11.1.tmod 12)) = false := decide_eq_false (by omega)
       refine WL.gtr rfl rfl rfl rfl hc27 ?_
       refine mv ?_
       refine ps ?_
       refine ps ?_
       refine pF ?_
       refine mv ?_
       refine ps ?_
       refine ps ?_
       refine ps ?_
       refine ps ?_
       refine ps ?_
       refine ps ?_
       refine ps ?_
       refine pF ?_
       refine asg ?_
       refine WL.dn ?_
       refine cF ?_
       refine WC.sk ?_
       refine WC.region ?_
       refine WL.add (v := (k : Int) + 1) rfl rfl rfl rfl (IntWalk.i64_in _ (by omega)) ?_
       refine mv ?_
       refine WL.nil (fun a_ ha => ?_)
       have h28 := ((hO.ext hE16).but hB19 (fun h1 => by first | omega | (dsimp only at h1; omega)) (fun hk => by have := (hO.ext hE16).own _ hk; have := hol _ hk; omega))
       have h29 := (hB19.row (hR2.ext hE16) (by omega))
       exact ⟨(k + 1, .slice ap pile.length capp, ⟨pile, u, gr⟩), _, ha.weaken (s4 (sr rfl (sr rfl (sr rfl (subReg_nil _))))), ⟨rfl, (hB19.onto (hE7.trans hE16) (by omega)), ⟨by first | omega | (dsimp only; omega), by omega, (by rw [Nd.madeSt_succ hx11, ← hst]; simp only [Nd.stepM, hc10, hc21, hc22, hc23, hc24, hc25, hc26, hc27, Nd.mostM, Nd.empty, Bool.or_true, Bool.true_or, Bool.or_false, Bool.false_or, cond_true, cond_false, Bool.true_and, Bool.false_and, Bool.and_true, Bool.and_false]), h29, (h28.dom (by intro k h1 _ _; (try dsimp only at h1); (repeat' first | (guard_hyp h1 : _ ∨ _; refine Or.elim h1 (fun h1 => ?_) (fun h1 => ?_)) | (guard_hyp h1 : _ ∧ _; have hx := h1.2; replace h1 := h1.1)) <;> first | contradiction | omega | (dsimp only; omega)))⟩⟩, by first | omega | (dsimp only; omega)⟩
      | true =>
       refine WL.gtr rfl rfl rfl rfl hc25 ?_
       have hp25 := of_decide_eq_true hc25
       refine pT ?_
       refine asg ?_
       refine WL.dn ?_
       refine cT ?_
       have h26 := ((hM.ext hE16).but hB19 (by rintro i hi ⟨h1, h2⟩; first | omega | (dsimp only at h1; omega) | ((try dsimp only at h1); (repeat' first | (guard_hyp h1 : _ ∨ _; refine Or.elim h1 (fun h1 => ?_) (fun h1 => ?_)) | (guard_hyp h1 : _ ∧ _; have hx := h1.2; replace h1 := h1.1)) <;> first | contradiction | omega)) (fun hk => by have := (hM.ext hE16).block _ hk; have := hol _ hk; omega))
       obtain ⟨t27, ht27⟩ : ∃ t, pile[(pile.length - 2)]? = some t := ⟨_, List.getElem?_eq_getElem (by omega)⟩
       obtain ⟨eb27, el27, hea27, hgb27, hgl27, her27, hn27⟩ := h26.at ht27
       obtain ⟨a27, cap27, rfl, hts27, hlen27⟩ := hn27.op2
       subst hea27
       obtain ⟨t28, ht28⟩ : ∃ t, pile[(pile.length - 1)]? = some t := ⟨_, List.getElem?_eq_getElem (by omega)⟩
       obtain ⟨eb28, el28, hea28, hgb28, hgl28, her28, hn28⟩ := h26.at ht28
       obtain ⟨a28, cap28, rfl, hts28, hlen28⟩ := hn28.op2
       cases hea28
       have h29 := ((hO.ext hE16).but hB19 (fun h1 => by first | omega | (dsimp only at h1; omega)) (fun hk => by have := (hO.ext hE16).own _ hk; have := hol _ hk; omega))
       have h30 := (hB19.row (hR2.ext hE16) (by omega))
       refine WC.weaken (r' := [(2, pt b1 0), (20, .slice (some ⟨eb11, eo11, none⟩) ((xs.take 25).length) cap), (21, .int .i64 ((xs.take 25).length)), (22, .int .i64 (k : Int)), (3, .slice (some ⟨eb27, 0, none⟩) pile.length capp), (4, .int .i64 u), (5, .int .i64 gr), (23, .bool true), (24, pt eb11 (eo11 + k * 3)), (25, .agg #[.int .u8 x11.1, .int .u8 x11.2.1, .int .u8 x11.2.2]), (7, pt b12 0), (26, .slice (some ⟨eb27, 0, none⟩) pile.length capp), (27, .int .i64 pile.length), (8, .int .i64 pile.length), (28, pt b12 0), (29, .int .u8 x11.1), (30, .int .u8 (x11.1.tmod 12)), (9, .int .u8 (x11.1.tmod 12)), (32, .int .u8 (x11.1.tmod 12)), (33, .bool false), (31, .bool false), (42, .int .u8 (x11.1.tmod 12)), (43, .bool false), (41, .bool false), (49, .int .u8 (x11.1.tmod 12)), (50, .bool false), (51, .bool false), (52, undef), (53, undef), (54, .bool false), (48, .bool false), (75, .int .u8 (x11.1.tmod 12)), (76, .bool true), (77, .bool true), (78, .int .i64 pile.length), (79, .bool true), (80, .bool true), (74, .bool true)]) (s4 (s4 (s4 (s4 (s4 (s4 (s4 (s4 (s4 (sr rfl (sr rfl (subReg_nil _)))))))))))) ?_
       refine WC.draw 19 [81, 82, 83, 84, 85, 86, 87, 88, 89, 90, 91, 92, 93, 94, 95, 96, 97, 98, 99] [pc (.slice (some ⟨eb27, 0, none⟩) pile.length capp), pc (.int .i64 pile.length), pc (.int .i64 ((pile.length - 2 : Nat) : Int)), pc (.int .i64 pile.length), pc (.int .i64 ((pile.length - 2 : Nat) : Int)), pc (.slice (some ⟨eb27, 0, none⟩) (pile.length - 2) (pile.length - 2)), pc (.slice (some ⟨eb27, 0, none⟩) pile.length capp), pc (.int .i64 pile.length), pc (.int .i64 ((pile.length - 2 : Nat) : Int)), pc (pt eb27 (0 + (pile.length - 2) * 8)), pc (.agg (tcells t27 (.slice a27 t27.subs.length cap27)).toArray), pc (.slice (some ⟨eb27, 0, none⟩) pile.length capp), pc (.int .i64 pile.length), pc (.int .i64 ((pile.length - 1 : Nat) : Int)), pc (pt eb27 (0 + (pile.length - 1) * 8)), pc (.agg (tcells t28 (.slice a28 t28.subs.length cap28)).toArray), pnode (fun k => w6.heap.size ≤ k) (Nd.joins 4 t27 t28), pnodes (fun k => w6.heap.size ≤ k) ([(Nd.joins 4 t27 t28)]), pown 29 w6.heap.size (fun k => w6.heap.size ≤ k) (pile.take (pile.length - 2) ++ [(Nd.joins 4 t27 t28)])] (by kernel_rfl) (by kernel_rfl) (k4 (k4 (k4 (k4 ⟨KW_pnode _ _, KW_pnodes _ _, KW_pown _ _ _ _, trivial⟩)))) rfl rfl rfl (sc4 ?_ ?_ ?_ ?_ (sc4 ?_ ?_ ?_ ?_ (sc4 ?_ ?_ ?_ ?_ (sc4 ?_ ?_ ?_ ?_ (sc ?_ (sc ?_ (sc ?_ (StepsOn.nil _)))))))) ?_
       ·intro σ β w1 hE1 hbi hk
        refine ⟨[], (agree_nil _), ?_⟩
        refine mv ?_
        exact dq hbi rfl
       ·intro σ β w1 hE1 hbi hk
        refine ⟨[], (agree_nil _), ?_⟩
        refine mv ?_
        exact dq hbi rfl
       ·intro σ β w1 hE1 hbi hk
        have hz1 := hE1.size
        refine ⟨[(82, .int .i64 pile.length)], (ak hk 1 (agree_nil _)), ?_⟩
        refine WL.sub (v := ((pile.length - 2 : Nat) : Int)) rfl rfl rfl rfl (by rw [IntWalk.i64_in _ (by omega)]; omega) ?_
        exact dq hbi rfl
       ·intro σ β w1 hE1 hbi hk
        refine ⟨[], (agree_nil _), ?_⟩
        refine mv ?_
        exact dq hbi rfl
       ·intro σ β w1 hE1 hbi hk
        have hz1 := hE1.size
        refine ⟨[(84, .int .i64 pile.length)], (ak hk 3 (agree_nil _)), ?_⟩
        refine WL.sub (v := ((pile.length - 2 : Nat) : Int)) rfl rfl rfl rfl (by rw [IntWalk.i64_in _ (by omega)]; omega) ?_
        exact dq hbi rfl
       ·intro σ β w1 hE1 hbi hk
        have hz1 := hE1.size
        refine ⟨[(81, .slice (some ⟨eb27, 0, none⟩) pile.length capp), (83, .int .i64 ((pile.length - 2 : Nat) : Int)), (85, .int .i64 ((pile.length - 2 : Nat) : Int))], (ak hk 0 (ak hk 2 (ak hk 4 (agree_nil _)))), ?_⟩
        refine WL.slice_hm (m := pile.length - 2) rfl rfl Ty.slice27 rfl rfl rfl (by omega) (by omega) (by omega) ?_
        exact dq hbi rfl
       ·intro σ β w1 hE1 hbi hk
        refine ⟨[], (agree_nil _), ?_⟩
        refine mv ?_
        exact dq hbi rfl
       ·intro σ β w1 hE1 hbi hk
        refine ⟨[], (agree_nil _), ?_⟩
        refine mv ?_
        exact dq hbi rfl
       ·intro σ β w1 hE1 hbi hk
        have hz1 := hE1.size
        refine ⟨[(88, .int .i64 pile.length)], (ak hk 7 (agree_nil _)), ?_⟩
        refine WL.sub (v := ((pile.length - 2 : Nat) : Int)) rfl rfl rfl rfl (by rw [IntWalk.i64_in _ (by omega)]; omega) ?_
        exact dq hbi rfl
       ·intro σ β w1 hE1 hbi hk
        have hz1 := hE1.size
        refine ⟨[(87, .slice (some ⟨eb27, 0, none⟩) pile.length capp), (89, .int .i64 ((pile.length - 2 : Nat) : Int))], (ak hk 6 (ak hk 8 (agree_nil _))), ?_⟩
        refine WL.indexAddr (i := (pile.length - 2)) rfl rfl Ty.slice27 rfl rfl rfl (by omega) ?_
        exact dq hbi rfl
       ·intro σ β w1 hE1 hbi hk
        refine ⟨[(90, pt eb27 (0 + (pile.length - 2) * 8))], (ak hk 9 (agree_nil _)), ?_⟩
        refine WL.load_agg (l := tcells t27 (.slice a27 t27.subs.length cap27)) rfl rfl Ty.agg29 rfl (her27.ext hE1) ?_
        exact dq hbi rfl
       ·intro σ β w1 hE1 hbi hk
        refine ⟨[], (agree_nil _), ?_⟩
        refine mv ?_
        exact dq hbi rfl
       ·intro σ β w1 hE1 hbi hk
        refine ⟨[], (agree_nil _), ?_⟩
        refine mv ?_
        exact dq hbi rfl
       ·intro σ β w1 hE1 hbi hk
        have hz1 := hE1.size
        refine ⟨[(93, .int .i64 pile.length)], (ak hk 12 (agree_nil _)), ?_⟩
        refine WL.sub (v := ((pile.length - 1 : Nat) : Int)) rfl rfl rfl rfl (by rw [IntWalk.i64_in _ (by omega)]; omega) ?_
        exact dq hbi rfl
       ·intro σ β w1 hE1 hbi hk
        have hz1 := hE1.size
        refine ⟨[(92, .slice (some ⟨eb27, 0, none⟩) pile.length capp), (94, .int .i64 ((pile.length - 1 : Nat) : Int))], (ak hk 11 (ak hk 13 (agree_nil _))), ?_⟩
        refine WL.indexAddr (i := (pile.length - 1)) rfl rfl Ty.slice27 rfl rfl rfl (by omega) ?_
        exact dq hbi rfl
       ·intro σ β w1 hE1 hbi hk
        refine ⟨[(95, pt eb27 (0 + (pile.length - 1) * 8))], (ak hk 14 (agree_nil _)), ?_⟩
        refine WL.load_agg (l := tcells t28 (.slice a28 t28.subs.length cap28)) rfl rfl Ty.agg29 rfl (her28.ext hE1) ?_
        exact dq hbi rfl
       ·intro σ β w1 hE1 hbi hk
        have hz1 := hE1.size
        refine ⟨[(91, .agg (tcells t27 (.slice a27 t27.subs.length cap27)).toArray), (96, .agg (tcells t28 (.slice a28 t28.subs.length cap28)).toArray)], (ak hk 10 (ak hk 15 (agree_nil _))), ?_⟩
        refine WL.call rfl rfl rfl Ty.ent18 (joins_ok _ _ _ 4 _ _ t27 t28 (hn27.ext hE1) (hn28.ext hE1) (by have h1 := Nd.size_le_sizeL (List.mem_of_getElem? ht27); omega) (by have h1 := Nd.size_le_sizeL (List.mem_of_getElem? ht28); omega)) ?_
        rintro _ w55 ⟨l53, rfl, hr53, hE54⟩
        have hzhE54 := hE54.size
        refine ⟨_, rfl, ?_⟩
        have hn53 := hr53.lt
        obtain ⟨a53, cap53, rfl, hts53, hlen53⟩ := hn53.op2
        exact dqE hbi hE54 ⟨_, rfl, (hr53.lt.dom (by intro k h1; refine ⟨(by replace h1 := h1.1; (try dsimp only at h1); (repeat' first | (guard_hyp h1 : _ ∨ _; refine Or.elim h1 (fun h1 => ?_) (fun h1 => ?_)) | (guard_hyp h1 : _ ∧ _; have hx := h1.2; replace h1 := h1.1)) <;> first | contradiction | omega), ?_, h1.2⟩; replace h1 := h1.1; intro x hxm; have hi := hbi.hi x hxm; have lo := hbi.lo x hxm; (try dsimp only at h1); (repeat' first | (guard_hyp h1 : _ ∨ _; refine Or.elim h1 (fun h1 => ?_) (fun h1 => ?_)) | (guard_hyp h1 : _ ∧ _; have hx := h1.2; replace h1 := h1.1)) <;> first | contradiction | omega | exact hx.1 x hxm))⟩
       ·intro σ β w1 hE1 hbi hk
        have hz1 := hE1.size
        obtain ⟨_, hv51, l51, rfl, hn51⟩ := kn hk 16 rfl rfl
        have hn51 := hn51.lt
        obtain ⟨a51, cap51, rfl, hts51, hlen51⟩ := hn51.op2
        refine ⟨[(97, .agg (tcells (Nd.joins 4 t27 t28) (.slice a51 (Nd.joins 4 t27 t28).subs.length cap51)).toArray)], (ag hv51 (agree_nil _)), ?_⟩
        refine WL.buildSlice (vs := [.agg (tcells (Nd.joins 4 t27 t28) (.slice a51 (Nd.joins 4 t27 t28).subs.length cap51)).toArray]) (cells := (tcells (Nd.joins 4 t27 t28) (.slice a51 (Nd.joins 4 t27 t28).subs.length cap51))) rfl rfl Ty.slice27 Ty.zero29 rfl rfl rfl rfl rfl rfl (fun b52 w57 hb53 hE56 hs54 hR55 => ?_)
        have hts52 := (NodesV.lit (n := 1) (ts := [(Nd.joins 4 t27 t28)]) hR55 (RowsL.cons (hn51.ext hE56) (RowsL.nil' _)) rfl rfl (by decide)).lt
        exact dqE hbi hE56 ⟨_, _, rfl, (hts52.dom (by intro k h1; refine ⟨(by replace h1 := h1.1; (try dsimp only at h1); (repeat' first | (guard_hyp h1 : _ ∨ _; refine Or.elim h1 (fun h1 => ?_) (fun h1 => ?_)) | (guard_hyp h1 : _ ∧ _; have hx := h1.2; replace h1 := h1.1)) <;> first | contradiction | omega), ?_, h1.2⟩; replace h1 := h1.1; intro x hxm; have hi := hbi.hi x hxm; have lo := hbi.lo x hxm; (try dsimp only at h1); (repeat' first | (guard_hyp h1 : _ ∨ _; refine Or.elim h1 (fun h1 => ?_) (fun h1 => ?_)) | (guard_hyp h1 : _ ∧ _; have hx := h1.2; replace h1 := h1.1)) <;> first | contradiction | omega | exact hx.1 x hxm))⟩
       ·intro σ β w1 hE1 hbi hk
        have hz1 := hE1.size
        obtain ⟨_, hv52, a52, cap52, rfl, hts52⟩ := kn hk 17 rfl rfl
        have hts52 := hts52.lt
        have hlen52 := hts52.len
        refine ⟨[(86, .slice (some ⟨eb27, 0, none⟩) (pile.length - 2) (pile.length - 2)), (98, .slice a52 (([(Nd.joins 4 t27 t28)]).length) cap52)], (ak hk 5 (ag hv52 (agree_nil _))), ?_⟩
        have h54 := (((hts.ext hE16).bu hB19).ext hE1)
        refine WL.appendFull rfl rfl Ty.slice27 Ty.zero29 rfl small_node rfl rfl ((h54).take (by omega) (Nat.le_refl _)) hts52 (by simp) (fun h => by rw [(hnn h).1]; rfl) (by simp; omega) ?_
        intro v53 w53 hO53 hE53
        have hz53 := hE53.size
        exact dqE hbi hE53 ((hO53.rebase (by omega)).dom (by intro k h1 _ _; (try dsimp only at h1); (repeat' first | (guard_hyp h1 : _ ∨ _; refine Or.elim h1 (fun h1 => ?_) (fun h1 => ?_)) | (guard_hyp h1 : _ ∧ _; have hx := h1.2; replace h1 := h1.1)) <;> first | contradiction | omega | (dsimp only; omega)))
       intro σ β w31 hE31 hbi31 hk
       have hz31 := hE31.size
       have hbi := hbi31
       obtain ⟨v32, hv32, hO32⟩ := hk 18 (by decide) _ _ rfl rfl
       refine WL.know [(99, v32)] (ag hv32 (agree_nil _)) ?_
       refine asg ?_
       refine WL.dn ?_
       refine WC.region ?_
       refine WL.add (v := (k : Int) + 1) rfl rfl rfl rfl (IntWalk.i64_in _ (by omega)) ?_
       refine mv ?_
       refine WL.nil (fun a_ ha => ?_)
       exact ⟨(k + 1, v32, ⟨(pile.take (pile.length - 2) ++ [(Nd.joins 4 t27 t28)]), u, gr⟩), _, ha.weaken (s4 (sr rfl (sr rfl (sr rfl (subReg_nil _))))), ⟨rfl, ((hB19.onto (hE7.trans hE16) (by omega)).trans hE31), ⟨by first | omega | (dsimp only; omega), by omega, (by rw [Nd.madeSt_succ hx11, ← hst]; simp only [Nd.stepM, hc10, hc21, hc22, hc23, hc24, hc25, Nd.mostM, Nd.empty, Nd.top2_at ht27, Nd.top_at ht28, Bool.or_true, Bool.true_or, Bool.or_false, Bool.false_or, cond_true, cond_false, Bool.true_and, Bool.false_and, Bool.and_true, Bool.and_false]), (h30.ext hE31), (hO32.dom (by intro k h1 _ _; (try dsimp only at h1); (repeat' first | (guard_hyp h1 : _ ∨ _; refine Or.elim h1 (fun h1 => ?_) (fun h1 => ?_)) | (guard_hyp h1 : _ ∧ _; have hx := h1.2; replace h1 := h1.1)) <;> first | contradiction | omega | (dsimp only; omega)))⟩⟩, by first | omega | (dsimp only; omega)⟩
    | true =>
     refine WL.lss rfl rfl rfl rfl hc23 ?_
     have hp23 := of_decide_eq_true hc23
     refine mv ?_
     refine mv ?_
     cases hc24 : decide ((1 : Int) < pile.length) with
     | false =>
      refine WL.gtr rfl rfl rfl rfl hc24 ?_
      have hp24 := of_decide_eq_false hc24
      refine pT ?_
      refine asg ?_
      refine WL.dn ?_
      refine cF ?_
      refine sq ?_
      refine mv ?_
      have hc25 : decide (((x11.1.tmod 12) : Int) < 9) = true := decide_eq_true (by omega)
      refine WL.lss rfl rfl rfl rfl hc25 ?_
      refine mv ?_
      refine mv ?_
      refine WL.gtr (b := false) rfl rfl rfl rfl hc24 ?_
      refine pT ?_
      refine asg ?_
      refine WL.dn ?_
      refine cF ?_
      refine sq ?_
      refine mv ?_
      have hc26 : (((x11.1.tmod 12) : Int) == 9) = false := beq_eq_false_iff_ne.2 (by omega)
      refine WL.eql rfl rfl rfl rfl hc26 ?_
      refine mv ?_
      refine ps ?_
      refine ps ?_
      refine pF ?_
      refine mv ?_
      refine ps ?_
      refine ps ?_
      refine pF ?_
      refine asg ?_
      refine WL.dn ?_
      refine cF ?_
      refine sq ?_
      refine mv ?_
      have hc27 : decide ((9 : Int) < (x11.1.tmod 12)) = false := decide_eq_false (by omega)
      refine WL.gtr rfl rfl rfl rfl hc27 ?_
      refine mv ?_
      refine ps ?_
      refine ps ?_
      refine pF ?_
      refine mv ?_
      refine ps ?_
      refine ps ?_
      refine ps ?_
      refine ps ?_
      refine ps ?_
      refine ps ?_
      refine ps ?_
      refine pF ?_
      refine asg ?_
      refine WL.dn ?_
      refine cF ?_
      refine WC.sk ?_
      refine WC.region ?_
      refine WL.add (v := (k : Int) + 1) rfl rfl rfl rfl (IntWalk.i64_in _ (by omega)) ?_
      refine mv ?_
      refine WL.nil (fun a_ ha => ?_)
      have h28 := ((hO.ext hE16).but hB19 (fun h1 => by first | omega | (dsimp only at h1; omega)) (fun hk => by have := (hO.ext hE16).own _ hk; have := hol _ hk; omega))
      have h29 := (hB19.row (hR2.ext hE16) (by omega))
      exact ⟨(k + 1, .slice ap pile.length capp, ⟨pile, u, gr⟩), _, ha.weaken (s4 (sr rfl (sr rfl (sr rfl (subReg_nil _))))), ⟨rfl, (hB19.onto (hE7.trans hE16) (by omega)), ⟨by first | omega | (dsimp only; omega), by omega, (by rw [Nd.madeSt_succ hx11, ← hst]; simp only [Nd.stepM, hc10, hc21, hc22, hc23, hc24, hc25, hc26, hc27, Nd.mostM, Nd.empty, Bool.or_true, Bool.true_or, Bool.or_false, Bool.false_or, cond_true, cond_false, Bool.true_and, Bool.false_and, Bool.and_true, Bool.and_false]), h29, (h28.dom (by intro k h1 _ _; (try dsimp only at h1); (repeat' first | (guard_hyp h1 : _ ∨ _; refine Or.elim h1 (fun h1 => ?_) (fun h1 => ?_)) | (guard_hyp h1 : _ ∧ _; have hx := h1.2; replace h1 := h1.1)) <;> first | contradiction | omega | (dsimp only; omega)))⟩⟩, by first | omega | (dsimp only; omega)⟩
     | true =>
      refine WL.gtr rfl rfl rfl rfl hc24 ?_
      have hp24 := of_decide_eq_true hc24
      refine pT ?_
      refine asg ?_
      refine WL.dn ?_
      refine cT ?_
      have h25 := ((hM.ext hE16).but hB19 (by rintro i hi ⟨h1, h2⟩; first | omega | (dsimp only at h1; omega) | ((try dsimp only at h1); (repeat' first | (guard_hyp h1 : _ ∨ _; refine Or.elim h1 (fun h1 => ?_) (fun h1 => ?_)) | (guard_hyp h1 : _ ∧ _; have hx := h1.2; replace h1 := h1.1)) <;> first | contradiction | omega)) (fun hk => by have := (hM.ext hE16).block _ hk; have := hol _ hk; omega))
      obtain ⟨t26, ht26⟩ : ∃ t, pile[(pile.length - 2)]? = some t := ⟨_, List.getElem?_eq_getElem (by omega)⟩
      obtain ⟨eb26, el26, hea26, hgb26, hgl26, her26, hn26⟩ := h25.at ht26
      obtain ⟨a26, cap26, rfl, hts26, hlen26⟩ := hn26.op2
      subst hea26
      obtain ⟨t27, ht27⟩ : ∃ t, pile[(pile.length - 1)]? = some t := ⟨_, List.getElem?_eq_getElem (by omega)⟩
      obtain ⟨eb27, el27, hea27, hgb27, hgl27, her27, hn27⟩ := h25.at ht27
      obtain ⟨a27, cap27, rfl, hts27, hlen27⟩ := hn27.op2
      cases hea27
      have h28 := ((hO.ext hE16).but hB19 (fun h1 => by first | omega | (dsimp only at h1; omega)) (fun hk => by have := (hO.ext hE16).own _ hk; have := hol _ hk; omega))
      have h29 := (hB19.row (hR2.ext hE16) (by omega))
      refine WC.weaken (r' := [(2, pt b1 0), (20, .slice (some ⟨eb11, eo11, none⟩) ((xs.take 25).length) cap), (21, .int .i64 ((xs.take 25).length)), (22, .int .i64 (k : Int)), (3, .slice (some ⟨eb26, 0, none⟩) pile.length capp), (4, .int .i64 u), (5, .int .i64 gr), (23, .bool true), (24, pt eb11 (eo11 + k * 3)), (25, .agg #[.int .u8 x11.1, .int .u8 x11.2.1, .int .u8 x11.2.2]), (7, pt b12 0), (26, .slice (some ⟨eb26, 0, none⟩) pile.length capp), (27, .int .i64 pile.length), (8, .int .i64 pile.length), (28, pt b12 0), (29, .int .u8 x11.1), (30, .int .u8 (x11.1.tmod 12)), (9, .int .u8 (x11.1.tmod 12)), (32, .int .u8 (x11.1.tmod 12)), (33, .bool false), (31, .bool false), (42, .int .u8 (x11.1.tmod 12)), (43, .bool false), (41, .bool false), (49, .int .u8 (x11.1.tmod 12)), (50, .bool true), (51, .bool true), (52, .int .i64 pile.length), (53, .bool true), (54, .bool true), (48, .bool true)]) (s4 (s4 (s4 (s4 (s4 (s4 (s4 (sr rfl (sr rfl (sr rfl (subReg_nil _))))))))))) ?_
      refine WC.draw 19 [55, 56, 57, 58, 59, 60, 61, 62, 63, 64, 65, 66, 67, 68, 69, 70, 71, 72, 73] [pc (.slice (some ⟨eb26, 0, none⟩) pile.length capp), pc (.int .i64 pile.length), pc (.int .i64 ((pile.length - 2 : Nat) : Int)), pc (.int .i64 pile.length), pc (.int .i64 ((pile.length - 2 : Nat) : Int)), pc (.slice (some ⟨eb26, 0, none⟩) (pile.length - 2) (pile.length - 2)), pc (.slice (some ⟨eb26, 0, none⟩) pile.length capp), pc (.int .i64 pile.length), pc (.int .i64 ((pile.length - 2 : Nat) : Int)), pc (pt eb26 (0 + (pile.length - 2) * 8)), pc (.agg (tcells t26 (.slice a26 t26.subs.length cap26)).toArray), pc (.slice (some ⟨eb26, 0, none⟩) pile.length capp), pc (.int .i64 pile.length), pc (.int .i64 ((pile.length - 1 : Nat) : Int)), pc (pt eb26 (0 + (pile.length - 1) * 8)), pc (.agg (tcells t27 (.slice a27 t27.subs.length cap27)).toArray), pnode (fun k => w6.heap.size ≤ k) (Nd.joins 3 t26 t27), pnodes (fun k => w6.heap.size ≤ k) ([(Nd.joins 3 t26 t27)]), pown 29 w6.heap.size (fun k => w6.heap.size ≤ k) (pile.take (pile.length - 2) ++ [(Nd.joins 3 t26 t27)])] (by kernel_rfl) (by kernel_rfl) (k4 (k4 (k4 (k4 ⟨KW_pnode _ _, KW_pnodes _ _, KW_pown _ _ _ _, trivial⟩)))) rfl rfl rfl (sc4 ?_ ?_ ?_ ?_ (sc4 ?_ ?_ ?_ ?_ (sc4 ?_ ?_ ?_ ?_ (sc4 ?_ ?_ ?_ ?_ (sc ?_ (sc ?_ (sc ?_ (StepsOn.nil _)))))))) ?_
      ·intro σ β w1 hE1 hbi hk
       refine ⟨[], (agree_nil _), ?_⟩
       refine mv ?_
       exact dq hbi rfl
      ·intro σ β w1 hE1 hbi hk
       refine ⟨[], (agree_nil _), ?_⟩
       refine mv ?_
       exact dq hbi rfl
      ·intro σ β w1 hE1 hbi hk
       have hz1 := hE1.size
       refine ⟨[(56, .int .i64 pile.length)], (ak hk 1 (agree_nil _)), ?_⟩
       refine WL.sub (v := ((pile.length - 2 : Nat) : Int)) rfl rfl rfl rfl (by rw [IntWalk.i64_in _ (by omega)]; omega) ?_
       exact dq hbi rfl
      ·intro σ β w1 hE1 hbi hk
       refine ⟨[], (agree_nil _), ?_⟩
       refine mv ?_
       exact dq hbi rfl
      ·intro σ β w1 hE1 hbi hk
       have hz1 := hE1.size
       refine ⟨[(58, .int .i64 pile.length)], (ak hk 3 (agree_nil _)), ?_⟩
       refine WL.sub (v := ((pile.length - 2 : Nat) : Int)) rfl rfl rfl rfl (by rw [IntWalk.i64_in _ (by omega)]; omega) ?_
       exact dq hbi rfl
      ·intro σ β w1 hE1 hbi hk
       have hz1 := hE1.size
       refine ⟨[(55, .slice (some ⟨eb26, 0, none⟩) pile.length capp), (57, .int .i64 ((pile.length - 2 : Nat) : Int)), (59, .int .i64 ((pile.length - 2 : Nat) : Int))], (ak hk 0 (ak hk 2 (ak hk 4 (agree_nil _)))), ?_⟩
       refine WL.slice_hm (m := pile.length - 2) rfl rfl Ty.slice27 rfl rfl rfl (by omega) (by omega) (by omega) ?_
       exact dq hbi rfl
      ·intro σ β w1 hE1 hbi hk
       refine ⟨[], (agree_nil _), ?_⟩
       refine mv ?_
       exact dq hbi rfl
      ·intro σ β w1 hE1 hbi hk
       refine ⟨[], (agree_nil _), ?_⟩
       refine mv ?_
       exact dq hbi rfl
      ·intro σ β w1 hE1 hbi hk
       have hz1 := hE1.size
       refine ⟨[(62, .int .i64 pile.length)], (ak hk 7 (agree_nil _)), ?_⟩
       refine WL.sub (v := ((pile.length - 2 : Nat) : Int)) rfl rfl rfl rfl (by rw [IntWalk.i64_in _ (by omega)]; omega) ?_
       exact dq hbi rfl
      ·intro σ β w1 hE1 hbi hk
       have hz1 := hE1.size
       refine ⟨[(61, .slice (some ⟨eb26, 0, none⟩) pile.length capp), (63, .int .i64 ((pile.length - 2 : Nat) : Int))], (ak hk 6 (ak hk 8 (agree_nil _))), ?_⟩
       refine WL.indexAddr (i := (pile.length - 2)) rfl rfl Ty.slice27 rfl rfl rfl (by omega) ?_
       exact dq hbi rfl
      ·intro σ β w1 hE1 hbi hk
       refine ⟨[(64, pt eb26 (0 + (pile.length - 2) * 8))], (ak hk 9 (agree_nil _)), ?_⟩
       refine WL.load_agg (l := tcells t26 (.slice a26 t26.subs.length cap26)) rfl rfl Ty.agg29 rfl (her26.ext hE1) ?_
       exact dq hbi rfl
      ·intro σ β w1 hE1 hbi hk
       refine ⟨[], (agree_nil _), ?_⟩
       refine mv ?_
       exact dq hbi rfl
      ·intro σ β w1 hE1 hbi hk
       refine ⟨[], (agree_nil _), ?_⟩
       refine mv ?_
       exact dq hbi rfl
      ·intro σ β w1 hE1 hbi hk
       have hz1 := hE1.size
       refine ⟨[(67, .int .i64 pile.length)], (ak hk 12 (agree_nil _)), ?_⟩
       refine WL.sub (v := ((pile.length - 1 : Nat) : Int)) rfl rfl rfl rfl (by rw [IntWalk.i64_in _ (by omega)]; omega) ?_
       exact dq hbi rfl
      ·intro σ β w1 hE1 hbi hk
       have hz1 := hE1.size
       refine ⟨[(66, .slice (some ⟨eb26, 0, none⟩) pile.length capp), (68, .int .i64 ((pile.length - 1 : Nat) : Int))], (ak hk 11 (ak hk 13 (agree_nil _))), ?_⟩
       refine WL.indexAddr (i := (pile.length - 1)) rfl rfl Ty.slice27 rfl rfl rfl (by omega) ?_
       exact dq hbi rfl
      ·intro σ β w1 hE1 hbi hk
       refine ⟨[(69, pt eb26 (0 + (pile.length - 1) * 8))], (ak hk 14 (agree_nil _)), ?_⟩
       refine WL.load_agg (l := tcells t27 (.slice a27 t27.subs.length cap27)) rfl rfl Ty.agg29 rfl (her27.ext hE1) ?_
       exact dq hbi rfl
      ·intro σ β w1 hE1 hbi hk
       have hz1 := hE1.size
       refine ⟨[(65, .agg (tcells t26 (.slice a26 t26.subs.length cap26)).toArray), (70, .agg (tcells t27 (.slice a27 t27.subs.length cap27)).toArray)], (ak hk 10 (ak hk 15 (agree_nil _))), ?_⟩
       refine WL.call rfl rfl rfl Ty.ent18 (joins_ok _ _ _ 3 _ _ t26 t27 (hn26.ext hE1) (hn27.ext hE1) (by have h1 := Nd.size_le_sizeL (List.mem_of_getElem? ht26); omega) (by have h1 := Nd.size_le_sizeL (List.mem_of_getElem? ht27); omega)) ?_
       rintro _ w54 ⟨l52, rfl, hr52, hE53⟩
       have hzhE53 := hE53.size
       refine ⟨_, rfl, ?_⟩
       have hn52 := hr52.lt
       obtain ⟨a52, cap52, rfl, hts52, hlen52⟩ := hn52.op2
       exact dqE hbi hE53 ⟨_, rfl, (hr52.lt.dom (by intro k h1; refine ⟨(by replace h1 := h1.1; (try dsimp only at h1); (repeat' first | (guard_hyp h1 : _ ∨ _; refine Or.elim h1 (fun h1 => ?_) (fun h1 => ?_)) | (guard_hyp h1 : _ ∧ _; have hx := h1.2; replace h1 := h1.1)) <;> first | contradiction | omega), ?_, h1.2⟩; replace h1 := h1.1; intro x hxm; have hi := hbi.hi x hxm; have lo := hbi.lo x hxm; (try dsimp only at h1); (repeat' first | (guard_hyp h1 : _ ∨ _; refine Or.elim h1 (fun h1 => ?_) (fun h1 => ?_)) | (guard_hyp h1 : _ ∧ _; have hx := h1.2; replace h1 := h1.1)) <;> first | contradiction | omega | exact hx.1 x hxm))⟩
      ·intro σ β w1 hE1 hbi hk
       have hz1 := hE1.size
       obtain ⟨_, hv50, l50, rfl, hn50⟩ := kn hk 16 rfl rfl
       have hn50 := hn50.lt
       obtain ⟨a50, cap50, rfl, hts50, hlen50⟩ := hn50.op2
       refine ⟨[(71, .agg (tcells (Nd.joins 3 t26 t27) (.slice a50 (Nd.joins 3 t26 t27).subs.length cap50)).toArray)], (ag hv50 (agree_nil _)), ?_⟩
       refine WL.buildSlice (vs := [.agg (tcells (Nd.joins 3 t26 t27) (.slice a50 (Nd.joins 3 t26 t27).subs.length cap50)).toArray]) (cells := (tcells (Nd.joins 3 t26 t27) (.slice a50 (Nd.joins 3 t26 t27).subs.length cap50))) rfl rfl Ty.slice27 Ty.zero29 rfl rfl rfl rfl rfl rfl (fun b51 w56 hb52 hE55 hs53 hR54 => ?_)
       have hts51 := (NodesV.lit (n := 1) (ts := [(Nd.joins 3 t26 t27)]) hR54 (RowsL.cons (hn50.ext hE55) (RowsL.nil' _)) rfl rfl (by decide)).lt
       exact dqE hbi hE55 ⟨_, _, rfl, (hts51.dom (by intro k h1; refine ⟨(by replace h1 := h1.1; (try dsimp only at h1); (repeat' first | (guard_hyp h1 : _ ∨ _; refine Or.elim h1 (fun h1 => ?_) (fun h1 => ?_)) | (guard_hyp h1 : _ ∧ _; have hx := h1.2; replace h1 := h1.1)) <;> first | contradiction | omega), ?_, h1.2⟩; replace h1 := h1.1; intro x hxm; have hi := hbi.hi x hxm; have lo := hbi.lo x hxm; (try dsimp only at h1); (repeat' first | (guard_hyp h1 : _ ∨ _; refine Or.elim h1 (fun h1 => ?_) (fun h1 => ?_)) | (guard_hyp h1 : _ ∧ _; have hx := h1.2; replace h1 := h1.1)) <;> first | contradiction | omega | exact hx.1 x hxm))⟩
      ·intro σ β w1 hE1 hbi hk
       have hz1 := hE1.size
       obtain ⟨_, hv51, a51, cap51, rfl, hts51⟩ := kn hk 17 rfl rfl
       have hts51 := hts51.lt
       have hlen51 := hts51.len
       refine ⟨[(60, .slice (some ⟨eb26, 0, none⟩) (pile.length - 2) (pile.length - 2)), (72, .slice a51 (([(Nd.joins 3 t26 t27)]).length) cap51)], (ak hk 5 (ag hv51 (agree_nil _))), ?_⟩
       have h53 := (((hts.ext hE16).bu hB19).ext hE1)
       refine WL.appendFull rfl rfl Ty.slice27 Ty.zero29 rfl small_node rfl rfl ((h53).take (by omega) (Nat.le_refl _)) hts51 (by simp) (fun h => by rw [(hnn h).1]; rfl) (by simp; omega) ?_
       intro v52 w52 hO52 hE52
       have hz52 := hE52.size
       exact dqE hbi hE52 ((hO52.rebase (by omega)).dom (by intro k h1 _ _; (try dsimp only at h1); (repeat' first | (guard_hyp h1 : _ ∨ _; refine Or.elim h1 (fun h1 => ?_) (fun h1 => ?_)) | (guard_hyp h1 : _ ∧ _; have hx := h1.2; replace h1 := h1.1)) <;> first | contradiction | omega | (dsimp only; omega)))
      intro σ β w30 hE30 hbi30 hk
      have hz30 := hE30.size
      have hbi := hbi30
      obtain ⟨v31, hv31, hO31⟩ := hk 18 (by decide) _ _ rfl rfl
      refine WL.know [(73, v31)] (ag hv31 (agree_nil _)) ?_
      refine asg ?_
      refine WL.dn ?_
      refine WC.region ?_
      refine WL.add (v := (k : Int) + 1) rfl rfl rfl rfl (IntWalk.i64_in _ (by omega)) ?_
      refine mv ?_
      refine WL.nil (fun a_ ha => ?_)
      exact ⟨(k + 1, v31, ⟨(pile.take (pile.length - 2) ++ [(Nd.joins 3 t26 t27)]), u, gr⟩), _, ha.weaken (s4 (sr rfl (sr rfl (sr rfl (subReg_nil _))))), ⟨rfl, ((hB19.onto (hE7.trans hE16) (by omega)).trans hE30), ⟨by first | omega | (dsimp only; omega), by omega, (by rw [Nd.madeSt_succ hx11, ← hst]; simp only [Nd.stepM, hc10, hc21, hc22, hc23, hc24, Nd.mostM, Nd.empty, Nd.top2_at ht26, Nd.top_at ht27, Bool.or_true, Bool.true_or, Bool.or_false, Bool.false_or, cond_true, cond_false, Bool.true_and, Bool.false_and, Bool.and_true, Bool.and_false]), (h29.ext hE30), (hO31.dom (by intro k h1 _ _; (try dsimp only at h1); (repeat' first | (guard_hyp h1 : _ ∨ _; refine Or.elim h1 (fun h1 => ?_) (fun h1 => ?_)) | (guard_hyp h1 : _ ∧ _; have hx := h1.2; replace h1 := h1.1)) <;> first | contradiction | omega | (dsimp only; omega)))⟩⟩, by first | omega | (dsimp only; omega)⟩
   | true =>
    refine WL.eql rfl rfl rfl rfl hc22 ?_
    have hp22 := beq_iff_eq.1 hc22
    refine asg ?_
    refine WL.dn ?_
    refine cT ?_
    refine WC.region ?_
    refine mv ?_
    refine WL.build (l := (zc 1 0 0 (.slice none 0 0))) rfl rfl Ty.zero29 Ty.st29 ⟨⟨rfl, rfl⟩, (by kernel_rfl)⟩ ?_
    have hn23 : NodeL _ w20 (zc 1 0 0 (.slice none 0 0)) (Nd.mk 1 Nd.zero 0 0 ([])) := NodeL.shut (k := 1) (s := Nd.zero) (mn := 0) (mx := 0) (sl := .slice none 0 0) (ts := []) (NodesV.nil (fun _ => False) _ none 0)
    have hn23 := hn23.lt
    refine WL.buildSlice (vs := [.agg (zc 1 0 0 (.slice none 0 0)).toArray]) (cells := (zc 1 0 0 (.slice none 0 0))) rfl rfl Ty.slice27 Ty.zero29 rfl rfl rfl rfl rfl rfl (fun b24 w29 hb25 hE28 hs26 hR27 => ?_)
    have hts24 := (NodesV.lit (n := 1) (ts := [(Nd.mk 1 Nd.zero 0 0 ([]))]) hR27 (RowsL.cons (hn23.ext hE28) (RowsL.nil' _)) rfl rfl (by decide)).lt
    have h30 := (((hO.ext hE16).but hB19 (fun h1 => by first | omega | (dsimp only at h1; omega)) (fun hk => by have := (hO.ext hE16).own _ hk; have := hol _ hk; omega)).ext hE28)
    have hol31 := h30.own
    refine WL.append1 rfl rfl Ty.slice27 Ty.zero29 rfl small_node rfl rfl h30 hR27 (hn23.ext hE28) (by intro k h1 hh; have := hol31 _ hh; have := hol _ hh; first | omega | ((try dsimp only at h1); (repeat' first | (guard_hyp h1 : _ ∨ _; refine Or.elim h1 (fun h1 => ?_) (fun h1 => ?_)) | (guard_hyp h1 : _ ∧ _; have hx := h1.2; replace h1 := h1.1)) <;> first | contradiction | omega)) (by omega) (by omega) ?_
    intro v31 w31 hG31 hO31 hv31
    have hE31 := grown_below hG31 ((hB19.onto (hE7.trans hE16) (by omega)).trans hE28) (by intro k hk; have := hol31 _ hk; omega)
    have hz31 := hE31.size
    have hzz31 := hG31.size
    refine asg ?_
    refine WL.dn ?_
    refine WC.region ?_
    refine WL.add (v := (k : Int) + 1) rfl rfl rfl rfl (IntWalk.i64_in _ (by omega)) ?_
    refine mv ?_
    refine WL.nil (fun a_ ha => ?_)
    have h32 := (grown_row hG31 ((hB19.row (hR2.ext hE16) (by omega)).ext hE28) (fun hh => by have := hol31 _ hh; have := hol _ hh; omega))
    exact ⟨(k + 1, v31, ⟨pile ++ [(Nd.mk 1 Nd.zero 0 0 ([]))], u, gr⟩), _, ha.weaken (s4 (sr rfl (sr rfl (sr rfl (subReg_nil _))))), ⟨rfl, hE31, ⟨by first | omega | (dsimp only; omega), by omega, (by rw [Nd.madeSt_succ hx11, ← hst]; simp only [Nd.stepM, hc10, hc21, hc22, Nd.mostM, Nd.empty, Bool.or_true, Bool.true_or, Bool.or_false, Bool.false_or, cond_true, cond_false, Bool.true_and, Bool.false_and, Bool.and_true, Bool.and_false]), h32, (hO31.dom (by intro k h1 _ _; (try dsimp only at h1); (repeat' first | (guard_hyp h1 : _ ∨ _; refine Or.elim h1 (fun h1 => ?_) (fun h1 => ?_)) | (guard_hyp h1 : _ ∧ _; have hx := h1.2; replace h1 := h1.1)) <;> first | contradiction | omega | (dsimp only; omega)))⟩⟩, by first | omega | (dsimp only; omega)⟩
  | true =>
   refine WL.lss rfl rfl rfl rfl hc21 ?_
   have hp21 := of_decide_eq_true hc21
   refine asg ?_
   refine WL.dn ?_
   refine cT ?_
   refine WC.region ?_
   refine mv ?_
   refine WL.fieldAddr rfl rfl Ty.fld53_1 rfl ?_
   refine WL.load_fld rfl rfl Ty.flat5 rfl hR18 rfl ?_
   refine WL.call rfl rfl rfl Ty.ent31 (letters_ok _ x11.2.1 (by omega)) ?_
   rintro _ w23 ⟨rfl, hE22⟩
   have hzhE22 := hE22.size
   refine ⟨_, rfl, ?_⟩
   refine WL.call rfl rfl rfl Ty.ent20 (class_ok _ (Nd.lettersS x11.2.1) (by first | decide | exact Nd.lettersS_len _)) ?_
   rintro _ w26 ⟨l24, rfl, hr24, hE25⟩
   have hzhE25 := hE25.size
   refine ⟨_, rfl, ?_⟩
   have hn24 := hr24.lt
   obtain ⟨a24, cap24, rfl, hts24, hlen24⟩ := hn24.op2
   refine WL.buildSlice (vs := [.agg (tcells (Nd.classS (Nd.lettersS x11.2.1)) (.slice a24 (Nd.classS (Nd.lettersS x11.2.1)).subs.length cap24)).toArray]) (cells := (tcells (Nd.classS (Nd.lettersS x11.2.1)) (.slice a24 (Nd.classS (Nd.lettersS x11.2.1)).subs.length cap24))) rfl rfl Ty.slice27 Ty.zero29 rfl rfl rfl rfl rfl rfl (fun b27 w32 hb28 hE31 hs29 hR30 => ?_)
   have hts27 := (NodesV.lit (n := 1) (ts := [(Nd.classS (Nd.lettersS x11.2.1))]) hR30 (RowsL.cons (hn24.ext hE31) (RowsL.nil' _)) rfl rfl (by decide)).lt
   have h33 := (((((hO.ext hE16).but hB19 (fun h1 => by first | omega | (dsimp only at h1; omega)) (fun hk => by have := (hO.ext hE16).own _ hk; have := hol _ hk; omega)).ext hE22).ext hE25).ext hE31)
   have hol34 := h33.own
   refine WL.append1 rfl rfl Ty.slice27 Ty.zero29 rfl small_node rfl rfl h33 hR30 (hn24.ext hE31) (by intro k h1 hh; have := hol34 _ hh; have := hol _ hh; first | omega | ((try dsimp only at h1); (repeat' first | (guard_hyp h1 : _ ∨ _; refine Or.elim h1 (fun h1 => ?_) (fun h1 => ?_)) | (guard_hyp h1 : _ ∧ _; have hx := h1.2; replace h1 := h1.1)) <;> first | contradiction | omega)) (by omega) (by omega) ?_
   intro v34 w34 hG34 hO34 hv34
   have hE34 := grown_below hG34 ((((hB19.onto (hE7.trans hE16) (by omega)).trans hE22).trans hE25).trans hE31) (by intro k hk; have := hol34 _ hk; omega)
   have hz34 := hE34.size
   have hzz34 := hG34.size
   refine asg ?_
   refine WL.dn ?_
   refine WC.region ?_
   refine WL.add (v := (k : Int) + 1) rfl rfl rfl rfl (IntWalk.i64_in _ (by omega)) ?_
   refine mv ?_
   refine WL.nil (fun a_ ha => ?_)
   have h35 := (grown_row hG34 ((((hB19.row (hR2.ext hE16) (by omega)).ext hE22).ext hE25).ext hE31) (fun hh => by have := hol34 _ hh; have := hol _ hh; omega))
   exact ⟨(k + 1, v34, ⟨pile ++ [(Nd.classS (Nd.lettersS x11.2.1))], u, gr⟩), _, ha.weaken (s4 (sr rfl (sr rfl (sr rfl (subReg_nil _))))), ⟨rfl, hE34, ⟨by first | omega | (dsimp only; omega), by omega, (by rw [Nd.madeSt_succ hx11, ← hst]; simp only [Nd.stepM, hc10, hc21, Nd.mostM, Nd.empty, Bool.or_true, Bool.true_or, Bool.or_false, Bool.false_or, cond_true, cond_false, Bool.true_and, Bool.false_and, Bool.and_true, Bool.and_false]), h35, (hO34.dom (by intro k h1 _ _; (try dsimp only at h1); (repeat' first | (guard_hyp h1 : _ ∨ _; refine Or.elim h1 (fun h1 => ?_) (fun h1 => ?_)) | (guard_hyp h1 : _ ∧ _; have hx := h1.2; replace h1 := h1.1)) <;> first | contradiction | omega | (dsimp only; omega)))⟩⟩, by first | omega | (dsimp only; omega)⟩
end Go.Proofs.Ytaggidjijekpbaa
namespace Go.Proofs.Ytaggidjijekpbaa
namespace Nd
theorem same_self (t : Nd) : t.same t = true := (same_iff t t).2 rfl
theorem Same_self {t : Nd} (h : t.light = true) : (t.light && t.light && t.same t) = true := by rw [h, same_self]; rfl
theorem MadeOk.sizes {t : Nd} (h : MadeOk t) : 0 ≤ t.sizes ∧ t.sizes ≤ 50 := by rw [sizes_eq h.fine.light]; have := h.size; omega
theorem MadeOk.posns {t : Nd} (h : MadeOk t) : 0 ≤ t.posns ∧ t.posns ≤ 400 := by rw [posns_eq h.fine.light]; have := h.posn; have := posn_bd t; omega
theorem MadeOk.groups {t : Nd} (h : MadeOk t) : 0 ≤ t.groups ∧ t.groups ≤ 9 := by rw [gr_eq h.fine.light]; have := h.gr; omega
section together
variable {a b c : Nd}
theorem flat3 (kd wo : Int) (a b c : Nd) : flat kd wo [a, b, c] = Nd.flat1 kd wo a ++ (Nd.flat1 kd wo b ++ Nd.flat1 kd wo c) := by simp [flat]
def Small3 (t : Nd) : Prop := t.nice = true ∧ t.size ≤ 300
theorem Small3.fine (h : Small3 a) : Fine a := ⟨h.1, by have := h.2; omega⟩
end together
end Nd
end Go.Proofs.Ytaggidjijekpbaa
namespace Go.Proofs.Ytaggidjijekpbaa
namespace Nd
variable {a b : Nd}
def stepD (l : List S4) (x : S4) : List S4 := if l.contains x then l else l ++ [x]
def dS (l : List S4) : List S4 := l.foldl stepD []
theorem dS_snoc (l : List S4) (x : S4) : dS (l ++ [x]) = stepD (dS l) x := by unfold dS; rw [List.foldl_append]; rfl
theorem dS_succ {l : List S4} {k : Nat} {x : S4} (h : l[k]? = some x) : dS (l.take (k + 1)) = stepD (dS (l.take k)) x := by
  rw [List.take_add_one, h]; exact dS_snoc _ _
theorem stepD_mem {l : List S4} {x y : S4} : y ∈ stepD l x ↔ y ∈ l ∨ y = x := by
  unfold stepD
  by_cases h : l.contains x = true
  · rw [if_pos h]
    have hx : x ∈ l := by simpa using h
    exact ⟨.inl, fun q => q.elim id (fun e => e ▸ hx)⟩
  · rw [if_neg h]; simp
theorem foldD_mem (l : List S4) : ∀ acc y, y ∈ l.foldl stepD acc ↔ y ∈ acc ∨ y ∈ l := by
  induction l with
  | nil => intro acc y; simp
  | cons x l ih => intro acc y; rw [List.foldl_cons, ih, stepD_mem, List.mem_cons, or_assoc]
theorem stepD_in {l : List S4} {x : S4} (h : x ∈ l) : stepD l x = l := by unfold stepD; rw [if_pos (by simpa using h)]
theorem foldD_in (l : List S4) : ∀ acc, (∀ x ∈ l, x ∈ acc) → l.foldl stepD acc = acc := by
  induction l with
  | nil => intro acc _; rfl
  | cons x l ih =>
    intro acc h
    rw [List.foldl_cons, stepD_in (h x (by simp))]
    exact ih acc (fun y hy => h y (by simp [hy]))
theorem snoc_ind {α : Type} {p : List α → Prop} (h0 : p []) (h1 : ∀ l x, p l → p (l ++ [x])) : ∀ l, p l := by
  have : ∀ n (l : List α), l.length = n → p l := by
    intro n
    induction n with
    | zero => intro l h; rw [List.eq_nil_of_length_eq_zero h]; exact h0
    | succ n ih =>
      intro l h
      have hne : l ≠ [] := fun e => by rw [e] at h; simp at h
      rw [← List.dropLast_concat_getLast hne]
      exact h1 _ _ (ih _ (by rw [List.length_dropLast]; omega))
  exact fun l => this _ l rfl
theorem foldD_dS (l : List S4) : ∀ acc, (dS l).foldl stepD acc = l.foldl stepD acc := by
  refine snoc_ind (p := fun l => ∀ acc, (dS l).foldl stepD acc = l.foldl stepD acc) (fun _ => rfl) (fun l x ih acc => ?_) l
  rw [dS_snoc, List.foldl_append]
  by_cases h : x ∈ dS l
  · rw [stepD_in h, ih acc]
    have hx : x ∈ l := by
      have := (foldD_mem l [] x).1 h
      simpa using this
    show _ = stepD (l.foldl stepD acc) x
    rw [stepD_in ((foldD_mem l acc x).2 (.inr hx))]
  · have e : stepD (dS l) x = dS l ++ [x] := by unfold stepD; rw [if_neg (by simpa using h)]
    rw [e, List.foldl_append, ih acc]
def csL (l : List Nd) : List S4 := (l.filter fun x => x.kind == 2).map set
def cs (t : Nd) : List S4 := csL t.pre
theorem csL_append (l l' : List Nd) : csL (l ++ l') = csL l ++ csL l' := by simp [csL]
theorem setsOf_cs {t : Nd} (h : t.light = true) : t.setsOf = dS (cs t) := by
  unfold setsOf dS cs
  rw [if_pos h]
  have : ∀ (l : List Nd) (acc : List S4), l.foldl (fun l x => if x.kind == 2 && !l.contains x.set then l ++ [x.set] else l) acc = (csL l).foldl stepD acc := by
    intro l
    induction l with
    | nil => intro acc; rfl
    | cons x l ih =>
      intro acc
      rw [List.foldl_cons, ih]
      cases hk : (x.kind == 2)
      · have : csL (x :: l) = csL l := by unfold csL; rw [List.filter_cons, hk]; rfl
        rw [this]; rfl
      · have : csL (x :: l) = x.set :: csL l := by unfold csL; rw [List.filter_cons, hk]; rfl
        rw [this, List.foldl_cons]
        unfold stepD
        cases hc : acc.contains x.set <;> rfl
  exact this t.pre []
theorem cs_mk (k : Int) (s : S4) (mn mx : Int) (ts : List Nd) (h : k ≠ 2) : cs (mk k s mn mx ts) = csL (preL ts) := by
  unfold cs csL
  rw [pre, List.filter_cons, show ((mk k s mn mx ts).kind == 2) = false from beq_eq_false_iff_ne.2 h]; rfl
theorem csL_preL_cons (t : Nd) (ts : List Nd) : csL (preL (t :: ts)) = cs t ++ csL (preL ts) := by rw [preL, csL_append]; rfl
theorem csL_preL_nil : csL (preL []) = [] := rfl
abbrev gP (t : Nd) : Nd := mk 6 zero 0 0 [t]
def nP (a b : Nd) : Nd := if b.kind = 4 ∨ b.kind = 1 then mk 3 zero 0 0 [gP a, gP b, gP b] else mk 3 zero 0 0 [gP a, mk 4 zero 0 0 [b, mk 5 zero 0 1 [gP b]]]
theorem nP_y (h : b.kind = 4 ∨ b.kind = 1) : nP a b = mk 3 zero 0 0 [gP a, gP b, gP b] := if_pos h
theorem nP_n (h4 : b.kind ≠ 4) (h1 : b.kind ≠ 1) : nP a b = mk 3 zero 0 0 [gP a, mk 4 zero 0 0 [b, mk 5 zero 0 1 [gP b]]] := if_neg (fun h => h.elim h4 h1)
theorem cs_gP (t : Nd) : cs (gP t) = cs t := by rw [cs_mk _ _ _ _ _ (by decide), csL_preL_cons, csL_preL_nil, List.append_nil]
theorem cs_nP (a b : Nd) : cs (nP a b) = cs a ++ (cs b ++ cs b) := by
  unfold nP
  split
  · rw [cs_mk _ _ _ _ _ (by decide), csL_preL_cons, csL_preL_cons, csL_preL_cons, csL_preL_nil, cs_gP, cs_gP, List.append_nil]
  · rw [cs_mk _ _ _ _ _ (by decide), csL_preL_cons, csL_preL_cons, csL_preL_nil, cs_gP, cs_mk _ _ _ _ _ (by decide), csL_preL_cons, csL_preL_cons, csL_preL_nil, cs_mk _ _ _ _ _ (by decide), csL_preL_cons, csL_preL_nil, cs_gP]
    simp only [List.append_nil]
theorem nP_nice (ha : MadeOk a) (hb : MadeOk b) : (nP a b).nice = true := by
  have gn : ∀ {t : Nd}, MadeOk t → (gP t).nice = true := fun h => group_nice h.nice
  unfold nP
  split
  · refine nice_mk rfl (fun u hu => ?_)
    simp only [subs, List.mem_cons, List.not_mem_nil, or_false] at hu
    rcases hu with rfl | rfl | rfl
    · exact gn ha
    · exact gn hb
    · exact gn hb
  · rename_i hk
    have h4 : b.kind ≠ 4 := fun h => hk (.inl h)
    have hr : (mk 5 zero 0 1 [gP b]).nice = true := rep_nice (gn hb) (by show (6 : Int) ≠ 1; decide) (by decide)
    have halt : (mk 4 zero 0 0 [b, mk 5 zero 0 1 [gP b]]).nice = true := by
      refine nice_mk ?_ (fun u hu => ?_)
      · have : (mk 4 zero 0 0 [b, mk 5 zero 0 1 [gP b]]).has 4 = false := has_no (fun u hu => by
          simp only [subs, List.mem_cons, List.not_mem_nil, or_false] at hu
          rcases hu with rfl | rfl
          · exact h4
          · show (5 : Int) ≠ 4; decide)
        unfold right
        rw [this]; rfl
      · simp only [subs, List.mem_cons, List.not_mem_nil, or_false] at hu
        rcases hu with rfl | rfl
        · exact hb.nice
        · exact hr
    refine nice_mk rfl (fun u hu => ?_)
    simp only [subs, List.mem_cons, List.not_mem_nil, or_false] at hu
    rcases hu with rfl | rfl
    · exact gn ha
    · exact halt
theorem nP_size (a b : Nd) : a.size + 2 * b.size + 4 ≤ (nP a b).size ∧ (nP a b).size ≤ a.size + 2 * b.size + 5 := by
  unfold nP
  split <;> simp [size_mk, sizeL] <;> omega
theorem nP_fine (ha : MadeOk a) (hb : MadeOk b) : Fine (nP a b) := ⟨nP_nice ha hb, by have := (nP_size a b).2; have := ha.size; have := hb.size; omega⟩
theorem nP_sets (ha : MadeOk a) (hb : MadeOk b) : (nP a b).setsOf = dS (a.setsOf ++ b.setsOf) := by
  rw [setsOf_cs (nP_fine ha hb).light, setsOf_cs ha.fine.light, setsOf_cs hb.fine.light, cs_nP]
  unfold dS
  rw [List.foldl_append, List.foldl_append, List.foldl_append, foldD_in (cs b) _ (fun x hx => (foldD_mem _ _ x).2 (.inr hx))]
  have h1 := foldD_dS (cs b) ((cs a).foldl stepD [])
  have h2 := foldD_dS (cs a) []
  unfold dS at h1 h2
  rw [h2, h1]
theorem nP_sizes (ha : MadeOk a) (hb : MadeOk b) : a.sizes + 2 * b.sizes + 3 ≤ (nP a b).sizes ∧ (nP a b).sizes ≤ 1000 := by
  have h := nP_size a b
  rw [sizes_eq ha.fine.light, sizes_eq hb.fine.light, sizes_eq (nP_fine ha hb).light]
  have := ha.size; have := hb.size; omega
theorem nP_groups (ha : MadeOk a) (hb : MadeOk b) : a.groups + 2 * b.groups + 2 ≤ (nP a b).groups := by
  rw [gr_eq ha.fine.light, gr_eq hb.fine.light, gr_eq (nP_fine ha hb).light]
  have : a.gr + 2 * b.gr + 2 ≤ (nP a b).gr := by
    unfold nP
    split <;> simp only [gr_mk, grL_cons, grL_nil] <;> simp <;> omega
  omega
theorem nP_posns (ha : MadeOk a) (hb : MadeOk b) : (nP a b).posns = a.posns + 2 * b.posns := by
  rw [posns_eq ha.fine.light, posns_eq hb.fine.light, posns_eq (nP_fine ha hb).light]
  have pa := ha.posn
  have pb := hb.posn
  have qa := (posn_bd a).1
  have qb := (posn_bd b).1
  unfold nP
  split
  · rw [posn34 (.inl rfl)]
    simp only [posnL, group_posn]
    unfold minI; rw [if_neg (by omega)]; omega
  · rw [posn34 (.inl rfl)]
    simp only [posnL]
    rw [posn34 (.inr rfl)]
    simp only [posnL, group_posn]
    rw [rep_posn, group_posn, show tms 0 1 = 1 from by decide]
    unfold minI
    simp only [show ¬ ((10001 : Int) < 1) from by decide, if_false, Int.mul_one]
    rw [if_neg (by omega), if_neg (by omega), if_neg (by omega)]; omega
theorem any_succ {l : List S4} {k : Nat} {y : S4} {p : S4 → Bool} (h : l[k]? = some y) : (l.take (k + 1)).any p = ((l.take k).any p || p y) := by
  rw [List.take_add_one, h, List.any_append]; simp
theorem stepD_any (l : List S4) (x : S4) : stepD l x = bif l.any (fun t => x == t) then l else l ++ [x] := by
  unfold stepD
  rw [List.contains_eq_any_beq]
  cases l.any (fun t => x == t) <;> rfl
theorem dS_at {l : List S4} {k j : Nat} {x : S4} (h : l[k]? = some x) (hj : j = (dS (l.take k)).length) : dS (l.take (k + 1)) = bif ((dS (l.take k)).take j).any (fun t => x == t) then dS (l.take k) else dS (l.take k) ++ [x] := by
  rw [dS_succ h, stepD_any, hj, List.take_length]
theorem dS_len (l : List S4) : (dS l).length ≤ l.length := by
  have : ∀ (l acc : List S4), (l.foldl stepD acc).length ≤ acc.length + l.length := by
    intro l
    induction l with
    | nil => intro acc; simp
    | cons x l ih =>
      intro acc
      have := ih (stepD acc x)
      have h2 : (stepD acc x).length ≤ acc.length + 1 := by unfold stepD; split <;> simp
      simp only [List.foldl_cons, List.length_cons]; omega
  unfold dS; simpa using this l []
theorem sets_len (ha : MadeOk a) : a.setsOf.length ≤ 50 := by
  rw [setsOf_cs ha.fine.light]
  have h1 := dS_len (cs a)
  have h2 : (cs a).length ≤ a.size := by
    unfold cs csL
    rw [List.length_map, ← pre_length]; exact List.length_filter_le _ _
  have := ha.size; omega
theorem nP_ne (a b : Nd) : nP a b ≠ a := fun h => by have := (nP_size a b).1; rw [h] at this; omega
theorem nP_notsame (a b : Nd) : ((nP a b).light && a.light && (nP a b).same a) = false := by
  have : (nP a b).same a = false := by
    cases hb : (nP a b).same a
    · rfl
    · exact absurd ((same_iff _ _).1 hb) (nP_ne a b)
  rw [this, Bool.and_false]
end Nd
end Go.Proofs.Ytaggidjijekpbaa
namespace Go.Proofs.Ytaggidjijekpbaa
open Go.RowKit
def BR (e : TypeId) (w : World) (b : Nat) (ls : List (List Value)) (cap : Nat) : Prop :=
  w.ownsRow b e 8 (.slice (some ⟨b, 0, none⟩) ls.length cap) ls.length ls.flatten ∧ ∀ l ∈ ls, l.length = 8
theorem BR.lt {e w b ls cap} (h : BR e w b ls cap) : b < w.heap.size := by
  rcases h.1.2 with ⟨he, _⟩ | ⟨g, cap', cur, he, hg, hrow, _⟩
  · cases he
  · cases he; exact (Array.getElem?_eq_some_iff.1 hrow).1
theorem BR.to {e w w' b ls cap} (h : BR e w b ls cap) (hb : w'.heap[b]? = w.heap[b]?) : BR e w' b ls cap := by
  obtain ⟨⟨hl, h⟩, h8⟩ := h
  refine ⟨⟨hl, ?_⟩, h8⟩
  rcases h with ⟨he, _⟩ | ⟨g, cap', cur, he, hg, hrow, h⟩
  · cases he
  · cases he; exact .inr ⟨b, cap, cur, rfl, hg, by rw [hb]; exact hrow, h⟩
theorem BR.ext {e w w' b ls cap} (h : BR e w b ls cap) (x : Ext w w') : BR e w' b ls cap := h.to (x.block b h.lt)
theorem BR.but {e w w' b c ls cap} (h : BR e w b ls cap) (x : But c w w') (hb : b ≠ c) : BR e w' b ls cap := h.to (x.block b hb)
theorem BR.len {e w b ls cap} (h : BR e w b ls cap) : ls.length ≤ cap ∧ cap ≤ maxLen := by
  rcases h.1.2 with ⟨he, _⟩ | ⟨g, cap', cur, he, hg, hrow, hn, hcm, _⟩
  · cases he
  · cases he; exact ⟨hn, hcm⟩
theorem BR.at {e w b ls cap} (h : BR e w b ls cap) {i : Nat} {l : List Value} (hi : ls[i]? = some l) : Reads w b (0 + i * 8) l := by
  obtain ⟨⟨hl, h⟩, h8⟩ := h
  rcases h with ⟨he, _⟩ | ⟨g, cap', cur, he, hg, hrow, hn, hcm, hcs, htake⟩
  · cases he
  · cases he
    intro j u hj
    have hf := flatten_get hj ls h8 i hi
    rw [← htake, List.getElem?_take] at hf
    split at hf
    · rw [cell_of_row w b _ cur e (0, 0) hrow]; simpa using hf
    · cases hf
theorem take_set8 {l : List Value} (hl8 : l.length = 8) : ∀ (ls : List (List Value)) (cur : List Value) (i : Nat), (∀ l ∈ ls, l.length = 8) → i < ls.length → cur.take (ls.length * 8) = ls.flatten → (cur.take (i * 8) ++ l ++ cur.drop (i * 8 + 8)).take (ls.length * 8) = (ls.set i l).flatten := by
  intro ls
  induction ls with
  | nil => intro cur i _ hi; simp at hi
  | cons x ls ih =>
    intro cur i h8 hi he
    have hx8 := h8 x (by simp)
    have hc1 : cur.take 8 = x := by
      have := congrArg (List.take 8) he
      rw [List.take_take, List.flatten_cons, List.take_left' hx8, List.length_cons, Nat.min_eq_left (by omega)] at this
      exact this
    have hc2 : (cur.drop 8).take (ls.length * 8) = ls.flatten := by
      have := congrArg (List.drop 8) he
      rw [List.drop_take, List.flatten_cons, List.drop_left' hx8, List.length_cons] at this
      rw [← this]; congr 1; omega
    cases i with
    | zero =>
      simp only [Nat.zero_mul, List.take_zero, List.nil_append, Nat.zero_add, List.set_cons_zero, List.flatten_cons, List.length_cons]
      have e : (ls.length + 1) * 8 = l.length + ls.length * 8 := by omega
      rw [e, List.take_length_add_append, hc2]
    | succ i =>
      simp only [List.set_cons_succ, List.flatten_cons, List.length_cons]
      have := ih (cur.drop 8) i (fun q hq => h8 q (by simp [hq])) (by simpa using hi) hc2
      rw [← this]
      have hcur : cur = x ++ cur.drop 8 := by conv => lhs; rw [← List.take_append_drop 8 cur, hc1]
      have e1 : (i + 1) * 8 = x.length + i * 8 := by omega
      have e2 : (ls.length + 1) * 8 = x.length + ls.length * 8 := by omega
      have e3 : x.length + i * 8 + 8 = x.length + (i * 8 + 8) := by omega
      rw [e1, e2, e3]
      generalize cur.drop 8 = c2 at hcur
      subst hcur
      rw [List.take_length_add_append, List.append_assoc, List.append_assoc, List.take_length_add_append, List.drop_length_add_append, List.append_assoc]
section
variable {ro : Option Nat} {P : Program} {all : Array Oper} {Q : Exit → Act → World → Prop} {N : Nat} {ds : List Deferred} {r : Reg} {w : World} {rest : List Oper}
  {ty : TypeId} {pos : String} {aft : Array Edge} {g : Option (Nat × Bool)}
theorem WL.storeB {t e : TypeId} {x y : Operand} {b i cap : Nat} {l : List Value} {ls : List (List Value)} (hw : want all r g = some true) (ht : aggB P t 8 = true)
    (hx : ev r x = some (pt b (0 + i * 8))) (hy : ev r y = some (.agg l.toArray)) (hM : BR e w b ls cap) (hi : i < ls.length) (hl8 : l.length = 8) (hone : ∀ u ∈ l, u.oneCell' = true)
    (next : ∀ w', But b w w' → BR e w' b (ls.set i l) cap → WL ro P all Q N ds rest r w') :
    WL ro P all Q N ds (⟨none, .store t x y, ty, pos, aft, g⟩ :: rest) r w := by
  obtain ⟨⟨hlen, h⟩, h8⟩ := hM
  rcases h with ⟨he, _⟩ | ⟨g', cap', cur, he, hg, hrow, hn, hcm, hcs, htake⟩
  · cases he
  · cases he
    have hcl : cur.toList.length = cap * 8 := by simpa using hcs
    refine WL.store (n := 8) (vl := l) hw hx hy (by simpa [Row] using hrow : Row w b cur.toList e) (run_sizeOf_agg ht) rfl hl8 (by omega) (List.all_eq_true.2 hone) (fun w' hB hR => next w' hB ?_)
    refine ⟨⟨?_, .inr ⟨b, cap, (cur.toList.take (0 + i * 8) ++ l ++ cur.toList.drop (0 + i * 8 + 8)).toArray, by simp, hg, by simpa [Row] using hR, by simpa using hn, hcm, by simp [hl8]; omega, ?_⟩⟩, fun q hq => by rcases List.mem_or_eq_of_mem_set hq with h | h; exact h8 q h; rw [h]; exact hl8⟩
    · rw [len_flatten _ (fun q hq => by rcases List.mem_or_eq_of_mem_set hq with h | h; exact h8 q h; rw [h]; exact hl8)]
    · have := take_set8 hl8 ls cur.toList i h8 hi htake
      simpa using this
end
mutual
inductive Iv (e : TypeId) (w : World) : Nat → Nat → List Value → Nd → Prop
  | leaf {lo hi : Nat} {T : Nd} {a : Option Addr} {cap : Nat} : T.subs = [] → lo ≤ hi → Iv e w lo hi (tcells T (.slice a 0 cap)) T
  | row {lo hi : Nat} {T : Nd} {b cap : Nat} {ls : List (List Value)} : lo ≤ b → BR e w b ls cap → IvL e w (b + 1) hi ls T.subs → Iv e w lo hi (tcells T (.slice (some ⟨b, 0, none⟩) T.subs.length cap)) T
inductive IvL (e : TypeId) (w : World) : Nat → Nat → List (List Value) → List Nd → Prop
  | nil {lo hi : Nat} : lo ≤ hi → IvL e w lo hi [] []
  | cons {lo mid hi : Nat} {l : List Value} {t : Nd} {ls : List (List Value)} {ts : List Nd} : Iv e w lo mid l t → IvL e w mid hi ls ts → IvL e w lo hi (l :: ls) (t :: ts)
end
mutual
theorem Iv.le {e w lo hi l T} : Iv e w lo hi l T → lo ≤ hi
  | .leaf _ h => h
  | .row h1 _ h3 => by have := IvL.le h3; omega
theorem IvL.le {e w lo hi ls ts} : IvL e w lo hi ls ts → lo ≤ hi
  | .nil h => h
  | .cons h1 h2 => Nat.le_trans (Iv.le h1) (IvL.le h2)
end
theorem IvL.len {e w ls} : ∀ {lo hi ts}, IvL e w lo hi ls ts → ls.length = ts.length := by
  induction ls with
  | nil => intro lo hi ts h; cases h; rfl
  | cons l ls ih => intro lo hi ts h; cases h with | cons h1 h2 => simp [ih h2]
mutual
theorem Iv.to {e : TypeId} {w w' : World} {lo hi : Nat} {l : List Value} {T : Nd} : Iv e w lo hi l T → (∀ k, lo ≤ k → k < hi → w'.heap[k]? = w.heap[k]?) → Iv e w' lo hi l T
  | .leaf h1 h2, _ => .leaf h1 h2
  | .row (b := b) h1 h2 h3, h => .row h1 (h2.to (h b h1 (by have := IvL.le h3; omega))) (IvL.to h3 (fun k hk hk' => h k (by omega) hk'))
theorem IvL.to {e : TypeId} {w w' : World} {lo hi : Nat} {ls : List (List Value)} {ts : List Nd} : IvL e w lo hi ls ts → (∀ k, lo ≤ k → k < hi → w'.heap[k]? = w.heap[k]?) → IvL e w' lo hi ls ts
  | .nil h, _ => .nil h
  | .cons h1 h2, h => .cons (Iv.to h1 (fun k hk hk' => h k hk (by have := IvL.le h2; omega))) (IvL.to h2 (fun k hk hk' => h k (by have := Iv.le h1; omega) hk'))
end
theorem Iv.lo {e w lo lo' hi l T} (h : Iv e w lo hi l T) (hl : lo' ≤ lo) : Iv e w lo' hi l T := by
  cases h with
  | leaf h1 h2 => exact .leaf h1 (by omega)
  | row h1 h2 h3 => exact .row (by omega) h2 h3
theorem IvL.hi {e w ls} : ∀ {lo hi hi' ts}, IvL e w lo hi ls ts → hi ≤ hi' → IvL e w lo hi' ls ts := by
  induction ls with
  | nil => intro lo hi hi' ts h hh; cases h with | nil h => exact .nil (by omega)
  | cons l ls ih => intro lo hi hi' ts h hh; cases h with | cons h1 h2 => exact .cons h1 (ih h2 hh)
theorem Iv.hi {e w lo hi hi' l T} (h : Iv e w lo hi l T) (hh : hi ≤ hi') : Iv e w lo hi' l T := by
  cases h with
  | leaf h1 h2 => exact .leaf h1 (by omega)
  | row h1 h2 h3 => exact .row h1 h2 (h3.hi hh)
theorem IvL.lo {e w ls} : ∀ {lo lo' hi ts}, IvL e w lo hi ls ts → lo' ≤ lo → IvL e w lo' hi ls ts := by
  intro lo lo' hi ts h hh
  cases h with
  | nil h => exact .nil (by omega)
  | cons h1 h2 => exact .cons (h1.lo hh) h2
theorem IvL.snoc {e w ls} : ∀ {lo mid hi ts l t}, IvL e w lo mid ls ts → Iv e w mid hi l t → IvL e w lo hi (ls ++ [l]) (ts ++ [t]) := by
  induction ls with
  | nil =>
    intro lo mid hi ts l t h h1
    cases h with
    | nil h => exact .cons (h1.lo h) (.nil (Nat.le_refl _))
  | cons x ls ih => intro lo mid hi ts l t h h1; cases h with | cons h2 h3 => exact .cons h2 (ih h3 h1)
theorem Iv.one {e w lo hi l T} (h : Iv e w lo hi l T) : l.length = 8 ∧ ∀ u ∈ l, u.oneCell' = true := by
  cases h <;> exact ⟨rfl, by intro u hu; simp only [tcells, List.mem_cons, List.not_mem_nil, or_false] at hu; rcases hu with rfl | rfl | rfl | rfl | rfl | rfl | rfl | rfl <;> rfl⟩
theorem Iv.ext {e w w' lo hi l T} (h : Iv e w lo hi l T) (x : Ext w w') (hh : hi ≤ w.heap.size) : Iv e w' lo hi l T := h.to (fun k _ hk => x.block k (by omega))
theorem IvL.ext {e w w' lo hi ls ts} (h : IvL e w lo hi ls ts) (x : Ext w w') (hh : hi ≤ w.heap.size) : IvL e w' lo hi ls ts := h.to (fun k _ hk => x.block k (by omega))
theorem IvL.node {e w} : ∀ {ls lo hi ts}, (∀ t ∈ ts, ∀ lo hi l, Iv e w lo hi l t → NodeL (fun k => lo ≤ k ∧ k < hi) w l t) → IvL e w lo hi ls ts → RowsL (fun k => lo ≤ k ∧ k < hi) w ls ts := by
  intro ls
  induction ls with
  | nil => intro lo hi ts _ h; cases h; exact RowsL.nil _ _
  | cons l ls ih =>
    intro lo hi ts hn h
    cases h with
    | cons h1 h2 =>
      have e1 := h1.le
      have e2 := h2.le
      exact (RowsL.cons (hn _ (by simp) _ _ _ h1) (ih (fun t ht => hn t (by simp [ht])) h2)).step (fun l t h => h.dom (by intro k hk; rcases hk with hk | hk <;> exact ⟨by omega, by omega⟩))
end Go.Proofs.Ytaggidjijekpbaa
namespace Go.Proofs.Ytaggidjijekpbaa
open Go.RowKit
structure FE (α : Type) where
  n : Nat
  enc : α → List Value
  pos : 0 < n
  len : ∀ x, (enc x).length = n
  one : ∀ x, ∀ u ∈ enc x, u.oneCell' = true
def setE : FE S4 := ⟨4, scells, by decide, fun _ => rfl, fun x u hu => by
  simp only [scells, List.mem_cons, List.not_mem_nil, or_false] at hu
  rcases hu with rfl | rfl | rfl | rfl <;> rfl⟩
section
variable {α : Type}
theorem FE.flat_len (E : FE α) (xs : List α) : (xs.flatMap E.enc).length = xs.length * E.n := by
  induction xs with
  | nil => simp
  | cons x xs ih => simp only [List.flatMap_cons, List.length_append, E.len, ih, List.length_cons, Nat.add_mul, Nat.one_mul]; omega
theorem FE.flat_one (E : FE α) (xs : List α) : ∀ u ∈ xs.flatMap E.enc, u.oneCell' = true := by
  intro u hu
  obtain ⟨x, _, hx⟩ := List.mem_flatMap.1 hu
  exact E.one x u hx
theorem FE.flat_get (E : FE α) {xs : List α} {i j : Nat} {x : α} {v : Value} (hi : xs[i]? = some x) (hj : (E.enc x)[j]? = some v) : (xs.flatMap E.enc)[i * E.n + j]? = some v := by
  induction xs generalizing i with
  | nil => simp at hi
  | cons y xs ih =>
    simp only [List.flatMap_cons]
    cases i with
    | zero =>
      simp at hi; subst hi
      rw [Nat.zero_mul, Nat.zero_add, List.getElem?_append_left (List.getElem?_eq_some_iff.1 hj).1]; exact hj
    | succ i =>
      have e : (i + 1) * E.n + j = (E.enc y).length + (i * E.n + j) := by rw [E.len, Nat.add_mul]; omega
      rw [e, List.getElem?_append_right (by omega), Nat.add_sub_cancel_left]
      exact ih (by simpa using hi)
def FSl (E : FE α) (D : Nat → Prop) (w : World) (v : Value) (xs : List α) : Prop :=
  ∃ a cap, v = .slice a xs.length cap ∧ (xs.length ≤ cap ∧ xs.length ≤ 140737488355328) ∧ (xs = [] ∨ ∃ b o, a = some ⟨b, o, none⟩ ∧ D b ∧ Reads w b o (xs.flatMap E.enc))
variable {E : FE α} {D D' : Nat → Prop} {w w' : World} {v : Value} {xs : List α}
theorem FSl.step (h : FSl E D w v xs) (hD : ∀ b, D b → D' b) (hw : ∀ b o l, D b → Reads w b o l → Reads w' b o l) : FSl E D' w' v xs := by
  obtain ⟨a, cap, h1, h2, h3⟩ := h
  refine ⟨a, cap, h1, h2, ?_⟩
  rcases h3 with h | ⟨b, o, ha, hb, hr⟩
  · exact .inl h
  · exact .inr ⟨b, o, ha, hD b hb, hw b o _ hb hr⟩
theorem FSl.ext (h : FSl E D w v xs) (e : Ext w w') : FSl E D w' v xs := h.step (fun _ h => h) (fun _ _ _ _ hr => hr.ext e)
theorem FSl.dom (h : FSl E D w v xs) (hD : ∀ b, D b → D' b) : FSl E D' w v xs := h.step hD (fun _ _ _ _ hr => hr)
theorem FSl.but {b : Nat} (h : FSl E D w v xs) (e : But b w w') (hb : ¬ D b) : FSl E D w' v xs := h.step (fun _ h => h) (fun _ _ _ hc hr => e.reads hr (fun h => hb (h ▸ hc)))
theorem FSl.lt (h : FSl E D w v xs) : FSl E (fun b => D b ∧ b < w.heap.size) w v xs := by
  obtain ⟨a, cap, h1, h2, h3⟩ := h
  refine ⟨a, cap, h1, h2, ?_⟩
  rcases h3 with h | ⟨b, o, ha, hb, hr⟩
  · exact .inl h
  · cases xs with
    | nil => exact .inl rfl
    | cons x xs => exact .inr ⟨b, o, ha, ⟨hb, hr.lt (by rw [E.flat_len]; have := E.pos; simp only [List.length_cons, Nat.add_mul]; omega)⟩, hr⟩
theorem FSl.len {a : Option Addr} {n cap : Nat} (h : FSl E D w (.slice a n cap) xs) : n = xs.length ∧ xs.length ≤ cap ∧ xs.length ≤ 140737488355328 := by
  obtain ⟨a', cap', he, hc, _⟩ := h
  cases he; exact ⟨rfl, hc⟩
theorem FSl.get (h : FSl E D w v xs) : ∃ a cap, v = .slice a xs.length cap := by obtain ⟨a, cap, h1, _⟩ := h; exact ⟨a, cap, h1⟩
theorem FSl.at {a : Option Addr} {n cap : Nat} (h : FSl E D w (.slice a n cap) xs) {i : Nat} {x : α} (hx : xs[i]? = some x) : ∃ b o, a = some ⟨b, o, none⟩ ∧ D b ∧ Reads w b (o + i * E.n) (E.enc x) := by
  obtain ⟨a', cap', he, hc, h⟩ := h
  cases he
  rcases h with h | ⟨b, o, ha, hb, hr⟩
  · subst h; simp at hx
  · exact ⟨b, o, ha, hb, fun j u hj => by rw [Nat.add_assoc]; exact hr _ _ (E.flat_get hx hj)⟩
theorem FSl.nil (E : FE α) (D : Nat → Prop) (w : World) (a : Option Addr) (cap : Nat) : FSl E D w (.slice a 0 cap) [] := ⟨a, cap, rfl, by simp, .inl rfl⟩
theorem FSl.lit {b n : Nat} {cells : List Value} {ty : TypeId} (hR : Row w b cells ty) (hc : cells = xs.flatMap E.enc) (hn : xs.length = n) (hle : n ≤ 100000) : FSl E (fun k => k = b) w (.slice (some ⟨b, 0, none⟩) n n) xs := by
  subst hn; subst hc
  exact ⟨_, _, rfl, by omega, .inr ⟨b, 0, rfl, rfl, hR.reads0⟩⟩
def FOwn (E : FE α) (e : TypeId) (base : Nat) (w : World) (v : Value) (xs : List α) : Prop :=
  w.ownsRow base e E.n v xs.length (xs.flatMap E.enc) ∧ xs.length ≤ 1000000000
variable {e : TypeId} {base : Nat}
theorem FOwn.nil (E : FE α) (e : TypeId) (base : Nat) (w : World) : FOwn E e base w (.slice none 0 0) [] := ⟨⟨by simp, .inl ⟨rfl, rfl⟩⟩, by simp⟩
theorem FOwn.own (h : FOwn E e base w v xs) : ∀ k, v.ownBlock = some k → base ≤ k ∧ k < w.heap.size := by
  intro k hk
  rcases h.1.2 with ⟨rfl, _⟩ | ⟨g, cap, cur, rfl, hg, hrow, _⟩
  · simp [Value.ownBlock] at hk
  · simp only [Value.ownBlock, Option.some.injEq] at hk; subst hk; exact ⟨hg, (Array.getElem?_eq_some_iff.1 hrow).1⟩
theorem FOwn.to (h : FOwn E e base w v xs) (hb : ∀ k, v.ownBlock = some k → w'.heap[k]? = w.heap[k]?) : FOwn E e base w' v xs := by
  obtain ⟨⟨hl, h⟩, h2⟩ := h
  refine ⟨⟨hl, ?_⟩, h2⟩
  rcases h with h | ⟨g, cap, cur, rfl, hg, hrow, h⟩
  · exact .inl h
  · exact .inr ⟨g, cap, cur, rfl, hg, by rw [hb g rfl]; exact hrow, h⟩
theorem FOwn.ext (h : FOwn E e base w v xs) (x : Ext w w') : FOwn E e base w' v xs := h.to (fun k hk => x.block k (h.own k hk).2)
theorem FOwn.but {b : Nat} (h : FOwn E e base w v xs) (x : But b w w') (hb : v.ownBlock ≠ some b) : FOwn E e base w' v xs := h.to (fun k hk => x.block k (fun he => hb (he ▸ hk)))
theorem FOwn.rebase {base' : Nat} (h : FOwn E e base w v xs) (hb : base' ≤ base) : FOwn E e base' w v xs := by
  obtain ⟨⟨hl, h⟩, h2⟩ := h
  refine ⟨⟨hl, ?_⟩, h2⟩
  rcases h with h | ⟨g, cap, cur, he, hg, h⟩
  · exact .inl h
  · exact .inr ⟨g, cap, cur, he, Nat.le_trans hb hg, h⟩
theorem FOwn.sl (h : FOwn E e base w v xs) : FSl E (fun k => base ≤ k ∧ v.ownBlock = some k) w v xs := by
  obtain ⟨⟨hl, h⟩, h2⟩ := h
  rcases h with ⟨rfl, h0⟩ | ⟨g, cap, cur, rfl, hg, hrow, hn, hcm, hcs, htake⟩
  · have : xs = [] := List.eq_nil_of_length_eq_zero h0
    subst this; exact FSl.nil _ _ _ _ _
  · refine ⟨_, cap, rfl, by omega, .inr ⟨g, 0, rfl, ⟨hg, rfl⟩, fun j u hj => ?_⟩⟩
    have hlt : j < xs.length * E.n := by rw [← E.flat_len]; exact (List.getElem?_eq_some_iff.1 hj).1
    rw [cell_of_row w g _ cur e (0, 0) hrow]
    rw [← htake, List.getElem?_take, if_pos hlt] at hj
    simpa using hj
theorem FOwn.cases (h : FOwn E e base w v xs) : ∃ a cap, v = .slice a xs.length cap ∧ (a = none → xs = [] ∧ cap = 0) ∧ ∀ x, a = some x → base ≤ x.block ∧ x.block < w.heap.size ∧ v.ownBlock = some x.block := by
  obtain ⟨⟨_, h⟩, _⟩ := h
  rcases h with ⟨rfl, h0⟩ | ⟨g, cap, cur, rfl, hg, hrow, _⟩
  · have : xs = [] := List.eq_nil_of_length_eq_zero h0
    subst this
    exact ⟨none, 0, rfl, fun _ => ⟨rfl, rfl⟩, fun x h => by cases h⟩
  · exact ⟨_, cap, rfl, (fun h => by cases h), (fun x h => by cases h; exact ⟨hg, (Array.getElem?_eq_some_iff.1 hrow).1, rfl⟩)⟩
end
section
variable {P : Program} {α : Type} {E : FE α}
theorem run_appendF {w : World} {base : Nat} {D2 : Nat → Prop} {t ty e : TypeId} {z v : Value} {xs ys : List α} {a : Option Addr} {m c : Nat} (ht : sliceB P t e E.n = true) (hz : zeroB P e z) (hzs : z.cells.size = E.n) (hby : smallB P e = true)
    (hown : FOwn E e base w v xs) (hus : FSl E D2 w (.slice a m c) ys) (hlen : xs.length + ys.length ≤ 1000000000) (hbase : base ≤ w.heap.size) :
    ∃ v' w', (Builtin.append_ #[t, t] ty #[v, .slice a m c]).run P w = .ok v' w' ∧ FOwn E e base w' v' (xs ++ ys) ∧ GrownD w w' v.ownBlock ∧ (v'.ownBlock = v.ownBlock ∨ v'.ownBlock = some w.heap.size) := by
  obtain ⟨hu, q, hq, hs⟩ := sliceB_u ht
  obtain ⟨hrow, hle⟩ := hown
  have hbt : q.bytes ≤ 128 := by unfold smallB at hby; rw [hq] at hby; simp at hby; exact hby.1
  have hzz : q.zero = some z := by unfold zeroB at hz; rw [hq] at hz; exact hz
  obtain ⟨a', c', he, hc, hr⟩ := hus
  cases he
  have fin : ∀ (v' : Value) (w' : World), w'.ownsRow base e E.n v' (xs.length + ys.length) (xs.flatMap E.enc ++ ys.flatMap E.enc) → FOwn E e base w' v' (xs ++ ys) := fun v' w' h1 =>
    ⟨by simpa using h1, by simpa using hlen⟩
  cases a with
  | none =>
    have hnil : ys = [] := by rcases hr with h | ⟨b, o, h, _⟩ <;> first | exact h | cases h
    subst hnil
    exact ⟨v, w, run_append_none_any base t ty e q E.n c hu hq v _ _ hrow, fin v w (by simpa using hrow), ⟨⟨rfl, rfl, rfl, Nat.le_refl _, fun _ _ _ => rfl⟩, Nat.le_refl _⟩, .inl rfl⟩
  | some ad =>
    obtain ⟨v', w', h1, h2, h3, _, h5⟩ := run_append_own_at (P := P) w base t ty e q z E.n q.bytes hu hq hzz hs rfl hzs E.pos v xs.length (xs.flatMap E.enc) hrow ad ys.length c (ys.flatMap E.enc) (E.flat_len ys) (by
      intro j u hj
      rcases hr with h | ⟨b, o, h, _, hrd⟩
      · subst h; simp at hj
      · cases h; exact (addr_add b o j) ▸ hrd j u hj) (E.flat_one ys) (by simp only [maxLen]; omega) (by
        have := Nat.mul_le_mul hlen hbt
        omega) hbase
    exact ⟨v', w', h1, fin v' w' h2, ⟨h3, run_drawn _ h1⟩, h5⟩
variable {ro : Option Nat} {all : Array Oper} {Q : Exit → Act → World → Prop} {N : Nat} {ds : List Deferred} {r : Reg} {w : World} {rest : List Oper}
  {ty : TypeId} {pos : String} {aft : Array Edge} {g : Option (Nat × Bool)}
theorem WL.appendF {d : Nat} {t e : TypeId} {base : Nat} {D2 : Nat → Prop} {x y : Operand} {z v : Value} {xs ys : List α} {a : Option Addr} {m c : Nat} (hw : want all r g = some true) (hd : Nat.blt d N = true) (ht : sliceB P t e E.n = true) (hz : zeroB P e z) (hzs : z.cells.size = E.n) (hby : smallB P e = true)
    (hx : ev r x = some v) (hy : ev r y = some (.slice a m c)) (hown : FOwn E e base w v xs) (hus : FSl E D2 w (.slice a m c) ys) (hlen : xs.length + ys.length ≤ 1000000000) (hbase : base ≤ w.heap.size)
    (next : ∀ v' w', GrownD w w' v.ownBlock → FOwn E e base w' v' (xs ++ ys) → (v'.ownBlock = v.ownBlock ∨ v'.ownBlock = some w.heap.size) → WL ro P all Q N ds rest ((d, v') :: r) w') :
    WL ro P all Q N ds (⟨some d, .call ⟨.builtin .append, #[x, y], #[t, t]⟩, ty, pos, aft, g⟩ :: rest) r w := by
  obtain ⟨v', w', h1, h2, h3, h4⟩ := run_appendF (ty := ty) ht hz hzs hby hown hus hlen hbase
  exact WL.val hw hd (by intro c h; cases h) (fun a ha => by simp [execOp, resolve, invoke, builtin, ha.ev hx, ha.ev hy, h1]) (next v' w' h3 h2 h4)
end
theorem FSl.grown {α : Type} {E : FE α} {D : Nat → Prop} {w w' : World} {row : Option Nat} {v : Value} {xs : List α} (h : FSl E D w v xs) (hg : GrownD w w' row) (hd : ∀ k, D k → k < w.heap.size → row ≠ some k) : FSl E D w' v xs :=
  h.lt.step (fun k hk => hk.1) (fun b o l hk hr j u hj => by rw [← hr j u hj]; exact World.cell?_of_block (hg.block b hk.2 (fun hh => hd b hk.1 hk.2 hh.symm)))
theorem FSl.bu {α : Type} {E : FE α} {D : Nat → Prop} {w w' : World} {v : Value} {xs : List α} {b : Nat} (h : FSl E D w v xs) (e : But b w w') (hb : ¬ D b := by intro h1; first | omega | ((try dsimp only at h1); (repeat' first | (guard_hyp h1 : _ ∨ _; refine Or.elim h1 (fun h1 => ?_) (fun h1 => ?_)) | (guard_hyp h1 : _ ∧ _; have hx := h1.2; replace h1 := h1.1)) <;> first | contradiction | omega)) : FSl E D w' v xs := h.but e hb
end Go.Proofs.Ytaggidjijekpbaa
namespace Go.Proofs.Ytaggidjijekpbaa
open Go.Proofs Go.RowKit
set_option maxRecDepth 20000 in
set_option maxHeartbeats 4000000 in
theorem index_ok (D : Nat → Prop) (w : World) (a : Option Addr) (cap : Nat) (xs : List S4) (s : S4) (hxs : FSl setE D w (.slice a xs.length cap) xs) :
  Calls Try.prog 49 #[.slice a xs.length cap, .agg (scells s).toArray] w fun e w' => e = .returned (.int .i64 (idxI (fun t => s == t) xs)) ∧ Ext w w' := by
 have hlen := hxs.len
 refine Calls.enter (args := [.slice a xs.length cap, .agg #[.int .u64 s.a, .int .u64 s.b, .int .u64 s.c, .int .u64 s.d]]) Try.func49 rfl rfl rfl rfl ?_
 refine sq ?_
 refine WL.box_agg rfl rfl rfl (fun b1 w6 hb2 hE5 hs3 hR4 => ?_)
 refine asg ?_
 refine WL.dn ?_
 refine WC.seqk ?_
 refine sq ?_
 refine mv ?_
 refine WL.len rfl rfl Try.underlying47 rfl ?_
 refine mv ?_
 refine WL.dn ?_
 refine WC.block ?_
 refine WC.weaken (r' := [(0, .slice a xs.length cap), (3, pt b1 0), (4, .int .i64 0), (7, .int .i64 xs.length), (8, .int .i64 0)]) (s4 (sr rfl (subReg_nil _))) ?_
 refine WC.loop (σ := Nat) (fun k r_ w_ => r_ = [(0, .slice a xs.length cap), (3, pt b1 0), (4, .int .i64 0), (7, .int .i64 xs.length), (8, .int .i64 (k : Int))] ∧ Ext w6 w_ ∧ (k ≤ xs.length ∧ ∀ (m : Nat) (t : S4), m < k → xs[m]? = some t → (s == t) = false)) (fun k => xs.length - k) 0 ⟨rfl, (Ext.refl _), ⟨Nat.zero_le _, fun m t h => absurd h (Nat.not_lt_zero _)⟩⟩ ?_
 rintro k r_ w9 ⟨rfl, hE7, hI8⟩
 have hzhE7 := hE7.size
 obtain ⟨hk, hI0⟩ := hI8
 refine sq ?_
 cases hc10 : decide (((k : Int) : Int) < xs.length) with
 | false =>
  refine WL.lss rfl rfl rfl rfl hc10 ?_
  have hp10 := of_decide_eq_false hc10
  refine WL.dn ?_
  refine WC.seqk ?_
  refine cF ?_
  refine WC.exit (fun a_ ha => ?_)
  refine exit_then ?_
  refine exit_then ?_
  refine exit_here ?_
  refine WC.at ?_ ha
  refine sq ?_
  refine asg ?_
  refine WL.dn ?_
  refine WC.ret (fun a_ ha => ?_)
  exact bodyPost_tmp rfl ha rfl ⟨by rw [idxI_none (fun m t hm ht => hI0 m t (by omega) ht)], (hE5.trans hE7)⟩
 | true =>
  refine WL.lss rfl rfl rfl rfl hc10 ?_
  have hp10 := of_decide_eq_true hc10
  refine WL.dn ?_
  refine WC.seqk ?_
  refine cT ?_
  refine WC.sk ?_
  refine WC.seqk ?_
  refine WC.block ?_
  refine sq ?_
  refine mv ?_
  refine asg ?_
  refine WL.dn ?_
  refine WC.seqk ?_
  have h11 := ((hxs.ext hE5).ext hE7)
  obtain ⟨x12, hx12⟩ : ∃ x, xs[k]? = some x := ⟨_, List.getElem?_eq_getElem (by omega)⟩
  obtain ⟨eb12, eo12, hea12, hD12, her12⟩ := (h11).at hx12
  subst hea12
  refine WC.weaken (r' := [(0, .slice (some ⟨eb12, eo12, none⟩) xs.length cap), (3, pt b1 0), (4, .int .i64 0), (7, .int .i64 xs.length), (8, .int .i64 (k : Int)), (9, .bool true), (10, .int .i64 (k : Int)), (5, .int .i64 (k : Int))]) (s4 (s4 (subReg_nil _))) ?_
  refine WC.draw 5 [11, 12, 13, 14, 15] [pc (.agg #[.int .u64 s.a, .int .u64 s.b, .int .u64 s.c, .int .u64 s.d]), pc (.slice (some ⟨eb12, eo12, none⟩) xs.length cap), pc (.int .i64 (k : Int)), pc (pt eb12 (eo12 + k * 4)), pc (.agg #[.int .u64 x12.a, .int .u64 x12.b, .int .u64 x12.c, .int .u64 x12.d])] (by kernel_rfl) (by kernel_rfl) (k4 ⟨KW_pc _, trivial⟩) rfl rfl rfl (sc4 ?_ ?_ ?_ ?_ (sc ?_ (StepsOn.nil _))) ?_
  ·intro σ β w1 hE1 hbi hk
   refine ⟨[], (agree_nil _), ?_⟩
   have h33 := ((hR4.ext hE7).ext hE1)
   refine WL.load_box rfl rfl rfl h33 Ty.agg26 ?_
   exact dq hbi rfl
  ·intro σ β w1 hE1 hbi hk
   refine ⟨[], (agree_nil _), ?_⟩
   refine mv ?_
   exact dq hbi rfl
  ·intro σ β w1 hE1 hbi hk
   refine ⟨[], (agree_nil _), ?_⟩
   refine mv ?_
   exact dq hbi rfl
  ·intro σ β w1 hE1 hbi hk
   have hz1 := hE1.size
   refine ⟨[(12, .slice (some ⟨eb12, eo12, none⟩) xs.length cap), (13, .int .i64 (k : Int))], (ak hk 1 (ak hk 2 (agree_nil _))), ?_⟩
   refine WL.indexAddr (i := k) rfl rfl Ty.slice47 rfl rfl rfl (by omega) ?_
   exact dq hbi rfl
  ·intro σ β w1 hE1 hbi hk
   refine ⟨[(14, pt eb12 (eo12 + k * 4))], (ak hk 3 (agree_nil _)), ?_⟩
   refine WL.load_agg (l := scells x12) rfl rfl Ty.agg26 rfl (her12.ext hE1) ?_
   exact dq hbi rfl
  intro σ β w13 hE13 hbi13 hk
  have hz13 := hE13.size
  have hbi := hbi13
  refine WL.know [(11, .agg #[.int .u64 s.a, .int .u64 s.b, .int .u64 s.c, .int .u64 s.d]), (15, .agg #[.int .u64 x12.a, .int .u64 x12.b, .int .u64 x12.c, .int .u64 x12.d])] (aj hk 0 (aj hk 4 (agree_nil _))) ?_
  cases hc16 : (s == x12) with
  | false =>
   refine WL.seteql (s := s) (s' := x12) rfl rfl Ty.arr26 Ty.eqg26 Try.underlying24 rfl rfl hc16 ?_
   refine WL.dn ?_
   refine cF ?_
   refine WC.sk ?_
   refine WC.region ?_
   refine WL.add (v := (k : Int) + 1) rfl rfl rfl rfl (IntWalk.i64_in _ (by omega)) ?_
   refine mv ?_
   refine WL.nil (fun a_ ha => ?_)
   exact ⟨k + 1, _, ha.weaken (s4 (sr rfl (subReg_nil _))), ⟨rfl, (hE7.trans hE13), ⟨by omega, by
   intro m t hm ht
   rcases Nat.lt_or_ge m k with h | h
   ·exact hI0 m t h ht
   ·obtain rfl : m = k := by omega
    rw [ht] at hx12; cases hx12; assumption⟩⟩, by first | omega | (dsimp only; omega)⟩
  | true =>
   refine WL.seteql (s := s) (s' := x12) rfl rfl Ty.arr26 Ty.eqg26 Try.underlying24 rfl rfl hc16 ?_
   refine WL.dn ?_
   refine cT ?_
   refine sq ?_
   refine mv ?_
   refine asg ?_
   refine WL.dn ?_
   refine WC.ret (fun a_ ha => ?_)
   refine ret_block ?_
   refine ret_then ?_
   refine ret_then ?_
   refine ret_block ?_
   refine ret_then ?_
   exact bodyPost_tmp rfl ha rfl ⟨by rw [idxI_at hx12 (by assumption) hI0], ((hE5.trans hE7).trans hE13)⟩
set_option maxRecDepth 20000 in
set_option maxHeartbeats 4000000 in
theorem contains_ok (D : Nat → Prop) (w : World) (a : Option Addr) (cap : Nat) (xs : List S4) (s : S4) (hxs : FSl setE D w (.slice a xs.length cap) xs) :
  Calls Try.prog 43 #[.slice a xs.length cap, .agg (scells s).toArray] w fun e w' => e = .returned (.bool (xs.any (fun t => s == t))) ∧ Ext w w' := by
 have hlen := hxs.len
 refine Calls.enter (args := [.slice a xs.length cap, .agg #[.int .u64 s.a, .int .u64 s.b, .int .u64 s.c, .int .u64 s.d]]) Try.func43 rfl rfl rfl rfl ?_
 refine sq ?_
 refine WL.box_agg rfl rfl rfl (fun b1 w6 hb2 hE5 hs3 hR4 => ?_)
 refine asg ?_
 refine WL.dn ?_
 refine sq ?_
 refine mv ?_
 refine WL.load_box rfl rfl rfl hR4 Ty.agg26 ?_
 refine WL.call rfl rfl rfl Ty.ent49 (index_ok _ _ _ _ xs s (hxs.ext hE5)) ?_
 rintro _ w8 ⟨rfl, hE7⟩
 have hzhE7 := hE7.size
 refine ⟨_, rfl, ?_⟩
 refine WL.geq rfl rfl rfl rfl rfl ?_
 refine asg ?_
 refine WL.dn ?_
 refine WC.ret (fun a_ ha => ?_)
 exact bodyPost_tmp rfl ha rfl ⟨(by rw [← idxI_any]), (hE5.trans hE7)⟩
end Go.Proofs.Ytaggidjijekpbaa
namespace Go.Proofs.Ytaggidjijekpbaa
open Go.RowKit
namespace Nd
def stepS (l : List S4) (x : Nd) : List S4 := if x.kind == 2 && !l.contains x.set then l ++ [x.set] else l
def accS (l : List Nd) (i : Nat) : List S4 := (l.take i).foldl stepS []
theorem accS_succ {l : List Nd} {i : Nat} {t : Nd} (h : l[i]? = some t) : accS l (i + 1) = stepS (accS l i) t := by
  unfold accS; rw [List.take_add_one, h, List.foldl_append]; rfl
theorem stepS_len (l : List S4) (x : Nd) : (stepS l x).length ≤ l.length + 1 := by unfold stepS; split <;> simp
theorem accS_len (l : List Nd) (i : Nat) : (accS l i).length ≤ i := by
  unfold accS
  have : ∀ (l : List Nd) (acc : List S4), (l.foldl stepS acc).length ≤ acc.length + l.length := by
    intro l
    induction l with
    | nil => intro acc; simp
    | cons x l ih => intro acc; have := ih (stepS acc x); have := stepS_len acc x; simp only [List.foldl_cons, List.length_cons]; omega
  have h := this (l.take i) []
  have := List.length_take_le i l
  simp only [List.length_nil] at h; omega
theorem setsOf_eq {t : Nd} (h : t.light = true) : t.setsOf = accS t.pre t.size := by
  unfold setsOf accS
  rw [if_pos h, List.take_of_length_le (by rw [pre_length]; exact Nat.le_refl _)]; rfl
theorem contains_any (l : List S4) (s : S4) : l.contains s = l.any (fun t => s == t) := List.contains_eq_any_beq ..
end Nd
theorem small_set : smallB Try.prog 26 = true := by kernel_rfl
theorem GrownD.keep {S : Nat → Prop} {w w' : World} {row : Option Nat} (h : GrownD w w' row) (hs : ∀ k, row = some k → S k) : Keep S w w' :=
  ⟨h.os, h.tape, h.output, h.size, fun k hk hn => h.block k hk (fun hh => hn (hs k hh.symm)), h.drawn⟩
theorem FOwn.keep {α : Type} {E : FE α} {e : TypeId} {base : Nat} {S : Nat → Prop} {w w' : World} {v : Value} {xs : List α} (h : FOwn E e base w v xs) (x : Keep S w w') (hs : ∀ k, v.ownBlock = some k → ¬ S k) : FOwn E e base w' v xs :=
  h.to (fun k hk => x.block k (h.own k hk).2 (hs k hk))
theorem bodyPostM_tmp1 {P : Program} {N : Nat} {r : Reg} {w : World} {fn : Func} {R : Ending → World → Prop} {t D : Nat} {v : Value} {a : Act} (hres : fn.results = #[.tmp t]) (h : Fits N [markOf D] r a) (hl : look r t = some v) (hd : w.heap[D]? = some (.deferred (some [])))
    (hR : ∀ w', Keep (fun k => k = D) w w' → R (.returned v) w') : bodyPostM Fence.wide 0 P fn R .ret a w := by
  show LeavesInM Fence.wide 0 P fn a.tmps R a.defers .returning w
  rw [h.defers]
  exact leavesM (n0 := 0) [D] w (by simp) (by simpa using hd) (fun w' hk => ⟨v, by rw [results_tmp hres]; simp [h.get t v hl], hR w' (hk.mono (fun k _ hm => by simpa using hm))⟩)
set_option maxRecDepth 20000 in
theorem sets_ok (D : Nat → Prop) (w : World) (l : List Value) (T : Nd) (hT : NodeL D w l T) :
    Calls Try.prog 27 #[.agg l.toArray] w fun e w' => ∃ v, e = .returned v ∧ FOwn setE 26 w.heap.size w' v T.setsOf ∧ Ext w w' := by
  have hTl := hT.lt
  obtain ⟨a, cap, rfl, hts, hlen⟩ := hT.op2
  refine Calls.enterM (args := [.agg (tcells T (.slice a T.subs.length cap)).toArray]) Try.func27 rfl rfl rfl rfl ?_
  refine sq ?_
  refine WL.box_agg rfl rfl rfl (fun b1 w1 hb1 hE1 hs1 hR1 => ?_)
  refine asg ?_
  refine WL.dn ?_
  refine sq ?_
  refine WL.alloc rfl rfl Ty.zero47 rfl (fun b3 w3 hb3 hE3 hs3 hR3 => ?_)
  refine WL.dn ?_
  refine WC.seqk ?_
  refine sq ?_
  refine WL.load_box rfl rfl rfl (hR1.ext hE3) Ty.agg29 ?_
  refine WL.call rfl rfl rfl Ty.ent35 (light_ok _ _ _ T ((hT.ext hE1).ext hE3)) ?_
  rintro e w4 ⟨rfl, hE4⟩
  refine ⟨_, rfl, ?_⟩
  have hz4 := hE4.size
  refine WL.dn ?_
  cases hc : T.light with
  | false =>
    refine cF ?_
    refine WC.sk ?_
    refine sq ?_
    refine WL.load_fld rfl rfl Ty.flat47 rfl (hR3.ext hE4) rfl ?_
    refine asg ?_
    refine WL.dn ?_
    refine WC.ret (fun a_ ha => ?_)
    have hs0 : T.setsOf = [] := by unfold Nd.setsOf; rw [hc]; rfl
    exact bodyPostM_tmp rfl ha rfl (Marks.nil _ w4.heap.size) (fun wz hkz => ⟨_, rfl, by rw [hs0]; exact FOwn.nil _ _ _ _, hkz.after ((hE1.trans hE3).trans hE4) (fun k h => by omega)⟩)
  | true =>
  have hle := light_le hc
  refine cT ?_
  refine sq ?_
  refine WL.load_box rfl rfl rfl ((hR1.ext hE3).ext hE4) Ty.agg29 ?_
  refine WL.call rfl rfl rfl Ty.ent36 (nodes_ok _ _ rfl) ?_
  rintro e w5 ⟨b5, rfl, hE5, hR5, hb5, hs5⟩
  refine ⟨_, rfl, ?_⟩
  refine WL.dn ?_
  refine WC.block ?_
  have hz5 := hE5.size
  refine WC.rangeFuncB rfl rfl Ty.ent45 (nodes_iter hR5 ((((hTl.ext hE1).ext hE3).ext hE4).ext hE5)) (Ext.refl _) (by rintro k (⟨_, h⟩ | h) <;> omega) (fun k => k = b3) (by rintro k rfl; omega) (by rintro k rfl (⟨_, h⟩ | h) <;> omega)
    (fun i B A => ∃ v, Row A b3 [v] 47 ∧ FOwn setE 26 w5.heap.size A v (Nd.accS T.pre i) ∧ ∀ k, v.ownBlock = some k → B k) (fun _ _ _ => False)
    (fun i B A A' hs ⟨v, h1, h2, h3⟩ hk => ⟨v, hk.row h1 (fun h => by have := h.1; omega), h2.keep hk (fun k hq h => h.2 (h3 k hq)), h3⟩) (fun _ _ _ _ _ h _ => h)
    ⟨_, (hR3.ext hE4).ext hE5, FOwn.nil _ _ _ _, fun k h => by simp [Value.ownBlock] at h⟩ ?_ ?_ (fun _ _ _ _ _ _ _ _ h => h.elim)
  · rintro i B W1 v0 lr hi ⟨cells, rfl, t, ht, hnt⟩ hl1 hl2 hKW hBb ⟨v, hRi, hFi, hBi⟩
    have hzW := hKW.size
    obtain ⟨q, rfl, hq⟩ := hnt.opn
    obtain ⟨aq, cq, rfl, -, -⟩ := hq.get
    have hal := Nd.accS_len T.pre i
    obtain ⟨av, cv, rfl, -, hov⟩ := hFi.cases
    refine WC.region ?_
    refine WL.alloc rfl rfl Ty.zero29 rfl (fun b7 w7 hb7 hE7 hs7 hR7 => ?_)
    refine WL.store_box rfl rfl rfl hR7 Ty.agg29 rfl rfl (fun w8 hB8 hR8 => ?_)
    have hE8 : Ext W1 w8 := hB8.onto hE7 (by omega)
    have hz8 := hB8.size
    refine WL.nil (fun a_ ha => ?_)
    refine ⟨hE8.keep _, fun w9 hB9 => ?_⟩
    refine WC.at ?_ ha
    have hz9 := hB9.size
    have hR9 : Row w9 b3 _ _ := hB9.row (hRi.ext hE8) (by omega)
    have hR89 : Row w9 b7 _ _ := hB9.row hR8 (by omega)
    have hF9 := (hFi.ext hE8).but hB9 (fun h => (hBb lr (hBi lr h)).2.2 rfl)
    have hown : ∀ k, (Value.slice av (Nd.accS T.pre i).length cv).ownBlock = some k → w5.heap.size ≤ k ∧ k < W1.heap.size := hFi.own
    refine WC.block ?_
    refine sq ?_
    refine WL.fieldAddr rfl rfl Ty.fld29_0 rfl ?_
    refine WL.load_fld rfl rfl Ty.flat5 rfl hR89 rfl ?_
    cases hk : ((t.kind : Int) == 2) with
    | false =>
      refine WL.eql rfl rfl rfl rfl hk ?_
      refine mv ?_
      refine ps ?_
      refine ps ?_
      refine ps ?_
      refine ps ?_
      refine ps ?_
      refine pF ?_
      refine WL.dn ?_
      refine cF ?_
      refine WC.skip' (fun a_ ha => ?_)
      have hst : Nd.accS T.pre (i + 1) = Nd.accS T.pre i := by rw [Nd.accS_succ ht]; unfold Nd.stepS; rw [hk]; rfl
      exact ⟨B, fun k hB => ⟨.inl hB, by have := hBb k hB; omega⟩, Keep.refl _ _, _, hR9, by rw [hst]; exact hF9, hBi⟩
    | true =>
      refine WL.eql rfl rfl rfl rfl hk ?_
      refine mv ?_
      refine WL.load_fld rfl rfl Ty.flat47 rfl hR9 rfl ?_
      refine WL.fieldAddr rfl rfl Ty.fld29_1 rfl ?_
      refine WL.load_part 4 rfl rfl rfl hR89 rfl Ty.agg26 ?_
      refine WL.call rfl rfl rfl Ty.ent43 (contains_ok _ _ _ _ (Nd.accS T.pre i) t.set hF9.sl) ?_
      rintro e w10 ⟨rfl, hE10⟩
      refine ⟨_, rfl, ?_⟩
      have hz10 := hE10.size
      refine WL.not rfl rfl rfl ?_
      refine pT ?_
      refine WL.dn ?_
      cases hany : (Nd.accS T.pre i).any (fun s => t.set == s) with
      | true =>
        refine cF ?_
        refine WC.skip' (fun a_ ha => ?_)
        have hst : Nd.accS T.pre (i + 1) = Nd.accS T.pre i := by rw [Nd.accS_succ ht]; unfold Nd.stepS; rw [hk, Nd.contains_any, hany]; rfl
        exact ⟨B, fun k hB => ⟨.inl hB, by have := hBb k hB; omega⟩, hE10.keep _, _, hR9.ext hE10, by rw [hst]; exact hF9.ext hE10, hBi⟩
      | false =>
        have hst : Nd.accS T.pre (i + 1) = Nd.accS T.pre i ++ [t.set] := by rw [Nd.accS_succ ht]; unfold Nd.stepS; rw [hk, Nd.contains_any, hany]; rfl
        refine cT ?_
        refine WC.region ?_
        refine WL.load_fld rfl rfl Ty.flat47 rfl (hR9.ext hE10) rfl ?_
        refine WL.fieldAddr rfl rfl Ty.fld29_1 rfl ?_
        refine WL.load_part 4 rfl rfl rfl (hR89.ext hE10) rfl Ty.agg26 ?_
        refine WL.buildSlice (vs := [.agg (scells t.set).toArray]) (cells := scells t.set) rfl rfl Ty.slice47 Ty.zero26 rfl rfl rfl rfl rfl rfl (fun b11 w11 hb11 hE11 hs11 hR11 => ?_)
        have hF11 := (hF9.ext hE10).ext hE11
        refine WL.appendF (E := setE) (ys := [t.set]) rfl rfl Ty.slice47 Ty.zero26 rfl small_set rfl rfl hF11 (FSl.lit hR11 (by simp [setE]) rfl (by decide)) (by simp; omega) (by omega) ?_
        intro v12 w12 hG12 hF12 hv12
        have hz12 := hG12.size
        have hR12 : Row w12 b3 _ _ := grown_row hG12 ((hR9.ext hE10).ext hE11) (fun hh => by have := hown _ hh; omega)
        obtain ⟨a12, c12, rfl, -, -⟩ := hF12.cases
        have hown12 := hF12.own
        refine WL.store_cell rfl Ty.flat47 rfl rfl hR12 rfl rfl (fun w13 hB13 hR13 => ?_)
        have hz13 := hB13.size
        refine WL.nil (fun a_ ha => ?_)
        refine ⟨fun k => (Value.slice a12 (Nd.accS T.pre i ++ [t.set]).length c12).ownBlock = some k, fun k hk => ⟨?_, by have := hown12 k hk; omega⟩, ?_, _, hR13, by rw [hst]; exact hF12.but hB13 (fun h => by have := hown12 _ h; omega), fun k h => h⟩
        · rcases hv12 with h | h
          · exact .inl (hBi k (by rw [← h]; exact hk))
          · right; rw [h] at hk; cases hk; omega
        · exact ((hE10.trans hE11).keep _).trans ((hG12.keep (fun k hh => .inr (hBi k hh))).trans (hB13.keep (.inl rfl)))
  · rintro wd Dd B hBd hDd hdd hKd ⟨v, hRd, hFd, hBv⟩ a_ ha
    have hzd := hKd.size
    refine WC.at ?_ ha
    refine sq ?_
    obtain ⟨av, cv, rfl, -, -⟩ := hFd.cases
    refine WL.load_fld rfl rfl Ty.flat47 rfl hRd rfl ?_
    refine asg ?_
    refine WL.dn ?_
    refine WC.ret (fun a_ ha => ?_)
    refine bodyPostM_tmp1 rfl ha rfl hdd (fun wz hkz => ⟨_, rfl, ?_, ?_⟩)
    · rw [Nd.setsOf_eq hc, ← Nd.pre_length]
      exact (hFd.keep hkz (fun k hk he => (hBd k (hBv k hk)).2.2 he)).rebase (by omega)
    · exact (hkz.mono (S' := fun k => w.heap.size ≤ k) (fun k _ h => by omega)).after (hKd.after ((((hE1.trans hE3).trans hE4).trans hE5)) (by rintro k rfl; omega)) (fun k h => h)
end Go.Proofs.Ytaggidjijekpbaa
namespace Go.Proofs.Ytaggidjijekpbaa
open Go.RowKit
theorem Iv.node {w : World} (T : Nd) : ∀ (lo hi : Nat) (l : List Value), Iv 29 w lo hi l T → hi ≤ w.heap.size → T.size ≤ 10000 → NodeL (fun k => lo ≤ k ∧ k < hi) w l T := by
  induction T using Nd.ind with
  | h kd st mn mx tsx ih =>
  intro lo hi l hI hhi hsz
  replace ih : ∀ t, t ∈ (Nd.mk kd st mn mx tsx).subs → _ := ih
  generalize Nd.mk kd st mn mx tsx = T at *
  clear kd st mn mx tsx
  have hls := Nd.length_le_sizeL T.subs
  have hss := Nd.size_subs T
  cases hI with
  | leaf h1 h2 => exact NodeL.mk' (by rw [h1]; exact NodesV.nil _ _ _ _)
  | row h1 h2 h3 =>
    rename_i b cap ls
    have hlen := h3.len
    have hle := h3.le
    have hrows : RowsL (fun k => b + 1 ≤ k ∧ k < hi) w ls T.subs := by
      have key : ∀ {ls lo hi ts}, hi ≤ w.heap.size → (∀ t ∈ ts, t ∈ T.subs) → IvL 29 w lo hi ls ts → RowsL (fun k => lo ≤ k ∧ k < hi) w ls ts := by
        intro ls
        induction ls with
        | nil => intro lo hi ts _ _ h; cases h; exact RowsL.nil _ _
        | cons l ls ihl =>
          intro lo hi ts hh hm h
          cases h with
          | cons q1 q2 =>
            have e1 := q1.le
            have e2 := q2.le
            have hn := ih _ (hm _ (by simp)) _ _ _ q1 (by omega) (by have := Nd.size_le_sizeL (hm _ (List.mem_cons_self ..)); omega)
            exact (RowsL.cons hn (ihl hh (fun t ht => hm t (by simp [ht])) q2)).step (fun l t h => h.dom (by intro k hk; rcases hk with hk | hk <;> exact ⟨by omega, by omega⟩))
      exact key hhi (fun _ h => h) h3
    have hO : OwnV 29 b (fun k => b + 1 ≤ k ∧ k < hi) w (.slice (some ⟨b, 0, none⟩) T.subs.length cap) T.subs :=
      ⟨ls, by rw [← hlen]; exact h2.1, hrows.step (fun l t h => h.dom (fun k hk => ⟨hk, by omega, by simp only [Value.ownBlock, ne_eq, Option.some.injEq]; omega⟩)), by omega⟩
    exact NodeL.mk' (hO.nodes.dom (by
      intro k hk
      rcases hk with hk | ⟨_, hk⟩
      · exact ⟨by omega, hk.2⟩
      · simp only [Value.ownBlock, Option.some.injEq] at hk; subst hk; exact ⟨h1, by omega⟩))
set_option maxRecDepth 20000 in
theorem over_ok (T : Nd) : ∀ (w : World) (lo hi : Nat) (l : List Value), Iv 29 w lo hi l T → hi ≤ w.heap.size → T.size ≤ 10000 →
    Calls Try.prog 29 #[.agg l.toArray] w fun e w' => e = .returned (.tuple #[]) ∧ Keep (fun k => lo ≤ k ∧ k < hi) w w' := by
  induction T using Nd.ind with
  | h kd st mn mx tsx ih =>
  intro w lo hi l hI hhi hsz
  replace ih : ∀ t, t ∈ (Nd.mk kd st mn mx tsx).subs → _ := ih
  generalize Nd.mk kd st mn mx tsx = T at *
  clear kd st mn mx tsx
  have hls := Nd.length_le_sizeL T.subs
  have hss := Nd.size_subs T
  obtain ⟨a, cap, rfl, hdat⟩ : ∃ a cap, l = tcells T (.slice a T.subs.length cap) ∧ (T.subs = [] ∨ ∃ b ls, a = some ⟨b, 0, none⟩ ∧ lo ≤ b ∧ BR 29 w b ls cap ∧ IvL 29 w (b + 1) hi ls T.subs) := by
    cases hI with
    | leaf h1 h2 => exact ⟨_, _, by rw [h1]; rfl, .inl h1⟩
    | row h1 h2 h3 => exact ⟨_, _, rfl, .inr ⟨_, _, rfl, h1, h2, h3⟩⟩
  refine Calls.enter (args := [.agg (tcells T (.slice a T.subs.length cap)).toArray]) Try.func29 rfl rfl rfl rfl ?_
  refine sq ?_
  refine WL.box_agg rfl rfl rfl (fun b1 w1 hb1 hE1 hs1 hR1 => ?_)
  refine WL.dn ?_
  refine sq ?_
  refine WL.fieldAddr rfl rfl Ty.fld29_4 rfl ?_
  refine WL.load_fld rfl rfl Ty.flat27 rfl hR1 rfl ?_
  refine WL.len rfl rfl Try.underlying27 rfl ?_
  refine mv ?_
  refine WL.dn ?_
  refine WC.block ?_
  refine WC.weaken (r' := [(1, pt b1 0), (5, .int .i64 T.subs.length), (6, .int .i64 0)]) (sr rfl (sr rfl (sr rfl (subReg_nil _)))) ?_
  refine WC.loop (σ := Nat) (fun k r_ w_ => r_ = [(1, pt b1 0), (5, .int .i64 T.subs.length), (6, .int .i64 (k : Int))] ∧ k ≤ T.subs.length ∧ Row w_ b1 (tcells T (.slice a T.subs.length cap)) 29 ∧ Keep (fun k => lo ≤ k ∧ k < hi) w1 w_ ∧
    (T.subs = [] ∨ ∃ b ls m, a = some ⟨b, 0, none⟩ ∧ lo ≤ b ∧ b < m ∧ ls.length = T.subs.length ∧ BR 29 w_ b ls cap ∧ IvL 29 w_ m hi (ls.drop k) (T.subs.drop k))) (fun k => T.subs.length - k) 0
    ⟨rfl, Nat.zero_le _, hR1, Keep.refl _ _, hdat.imp id (fun ⟨b, ls, h1, h2, h3, h4⟩ => ⟨b, ls, b + 1, h1, h2, by omega, h4.len, h3.ext hE1, by simpa using h4.ext hE1 hhi⟩)⟩ ?_
  rintro k r_ w2 ⟨rfl, hk, hR, hK, hD⟩
  have hz2 := hK.size
  refine sq ?_
  cases hc : decide ((k : Int) < T.subs.length) with
  | false =>
    refine WL.lss rfl rfl rfl rfl hc ?_
    refine WL.dn ?_
    refine WC.seqk ?_
    refine cF ?_
    refine WC.exit (fun a_ ha => ?_)
    refine exit_then ?_
    refine exit_then ?_
    refine exit_here ?_
    exact bodyPost_unit' rfl ha ⟨rfl, (hE1.keep _).trans hK⟩
  | true =>
    have hlt : k < T.subs.length := by have := of_decide_eq_true hc; omega
    obtain ⟨b, ls, m, rfl, hlob, hbm, hlen, hBR, hIL⟩ := hD.resolve_left (fun h => by rw [h] at hlt; simp at hlt)
    rw [List.drop_eq_getElem_cons (i := k) (l := ls) (by omega), List.drop_eq_getElem_cons (i := k) (l := T.subs) hlt] at hIL
    obtain ⟨mid, h1, h2⟩ : ∃ mid, Iv 29 w2 m mid ls[k] T.subs[k] ∧ IvL 29 w2 mid hi (ls.drop (k + 1)) (T.subs.drop (k + 1)) := by
      cases hIL with
      | cons q1 q2 => exact ⟨_, q1, q2⟩
    have hle1 := h1.le
    have hle2 := h2.le
    have hlk : ls[k]? = some ls[k] := List.getElem?_eq_getElem _
    refine WL.lss rfl rfl rfl rfl hc ?_
    refine WL.dn ?_
    refine WC.seqk ?_
    refine cT ?_
    refine WC.sk ?_
    refine WC.seqk ?_
    refine WC.block ?_
    refine sq ?_
    refine mv ?_
    refine asg ?_
    refine WL.dn ?_
    refine sq ?_
    refine WL.fieldAddr rfl rfl Ty.fld29_4 rfl ?_
    refine WL.load_fld rfl rfl Ty.flat27 rfl hR rfl ?_
    refine mv ?_
    refine WL.indexAddr (i := k) rfl rfl Ty.slice27 rfl rfl rfl (by omega) ?_
    refine WL.load_agg (l := ls[k]) rfl rfl (by rw [h1.one.1]; exact Ty.agg29) rfl (hBR.at hlk) ?_
    refine WL.call rfl rfl rfl Ty.ent29 (ih _ (List.getElem_mem hlt) w2 m mid ls[k] h1 (by omega) (by have := Nd.size_le_sizeL (List.getElem_mem hlt); omega)) ?_
    rintro _ w3 ⟨rfl, hK3⟩
    refine ⟨_, rfl, ?_⟩
    have hz3 := hK3.size
    have hR3 : Row w3 b1 _ _ := hK3.row hR (by omega)
    have hBR3 := hBR.to (hK3.block b hBR.lt (by omega))
    refine WL.dn ?_
    refine WC.region ?_
    refine WL.fieldAddr rfl rfl Ty.fld29_4 rfl ?_
    refine WL.load_fld rfl rfl Ty.flat27 rfl hR3 rfl ?_
    refine mv ?_
    refine WL.build (l := [.int .u8 99, .int .u64 0, .int .u64 0, .int .u64 0, .int .u64 0, .int .i64 0, .int .i64 0, .slice none 0 0]) rfl rfl Ty.zero29 Ty.st29 ⟨⟨rfl, rfl⟩, (by kernel_rfl)⟩ ?_
    refine WL.indexAddr (i := k) rfl rfl Ty.slice27 rfl rfl rfl (by omega) ?_
    refine WL.storeB (e := 29) rfl Ty.agg29 rfl rfl hBR3 (by omega) rfl (by intro u hu; simp only [List.mem_cons, List.not_mem_nil, or_false] at hu; rcases hu with rfl | rfl | rfl | rfl | rfl | rfl | rfl | rfl <;> rfl) (fun w4 hB4 hBR4 => ?_)
    have hz4 := hB4.size
    refine WL.dn ?_
    refine WC.region ?_
    refine WL.add (v := ((k + 1 : Nat) : Int)) rfl rfl rfl rfl (by rw [IntWalk.i64_in _ (by omega)]; omega) ?_
    refine mv ?_
    refine WL.nil (fun a_ ha => ?_)
    refine ⟨k + 1, _, ha.weaken (sr rfl (sr rfl (sr rfl (subReg_nil _)))), ⟨rfl, by omega, hB4.row hR3 (by omega), hK.trans ((hK3.mono (fun k _ h => ⟨by omega, by omega⟩)).trans (hB4.keep ⟨hlob, by omega⟩)), .inr ⟨b, _, mid, rfl, hlob, by omega, by simpa using hlen, hBR4, ?_⟩⟩, by omega⟩
    rw [List.drop_set_of_lt (by omega)]
    exact (h2.to (fun q h5 h6 => hK3.block q (by omega) (by omega))).to (fun q h5 h6 => hB4.block q (by omega))
end Go.Proofs.Ytaggidjijekpbaa
namespace Go.Proofs.Ytaggidjijekpbaa
open Go.RowKit
def piv (base : Nat) (T : Nd) : Post := fun v w _ => ∃ l lo hi, v = .agg l.toArray ∧ base ≤ lo ∧ hi ≤ w.heap.size ∧ Iv 29 w lo hi l T
theorem KW_piv (base : Nat) (T : Nd) : KW (piv base T) := fun _ _ _ _ _ E _ ⟨l, lo, hi, h1, h2, h3, h4⟩ => ⟨l, lo, hi, h1, h2, Nat.le_trans h3 E.size, h4.ext E h3⟩
theorem take_set_succ' {α : Type} {l : List α} {q : Nat} {t : α} (h : q < l.length) : (l.set q t).take (q + 1) = l.take q ++ [t] := by
  rw [List.take_add_one, List.getElem?_set_self h, List.take_set_of_le (Nat.le_refl _)]; rfl
set_option maxRecDepth 20000 in
set_option maxHeartbeats 4000000 in
theorem copied2_ok (T : Nd) : ∀ (D : Nat → Prop) (w : World) (l : List Value) (hT : NodeL D w l T) (hsz : T.size ≤ 10000),
    Calls Try.prog 41 #[.agg l.toArray] w fun e w' => ∃ l', e = .returned (.agg l'.toArray) ∧ Iv 29 w' w.heap.size w'.heap.size l' T ∧ Ext w w' := by
  induction T using Nd.ind with
  | h kd st mn mx tsx ih =>
  intro D w l hT hsz
  replace ih : ∀ t, t ∈ (Nd.mk kd st mn mx tsx).subs → _ := ih
  generalize Nd.mk kd st mn mx tsx = T at *
  clear kd st mn mx tsx
  have hT := hT.lt
  obtain ⟨a, cap, rfl, hts, hlen⟩ := hT.op2
  have hls := Nd.length_le_sizeL T.subs
  have hss := Nd.size_subs T
  refine Calls.enter (args := [.agg (tcells T (.slice a T.subs.length cap)).toArray]) Try.func41 rfl rfl rfl rfl ?_
  refine sq ?_
  refine WL.box_agg rfl rfl rfl (fun b1 w6 hb2 hE5 hs3 hR4 => ?_)
  refine WL.alloc rfl rfl Ty.zero29 rfl (fun b7 w12 hb8 hE11 hs9 hR10 => ?_)
  refine WL.dn ?_
  refine sq ?_
  refine WL.fieldAddr rfl rfl Ty.fld29_4 rfl ?_
  refine WL.load_fld rfl rfl Ty.flat27 rfl (hR4.ext hE11) rfl ?_
  refine WL.call rfl rfl rfl Ty.ent48 (clone_ok _ _ _ _ T.subs ((hts.ext hE5).ext hE11) (fun k hk => by have := hk.2; omega) (by omega)) ?_
  rintro _ w16 ⟨v13, rfl, hO13, hE15⟩
  have hz15 := hE15.size
  refine ⟨_, rfl, ?_⟩
  obtain ⟨a13, cap13, rfl, hn13, hx13⟩ := hO13.cases
  have h0 : T.subs = [] ∨ ∃ b ls, a13 = some ⟨b, 0, none⟩ ∧ w12.heap.size ≤ b ∧ ls.length = T.subs.length ∧ BR 29 w16 b ls cap13 ∧ ∀ (j : Nat) (l : List Value) (t : Nd), ls[j]? = some l → T.subs[j]? = some t → NodeL (fun c => c < w.heap.size) w16 l t := by
    obtain ⟨ls, hown, hrows, -⟩ := hO13
    rcases hown.2 with ⟨he, hn0⟩ | ⟨g, cap', cur, he, hg, hh⟩
    · exact .inl (List.eq_nil_of_length_eq_zero hn0)
    · cases he
      refine .inr ⟨g, ls, rfl, hg, hrows.1, ⟨⟨?_, .inr ⟨g, cap13, cur, ?_, Nat.le_refl _, ?_⟩⟩, hrows.eight⟩, fun j l t h1 h2 => (hrows.2 j l t h1 h2).dom (fun c hc => hc.1.2)⟩
      · rw [hrows.1]; exact hown.1
      · rw [hrows.1]
      · rw [hrows.1]; exact hh
  refine WL.fieldAddr rfl rfl Ty.fld29_4 rfl ?_
  refine WL.store_fld rfl Ty.flat27 rfl rfl ((hR4.ext hE11).ext hE15) rfl rfl (Nat.le_of_ble_eq_true rfl) rfl (fun w20 hB18 hR17 => ?_)
  have hz18 := hB18.size
  refine WL.dn ?_
  refine WC.seqk ?_
  refine sq ?_
  refine WL.fieldAddr rfl rfl Ty.fld29_4 rfl ?_
  refine WL.load_fld rfl rfl Ty.flat27 rfl hR17 rfl ?_
  refine WL.len rfl rfl Try.underlying27 rfl ?_
  refine mv ?_
  refine WL.dn ?_
  refine WC.block ?_
  have h21 := (hB18.row (hR10.ext hE15) (by omega))
  have hE20 : Ext w w20 := hB18.onto ((hE5.trans hE11).trans hE15) (by omega)
  refine WC.weaken (r' := [(1, pt b1 0), (2, pt b7 0), (10, .slice a13 T.subs.length cap13), (11, .int .i64 T.subs.length), (12, .int .i64 0)]) (s4 (sr rfl (subReg_nil _))) ?_
  refine WC.loop (σ := Nat) (fun k r_ w_ => r_ = [(1, pt b1 0), (2, pt b7 0), (10, .slice a13 T.subs.length cap13), (11, .int .i64 T.subs.length), (12, .int .i64 (k : Int))] ∧ Ext w w_ ∧ k ≤ T.subs.length ∧ Row w_ b1 (tcells T (.slice a13 T.subs.length cap13)) 29 ∧ Row w_ b7 (zc 0 0 0 (.slice none 0 0)) 29 ∧
    (T.subs = [] ∨ ∃ b ls m, a13 = some ⟨b, 0, none⟩ ∧ w12.heap.size ≤ b ∧ m ≤ w_.heap.size ∧ ls.length = T.subs.length ∧ BR 29 w_ b ls cap13 ∧ IvL 29 w_ (b + 1) m (ls.take k) (T.subs.take k) ∧ ∀ (j : Nat) (l : List Value) (t : Nd), k ≤ j → ls[j]? = some l → T.subs[j]? = some t → NodeL (fun c => c < w.heap.size) w_ l t)) (fun k => T.subs.length - k) 0
    ⟨rfl, hE20, Nat.zero_le _, hR17, h21, h0.imp id (fun ⟨b, ls, h1, h2, h3, h4, h5⟩ => ⟨b, ls, b + 1, h1, h2, by have := h4.lt; omega, h3, h4.but hB18 (by omega), .nil (Nat.le_refl _), fun j l t _ hl ht => (h5 j l t hl ht).but hB18 (by omega)⟩)⟩ ?_
  rintro k r_ w24 ⟨rfl, hE22, hk, hR1, hR2, hD⟩
  have hz22 := hE22.size
  refine sq ?_
  cases hc25 : decide ((k : Int) < T.subs.length) with
  | false =>
    refine WL.lss rfl rfl rfl rfl hc25 ?_
    have hp25 := of_decide_eq_false hc25
    refine WL.dn ?_
    refine WC.seqk ?_
    refine cF ?_
    refine WC.exit (fun a_ ha => ?_)
    refine exit_then ?_
    refine exit_then ?_
    refine exit_here ?_
    refine WC.at ?_ ha
    refine sq ?_
    refine WL.load_box rfl rfl rfl hR1 Ty.agg29 ?_
    refine WL.store_box rfl rfl rfl hR2 Ty.agg29 rfl rfl (fun w28 hB27 hR26 => ?_)
    have hz27 := hB27.size
    refine WL.dn ?_
    refine WC.ret (fun a_ ha => ?_)
    refine bodyPost_cell (l := tcells T (.slice a13 T.subs.length cap13)) rfl ha rfl Ty.agg29 hR26 ⟨_, rfl, ?_, (hB27.onto hE22 (by omega))⟩
    have hkn : k = T.subs.length := by omega
    rcases hD with h | ⟨b, ls, m, rfl, h2, h3, h4, h5, h6, _⟩
    · have hl0 : T.subs.length = 0 := by rw [h]; rfl
      rw [hl0]; exact .leaf h (by omega)
    · rw [hkn, List.take_length, ← h4, List.take_length] at h6
      exact .row (by omega) (h5.but hB27 (by omega)) ((h6.hi (by omega)).to (fun q h7 h8 => hB27.block q (by omega)))
  | true =>
    refine WL.lss rfl rfl rfl rfl hc25 ?_
    have hp25 := of_decide_eq_true hc25
    have hlt : k < T.subs.length := by omega
    obtain ⟨eb, ls, m, rfl, hbb, hm, hll, hBR, hIL, hrest⟩ := hD.resolve_left (fun h => by rw [h] at hlt; simp at hlt)
    have hblt := hBR.lt
    have hmle := hIL.le
    refine WL.dn ?_
    refine WC.seqk ?_
    refine cT ?_
    refine WC.sk ?_
    refine WC.seqk ?_
    refine WC.block ?_
    refine sq ?_
    refine mv ?_
    obtain ⟨t26, ht26⟩ : ∃ t, T.subs[k]? = some t := ⟨_, List.getElem?_eq_getElem hlt⟩
    obtain ⟨lk, hlk⟩ : ∃ l, ls[k]? = some l := ⟨_, List.getElem?_eq_getElem (by omega)⟩
    have hn26 := hrest k lk t26 (Nat.le_refl _) hlk ht26
    have her26 := hBR.at hlk
    obtain ⟨a26, cap26, rfl, hts26, hlen26⟩ := hn26.op2
    refine WL.indexAddr (i := k) rfl rfl Ty.slice27 rfl rfl rfl (by omega) ?_
    refine WL.load_agg (l := tcells t26 (.slice a26 t26.subs.length cap26)) rfl rfl Ty.agg29 rfl her26 ?_
    refine WL.alloc rfl rfl Ty.zero29 rfl (fun b27 w32 hb28 hE31 hs29 hR30 => ?_)
    refine asg ?_
    refine WL.store_box rfl rfl rfl hR30 Ty.agg29 rfl rfl (fun w35 hB34 hR33 => ?_)
    have hz34 := hB34.size
    have hz31 := hE31.size
    refine WL.dn ?_
    have hE35 : Ext w24 w35 := hB34.onto hE31 (by omega)
    have h37 := hn26.ext hE35
    have h38 := hR1.ext hE35
    have h39 := hR2.ext hE35
    refine WC.weaken (r' := [(1, pt b1 0), (2, pt b7 0), (10, .slice (some ⟨eb, 0, none⟩) T.subs.length cap13), (11, .int .i64 T.subs.length), (12, .int .i64 (k : Int)), (4, pt b27 0), (3, .int .i64 (k : Int))]) (s4 (sr rfl (sr rfl (sr rfl (subReg_nil _))))) ?_
    refine WC.draw 5 [17, 18, 19, 20, 21] [pc (pt b1 7), pc (.slice (some ⟨eb, 0, none⟩) T.subs.length cap13), pc (.int .i64 (k : Int)), pc (.agg (tcells t26 (.slice a26 t26.subs.length cap26)).toArray), piv w35.heap.size t26] (by kernel_rfl) (by kernel_rfl) (k4 ⟨KW_piv _ _, trivial⟩) rfl rfl rfl (sc4 ?_ ?_ ?_ ?_ (sc ?_ (StepsOn.nil _))) ?_
    · intro σ β w1 hE1 hbi hk
      refine ⟨[], (agree_nil _), ?_⟩
      refine WL.fieldAddr rfl rfl Ty.fld29_4 rfl ?_
      exact dq hbi rfl
    · intro σ β w1 hE1 hbi hk
      refine ⟨[(17, pt b1 7)], (ak hk 0 (agree_nil _)), ?_⟩
      refine WL.load_fld rfl rfl Ty.flat27 rfl (h38.ext hE1) rfl ?_
      exact dq hbi rfl
    · intro σ β w1 hE1 hbi hk
      refine ⟨[], (agree_nil _), ?_⟩
      refine mv ?_
      exact dq hbi rfl
    · intro σ β w1 hE1 hbi hk
      refine ⟨[], (agree_nil _), ?_⟩
      refine WL.load_box rfl rfl rfl (hR33.ext hE1) Ty.agg29 ?_
      exact dq hbi rfl
    · intro σ β w1 hE1 hbi hk
      have hz1 := hE1.size
      refine ⟨[(20, .agg (tcells t26 (.slice a26 t26.subs.length cap26)).toArray)], (ak hk 3 (agree_nil _)), ?_⟩
      refine WL.call rfl rfl rfl Ty.ent41 (ih t26 (List.mem_of_getElem? ht26) _ _ _ (h37.ext hE1) (by have := Nd.size_le_sizeL (List.mem_of_getElem? ht26); have := Nd.size_subs T; omega)) ?_
      rintro _ w63 ⟨l61, rfl, hr61, hE62⟩
      refine ⟨_, rfl, ?_⟩
      exact dqE hbi hE62 ⟨l61, _, _, rfl, hz1, Nat.le_refl _, hr61⟩
    intro σ β w40 hE40 hbi40 hk
    have hz40 := hE40.size
    obtain ⟨_, hv43, l43, lo43, hi43, rfl, hlo43, hhi43, hI43⟩ := hk 4 (by decide) _ _ rfl rfl
    have hle43 := hI43.le
    have hBR40 := (hBR.ext hE35).ext hE40
    refine WL.know [(18, .slice (some ⟨eb, 0, none⟩) T.subs.length cap13), (19, .int .i64 (k : Int)), (21, .agg l43.toArray)] (aj hk 1 (aj hk 2 (ag hv43 (agree_nil _)))) ?_
    refine WL.indexAddr (i := k) rfl rfl Ty.slice27 rfl rfl rfl (by omega) ?_
    refine WL.storeB (e := 29) (l := l43) rfl Ty.agg29 rfl rfl hBR40 (by omega) hI43.one.1 hI43.one.2 (fun w46 hB45 hBR46 => ?_)
    have hz45 := hB45.size
    refine WL.dn ?_
    refine WC.region ?_
    refine WL.add (v := ((k + 1 : Nat) : Int)) rfl rfl rfl rfl (by rw [IntWalk.i64_in _ (by omega)]; omega) ?_
    refine mv ?_
    refine WL.nil (fun a_ ha => ?_)
    have h47 := (hB45.row (h38.ext hE40) (by omega))
    have h48 := (hB45.row (h39.ext hE40) (by omega))
    refine ⟨k + 1, _, ha.weaken (s4 (sr rfl (subReg_nil _))), ⟨rfl, hB45.onto ((hE22.trans hE35).trans hE40) (by omega), by omega, h47, h48, .inr ⟨eb, _, hi43, rfl, hbb, by omega, by simpa using hll, hBR46, ?_, ?_⟩⟩, by omega⟩
    · rw [take_set_succ' (by omega), List.take_add_one, ht26]
      refine IvL.snoc (mid := m) (((hIL.ext hE35 hm).ext hE40 (by omega)).to (fun q h7 h8 => hB45.block q (by omega))) ((hI43.lo (by omega)).to (fun q h7 h8 => hB45.block q (by omega)))
    · intro j l t hj hl ht
      rw [List.getElem?_set_ne (by omega)] at hl
      exact (((hrest j l t (by omega) hl ht).ext hE35).ext hE40).but hB45 (by omega)
theorem copy2_ok (D : Nat → Prop) (w : World) (l : List Value) (T : Nd) (hT : NodeL D w l T) (hl : T.light = true) :
    Calls Try.prog 28 #[.agg l.toArray] w fun e w' => ∃ l' hi, e = .returned (.agg l'.toArray) ∧ Iv 29 w' w.heap.size hi l' T ∧ hi ≤ w'.heap.size ∧ Ext w w' := by
  have hT := hT.lt
  obtain ⟨a, cap, rfl, hts, hlen⟩ := hT.op2
  have hle := light_le hl
  rw [Nd.pre_length] at hle
  refine Calls.enter (args := [.agg (tcells T (.slice a T.subs.length cap)).toArray]) Try.func28 rfl rfl rfl rfl ?_
  refine sq ?_
  refine WL.box_agg rfl rfl rfl (fun b1 w1 hb1 hE1 hs1 hR1 => ?_)
  refine WL.alloc rfl rfl Ty.zero29 rfl (fun b2 w2 hb2 hE2 hs2 hR2 => ?_)
  refine WL.dn ?_
  refine WC.seqk ?_
  refine sq ?_
  refine WL.load_box rfl rfl rfl (hR1.ext hE2) Ty.agg29 ?_
  refine WL.call rfl rfl rfl Ty.ent35 (light_ok _ _ _ T ((hT.ext hE1).ext hE2)) ?_
  rintro e w3 ⟨rfl, hE3⟩
  refine ⟨_, rfl, ?_⟩
  have hz3 := hE3.size
  rw [hl]
  refine WL.not rfl rfl rfl ?_
  refine WL.dn ?_
  refine cF ?_
  refine WC.sk ?_
  refine sq ?_
  refine WL.load_box rfl rfl rfl ((hR1.ext hE2).ext hE3) Ty.agg29 ?_
  refine WL.call rfl rfl rfl Ty.ent41 (copied2_ok T _ _ _ (((hT.ext hE1).ext hE2).ext hE3) (by omega)) ?_
  rintro e w4 ⟨l', rfl, hI, hE4⟩
  refine ⟨_, rfl, ?_⟩
  have hz4 := hE4.size
  have h8 := hI.one
  refine WL.store_box rfl rfl rfl ((hR2.ext hE3).ext hE4) (by rw [h8.1]; exact Ty.agg29) (by rw [h8.1]; rfl) (List.all_eq_true.2 h8.2) (fun w5 hB5 hR5 => ?_)
  have hz5 := hB5.size
  refine WL.dn ?_
  refine WC.ret (fun a_ ha => ?_)
  have hE : Ext w w5 := hB5.onto ((((hE1.trans hE2).trans hE3).trans hE4)) (by omega)
  exact bodyPost_cell (l := l') rfl ha rfl (by rw [h8.1]; exact Ty.agg29) hR5 ⟨l', _, rfl, (hI.to (fun q h7 h8 => hB5.block q (by omega))).lo (by omega), by omega, hE⟩
end Go.Proofs.Ytaggidjijekpbaa
namespace Go.Proofs.Ytaggidjijekpbaa
open Go.RowKit
def forcedB (ops : Array Oper) : Array Bool → List Nat → Bool
  | listed, [] => Region.ready .any ops listed == []
  | listed, j :: js => (Region.ready .any ops listed == [j]) && forcedB ops (listed.setIfInBounds j true) js
section
variable {ro : Option Nat} {P : Program} {Q : Exit → Act → World → Prop} {N : Nat} {ds : List Deferred} {r : Reg} {w : World}
theorem any_forced {l : List Oper} : ∀ (js : List Nat) (ops : List Oper) (listed : Array Bool) (a : Act) (w : World), forcedB l.toArray listed js = true → js.map (fun j => l[j]?) = ops.map some →
    wpListIn (Wd ro) 0 P l.toArray Q ops a w → wpAnyIn (Wd ro) 0 P .any l.toArray Q js.length listed a w := by
  intro js
  induction js with
  | nil =>
    intro ops listed a w hf hj h
    cases ops with
    | cons o ops => simp at hj
    | nil => exact ⟨by simpa [forcedB] using hf, h⟩
  | cons j js ih =>
    intro ops listed a w hf hj h
    cases ops with
    | nil => simp at hj
    | cons o ops =>
      simp only [List.map_cons, List.cons.injEq] at hj
      simp only [forcedB, Bool.and_eq_true, beq_iff_eq] at hf
      show wpAnyIn (Wd ro) 0 P .any l.toArray Q (js.length + 1) listed a w
      refine ⟨(fun h0 => by rw [hf.1] at h0; cases h0), fun i hi => ?_⟩
      rw [hf.1] at hi
      have : i = j := by simpa using hi
      subst this
      refine wpOpIn_mono (K := fun a w => wpListIn (Wd ro) 0 P l.toArray Q ops a w) (fun a w h => ?_) ?_
      · exact ih ops _ a w hf.2 hj.2 h
      · unfold wpOpIn
        simp only [show l.toArray[i]? = some o by simpa using hj.1]
        exact h
end
end Go.Proofs.Ytaggidjijekpbaa
namespace Go.Proofs.Ytaggidjijekpbaa
open Go.RowKit
def drawFB (ops : Array Oper) (ds : List Nat) : Bool :=
  ops.size == 7 && ds.length == 5 && ds.eraseDups.length == 5 &&
  ((List.range 7).all fun i => match ops[i]? with
    | some o => o.after.all (fun e => !Region.binds .any e || (Nat.blt e.on i && !(i == 6))) &&
      (bif Nat.blt i 4 then o.dst == ds[i]? else bif i == 6 then o.dst == ds[4]? else bif i == 4 then (List.range 4).all fun j => reachB ops 3 i j else reachB ops 3 i 4)
    | none => false) &&
  forcedB ops #[true, true, true, true, true, false, true] [5] && forcedB ops #[true, true, true, true, true, true, false] [6] &&
  (Region.ready .any ops #[true, true, true, true, true, false, false] == [5, 6])
section
variable {ro : Option Nat} {P : Program} {Q : Exit → Act → World → Prop} {N : Nat} {ds : List Deferred} {r : Reg} {w : World}
theorem seven {x : Array Bool} (h : x.size = 7) (b : Bool) (h1 : ∀ i, i < 4 → x.getD i false = true) (h4 : x.getD 4 true = false) (h5 : x.getD 5 true = false) (h6 : x.getD 6 false = b) : x = #[true, true, true, true, false, false, b] := by
  apply Array.ext (by simp [h])
  intro i hi _
  have g : ∀ c, x.getD i c = x[i] := fun c => by simp only [Array.getD_eq_getD_getElem?, Array.getElem?_eq_getElem hi, Option.getD_some]
  have hi7 : i < 7 := by omega
  have h : i = 0 ∨ i = 1 ∨ i = 2 ∨ i = 3 ∨ i = 4 ∨ i = 5 ∨ i = 6 := by omega
  rcases h with rfl | rfl | rfl | rfl | rfl | rfl | rfl
  · rw [← g false, h1 0 (by omega)]; rfl
  · rw [← g false, h1 1 (by omega)]; rfl
  · rw [← g false, h1 2 (by omega)]; rfl
  · rw [← g false, h1 3 (by omega)]; rfl
  · rw [← g true, h4]; rfl
  · rw [← g true, h5]; rfl
  · rw [← g false, h6]; rfl
theorem WC.drawF {id : Nat} {o0 o1 o2 o3 o4 o5 o6 : Oper} (dl : List Nat) (posts : List Post) (hB : drawFB [o0, o1, o2, o3, o4, o5, o6].toArray dl = true) (hf : P.follows .mixedOrders = true)
    (hps : KWs posts) (hpl : posts.length = 5)
    (hr : dl.all (fun d => (look r d).isNone) = true) (hN : dl.all (fun d => Nat.blt d N) = true)
    (steps : StepsOn (fun o d p => ∀ (σ : Reg) (β : Boxes) w', Ext w w' → BInv w w' β →
      (∀ j, (o.after.any fun e => e.on == j && Region.binds .any e) = true → Known dl posts σ w' β j) →
      ∃ κ, agree κ (r ++ σ) ∧ WL ro P [o0, o1, o2, o3, o4, o5, o6].toArray (Exit.then (fun a2 w2 => ∃ v β', Fits N ds ((d, v) :: (κ ++ (r ++ σ))) a2 ∧ Ext w' w2 ∧ BExt w' β β' ∧ BInv w w2 β' ∧ p v w2 β') Q) N ds [o] (κ ++ (r ++ σ)) w') [o0, o1, o2, o3, o6] dl posts)
    (fin : ∀ (σ : Reg) (β : Boxes) w', Ext w w' → BInv w w' β → (∀ j, j < 5 → Known dl posts σ w' β j) → WL ro P [o0, o1, o2, o3, o4, o5, o6].toArray Q N ds [o4, o5] (r ++ σ) w')
    (fin2 : ∀ (σ : Reg) (β : Boxes) w', Ext w w' → BInv w w' β → (∀ j, j < 4 → Known dl posts σ w' β j) → WL ro P [o0, o1, o2, o3, o4, o5, o6].toArray (Exit.then (fun a w => wpListIn (Wd ro) 0 P [o0, o1, o2, o3, o4, o5, o6].toArray Q [o5, o6] a w ∧ wpListIn (Wd ro) 0 P [o0, o1, o2, o3, o4, o5, o6].toArray Q [o6, o5] a w) Q) N ds [o4] (r ++ σ) w') :
    WC ro P Q N ds (.region id [o0, o1, o2, o3, o4, o5, o6].toArray true) r w := by
  intro a ha
  have step := steps.get
  have hp := hps.get
  simp only [drawFB, Bool.and_eq_true, List.all_eq_true, beq_iff_eq] at hB
  obtain ⟨⟨⟨⟨⟨⟨-, hdl⟩, hnd0⟩, hops⟩, hfo1⟩, hfo2⟩, hrd56⟩ := hB
  generalize hL : [o0, o1, o2, o3, o4, o5, o6] = l at *
  have hlen : l.length = 7 := by rw [← hL]; rfl
  have hnd : ∀ i j d : Nat, dl[i]? = some d → dl[j]? = some d → i = j := by
    have key : ∀ (q : List Nat), q.eraseDups.length = q.length → q.Nodup := by
      intro q
      induction q with
      | nil => intro _; simp
      | cons x q ih =>
        intro h
        rw [List.eraseDups_cons] at h
        simp only [List.length_cons] at h
        have h1 : (q.filter fun b => !b == x).eraseDups.length ≤ (q.filter fun b => !b == x).length := by
          have : ∀ (n : Nat) (z : List Nat), z.length ≤ n → z.eraseDups.length ≤ z.length := by
            intro n
            induction n with
            | zero => intro z hz; have : z = [] := List.eq_nil_of_length_eq_zero (by omega); subst this; simp
            | succ n ihn =>
              intro z hz
              cases z with
              | nil => simp
              | cons y z =>
                rw [List.eraseDups_cons]
                have h2 := List.length_filter_le (fun b => !b == y) z
                have := ihn (z.filter fun b => !b == y) (by simp at hz; omega)
                simp only [List.length_cons]; omega
          exact this _ _ (Nat.le_refl _)
        have h2 := List.length_filter_le (fun b => !b == x) q
        have h3 : (q.filter fun b => !b == x).length = q.length := by omega
        have h4 : q.filter (fun b => !b == x) = q := List.filter_eq_self.2 (List.length_filter_eq_length_iff.1 h3)
        refine List.nodup_cons.2 ⟨fun hm => ?_, ih (by rw [h4] at h; omega)⟩
        have := List.length_filter_eq_length_iff.1 h3 x hm
        simp at this
    have hq := key dl (by rw [hnd0, hdl])
    intro i j d hi hj
    exact (List.getElem?_inj (List.getElem?_eq_some_iff.1 hi).1 hq).1 (hi.trans hj.symm)
  have hops' : ∀ (i : Nat) (o : Oper), l.toArray[i]? = some o → (∀ e ∈ o.after, Region.binds .any e = true → e.on < i ∧ i ≠ 6) ∧ (i < 4 → o.dst = dl[i]?) ∧ (i = 6 → o.dst = dl[4]?) ∧ (i = 4 → ∀ j, j < 4 → reachB l.toArray 3 i j = true) ∧ (i = 5 → reachB l.toArray 3 i 4 = true) := by
    intro i o ho
    have hi : i < 7 := by have := (Array.getElem?_eq_some_iff.1 ho).1; simp [hlen] at this; exact this
    have h := hops i (by simpa using hi)
    rw [ho] at h
    simp only [Bool.and_eq_true, Array.all_eq_true_iff_forall_mem] at h
    refine ⟨fun e he hb => ?_, fun h4 => ?_, fun h6 => ?_, fun h4 j hj => ?_, fun h5 => ?_⟩
    · have := h.1 e he; rw [hb] at this; simpa using this
    · have h2 := h.2; rw [show Nat.blt i 4 = true by simpa using h4] at h2; simpa using h2
    · subst h6; have h2 := h.2; simpa using h2
    · subst h4; have h2 := h.2; simp only [show Nat.blt 4 4 = false from rfl, show (4 == 6) = false from rfl, show (4 == 4) = true from rfl, cond_false, cond_true, List.all_eq_true] at h2; exact h2 j (by simpa using hj)
    · subst h5; have h2 := h.2; simp only [show Nat.blt 5 4 = false from rfl, show (5 == 6) = false from rfl, show (5 == 4) = false from rfl, cond_false] at h2; exact h2
  have hix : ∀ (i : Nat) (o : Oper), l.toArray[i]? = some o → i < 4 ∨ i = 6 → ∃ j d, (i < 4 → j = i) ∧ (i = 6 → j = 4) ∧ j < 5 ∧ [o0, o1, o2, o3, o6][j]? = some o ∧ o.dst = some d ∧ dl[j]? = some d := by
    intro i o ho hi
    have hj : ∃ j, (i < 4 → j = i) ∧ (i = 6 → j = 4) ∧ j < 5 ∧ [o0, o1, o2, o3, o6][j]? = some o ∧ o.dst = dl[j]? := by
      obtain ⟨-, h1, h2, -⟩ := hops' i o ho
      subst hL
      rcases hi with hi | rfl
      · refine ⟨i, fun _ => rfl, by omega, by omega, ?_, h1 hi⟩
        match i, hi with
        | 0, _ => exact ho
        | 1, _ => exact ho
        | 2, _ => exact ho
        | 3, _ => exact ho
      · exact ⟨4, by omega, fun _ => rfl, by omega, ho, h2 rfl⟩
    obtain ⟨j, ha, hb, hc, hd, he⟩ := hj
    have hlt : j < dl.length := by omega
    refine ⟨j, dl[j], ha, hb, hc, hd, by rw [he]; simp, by simp⟩
  refine wpIn_region_any hf ?_
  have hw1 : Ext w { w with drawn := w.drawn + 1 } := Ext.drew w
  have main : ∀ (fuel : Nat) (listed : Array Bool) (a : Act) (w' : World), listed.size = 7 → (listed.toList.filter fun b => !b).length = fuel →
      (listed.getD 4 true = false ∧ listed.getD 5 true = false) → (∀ (i : Nat) (o : Oper), listed.getD i false = true → l.toArray[i]? = some o → ∀ e ∈ o.after, Region.binds .any e = true → listed.getD e.on false = true) → (∃ σ β, Fits N ds (r ++ σ) a ∧ BInv w w' β ∧ (∀ i, i < 4 → listed.getD i false = true → Known dl posts σ w' β i) ∧ (listed.getD 6 false = true → Known dl posts σ w' β 4)) → Ext w w' →
      wpAnyIn (Wd ro) 0 P .any l.toArray Q fuel listed a w' := by
    intro fuel
    induction fuel with
    | zero =>
      intro listed a w' hsz hfu hsuf hcl _ hE
      exfalso
      have hmem : listed[4]'(by omega) ∈ listed.toList := by simp
      have hnil : listed.toList.filter (fun b => !b) = [] := List.eq_nil_of_length_eq_zero hfu
      have h := List.filter_eq_nil_iff.1 hnil _ hmem
      have hlt : 4 < listed.size := by omega
      have h2 := hsuf.1
      simp only [Array.getD_eq_getD_getElem?, Array.getElem?_eq_getElem hlt, Option.getD_some] at h2
      rw [h2] at h; simp at h
    | succ fuel ih =>
      intro listed a w' hsz hfu hsuf hcl ⟨σ, β, hfit, hbi, hpo, hpo6⟩ hE
      have conv : ∀ i, i < 7 → listed.getD i true = listed.getD i false := by
        intro i hi
        have hlt : i < listed.size := by omega
        simp only [Array.getD_eq_getD_getElem?, Array.getElem?_eq_getElem hlt, Option.getD_some]
      refine ⟨fun hnil => ?_, fun i hi => ?_⟩
      · exfalso
        have : ∃ i, i < 5 ∧ listed.getD i false = false ∧ ∀ j, j < i → listed.getD j false = true := by
          have strong : ∀ n i, i ≤ n → i < 5 → listed.getD i false = false → ∃ i, i < 5 ∧ listed.getD i false = false ∧ ∀ j, j < i → listed.getD j false = true := by
            intro n
            induction n with
            | zero => intro i hi h1 h2; exact ⟨i, h1, h2, fun j hj => by omega⟩
            | succ n ihn =>
              intro i hi h1 h2
              by_cases hall : ∀ j, j < i → listed.getD j false = true
              · exact ⟨i, h1, h2, hall⟩
              · obtain ⟨j, hj, hjb⟩ : ∃ j, j < i ∧ listed.getD j false = false := by
                  refine Classical.byContradiction fun hne => hall fun j hj => ?_
                  cases hb : listed.getD j false with
                  | true => rfl
                  | false => exact absurd ⟨j, hj, hb⟩ hne
                exact ihn j (by omega) (by omega) hjb
          exact strong 4 4 (Nat.le_refl _) (by omega) (by rw [← conv 4 (by omega)]; exact hsuf.1)
        obtain ⟨i, hi, hbi, hlow⟩ := this
        have hli : i < l.length := by omega
        have hmem : i ∈ Region.ready .any l.toArray listed := by
          rw [mem_ready]
          refine ⟨by rw [conv i (by omega)]; exact hbi, l[i], by simp, fun e he hbnd => hlow _ ?_⟩
          exact ((hops' i l[i] (by simp)).1 e he hbnd).1
        rw [hnil] at hmem; cases hmem
      · rw [mem_ready] at hi
        obtain ⟨hb, o, ho, hafter⟩ := hi
        have hlt : i < 7 := by have := (Array.getElem?_eq_some_iff.1 ho).1; simp [hlen] at this; exact this
        have hoi := hops' i o ho
        by_cases h5 : i = 5
        · exfalso
          have h := reachB_listed hcl 3 i 4 o ho hafter (hoi.2.2.2.2 h5)
          rw [← conv 4 (by omega), hsuf.1] at h; cases h
        by_cases h4 : i = 4
        · subst h4
          have hall : ∀ j, j < 4 → listed.getD j false = true := fun j hj => reachB_listed hcl 3 4 j o ho hafter (hoi.2.2.2.1 rfl j hj)
          have ho4 : l.toArray[4]? = some o4 := by rw [← hL]; rfl
          cases h6 : listed.getD 6 false with
          | true =>
            have hl := seven hsz true hall hsuf.1 hsuf.2 h6
            have hfl : fuel = 1 := by rw [hl] at hfu; simp at hfu; omega
            have hwl := fin σ β w' hE hbi (fun j hj => by
              by_cases e : j = 4
              · subst e; exact hpo6 h6
              · exact hpo j (by omega) (hall j (by omega))) a hfit
            refine wpOpIn_mono (K := fun a w => wpListIn (Wd ro) 0 P l.toArray Q [o5] a w) (fun a w h => ?_) ?_
            · rw [hfl, hl]
              exact any_forced [5] _ _ a w hfo1 (by rw [← hL]; rfl) h
            · unfold wpOpIn
              simp only [ho4]
              exact hwl
          | false =>
            have hl := seven hsz false hall hsuf.1 hsuf.2 h6
            have hfl : fuel = 2 := by rw [hl] at hfu; simp at hfu; omega
            have hwl := one_op ho4 (fin2 σ β w' hE hbi (fun j hj => hpo j (by omega) (hall j (by omega))) a hfit)
            refine wpOpIn_mono (fun a w h => ?_) hwl
            rw [hfl, hl]
            refine ⟨fun h0 => ?_, fun i hi => ?_⟩
            · have h1 : Region.ready .any l.toArray #[true, true, true, true, true, false, false] = [] := h0
              rw [hrd56] at h1; cases h1
            · have h1 : i ∈ Region.ready .any l.toArray #[true, true, true, true, true, false, false] := hi
              rw [hrd56] at h1
              have h2 : i = 5 ∨ i = 6 := by simpa using h1
              rcases h2 with rfl | rfl
              · have ho5 : l.toArray[5]? = some o5 := by rw [← hL]; rfl
                refine wpOpIn_mono (K := fun a w => wpListIn (Wd ro) 0 P l.toArray Q [o6] a w) (fun a w h => ?_) ?_
                · exact any_forced [6] _ _ a w hfo2 (by rw [← hL]; rfl) h
                · unfold wpOpIn; simp only [ho5]; exact h.1
              · have ho6 : l.toArray[6]? = some o6 := by rw [← hL]; rfl
                refine wpOpIn_mono (K := fun a w => wpListIn (Wd ro) 0 P l.toArray Q [o5] a w) (fun a w h => ?_) ?_
                · exact any_forced [5] _ _ a w hfo1 (by rw [← hL]; rfl) h
                · unfold wpOpIn; simp only [ho6]; exact h.2
        have him : i < 4 ∨ i = 6 := by omega
        obtain ⟨k, d, hk1, hk2, hk5, hko, hd, hdl'⟩ := hix i o ho him
        have hpi : ∃ p, posts[k]? = some p := ⟨posts[k]'(by omega), by simp⟩
        obtain ⟨p, hpp⟩ := hpi
        have hdN : d < N := by
          have := List.all_eq_true.1 hN d (List.mem_of_getElem? hdl')
          simpa using this
        obtain ⟨κ, hκ, hs⟩ := step k o d p hko hdl' hpp σ β w' hE hbi (fun j hj => by
          rw [← Array.any_toList, List.any_eq_true] at hj
          obtain ⟨e, he, hb⟩ := hj
          simp only [Bool.and_eq_true, beq_iff_eq] at hb
          obtain ⟨rfl, hb⟩ := hb
          have h1 := hoi.1 e (by simpa using he) hb
          exact hpo _ (by omega) (hafter e (by simpa using he) hb))
        have hfit2 : Fits N ds (κ ++ (r ++ σ)) a := hfit.weaken (fun t v hv => by
          rw [look_append] at hv
          cases hl : look κ t with
          | none => rw [hl] at hv; simpa using hv
          | some u => rw [hl] at hv; simp at hv; subst hv; exact hκ t u hl)
        refine wpOpIn_mono ?_ (one_op ho (hs a hfit2))
        rintro a2 w2 ⟨v, β', hf2, hE2, hbe, hbi2, hpv⟩
        have hrd : look r d = none := by
          have := List.all_eq_true.1 hr d (List.mem_of_getElem? hdl')
          simpa using this
        have known : ∀ j, j < 5 → (j ≠ k → Known dl posts σ w' β j) → Known dl posts ((d, v) :: σ) w2 β' j := by
          intro j hj hkn d' p' hd' hp'
          by_cases e : k = j
          · subst e
            rw [hdl'] at hd'; cases hd'
            rw [hpp] at hp'; cases hp'
            exact ⟨v, by simp [look], hpv⟩
          · obtain ⟨u, hu, hpu⟩ := hkn (fun h => e h.symm) d' p' hd' hp'
            have hne : d ≠ d' := fun h => by subst h; exact e (hnd k j d hdl' hd')
            refine ⟨u, ?_, hp p' (List.mem_of_getElem? hp') u w' w2 β β' hE2 hbe hpu⟩
            have : Nat.beq d d' = false := Bool.eq_false_iff.2 (fun h => hne (Nat.eq_of_beq_eq_true h))
            simp only [look, this, cond_false]; exact hu
        refine ih _ _ _ (by simp [hsz]) ?_ ?_ ?_ ⟨(d, v) :: σ, β', ?_, hbi2, ?_, ?_⟩ (hE.trans hE2)
        · have : ∀ (q : List Bool) (i : Nat), q[i]? = some false → ((q.set i true).filter fun b => !b).length + 1 = (q.filter fun b => !b).length := by
            intro q
            induction q with
            | nil => intro i h; simp at h
            | cons x q ihq =>
              intro i h
              cases i with
              | zero => simp at h; subst h; simp
              | succ i =>
                simp at h
                have := ihq i h
                cases x <;> simp [] <;> omega
          have hget : listed.toList[i]? = some false := by
            have hlt' : i < listed.size := by omega
            simp only [Array.getD_eq_getD_getElem?, Array.getElem?_eq_getElem hlt', Option.getD_some] at hb
            simp [hlt', hb]
          have h2 := this listed.toList i hget
          rw [Array.toList_setIfInBounds]
          omega
        · exact ⟨by rw [getD_set_ne true (by omega)]; exact hsuf.1, by rw [getD_set_ne true (by omega)]; exact hsuf.2⟩
        · have mono : ∀ q, listed.getD q false = true → (listed.setIfInBounds i true).getD q false = true := by
            intro q hq
            by_cases e : i = q
            · subst e
              have hlt' : i < listed.size := by omega
              simp [Array.getD_eq_getD_getElem?, hlt']
            · rw [getD_set_ne false e]; exact hq
          intro q oq hq hoq e he hbd
          by_cases e1 : i = q
          · subst e1
            rw [ho] at hoq; cases hoq
            exact mono _ (hafter e he hbd)
          · rw [getD_set_ne false e1] at hq
            exact mono _ (hcl q oq hq hoq e he hbd)
        · refine hf2.weaken (fun t u hu => ?_)
          rw [look_append] at hu
          simp only [look]
          cases hb : Nat.beq d t with
          | true =>
            have : d = t := Nat.eq_of_beq_eq_true hb
            subst this
            rw [hrd] at hu
            simp only [look, hb, cond_true, Option.or_some, Option.some.injEq] at hu ⊢
            exact hu
          | false =>
            simp only [cond_false]
            rw [look_append]
            have hu2 : look (r ++ σ) t = some u := by
              rw [look_append]
              cases hlr : look r t with
              | some q => rw [hlr] at hu; simpa using hu
              | none => rw [hlr] at hu; simp only [look, hb, cond_false, Option.none_or] at hu ⊢; exact hu
            cases hl : look κ t with
            | none => simpa using hu2
            | some q => have := hκ t q hl; rw [hu2] at this; cases this; rfl
        · intro j hj hlj
          refine known j (by omega) (fun hne => ?_)
          have hij : i ≠ j := fun e => by
            subst e; exact hne ((hk1 hj).symm)
          rw [getD_set_ne false hij] at hlj
          exact hpo j hj hlj
        · intro hlj
          refine known 4 (by omega) (fun hne => ?_)
          have hij : i ≠ 6 := fun e => hne ((hk2 e).symm)
          rw [getD_set_ne false hij] at hlj
          exact hpo6 hlj
  have hno : ∀ i, (Array.replicate l.toArray.size false).getD i false = true → False := by
    intro i hl
    have : (Array.replicate l.toArray.size false).getD i false = false := by
      simp only [Array.getD_eq_getD_getElem?]
      by_cases hi : i < l.length
      · simp [hi]
      · rw [Array.getElem?_eq_none (by simp; omega)]; rfl
    rw [this] at hl; cases hl
  exact main _ _ a _ (by simp [hlen]) (by simp) ⟨by simp [hlen], by simp [hlen]⟩ (fun i o hl _ => (hno i hl).elim) ⟨[], [], by simpa using ha, ⟨by simp, by simp, by simp⟩, fun i _ hl => (hno i hl).elim, fun hl => (hno 6 hl).elim⟩ hw1
theorem WL.at' {all : Array Oper} {ops : List Oper} {a : Act} (ha : Fits N ds r a) (h : WL ro P all Q N ds ops r w) : wpListIn (Wd ro) 0 P all Q ops a w := h a ha
theorem WC.cutR {x : Code} {σ : Type} (rr : σ → Reg) (I : σ → World → Prop)
    (h1 : WC ro P (Exit.then (fun a w' => ∃ s, Fits N ds (rr s) a ∧ Ext w w' ∧ I s w') Q) N ds x r w) (h2 : ∀ s w' a, Ext w w' → I s w' → Fits N ds (rr s) a → Q .normal a w') : WC ro P Q N ds x r w := by
  intro a ha
  refine wpIn_mono (h1 a ha) ?_
  intro e a' w' hq
  cases e with
  | normal => obtain ⟨s, h3, h4, h5⟩ := hq; exact h2 s w' a' h4 h5 h3
  | _ => exact hq
theorem WC.cutK {x y : Code} {σ : Type} (S : Nat → Prop) (rr : σ → Reg) (I : σ → World → Prop)
    (h1 : WC ro P (Exit.then (fun a w' => ∃ s, Fits N ds (rr s) a ∧ Keep S w w' ∧ I s w') Q) N ds x r w) (h2 : ∀ s w', Keep S w w' → I s w' → WC ro P Q N ds y (rr s) w') : WC ro P Q N ds (.seq x y) r w := by
  refine WC.seqk (fun a ha => wpIn_mono (h1 a ha) ?_)
  intro e a' w' hq
  cases e with
  | normal => obtain ⟨s, h3, h4, h5⟩ := hq; exact h2 s w' h4 h5 a' h3
  | _ => exact hq
theorem Keep.grown {S : Nat → Prop} {a w w' : World} {row : Option Nat} (k : Keep S a w) (h : GrownD w w' row) (hb : ∀ k, row = some k → a.heap.size ≤ k) : Keep S a w' :=
  ⟨h.os.trans k.os, h.tape.trans k.tape, h.output.trans k.output, Nat.le_trans k.size h.size, fun i hi hn => (h.block i (Nat.lt_of_lt_of_le hi k.size) (fun hh => by have := hb i hh.symm; omega)).trans (k.block i hi hn), Nat.le_trans k.drawn h.drawn⟩
theorem FSl.kept {α : Type} {E : FE α} {D S : Nat → Prop} {w w' : World} {v : Value} {xs : List α} (h : FSl E D w v xs) (K : Keep S w w') (hs : ∀ k, D k → ¬ S k) : FSl E D w' v xs := h.step (fun _ h => h) (fun _ _ _ hc hr => K.reads hr (hs _ hc))
theorem FOwn.kept {α : Type} {E : FE α} {e : TypeId} {base : Nat} {S : Nat → Prop} {w w' : World} {v : Value} {xs : List α} (h : FOwn E e base w v xs) (K : Keep S w w') (hs : ∀ k, v.ownBlock = some k → ¬ S k) : FOwn E e base w' v xs := h.to (fun k hk => K.block k (h.own k hk).2 (hs k hk))
end
end Go.Proofs.Ytaggidjijekpbaa
