/- Trees put together, in plain Lean: what Seq and Or make of clean trees. No program in sight. -/
import Derived.Test.YtaggidjijekpbaaTreeM
namespace Go.Proofs.Ytaggidjijekpbaa
namespace Nd
/-- each node is right -/
def nice (t : Nd) : Bool := t.pre.all right
theorem preL_all (p : Nd → Bool) (ts : List Nd) : (preL ts).all p = ts.all fun t => t.pre.all p := by
  induction ts with
  | nil => rfl
  | cons x l ih => simp [preL, ih]
theorem nice_eq (t : Nd) : t.nice = (t.right && t.subs.all nice) := by
  cases t with
  | mk k s mn mx ts => simp only [nice, pre, List.all_cons, preL_all, subs]; rfl
theorem clean_iff (t : Nd) : t.clean = true ↔ t.size ≤ 10000 ∧ t.nice = true := by simp [clean, light, nice]
theorem nice_right {t : Nd} (h : t.nice = true) : t.right = true := by rw [nice_eq] at h; simp at h; exact h.1
theorem nice_subs {t u : Nd} (h : t.nice = true) (hu : u ∈ t.subs) : u.nice = true := by rw [nice_eq] at h; simp at h; exact h.2 u hu
theorem nice_mk {t : Nd} (h : t.right = true) (hs : ∀ u ∈ t.subs, u.nice = true) : t.nice = true := by rw [nice_eq, h]; simpa using hs
theorem has_false {t : Nd} {k : Int} (h : t.has k = false) : ∀ u ∈ t.subs, u.kind ≠ k := by
  intro u hu he
  have : t.has k = true := List.any_eq_true.2 ⟨u, hu, by simp [he]⟩
  rw [this] at h; cases h
theorem has_no {t : Nd} {k : Int} (h : ∀ u ∈ t.subs, u.kind ≠ k) : t.has k = false := by
  unfold has; rw [List.any_eq_false]; intro u hu; simpa using h u hu
/-- what a right node is, by its kind -/
theorem right_kind {t : Nd} (h : t.right = true) : 1 ≤ t.kind ∧ t.kind ≤ 6 := by
  obtain ⟨k, s, mn, mx, ts⟩ := t
  simp only [right, kind, set, least, most, subs] at h
  show 1 ≤ k ∧ k ≤ 6
  by_cases h1 : k = 1
  · omega
  by_cases h2 : k = 2
  · omega
  by_cases h3 : k = 3
  · omega
  by_cases h4 : k = 4
  · omega
  by_cases h5 : k = 5
  · omega
  simp [h1, h2, h3, h4, h5] at h
  have := h.2.1
  omega
theorem right_three {t : Nd} {kd : Int} (h : t.right = true) (hk : t.kind = kd) (h5 : kd ≠ 5) (h2 : kd ≠ 2) : t.set = zero ∧ t.least = 0 ∧ t.most = 0 := by
  obtain ⟨k, s, mn, mx, ts⟩ := t
  simp only [right, kind, set, least, most, subs] at h hk ⊢
  subst hk
  simp [h5, h2] at h
  exact ⟨h.1.1.1, h.1.1.2⟩
theorem right_empty {t : Nd} (h : t.right = true) (hk : t.kind = 1) : t = empty := by
  obtain ⟨e1, e2, e3⟩ := right_three h hk (by decide) (by decide)
  obtain ⟨k, s, mn, mx, ts⟩ := t
  simp only [right, kind, set, least, most, subs] at h hk e1 e2 e3
  subst hk; subst e1; subst e2; subst e3
  simp at h
  subst h; rfl
theorem right_cat {t : Nd} (h : t.right = true) (hk : t.kind = 3) : 1 < t.subs.length ∧ t.has 1 = false ∧ t.has 3 = false := by
  obtain ⟨k, s, mn, mx, ts⟩ := t
  simp only [kind] at hk
  subst hk
  simp only [right, kind, set, least, most, subs] at h ⊢
  simp at h
  exact ⟨by have := of_decide_eq_true h.2.1.1; omega, h.2.1.2, h.2.2⟩
theorem right_alt {t : Nd} (h : t.right = true) (hk : t.kind = 4) : 1 < t.subs.length ∧ t.has 4 = false := by
  obtain ⟨k, s, mn, mx, ts⟩ := t
  simp only [kind] at hk
  subst hk
  simp only [right, kind, set, least, most, subs] at h ⊢
  simp at h
  exact ⟨by have := of_decide_eq_true h.2.1; omega, h.2.2⟩
/-- the two kinds that are put together: Cat without Empty, Alt without None -/
def Two (kd wo : Int) (e : Nd) : Prop := (kd = 3 ∧ wo = 1 ∧ e = empty) ∨ (kd = 4 ∧ wo = 0 ∧ e = none)
/-- Subs of such a node -/
def Norm (kd wo : Int) (l : List Nd) : Prop := ∀ t ∈ l, t.nice = true ∧ t.kind ≠ kd ∧ t.kind ≠ wo
def mkJ (kd : Int) (l : List Nd) (e : Nd) : Nd := match l with | [] => e | [x] => x | x :: y :: l => mk kd zero 0 0 (x :: y :: l)
theorem Norm.append {kd wo : Int} {l l' : List Nd} (h : Norm kd wo l) (h' : Norm kd wo l') : Norm kd wo (l ++ l') := by
  intro t ht
  rcases List.mem_append.1 ht with ht | ht
  · exact h t ht
  · exact h' t ht
theorem Norm.nil (kd wo : Int) : Norm kd wo [] := fun t h => by cases h
theorem Two.right {kd wo : Int} {e : Nd} (h2 : Two kd wo e) {l : List Nd} (hl : 1 < l.length) (h : Norm kd wo l) : (mk kd zero 0 0 l).right = true := by
  rcases h2 with ⟨rfl, rfl, rfl⟩ | ⟨rfl, rfl, rfl⟩
  · have a := has_no (t := mk 3 zero 0 0 l) (k := 1) (fun u hu => (h u hu).2.2)
    have b := has_no (t := mk 3 zero 0 0 l) (k := 3) (fun u hu => (h u hu).2.1)
    simp only [Nd.right, kind, set, least, most, subs, a, b]
    simp; exact decide_eq_true (by omega)
  · have a := has_no (t := mk 4 zero 0 0 l) (k := 4) (fun u hu => (h u hu).2.1)
    simp only [Nd.right, kind, set, least, most, subs, a]
    simp; exact decide_eq_true (by omega)
theorem Two.norm {kd wo : Int} {e : Nd} (h2 : Two kd wo e) {t : Nd} (h : t.nice = true) : Norm kd wo (flat1 kd wo t) := by
  have hr := nice_right h
  have hk := right_kind hr
  unfold flat1
  by_cases e1 : t.kind = kd
  · rw [show (t.kind == kd) = true by simpa using e1]
    simp only [cond_true]
    intro u hu
    refine ⟨nice_subs h hu, ?_⟩
    rcases h2 with ⟨rfl, rfl, rfl⟩ | ⟨rfl, rfl, rfl⟩
    · have := right_cat hr e1
      exact ⟨has_false this.2.2 u hu, has_false this.2.1 u hu⟩
    · have := right_alt hr e1
      refine ⟨has_false this.2 u hu, ?_⟩
      have := right_kind (nice_right (nice_subs h hu)); omega
  · rw [show (t.kind == kd) = false by simpa using e1]
    by_cases e2 : t.kind = wo
    · rw [show (t.kind == wo) = true by simpa using e2]; exact Norm.nil _ _
    · rw [show (t.kind == wo) = false by simpa using e2]
      simp only [cond_false]
      intro u hu
      simp at hu; subst hu
      exact ⟨h, e1, e2⟩
theorem Two.back {kd wo : Int} {e : Nd} (h2 : Two kd wo e) {t : Nd} (h : t.nice = true) : mkJ kd (flat1 kd wo t) e = t := by
  have hr := nice_right h
  have hk := right_kind hr
  unfold flat1
  by_cases e1 : t.kind = kd
  · rw [show (t.kind == kd) = true by simpa using e1]
    simp only [cond_true]
    have hl : 1 < t.subs.length := by
      rcases h2 with ⟨rfl, rfl, rfl⟩ | ⟨rfl, rfl, rfl⟩
      · exact (right_cat hr e1).1
      · exact (right_alt hr e1).1
    obtain ⟨q1, q2, q3⟩ := right_three hr e1 (by rcases h2 with ⟨rfl, _⟩ | ⟨rfl, _⟩ <;> decide) (by rcases h2 with ⟨rfl, _⟩ | ⟨rfl, _⟩ <;> decide)
    obtain ⟨k, s, mn, mx, ts⟩ := t
    simp only [kind, set, least, most, subs] at *
    subst e1; subst q1; subst q2; subst q3
    match ts, hl with
    | x :: y :: l, _ => rfl
  · rw [show (t.kind == kd) = false by simpa using e1]
    by_cases e2 : t.kind = wo
    · rw [show (t.kind == wo) = true by simpa using e2]
      simp only [cond_true, cond_false]
      rcases h2 with ⟨rfl, rfl, rfl⟩ | ⟨rfl, rfl, rfl⟩
      · exact (right_empty hr e2).symm
      · omega
    · rw [show (t.kind == wo) = false by simpa using e2]; rfl
theorem Two.flat1 {kd wo : Int} {e : Nd} (h2 : Two kd wo e) {l : List Nd} (h : Norm kd wo l) : flat1 kd wo (mkJ kd l e) = l := by
  match l, h with
  | [], _ => rcases h2 with ⟨rfl, rfl, rfl⟩ | ⟨rfl, rfl, rfl⟩ <;> rfl
  | [x], h =>
    have := h x (by simp)
    simp only [mkJ, Nd.flat1, show (x.kind == kd) = false by simpa using this.2.1, show (x.kind == wo) = false by simpa using this.2.2, cond_false]
  | x :: y :: l, _ => simp [mkJ, Nd.flat1, kind, subs]
theorem Two.nice {kd wo : Int} {e : Nd} (h2 : Two kd wo e) {l : List Nd} (h : Norm kd wo l) (hl : kd = 3 ∨ l ≠ []) : (mkJ kd l e).nice = true := by
  match l, h with
  | [], _ =>
    rcases h2 with ⟨rfl, rfl, rfl⟩ | ⟨rfl, rfl, rfl⟩
    · rfl
    · rcases hl with hl | hl
      · cases hl
      · exact absurd rfl hl
  | [x], h => exact (h x (by simp)).1
  | x :: y :: l, h => exact nice_mk (h2.right (by simp) h) (fun u hu => (h u hu).1)
theorem mkJ_size (kd : Int) (l : List Nd) {e : Nd} (he : e.size = 1) : (mkJ kd l e).size ≤ 1 + sizeL l := by
  match l with
  | [] => simp [mkJ, he, sizeL]
  | [x] => simp [mkJ, sizeL]
  | x :: y :: l => simp [mkJ, size_mk]
theorem flat1_size (kd wo : Int) (t : Nd) : sizeL (flat1 kd wo t) ≤ t.size := by
  unfold flat1
  have h1 := size_subs t
  cases (t.kind == kd) <;> cases (t.kind == wo) <;> simp [sizeL] <;> omega
theorem flat_size (kd wo : Int) (l : List Nd) : sizeL (flat kd wo l) ≤ sizeL l := by
  induction l with
  | nil => simp [flat]
  | cons x l ih => have := flat1_size kd wo x; simp only [flat, List.flatMap_cons, sizeL_append, sizeL] at *; omega
theorem Two.esize {kd wo : Int} {e : Nd} (h2 : Two kd wo e) : e.size = 1 := by rcases h2 with ⟨rfl, rfl, rfl⟩ | ⟨rfl, rfl, rfl⟩ <;> rfl
theorem checked_clean {t : Nd} (h : t.clean = true) : t.checked = t := by unfold checked; rw [h]; rfl
theorem Two.joined {kd wo : Int} {e : Nd} (h2 : Two kd wo e) {l : List Nd} (h : Norm kd wo l) (hs : sizeL l ≤ 9999) : Nd.joined kd l e = mkJ kd l e := by
  have hc : l ≠ [] → (mkJ kd l e).checked = mkJ kd l e := fun hl => checked_clean ((clean_iff _).2 ⟨by have := mkJ_size kd l h2.esize; omega, h2.nice h (.inr hl)⟩)
  match l, h, hc with
  | [], _, _ => rfl
  | [x], h, hc => exact hc (by simp)
  | x :: y :: l, h, hc =>
    have q := hc (by simp)
    have h0 : (((x :: y :: l).length : Int) == 0) = false := by rw [beq_eq_false_iff_ne]; simp only [List.length_cons]; omega
    have h1 : (((x :: y :: l).length : Int) == 1) = false := by rw [beq_eq_false_iff_ne]; simp only [List.length_cons]; omega
    unfold Nd.joined
    rw [h0, h1]; exact q
/-- clean and small -/
def Fine (t : Nd) : Prop := t.nice = true ∧ t.size ≤ 1000
theorem Fine.clean {t : Nd} (h : Fine t) : t.clean = true := (clean_iff t).2 ⟨by have := h.2; omega, h.1⟩
theorem Fine.light {t : Nd} (h : Fine t) : t.light = true := by have := h.2; simp [Nd.light]; omega
theorem Fine.kind {t : Nd} (h : Fine t) : 1 ≤ t.kind ∧ t.kind ≤ 6 := right_kind (nice_right h.1)
theorem Fine.bad0 {t : Nd} (h : Fine t) : t.bad0 = false := by
  unfold Nd.bad0; rw [h.clean]; have := h.kind; simp; omega
theorem Fine.good {t : Nd} (h : Fine t) : t.good = true := by unfold Nd.good; rw [h.clean]; simp
theorem Fine.empty : Fine Nd.empty := ⟨rfl, by decide⟩
theorem flat_norm {kd wo : Int} {e : Nd} (h2 : Two kd wo e) {l : List Nd} (h : ∀ t ∈ l, t.nice = true ∨ t = Nd.none ∧ wo = 0) : Norm kd wo (flat kd wo l) := by
  induction l with
  | nil => exact Norm.nil _ _
  | cons x l ih =>
    simp only [flat, List.flatMap_cons]
    refine Norm.append ?_ (ih (fun t ht => h t (by simp [ht])))
    rcases h x (by simp) with h | ⟨rfl, rfl⟩
    · exact h2.norm h
    · rcases h2 with ⟨rfl, h0, rfl⟩ | ⟨rfl, _, rfl⟩
      · cases h0
      · exact Norm.nil _ _
theorem seq_eq {l : List Nd} (h : ∀ t ∈ l, Fine t) (hs : sizeL l ≤ 9999) : Nd.seq l = mkJ 3 (flat 3 1 l) Nd.empty := by
  have hb : l.any Nd.bad0 = false := by rw [List.any_eq_false]; intro t ht; rw [(h t ht).bad0]; simp
  unfold Nd.seq
  rw [hb]
  have h2 : Two 3 1 Nd.empty := .inl ⟨rfl, rfl, rfl⟩
  exact h2.joined (flat_norm h2 (fun t ht => .inl (h t ht).1)) (Nat.le_trans (flat_size 3 1 l) hs)
theorem or_eq {l : List Nd} (h : ∀ t ∈ l, Fine t ∨ t = Nd.none) (hs : sizeL l ≤ 9999) : Nd.or l = mkJ 4 (flat 4 0 l) Nd.none := by
  have hb : l.any (fun x => !x.good) = false := by
    rw [List.any_eq_false]; intro t ht
    rcases h t ht with h | rfl
    · rw [h.good]; simp
    · decide
  unfold Nd.or
  rw [hb]
  have h2 : Two 4 0 Nd.none := .inr ⟨rfl, rfl, rfl⟩
  exact h2.joined (flat_norm h2 (fun t ht => (h t ht).elim (fun h => .inl h.1) (fun h => .inr ⟨h, rfl⟩))) (Nat.le_trans (flat_size 4 0 l) hs)
theorem seq_bad {l : List Nd} {t : Nd} (ht : t ∈ l) (hb : t.clean = false) : Nd.seq l = Nd.none := by
  have : l.any Nd.bad0 = true := List.any_eq_true.2 ⟨t, ht, by unfold Nd.bad0; rw [hb]; simp⟩
  unfold Nd.seq; rw [this]; rfl
theorem or_bad {l : List Nd} {t : Nd} (ht : t ∈ l) (hb : t.good = false) : Nd.or l = Nd.none := by
  have : l.any (fun x => !x.good) = true := List.any_eq_true.2 ⟨t, ht, by rw [hb]; rfl⟩
  unfold Nd.or; rw [this]; rfl
/-! counts -/
def gr (t : Nd) : Nat := (t.pre.filter fun x => x.kind == 6).length
def grL (ts : List Nd) : Nat := ((preL ts).filter fun x => x.kind == 6).length
theorem gr_mk (k : Int) (s : S4) (mn mx : Int) (ts : List Nd) : (mk k s mn mx ts).gr = (if k = 6 then 1 else 0) + grL ts := by
  unfold gr grL
  rw [pre, List.filter_cons]
  by_cases h : k = 6
  · simp [kind, h]; omega
  · simp [kind, h]
theorem grL_cons (t : Nd) (ts : List Nd) : grL (t :: ts) = t.gr + grL ts := by simp [grL, gr, preL]
theorem grL_append (a b : List Nd) : grL (a ++ b) = grL a + grL b := by simp [grL, preL_append]
theorem grL_nil : grL [] = 0 := rfl
theorem gr_subs (t : Nd) : t.gr = (if t.kind = 6 then 1 else 0) + grL t.subs := by cases t; exact gr_mk _ _ _ _ _
theorem posn_mk (k : Int) (s : S4) (mn mx : Int) (ts : List Nd) : (mk k s mn mx ts).posn = minI (bif k == 5 then ((bif k == 2 then 1 else 0) + posnL ts) * minI (tms mn mx) 10001 else (bif k == 2 then 1 else 0) + posnL ts) 10001 := posn_eq _
theorem posn34 {kd : Int} (h : kd = 3 ∨ kd = 4) (ts : List Nd) : (mk kd zero 0 0 ts).posn = minI (posnL ts) 10001 := by
  rcases h with rfl | rfl <;> (rw [posn_mk]; simp)
theorem Two.kd {kd wo : Int} {e : Nd} (h2 : Two kd wo e) : kd = 3 ∨ kd = 4 := by rcases h2 with ⟨h, _⟩ | ⟨h, _⟩ <;> simp [h]
theorem Two.posn {kd wo : Int} {e : Nd} (h2 : Two kd wo e) {l : List Nd} (hp : posnL l ≤ 10001) : (mkJ kd l e).posn = posnL l := by
  match l, hp with
  | [], _ => rcases h2 with ⟨rfl, rfl, rfl⟩ | ⟨rfl, rfl, rfl⟩ <;> rfl
  | [x], _ => simp [mkJ, posnL]
  | x :: y :: l, hp => simp only [mkJ]; rw [posn34 h2.kd]; unfold minI; split <;> omega
theorem Two.posn1 {kd wo : Int} {e : Nd} (h2 : Two kd wo e) {t : Nd} (h : t.nice = true) (hp : t.posn ≤ 10000) : posnL (Nd.flat1 kd wo t) = t.posn := by
  have hb := h2.back h
  have hn := h2.norm h
  rcases Int.lt_or_le 10001 (posnL (Nd.flat1 kd wo t)) with hq | hq
  · exfalso
    generalize Nd.flat1 kd wo t = l at hb hn hq
    match l, hb with
    | [], _ => simp [posnL] at hq
    | [x], hb => have := posn_bd x; simp [posnL] at hq; omega
    | x :: y :: l, hb =>
      rw [← hb] at hp; simp only [mkJ] at hp; rw [posn34 h2.kd] at hp
      unfold minI at hp; rw [if_pos hq] at hp; omega
  · have := h2.posn hq
    rw [hb] at this; exact this.symm
theorem Two.gr {kd wo : Int} {e : Nd} (h2 : Two kd wo e) (l : List Nd) : (mkJ kd l e).gr = grL l := by
  match l with
  | [] => rcases h2 with ⟨rfl, rfl, rfl⟩ | ⟨rfl, rfl, rfl⟩ <;> rfl
  | [x] => simp [mkJ, grL_cons, grL_nil]
  | x :: y :: l => simp only [mkJ]; rw [gr_mk]; rw [if_neg (by rcases h2.kd with h | h <;> omega)]; omega
theorem Two.gr1 {kd wo : Int} {e : Nd} (h2 : Two kd wo e) {t : Nd} (h : t.nice = true) : grL (Nd.flat1 kd wo t) = t.gr := by
  rw [← h2.gr (Nd.flat1 kd wo t), h2.back h]
/-- the laws' own way is the program's -/
theorem flatJ1_eq {kd wo : Int} {e : Nd} (h2 : Two kd wo e) {t : Nd} (h : t.nice = true) : flatJ1 kd t = Nd.flat1 kd wo t := by
  have hk := right_kind (nice_right h)
  unfold flatJ1 Nd.flat1
  rcases h2 with ⟨rfl, rfl, rfl⟩ | ⟨rfl, rfl, rfl⟩
  · simp
  · have : (t.kind == 0) = false := by rw [beq_eq_false_iff_ne]; omega
    rw [this]; simp
theorem joinsL_eq (kd : Int) (l : List Nd) : joinsL kd l = mkJ kd l Nd.empty := by
  match l with
  | [] => rfl
  | [x] => rfl
  | x :: y :: l =>
    have h0 : (((x :: y :: l).length : Int) == 0) = false := by rw [beq_eq_false_iff_ne]; simp only [List.length_cons]; omega
    have h1 : (((x :: y :: l).length : Int) == 1) = false := by rw [beq_eq_false_iff_ne]; simp only [List.length_cons]; omega
    unfold joinsL
    rw [h0, h1]; rfl
theorem flat1_alt_ne {t : Nd} (h : t.nice = true) : Nd.flat1 4 0 t ≠ [] := by
  have h2 : Two 4 0 Nd.none := .inr ⟨rfl, rfl, rfl⟩
  intro h0
  have := h2.back h
  rw [h0] at this
  have hk := right_kind (nice_right h)
  rw [← this] at hk
  simp [mkJ, Nd.none, Nd.kind] at hk
theorem joins_eq {kd wo : Int} {e : Nd} (h2 : Two kd wo e) {a b : Nd} (ha : a.nice = true) (hb : b.nice = true) : joins kd a b = mkJ kd (Nd.flat1 kd wo a ++ Nd.flat1 kd wo b) e := by
  unfold joins flatJ
  simp only [List.flatMap_cons, List.flatMap_nil, List.append_nil]
  rw [flatJ1_eq h2 ha, flatJ1_eq h2 hb, joinsL_eq]
  rcases h2 with ⟨rfl, rfl, rfl⟩ | ⟨rfl, rfl, rfl⟩
  · rfl
  · have := flat1_alt_ne ha
    match hq : Nd.flat1 4 0 a ++ Nd.flat1 4 0 b with
    | [] => simp at hq; exact absurd hq.1 this
    | [x] => rfl
    | x :: y :: l => rfl
theorem joins_nice {kd wo : Int} {e : Nd} (h2 : Two kd wo e) {a b : Nd} (ha : a.nice = true) (hb : b.nice = true) : (joins kd a b).nice = true := by
  rw [joins_eq h2 ha hb]
  refine h2.nice ((h2.norm ha).append (h2.norm hb)) ?_
  rcases h2 with ⟨rfl, rfl, rfl⟩ | ⟨rfl, rfl, rfl⟩
  · exact .inl rfl
  · right; intro h0; simp at h0; exact flat1_alt_ne ha h0.1
theorem joins_gr {kd wo : Int} {e : Nd} (h2 : Two kd wo e) {a b : Nd} (ha : a.nice = true) (hb : b.nice = true) : (joins kd a b).gr = a.gr + b.gr := by
  rw [joins_eq h2 ha hb, h2.gr, grL_append, h2.gr1 ha, h2.gr1 hb]
theorem joins_posn {kd wo : Int} {e : Nd} (h2 : Two kd wo e) {a b : Nd} (ha : a.nice = true) (hb : b.nice = true) (hp : a.posn + b.posn ≤ 10000) : (joins kd a b).posn = a.posn + b.posn := by
  have p1 := posn_bd a
  have p2 := posn_bd b
  have q1 := h2.posn1 ha (by omega)
  have q2 := h2.posn1 hb (by omega)
  rw [joins_eq h2 ha hb, h2.posn (by rw [posnL_append]; omega), posnL_append, q1, q2]
end Nd
end Go.Proofs.Ytaggidjijekpbaa
