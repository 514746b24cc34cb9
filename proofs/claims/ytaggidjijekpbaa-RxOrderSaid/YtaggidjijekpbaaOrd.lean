/- The order of trees, in plain Lean; the plain law of RxOrder. No program in sight. -/
import Derived.Test.YtaggidjijekpbaaSets
import Derived.Test.YtaggidjijekpbaaLawN
namespace Go.Proofs.Ytaggidjijekpbaa
namespace Nd
/-- the first of two that is not 0 -/
def orC (a b : Int) : Int := if a ≠ 0 then a else b
theorem orC_pos {a b : Int} (h : a ≠ 0) : orC a b = a := by unfold orC; rw [if_pos h]
theorem orC_z {a b : Int} (h : a = 0) : orC a b = b := by unfold orC; rw [if_neg (fun q => q h)]
theorem orC_pick {k : Nat} {x y : Int} (hk : k < 2) (h0 : ∀ j, j < k → pick2 j x y = 0) (hne : pick2 k x y ≠ 0) : pick2 k x y = orC x y := by
  have e : k = 0 ∨ k = 1 := by omega
  rcases e with rfl | rfl
  · exact (orC_pos hne).symm
  · have := h0 0 (by omega)
    exact (orC_z this).symm
theorem orC_zero {x y : Int} (h0 : ∀ j, j < 2 → pick2 j x y = 0) : 0 = orC x y := by
  have h1 : x = 0 := h0 0 (by omega)
  have h2 : y = 0 := h0 1 (by omega)
  subst h1; subst h2; rfl
mutual
def cmpN : Nd → Nd → Int
  | mk k s mn mx ts, mk k' s' mn' mx' ts' =>
    if k ≠ k' then cmpI k k' else if k = 2 then cmpS s s' else
    if k = 5 then orC (orC (cmpI mn mn') (cmpI (mostI (mk k s mn mx ts)) (mostI (mk k' s' mn' mx' ts')))) (cmpNL ts ts') else if k = 0 ∨ k = 1 then 0 else cmpNL ts ts'
def cmpNL : List Nd → List Nd → Int
  | [], [] => 0
  | [], _ :: _ => -1
  | _ :: _, [] => 1
  | x :: xs, y :: ys => if cmpN x y ≠ 0 then cmpN x y else cmpNL xs ys
end
theorem cmpNL_eq (a b : List Nd) : cmpNL a b = cmpL cmpN a b := by
  induction a generalizing b with
  | nil => cases b <;> simp [cmpNL, cmpL]
  | cons x a ih => cases b <;> simp [cmpNL, cmpL, ih]
theorem cmpN_eq (a b : Nd) : cmpN a b = if a.kind ≠ b.kind then cmpI a.kind b.kind else if a.kind = 2 then cmpS a.set b.set else
    if a.kind = 5 then orC (orC (cmpI a.least b.least) (cmpI (mostI a) (mostI b))) (cmpL cmpN a.subs b.subs) else if a.kind = 0 ∨ a.kind = 1 then 0 else cmpL cmpN a.subs b.subs := by
  cases a; cases b
  rw [cmpN, cmpNL_eq]; rfl
/-- all sets of a tree are four words -/
def sok (t : Nd) : Bool := t.pre.all fun x => decide (SOk x.set)
theorem sok_eq (t : Nd) : t.sok = (decide (SOk t.set) && t.subs.all sok) := by
  cases t with
  | mk k s mn mx ts => simp only [sok, pre, List.all_cons, preL_all, subs]; rfl
theorem sok_set {t : Nd} (h : t.sok = true) : SOk t.set := by rw [sok_eq] at h; simp at h; exact h.1
theorem sok_subs {t u : Nd} (h : t.sok = true) (hu : u ∈ t.subs) : u.sok = true := by rw [sok_eq] at h; simp at h; exact h.2 u hu
theorem sok_mk {t : Nd} (h : SOk t.set) (hs : ∀ u ∈ t.subs, u.sok = true) : t.sok = true := by rw [sok_eq]; simpa using ⟨h, hs⟩
theorem sok_zero : SOk zero := by decide

theorem orC_assoc (a b c : Int) : orC (orC a b) c = orC a (orC b c) := by
  unfold orC
  by_cases h : a = 0
  · subst h; simp
  · simp [h]
/-! ### orders put together -/
theorem orC_ord {α β : Type} {P : α → Prop} {Q : β → Prop} {c1 : α → α → Int} {c2 : β → β → Int} (h1 : Ord3 P c1) (h2 : Ord3 Q c2) : Ord3 (fun x : α × β => P x.1 ∧ Q x.2) (fun x y => orC (c1 x.1 y.1) (c2 x.2 y.2)) := by
  refine ⟨fun a b ha hb => ?_, fun a b ha hb => ?_, fun a b ha hb => ?_, fun a b c ha hb hc q1 q2 => ?_⟩
  · unfold orC; split
    · exact h1.bd _ _ ha.1 hb.1
    · exact h2.bd _ _ ha.2 hb.2
  · have e1 := h1.eq _ _ ha.1 hb.1
    have e2 := h2.eq _ _ ha.2 hb.2
    unfold orC
    split
    · rename_i hne
      constructor
      · intro h; exact absurd h hne
      · rintro rfl; exact absurd (e1.2 rfl) hne
    · rename_i hne
      have h0 : c1 a.1 b.1 = 0 := Classical.byContradiction hne
      rw [e2]
      constructor
      · intro h; exact Prod.ext (e1.1 h0) h
      · rintro rfl; rfl
  · have e1 := h1.anti _ _ ha.1 hb.1
    have e2 := h2.anti _ _ ha.2 hb.2
    unfold orC
    by_cases h0 : c1 a.1 b.1 = 0
    · rw [if_neg (fun h => h (by omega)), if_neg (fun h => h h0)]; exact e2
    · rw [if_pos (by omega), if_pos h0]; exact e1
  · have e1 := h1.eq _ _ ha.1 hb.1
    have e2 := h1.eq _ _ hb.1 hc.1
    unfold orC at q1 q2 ⊢
    by_cases h0 : c1 a.1 b.1 = 0
    · rw [if_neg (fun h => h h0)] at q1
      rw [e1.1 h0]
      by_cases h3 : c1 b.1 c.1 = 0
      · rw [if_neg (fun h => h h3)] at q2 ⊢
        exact h2.trans _ _ _ ha.2 hb.2 hc.2 q1 q2
      · rw [if_pos h3] at q2 ⊢; exact q2
    · rw [if_pos h0] at q1
      by_cases h3 : c1 b.1 c.1 = 0
      · rw [← e2.1 h3, if_pos h0]; exact q1
      · rw [if_pos h3] at q2
        have q3 := h1.trans _ _ _ ha.1 hb.1 hc.1 q1 q2
        by_cases h4 : c1 a.1 c.1 = 0
        · have := h1.lt ha.1 hb.1 hc.1 q1 q2 h4; exact absurd this.1 h0
        · rw [if_pos h4]; exact q3
theorem Ord3.pull {α β : Type} {P : α → Prop} {Q : β → Prop} {c : β → β → Int} {cmp : α → α → Int} (h : Ord3 Q c) (f : α → β) (hP : ∀ a, P a → Q (f a)) (hinj : ∀ a b, P a → P b → f a = f b → a = b)
    (hc : ∀ a b, P a → P b → cmp a b = c (f a) (f b)) : Ord3 P cmp := by
  refine ⟨fun a b ha hb => ?_, fun a b ha hb => ?_, fun a b ha hb => ?_, fun a b d ha hb hd q1 q2 => ?_⟩
  · rw [hc a b ha hb]; exact h.bd _ _ (hP a ha) (hP b hb)
  · rw [hc a b ha hb, h.eq _ _ (hP a ha) (hP b hb)]
    exact ⟨hinj a b ha hb, fun e => by rw [e]⟩
  · rw [hc a b ha hb, hc b a hb ha]; exact h.anti _ _ (hP a ha) (hP b hb)
  · rw [hc a b ha hb] at q1; rw [hc b d hb hd] at q2; rw [hc a d ha hd]
    exact h.trans _ _ _ (hP a ha) (hP b hb) (hP d hd) q1 q2
/-- clean trees, with sets of four words -/
def Ok2 (t : Nd) : Prop := t.nice = true ∧ t.sok = true
theorem Ok2.subs {t u : Nd} (h : Ok2 t) (hu : u ∈ t.subs) : Ok2 u := ⟨nice_subs h.1 hu, sok_subs h.2 hu⟩
/-- what a right node has by its kind -/
theorem right_cases {t : Nd} (h : t.right = true) : (t.kind ≠ 2 → t.set = zero) ∧ (t.kind ≠ 5 → t.least = 0 ∧ t.most = 0) ∧ (t.kind < 3 → t.subs = []) ∧ (t.kind = 5 → bounds t.least t.most = true) := by
  obtain ⟨k, s, mn, mx, ts⟩ := t
  simp only [right, kind, set, least, most, subs, Bool.and_eq_true, Bool.not_eq_true', Bool.or_eq_false_iff, Bool.and_eq_false_iff] at h ⊢
  obtain ⟨⟨⟨h1, h2⟩, h3⟩, h4⟩ := h
  refine ⟨fun hk => ?_, fun hk => ?_, fun hk => ?_, fun hk => ?_⟩
  · rcases h1 with h1 | h1
    · exact absurd (by simpa using h1) hk
    · simpa using h1
  · rcases h2 with h2 | h2
    · exact absurd (by simpa using h2) hk
    · simpa using h2
  · rcases h3 with h3 | h3
    · have := of_decide_eq_false h3; omega
    · have := of_decide_eq_false h3
      exact List.eq_nil_of_length_eq_zero (by omega)
  · subst hk
    simp at h4
    exact h4.1.2
abbrev Key := Int × S4 × Int × Int × List Nd
def key (t : Nd) : Key := (t.kind, t.set, t.least, mostI t, t.subs)
theorem mostI_inj {a b : Nd} (ha : a.right = true) (hb : b.right = true) (h : mostI a = mostI b) : a.most = b.most := by
  have key : ∀ t : Nd, t.right = true → t.most = -1 ∨ (0 ≤ t.most ∧ t.most ≤ 16) := by
    intro t ht
    by_cases hk : t.kind = 5
    · have := (bounds_iff _ _).1 ((right_cases ht).2.2.2 hk); omega
    · have := ((right_cases ht).2.1 hk).2; omega
  have h1 := key a ha
  have h2 := key b hb
  unfold mostI at h
  split at h <;> split at h <;> omega
theorem cmpN_ord : Ord3 Ok2 cmpN := by
  have main : ∀ n : Nat, Ord3 (fun t => Ok2 t ∧ t.size ≤ n) cmpN := by
    intro n
    induction n with
    | zero =>
      have no : ∀ a : Nd, ¬ (Ok2 a ∧ a.size ≤ 0) := fun a h => by have := size_pos a; omega
      exact ⟨fun a _ h _ => absurd h (no a), fun a _ h _ => absurd h (no a), fun a _ h _ => absurd h (no a), fun a _ _ h _ _ => absurd h (no a)⟩
    | succ n ih =>
      have hl := cmpL_ord ih
      have h5 := orC_ord cmpI_ord (orC_ord cmpS_ord (orC_ord cmpI_ord (orC_ord cmpI_ord hl)))
      refine Ord3.pull (β := Key) (Q := fun x => True ∧ SOk x.2.1 ∧ True ∧ True ∧ ∀ t ∈ x.2.2.2.2, Ok2 t ∧ t.size ≤ n) h5 key (fun a ha => ?_) (fun a b ha hb he => ?_) (fun a b ha hb => ?_)
      · refine ⟨trivial, sok_set ha.1.2, trivial, trivial, fun u hu => ⟨ha.1.subs hu, ?_⟩⟩
        have h1 := size_subs a
        have h2 := size_le_sizeL (show u ∈ a.subs from hu)
        have h3 := ha.2
        omega
      · have hm := mostI_inj (nice_right ha.1.1) (nice_right hb.1.1) (by have := congrArg (fun x : Key => x.2.2.2.1) he; exact this)
        have e1 : a.kind = b.kind := congrArg (fun x : Key => x.1) he
        have e2 : a.set = b.set := congrArg (fun x : Key => x.2.1) he
        have e3 : a.least = b.least := congrArg (fun x : Key => x.2.2.1) he
        have e4 : a.subs = b.subs := congrArg (fun x : Key => x.2.2.2.2) he
        cases a; cases b
        simp only [kind, set, least, most, subs] at *
        subst e1; subst e2; subst e3; subst e4; subst hm; rfl
      · have ra := right_cases (nice_right ha.1.1)
        have rb := right_cases (nice_right hb.1.1)
        rw [cmpN_eq]
        show _ = orC (cmpI a.kind b.kind) (orC (cmpS a.set b.set) (orC (cmpI a.least b.least) (orC (cmpI (mostI a) (mostI b)) (cmpL cmpN a.subs b.subs))))
        have ki := (cmpI_ord).eq a.kind b.kind trivial trivial
        have cmp0 : ∀ x : Int, cmpI x x = 0 := fun x => ((cmpI_ord).eq x x trivial trivial).2 rfl
        have orC0 : ∀ x : Int, orC 0 x = x := fun x => by simp [orC]
        by_cases hk : a.kind = b.kind
        · rw [if_neg (fun h => h hk), hk, cmp0, orC0]
          by_cases k2 : b.kind = 2
          · rw [if_pos k2]
            have s1 := ra.2.2.1 (by omega)
            have s2 := rb.2.2.1 (by omega)
            have l1 := ra.2.1 (by omega)
            have l2 := rb.2.1 (by omega)
            have m1 : mostI a = mostI b := by unfold mostI; rw [l1.2, l2.2]
            rw [s1, s2, l1.1, l2.1, m1, cmp0, cmp0, orC0, orC0]
            simp only [cmpL]
            unfold orC; split <;> simp_all
          · rw [if_neg k2]
            have z1 := ra.1 (by omega)
            have z2 := rb.1 k2
            have cz : cmpS zero zero = 0 := ((cmpS_ord).eq zero zero sok_zero sok_zero).2 rfl
            rw [z1, z2, cz, orC0]
            by_cases k5 : b.kind = 5
            · rw [if_pos k5, orC_assoc]
            · rw [if_neg k5]
              have l1 := ra.2.1 (by omega)
              have l2 := rb.2.1 k5
              have m1 : mostI a = mostI b := by unfold mostI; rw [l1.2, l2.2]
              rw [l1.1, l2.1, m1, cmp0, cmp0, orC0, orC0]
              by_cases k0 : b.kind = 0 ∨ b.kind = 1
              · rw [if_pos k0, ra.2.2.1 (by omega), rb.2.2.1 (by omega)]; rfl
              · rw [if_neg k0]
        · rw [if_pos hk]
          have : cmpI a.kind b.kind ≠ 0 := fun h => hk (ki.1 h)
          unfold orC; rw [if_pos this]
  refine ⟨fun a b ha hb => ?_, fun a b ha hb => ?_, fun a b ha hb => ?_, fun a b c ha hb hc => ?_⟩
  · exact (main (max a.size b.size)).bd a b ⟨ha, by omega⟩ ⟨hb, by omega⟩
  · exact (main (max a.size b.size)).eq a b ⟨ha, by omega⟩ ⟨hb, by omega⟩
  · exact (main (max a.size b.size)).anti a b ⟨ha, by omega⟩ ⟨hb, by omega⟩
  · exact (main (max a.size (max b.size c.size))).trans a b c ⟨ha, by omega⟩ ⟨hb, by omega⟩ ⟨hc, by omega⟩
def compare (a b : Nd) : Int := if a.light && b.light then cmpN a b else 0
end Nd
end Go.Proofs.Ytaggidjijekpbaa
