/- The plain law of RxOrder. No program in sight. -/
import Derived.Test.YtaggidjijekpbaaOrd
namespace Go.Proofs.Ytaggidjijekpbaa
namespace Nd
theorem sok_class (n : Int) : (classS (lettersS n)).sok = true := by
  have : ∀ l ∈ L12, SOk (setB l) := by decide
  exact sok_mk (this _ (lettersS_mem n)) (fun u hu => by cases hu)
theorem sok_empty : Nd.empty.sok = true := by decide
theorem sok_none : Nd.none.sok = true := by decide
theorem sok_flatJ1 {kd : Int} {t : Nd} (h : t.sok = true) : ∀ u ∈ flatJ1 kd t, u.sok = true := by
  intro u hu
  unfold flatJ1 at hu
  revert hu
  cases (t.kind == kd) <;> cases ((kd == 3) && (t.kind == 1)) <;> intro hu <;> simp at hu
  · subst hu; exact h
  · exact sok_subs h hu
  · exact sok_subs h hu
theorem sok_joins {kd : Int} {a b : Nd} (ha : a.sok = true) (hb : b.sok = true) : (joins kd a b).sok = true := by
  unfold joins flatJ
  simp only [List.flatMap_cons, List.flatMap_nil, List.append_nil]
  have hl : ∀ u ∈ flatJ1 kd a ++ flatJ1 kd b, u.sok = true := by
    intro u hu
    rcases List.mem_append.1 hu with hu | hu
    · exact sok_flatJ1 ha u hu
    · exact sok_flatJ1 hb u hu
  generalize flatJ1 kd a ++ flatJ1 kd b = l at hl
  rw [joinsL_eq]
  match l, hl with
  | [], _ => exact sok_empty
  | [x], hl => exact hl x (by simp)
  | x :: y :: l, hl => exact sok_mk sok_zero hl
theorem sok_one {k mn mx : Int} {t : Nd} (h : t.sok = true) : (mk k zero mn mx [t]).sok = true := sok_mk sok_zero (fun u hu => by simp [subs] at hu; subst hu; exact h)
theorem sok_step {s : M3} {x : Int × Int × Int} (h : ∀ t ∈ s.pile, t.sok = true) : ∀ t ∈ (stepM s x).pile, t.sok = true := by
  have htop : ∀ {l : List Nd}, (∀ t ∈ l, t.sok = true) → (top l).sok = true := by
    intro l hl
    unfold top
    cases hq : l[l.length - 1]? with
    | none => exact sok_none
    | some t => exact hl t (List.mem_of_getElem? hq)
  have htop2 : ∀ {l : List Nd}, (∀ t ∈ l, t.sok = true) → (top2 l).sok = true := by
    intro l hl
    unfold top2
    cases hq : l[l.length - 2]? with
    | none => exact sok_none
    | some t => exact hl t (List.mem_of_getElem? hq)
  have add : ∀ (n : Nat) (t : Nd), t.sok = true → ∀ u ∈ s.pile.take n ++ [t], u.sok = true := fun n t ht u hu => by
    rcases List.mem_append.1 hu with hu | hu
    · exact h u (List.mem_of_mem_take hu)
    · simp at hu; subst hu; exact ht
  have addA : ∀ (t : Nd), t.sok = true → ∀ u ∈ s.pile ++ [t], u.sok = true := fun t ht u hu => by
    rcases List.mem_append.1 hu with hu | hu
    · exact h u hu
    · simp at hu; subst hu; exact ht
  have setA : ∀ (n : Nat) (t : Nd), t.sok = true → ∀ u ∈ s.pile.set n t, u.sok = true := fun n t ht u hu => by
    rcases List.mem_or_eq_of_mem_set hu with hu | rfl
    · exact h u hu
    · exact ht
  unfold stepM
  dsimp only
  cases decide (x.1.tmod 12 < 4)
  · cases (x.1.tmod 12 == 4)
    · cases decide (x.1.tmod 12 < 7) && decide (1 < (s.pile.length : Int))
      · cases decide (x.1.tmod 12 < 9) && decide (1 < (s.pile.length : Int))
        · cases (x.1.tmod 12 == 9) && decide (0 < (s.pile.length : Int)) && decide (s.g < 9)
          · cases decide (9 < x.1.tmod 12) && decide (0 < (s.pile.length : Int)) && ((top s.pile).kind != 1)
            · exact h
            · simp only [cond_false, cond_true]
              cases decide (s.u * max3 (x.2.1.tmod 3) (mostM (x.2.1.tmod 3) (x.2.2.tmod 4)) 1 ≤ 16)
              · exact h
              · exact setA _ _ (sok_one (htop h))
          · exact setA _ _ (sok_one (htop h))
        · exact add _ _ (sok_joins (htop2 h) (htop h))
      · exact add _ _ (sok_joins (htop2 h) (htop h))
    · exact addA _ sok_empty
  · exact addA _ (sok_class _)
theorem made_sok (xs : List (Int × Int × Int)) : (made xs).sok = true := by
  have key : ∀ (l : List (Int × Int × Int)) (s : M3), (∀ t ∈ s.pile, t.sok = true) → ∀ t ∈ (l.foldl stepM s).pile, t.sok = true := by
    intro l
    induction l with
    | nil => intro s h; exact h
    | cons x l ih => intro s h; exact ih _ (sok_step h)
  have h := key (xs.take 25) ⟨[], 1, 0⟩ (by simp)
  unfold made madeSt
  generalize (List.foldl stepM ⟨[], 1, 0⟩ (xs.take 25)).pile = p at h
  cases p with
  | nil => exact (by decide : (classS [97]).sok = true)
  | cons t ts =>
    simp only [madeEnd]
    have fold : ∀ (l : List Nd) (t : Nd), t.sok = true → (∀ u ∈ l, u.sok = true) → (l.foldl (joins 4) t).sok = true := by
      intro l
      induction l with
      | nil => intro t h _; exact h
      | cons x l ih => intro t h hl; exact ih _ (sok_joins h (hl x (by simp))) (fun u hu => hl u (by simp [hu]))
    exact fold ts t (h t (by simp)) (fun u hu => h u (by simp [hu]))
/-! ### the law -/
section
variable {a b c : Nd}
theorem Fine.ok2 (h : Fine a) (hs : a.sok = true) : Ok2 a := ⟨h.1, hs⟩
theorem cmp_eq (ha : Fine a) (hb : Fine b) : Nd.compare a b = cmpN a b := by unfold Nd.compare; rw [ha.light, hb.light]; rfl
theorem o_anti (ha : Fine a) (hb : Fine b) (sa : a.sok = true) (sb : b.sok = true) : Nd.compare a b = -Nd.compare b a := by
  rw [cmp_eq ha hb, cmp_eq hb ha]; have := cmpN_ord.anti a b ⟨ha.1, sa⟩ ⟨hb.1, sb⟩; omega
theorem o_bd (ha : Fine a) (hb : Fine b) (sa : a.sok = true) (sb : b.sok = true) : -1 ≤ Nd.compare a b ∧ Nd.compare a b ≤ 1 := by
  rw [cmp_eq ha hb]; exact cmpN_ord.bd a b ⟨ha.1, sa⟩ ⟨hb.1, sb⟩
theorem o_eq (ha : Fine a) (hb : Fine b) (sa : a.sok = true) (sb : b.sok = true) : (Nd.compare a b == 0) = (a.light && b.light && a.same b) := by
  rw [cmp_eq ha hb, ha.light, hb.light]
  have := cmpN_ord.eq a b ⟨ha.1, sa⟩ ⟨hb.1, sb⟩
  rw [Bool.eq_iff_iff]
  simp only [beq_iff_eq, Bool.true_and, this, same_iff]
theorem o_trans (ha : Fine a) (hb : Fine b) (hc : Fine c) (sa : a.sok = true) (sb : b.sok = true) (sc : c.sok = true) (h1 : Nd.compare a b ≤ 0) (h2 : Nd.compare b c ≤ 0) : Nd.compare a c ≤ 0 := by
  rw [cmp_eq ha hb] at h1; rw [cmp_eq hb hc] at h2; rw [cmp_eq ha hc]
  exact cmpN_ord.trans a b c ⟨ha.1, sa⟩ ⟨hb.1, sb⟩ ⟨hc.1, sc⟩ h1 h2
theorem o_same (a b : Nd) : (a.light && b.light && a.same b) = (b.light && a.light && b.same a) := by
  rw [Bool.eq_iff_iff]; simp only [Bool.and_eq_true, same_iff]; exact ⟨fun h => ⟨⟨h.1.2, h.1.1⟩, h.2.symm⟩, fun h => ⟨⟨h.1.2, h.1.1⟩, h.2.symm⟩⟩
theorem o_kind (ha : Fine a) (hb : Fine b) (hk : a.kind ≠ b.kind) : (decide (Nd.compare a b < 0) == decide (a.kind < b.kind)) = true := by
  rw [cmp_eq ha hb, cmpN_eq, if_pos hk, beq_iff_eq, Bool.eq_iff_iff, decide_eq_true_eq, decide_eq_true_eq]
  unfold cmpI; split <;> omega
abbrev seqO (a : Nd) : Nd := Nd.seq [classS [113], a, classS [114]]
theorem fine_class {l : List UInt8} (h : (setB l != zero) = true) : Fine (classS l) := by
  refine ⟨nice_mk ?_ (fun u hu => by cases hu), by rw [class_size]; decide⟩
  unfold classS right
  simp only [kind, set, least, most, subs, h]; simp
theorem seqO_eq (ha : Fine a) : seqO a = mk 3 zero 0 0 (classS [113] :: (flat1 3 1 a ++ [classS [114]])) := by
  have hq : Fine (classS [113]) := fine_class (by decide)
  have hr : Fine (classS [114]) := fine_class (by decide)
  unfold seqO
  rw [seq3 hq ha hr]
  have e1 : flat1 3 1 (classS [113]) = [classS [113]] := rfl
  have e2 : flat1 3 1 (classS [114]) = [classS [114]] := rfl
  rw [e1, e2]
  match h : flat1 3 1 a ++ [classS [114]] with
  | [] => simp at h
  | x :: l => rfl
theorem seqO_fine (ha : MadeOk a) : Fine (seqO a) := seq3_fine ⟨(fine_class (by decide)).1, by decide⟩ ha.small ⟨(fine_class (by decide)).1, by decide⟩
theorem seqO_small (ha : MadeOk a) : Small3 (seqO a) := by
  refine ⟨(seqO_fine ha).1, ?_⟩
  rw [seqO_eq ha.fine, size_mk]
  have := flat1_size 3 1 a
  have := ha.size
  simp only [sizeL, sizeL_append, class_size]; omega
theorem moreO_eq (ha : MadeOk a) : Nd.seq [seqO a, classS [0]] = mk 3 zero 0 0 ((classS [113] :: (flat1 3 1 a ++ [classS [114]])) ++ [classS [0]]) := by
  have hz : Fine (classS [0]) := fine_class (by decide)
  rw [seq2 (seqO_fine ha) hz]
  have e1 : flat1 3 1 (classS [0]) = [classS [0]] := rfl
  rw [e1, seqO_eq ha.fine]
  have e2 : flat1 3 1 (mk 3 zero 0 0 (classS [113] :: (flat1 3 1 a ++ [classS [114]]))) = classS [113] :: (flat1 3 1 a ++ [classS [114]]) := rfl
  rw [e2]
  match h : flat1 3 1 a ++ [classS [114]] with
  | [] => simp at h
  | x :: l => rfl
theorem moreO_fine (ha : MadeOk a) : Fine (Nd.seq [seqO a, classS [0]]) := seq2_fine (seqO_small ha) ⟨(fine_class (by decide)).1, by decide⟩
theorem cmpL_append (l : List Nd) (z : Nd) (h : ∀ x ∈ l, Ok2 x) : cmpL cmpN l (l ++ [z]) = -1 := by
  induction l with
  | nil => rfl
  | cons x l ih =>
    have h0 := (cmpN_ord.eq x x (h x (by simp)) (h x (by simp))).2 rfl
    simp only [List.cons_append, cmpL]
    rw [if_neg (fun q => q h0)]
    exact ih (fun y hy => h y (by simp [hy]))
theorem sok_flat1 {kd wo : Int} {t : Nd} (h : t.sok = true) : ∀ u ∈ flat1 kd wo t, u.sok = true := by
  intro u hu
  unfold flat1 at hu
  revert hu
  cases (t.kind == kd) <;> cases (t.kind == wo) <;> intro hu <;> simp at hu
  · subst hu; exact h
  · exact sok_subs h hu
  · exact sok_subs h hu
theorem o_more (ha : MadeOk a) (sa : a.sok = true) : Nd.compare (seqO a) (Nd.seq [seqO a, classS [0]]) = -1 := by
  rw [cmp_eq (seqO_fine ha) (moreO_fine ha), moreO_eq ha, seqO_eq ha.fine, cmpN_eq]
  show cmpL cmpN _ _ = -1
  refine cmpL_append _ _ (fun x hx => ?_)
  simp only [subs, List.mem_cons, List.mem_append, List.not_mem_nil, or_false] at hx
  rcases hx with rfl | hx | rfl
  · exact ⟨(fine_class (by decide)).1, by decide⟩
  · exact ⟨(two3.norm ha.nice x hx).1, sok_flat1 sa x hx⟩
  · exact ⟨(fine_class (by decide)).1, by decide⟩
theorem sok_seqO (ha : MadeOk a) (sa : a.sok = true) : (seqO a).sok = true := by
  rw [seqO_eq ha.fine]
  refine sok_mk sok_zero (fun x hx => ?_)
  simp only [subs, List.mem_cons, List.mem_append, List.not_mem_nil, or_false] at hx
  rcases hx with rfl | hx | rfl
  · decide
  · exact sok_flat1 sa x hx
  · decide
theorem sok_moreO (ha : MadeOk a) (sa : a.sok = true) : (Nd.seq [seqO a, classS [0]]).sok = true := by
  rw [moreO_eq ha]
  refine sok_mk sok_zero (fun x hx => ?_)
  simp only [subs, List.mem_append, List.mem_cons, List.not_mem_nil, or_false] at hx
  rcases hx with (rfl | hx | rfl) | rfl
  · decide
  · exact sok_flat1 sa x hx
  · decide
  · decide
theorem sok_times {mn mx : Int} (ha : MadeOk a) (sa : a.sok = true) (hb : 0 ≤ mn ∧ mn ≤ 16 ∧ (mx = -1 ∨ mn ≤ mx ∧ mx ≤ 16)) (h0 : mx ≠ 0) (h11 : ¬ (mn = 1 ∧ mx = 1)) : (Nd.times a mn mx).sok = true := by
  by_cases hk : a.kind = 1
  · rw [times_empty ha.fine hb (.inl hk)]; exact sok_empty
  · rw [times_rep ha.fine hb hk h0 h11]; exact sok_one sa
theorem o_times (ha : MadeOk a) (_sa : a.sok = true) : Nd.compare (Nd.times a 0 5) (Nd.times a 0 (-1)) ≤ 0 := by
  by_cases hk : a.kind = 1
  · rw [times_empty ha.fine (by omega) (.inl hk), times_empty ha.fine (by omega) (.inl hk)]; decide
  · rw [times_rep ha.fine (by omega) hk (by omega) (by omega), times_rep ha.fine (by omega) hk (by omega) (by omega),
      cmp_eq (rep_fine ha (by omega) hk (by omega) (by omega)) (rep_fine ha (by omega) hk (by omega) (by omega)), cmpN_eq]
    show orC (orC (cmpI 0 0) (cmpI 5 9223372036854775807)) (cmpL cmpN [a] [a]) ≤ 0
    have e : orC (cmpI 0 0) (cmpI 5 9223372036854775807) = -1 := by decide
    rw [e, orC_pos (by decide)]; decide
theorem group_fine (ha : MadeOk a) : Fine (mk 6 zero 0 0 [a]) := ⟨group_nice ha.nice, by have := ha.size; simp [size_mk, sizeL]; omega⟩
theorem o_group (ha : MadeOk a) (hb : MadeOk b) : Nd.compare (mk 6 zero 0 0 [a]) (mk 6 zero 0 0 [b]) = Nd.compare a b := by
  rw [cmp_eq (group_fine ha) (group_fine hb), cmp_eq ha.fine hb.fine, cmpN_eq]
  show cmpL cmpN [a] [b] = _
  simp only [cmpL]
  by_cases h : cmpN a b = 0
  · rw [if_neg (fun q => q h), h]
  · rw [if_pos h]
end
end Nd
end Go.Proofs.Ytaggidjijekpbaa
