/- The plain law of RxWrong: a tree with a wrong node in it is not clean, and nothing is put together with it. No program in sight. -/
import Derived.Test.YtaggidjijekpbaaLawN
namespace Go.Proofs.Ytaggidjijekpbaa
namespace Nd
theorem not_nice {t : Nd} (h : t.right = false) : t.nice = false := by rw [nice_eq, h]; rfl
theorem not_nice_sub {t u : Nd} (hu : u ∈ t.subs) (h : u.nice = false) : t.nice = false := by
  rw [Bool.eq_false_iff]; intro hn
  rw [nice_subs hn hu] at h; cases h
theorem not_clean {t : Nd} (h : t.nice = false) : t.clean = false := by
  rw [Bool.eq_false_iff]; intro hn
  rw [((clean_iff t).1 hn).2] at h; cases h
abbrev xc : Nd := classS [97]
def bads (b : Nd) (w : Int) : List Nd :=
  [mk 0 zero 0 0 [], mk (7 + w.tmod 200) zero 0 0 [], mk 3 zero 0 0 [xc], mk 4 zero 0 0 [b], mk 3 zero 0 0 [xc, mk 1 zero 0 0 []], mk 3 zero 0 0 [xc, mk 3 zero 0 0 [xc, xc]],
   mk 4 zero 0 0 [xc, mk 4 zero 0 0 [xc, xc]], mk 5 zero 1 1 [xc], mk 5 zero 2 1 [xc], mk 5 zero 0 1 [mk 1 zero 0 0 []], mk 2 zero 0 0 [], mk 6 zero 0 0 [xc, xc]]
theorem right_none : (mk 0 zero 0 0 []).right = false := by decide
theorem right_big (k : Int) (h : 7 ≤ k) : (mk k zero 0 0 []).right = false := by
  rw [Bool.eq_false_iff]; intro hr
  have := right_kind hr
  simp only [kind] at this; omega
theorem right_one {kd : Int} (h : kd = 3 ∨ kd = 4) (t : Nd) : (mk kd zero 0 0 [t]).right = false := by
  rw [Bool.eq_false_iff]; intro hr
  rcases h with rfl | rfl
  · have := (right_cat hr rfl).1; simp [subs] at this
  · have := (right_alt hr rfl).1; simp [subs] at this
theorem bads_not {b : Nd} {w : Int} (hw : 0 ≤ w) : ∀ t ∈ bads b w, t.nice = false := by
  have hm := mod_bd (x := w) (n := 200) hw (by decide)
  intro t ht
  simp only [bads, List.mem_cons, List.not_mem_nil, or_false] at ht
  rcases ht with rfl | rfl | rfl | rfl | rfl | rfl | rfl | rfl | rfl | rfl | rfl | rfl
  · exact not_nice right_none
  · exact not_nice (right_big _ (by omega))
  · exact not_nice (right_one (.inl rfl) _)
  · exact not_nice (right_one (.inr rfl) _)
  · exact not_nice (by decide)
  · exact not_nice (by decide)
  · exact not_nice (by decide)
  · exact not_nice (by decide)
  · exact not_nice (by decide)
  · exact not_nice (by decide)
  · exact not_nice (by decide)
  · exact not_nice (by decide)
theorem bads_size {b : Nd} {w : Int} (hb : b.size ≤ 50) : ∀ t ∈ bads b w, t.size ≤ 60 := by
  intro t ht
  simp only [bads, List.mem_cons, List.not_mem_nil, or_false] at ht
  rcases ht with rfl | rfl | rfl | rfl | rfl | rfl | rfl | rfl | rfl | rfl | rfl | rfl <;> simp [size_mk, sizeL, classS] <;> omega
/-- the tree with the wrong node in it -/
abbrev wrongT (a t b : Nd) : Nd := mk 3 zero 0 0 [mk 6 zero 0 0 [a], mk 6 zero 0 0 [t], mk 6 zero 0 0 [b]]
theorem group_not {t : Nd} (h : t.nice = false) : (mk 6 zero 0 0 [t]).nice = false := not_nice_sub (u := t) (by simp [subs]) h
theorem wrong_not {a t b : Nd} (h : t.nice = false) : (wrongT a t b).clean = false := not_clean (not_nice_sub (u := mk 6 zero 0 0 [t]) (by simp [subs]) (group_not h))
theorem wrong_check {a t b : Nd} (h : t.nice = false) : (wrongT a t b).check = 80 := by unfold Nd.check; rw [wrong_not h]; rfl
theorem wrong_light {a t b : Nd} (ha : a.size ≤ 50) (ht : t.size ≤ 60) (hb : b.size ≤ 50) : (wrongT a t b).light = true := by
  unfold Nd.light; exact decide_eq_true (by simp only [wrongT, size_mk, sizeL]; omega)
theorem wrong_good {a t b : Nd} (h : t.nice = false) : (wrongT a t b).good = false := by
  unfold Nd.good; rw [wrong_not h]; rfl
theorem checked_none {t : Nd} (h : t.clean = false) : t.checked = Nd.none := by unfold Nd.checked; rw [h]; rfl
theorem times_wrong {t : Nd} (mn mx : Int) (h : t.good = false) : Nd.times t mn mx = Nd.none := by
  unfold Nd.times; dsimp only; rw [h]; rfl
theorem capture_wrong {t : Nd} (h : t.nice = false) : Nd.capture t = Nd.none := checked_none (not_clean (group_not h))
theorem wrong_capture {a t b : Nd} (h : t.nice = false) : Nd.capture (wrongT a t b) = Nd.none := capture_wrong (not_nice_sub (u := mk 6 zero 0 0 [t]) (by simp [subs]) (group_not h))
theorem bad_at {b : Nd} {w : Int} (hw : 0 ≤ w) : ∃ t, (bads b w)[(w.tmod 12).toNat]? = some t := by
  have hm := mod_bd (x := w) (n := 12) hw (by decide)
  exact ⟨_, List.getElem?_eq_getElem (show (w.tmod 12).toNat < 12 by omega)⟩
end Nd
end Go.Proofs.Ytaggidjijekpbaa
