/- The laws' arguments: slices of steps. -/
import Derived.Test.YtaggidjijekpbaaSlc
import Derived.Test.YtaggidjijekpbaaTreeM
namespace Go.Proofs.Ytaggidjijekpbaa
open Go.RowKit

abbrev cells3 (x : Int × Int × Int) : List Value := [.int .u8 x.1, .int .u8 x.2.1, .int .u8 x.2.2]
def SmallV (D : Nat → Prop) (w : World) (sl : Value) (xs : List (Int × Int × Int)) : Prop :=
  (∃ a cap, sl = .slice a xs.length cap ∧ (xs.length ≤ cap ∧ xs.length ≤ 9223372036854775807) ∧
    (xs = [] ∨ ∃ b o, a = some ⟨b, o, none⟩ ∧ D b ∧ ∀ (i : Nat) (x : Int × Int × Int), xs[i]? = some x → Reads w b (o + i * 3) (cells3 x))) ∧
  ∀ x ∈ xs, (0 ≤ x.1 ∧ x.1 ≤ 255) ∧ (0 ≤ x.2.1 ∧ x.2.1 ≤ 255) ∧ 0 ≤ x.2.2 ∧ x.2.2 ≤ 255
theorem SmallV.ext {D : Nat → Prop} {w w' : World} {sl : Value} {xs : List (Int × Int × Int)} (h : SmallV D w sl xs) (e : Ext w w') : SmallV D w' sl xs := by
  obtain ⟨⟨a, cap, h1, h2, h3⟩, h4⟩ := h
  refine ⟨⟨a, cap, h1, h2, ?_⟩, h4⟩
  rcases h3 with h | ⟨b, o, ha, hd, hr⟩
  · exact .inl h
  · exact .inr ⟨b, o, ha, hd, fun i x hx => (hr i x hx).ext e⟩
theorem SmallV.len {D : Nat → Prop} {w : World} {a : Option Addr} {n cap : Nat} {xs : List (Int × Int × Int)} (h : SmallV D w (.slice a n cap) xs) : n = xs.length ∧ xs.length ≤ cap ∧ xs.length ≤ 9223372036854775807 := by
  obtain ⟨⟨a', cap', he, hc, _⟩, _⟩ := h
  cases he
  exact ⟨rfl, hc⟩
theorem SmallV.at {D : Nat → Prop} {w : World} {a : Option Addr} {n cap : Nat} {xs : List (Int × Int × Int)} (h : SmallV D w (.slice a n cap) xs) {i : Nat} {x : Int × Int × Int} (hx : xs[i]? = some x) :
    ∃ b o, a = some ⟨b, o, none⟩ ∧ Reads w b (o + i * 3) (cells3 x) ∧ (0 ≤ x.1 ∧ x.1 ≤ 255) ∧ (0 ≤ x.2.1 ∧ x.2.1 ≤ 255) ∧ 0 ≤ x.2.2 ∧ x.2.2 ≤ 255 := by
  obtain ⟨⟨a', cap', he, hc, h⟩, hb⟩ := h
  cases he
  rcases h with h | ⟨b, o, ha, _, hr⟩
  · rw [h] at hx; simp at hx
  · exact ⟨b, o, ha, hr i _ hx, hb x (List.mem_of_getElem? hx)⟩
theorem SmallV.take {D : Nat → Prop} {w : World} {a : Option Addr} {n cap m : Nat} {xs : List (Int × Int × Int)} (h : SmallV D w (.slice a n cap) xs) (hm : m ≤ xs.length) : SmallV D w (.slice a m cap) (xs.take m) := by
  obtain ⟨⟨a', cap', he, hc, h⟩, hb⟩ := h
  cases he
  refine ⟨⟨a, cap, by rw [List.length_take, Nat.min_eq_left hm], by rw [List.length_take]; omega, ?_⟩, fun x hx => hb x (List.mem_of_mem_take hx)⟩
  rcases h with h | ⟨b, o, ha, hd, hr⟩
  · left; rw [h]; simp
  · right
    refine ⟨b, o, ha, hd, fun i l hl => hr i l ?_⟩
    rw [List.getElem?_take] at hl
    split at hl
    · exact hl
    · cases hl
theorem SmallV.take25 {D : Nat → Prop} {w : World} {a : Option Addr} {n cap : Nat} {xs : List (Int × Int × Int)} (h : SmallV D w (.slice a n cap) xs) : SmallV D w (.slice a (xs.take 25).length cap) (xs.take 25) := by
  have h1 := h.take (m := (xs.take 25).length) (by rw [List.length_take]; omega)
  have e : xs.take (xs.take 25).length = xs.take 25 := by
    rw [List.length_take]
    rcases Nat.le_total 25 xs.length with h | h
    · rw [Nat.min_eq_left h]
    · rw [Nat.min_eq_right h, List.take_of_length_le (Nat.le_refl _), List.take_of_length_le h]
  rw [e] at h1; exact h1
theorem min25 (xs : List (Int × Int × Int)) : minI (xs.length : Int) 25 = ((xs.take 25).length : Int) := by
  rw [List.length_take]; unfold minI; split <;> omega
theorem scells3 (x : Int × Int × Int) : (cells3 x).length = 3 := rfl
end Go.Proofs.Ytaggidjijekpbaa
