/- The post of a region that draws: an element of a slice of trees. -/
import Derived.Test.YtaggidjijekpbaaPosts
namespace Go.Proofs.Ytaggidjijekpbaa
open Go.RowKit
def pelem (D : Nat → Prop) (T : Nd) : Post := fun v w β => ∃ b o l, v = .pointer (some ⟨b, o, none⟩) ∧ Reads w b o l ∧ NodeL (Off D w β) w l T
theorem KW_pelem (D : Nat → Prop) (T : Nd) : KW (pelem D T) := fun _ _ _ _ _ e h ⟨b, o, l, h1, h2, h3⟩ => ⟨b, o, l, h1, h2.ext e, (h3.ext e).dom (Off.mono e h)⟩
/-- a new slice whose cells are known -/
def pslc (l : List Value) (n : Nat) (t : TypeId) : Post := fun v w _ => ∃ b, v = .slice (some ⟨b, 0, none⟩) n n ∧ Row w b l t
theorem KW_pslc (l : List Value) (n : Nat) (t : TypeId) : KW (pslc l n t) := fun _ _ _ _ _ e _ ⟨b, h1, h2⟩ => ⟨b, h1, h2.ext e⟩
end Go.Proofs.Ytaggidjijekpbaa
