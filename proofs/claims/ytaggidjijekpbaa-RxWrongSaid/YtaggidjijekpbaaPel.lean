/- The post of a region that draws: an element of a slice of trees. -/
import Derived.Test.YtaggidjijekpbaaPosts
namespace Go.Proofs.Ytaggidjijekpbaa
open Go.RowKit
def pelem (D : Nat → Prop) (T : Nd) : Post := fun v w β => ∃ b o l, v = .pointer (some ⟨b, o, none⟩) ∧ Reads w b o l ∧ NodeL (Off D w β) w l T
theorem KW_pelem (D : Nat → Prop) (T : Nd) : KW (pelem D T) := fun _ _ _ _ _ e h ⟨b, o, l, h1, h2, h3⟩ => ⟨b, o, l, h1, h2.ext e, (h3.ext e).dom (Off.mono e h)⟩
end Go.Proofs.Ytaggidjijekpbaa
