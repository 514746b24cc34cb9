/- Regexes as trees in plain Lean: what the program's functions on trees compute. No program in sight. -/
import Derived.IntWalk
namespace Go.Proofs.Ytaggidjijekpbaa

structure S4 where
  a : Int
  b : Int
  c : Int
  d : Int
  deriving DecidableEq

inductive Nd where
  | mk (k : Int) (s : S4) (mn mx : Int) (subs : List Nd)

def maxI (a b : Int) : Int := if a < b then b else a
def minI (a b : Int) : Int := if b < a then b else a
namespace Nd
def kind : Nd → Int | mk k _ _ _ _ => k
def set : Nd → S4 | mk _ s _ _ _ => s
def least : Nd → Int | mk _ _ m _ _ => m
def most : Nd → Int | mk _ _ _ m _ => m
def subs : Nd → List Nd | mk _ _ _ _ l => l

theorem ind {motive : Nd → Prop} (h : ∀ k s mn mx ts, (∀ t ∈ ts, motive t) → motive (mk k s mn mx ts)) : ∀ t, motive t := by
  intro t
  refine Nd.rec (motive_1 := motive) (motive_2 := fun l => ∀ t ∈ l, motive t) (fun k s mn mx ts ih => h k s mn mx ts ih) ?_ ?_ t
  · intro t ht; cases ht
  · intro x l hx hl t ht
    cases ht with
    | head => exact hx
    | tail _ h => exact hl t h

mutual
def size : Nd → Nat
  | mk _ _ _ _ ts => 1 + sizeL ts
def sizeL : List Nd → Nat
  | [] => 0
  | t :: ts => t.size + sizeL ts
end
mutual
/-- the nodes, each before those of its Subs -/
def pre : Nd → List Nd
  | mk k s mn mx ts => mk k s mn mx ts :: preL ts
def preL : List Nd → List Nd
  | [] => []
  | t :: ts => t.pre ++ preL ts
end
theorem size_pos (t : Nd) : 0 < t.size := by cases t; simp [size]; omega
theorem pre_length : ∀ t : Nd, t.pre.length = t.size := by
  intro t
  induction t using ind with
  | h k s mn mx ts ih =>
    have : (preL ts).length = sizeL ts := by
      induction ts with
      | nil => rfl
      | cons x l ihl => simp [preL, sizeL, ih x (by simp), ihl (fun t ht => ih t (by simp [ht]))]
    simp [pre, size, this]; omega
theorem preL_length (ts : List Nd) : (preL ts).length = sizeL ts := by
  induction ts with
  | nil => rfl
  | cons x l ihl => simp [preL, sizeL, pre_length, ihl]
theorem preL_append (a b : List Nd) : preL (a ++ b) = preL a ++ preL b := by
  induction a with
  | nil => rfl
  | cons x l ih => simp [preL, ih]
theorem sizeL_append (a b : List Nd) : sizeL (a ++ b) = sizeL a + sizeL b := by
  induction a with
  | nil => simp [sizeL]
  | cons x l ih => simp [sizeL, ih]; omega
theorem length_le_sizeL (ts : List Nd) : ts.length ≤ sizeL ts := by
  induction ts with
  | nil => simp
  | cons x l ih => have := size_pos x; simp [sizeL]; omega
theorem size_le_sizeL {t : Nd} {ts : List Nd} (h : t ∈ ts) : t.size ≤ sizeL ts := by
  induction ts with
  | nil => cases h
  | cons x l ih =>
    cases h with
    | head => simp [sizeL]
    | tail _ h => have := ih h; simp [sizeL]; omega

theorem size_subs (t : Nd) : t.size = 1 + sizeL t.subs := by cases t; rfl
def zero : S4 := ⟨0, 0, 0, 0⟩
def none : Nd := mk 0 zero 0 0 []
def empty : Nd := mk 1 zero 0 0 []
def light (t : Nd) : Bool := decide (t.size ≤ 10000)
def bounds (least most : Int) : Bool :=
  decide (0 ≤ least) && decide (least ≤ 16) && !(least == 1 && most == 1) && (most == -1 || (decide (1 ≤ most) && decide (most ≤ 16) && decide (least ≤ most)))
def has (t : Nd) (k : Int) : Bool := t.subs.any fun x => x.kind == k
def right (t : Nd) : Bool :=
  !((t.kind != 2 && t.set != zero) || (t.kind != 5 && (t.least != 0 || t.most != 0)) || (decide (t.kind < 3) && decide ((0 : Int) < t.subs.length))) &&
  (bif t.kind == 1 then true
   else bif t.kind == 2 then t.set != zero
   else bif t.kind == 3 then decide ((1 : Int) < t.subs.length) && !t.has 1 && !t.has 3
   else bif t.kind == 4 then decide ((1 : Int) < t.subs.length) && !t.has 4
   else bif t.kind == 5 then ((t.subs.length : Int) == 1) && bounds t.least t.most && !t.has 1
   else t.kind == 6 && ((t.subs.length : Int) == 1))
def clean (t : Nd) : Bool := t.light && t.pre.all right
mutual
def same : Nd → Nd → Bool
  | mk k s mn mx ts, mk k' s' mn' mx' ts' => k == k' && s == s' && mn == mn' && mx == mx' && sameL ts ts'
def sameL : List Nd → List Nd → Bool
  | [], [] => true
  | t :: ts, t' :: ts' => t.same t' && sameL ts ts'
  | _, _ => false
end
def tms (mn mx : Int) : Int := bif mx == -1 then maxI (maxI mn 0) 1 else maxI (maxI mn 0) mx
mutual
/-- positions, up to 10001 -/
def posn : Nd → Int
  | mk k _ mn mx ts => minI (bif k == 5 then ((bif k == 2 then 1 else 0) + posnL ts) * minI (tms mn mx) 10001 else (bif k == 2 then 1 else 0) + posnL ts) 10001
def posnL : List Nd → Int
  | [] => 0
  | t :: ts => t.posn + posnL ts
end
theorem posn_eq (t : Nd) : t.posn = minI (bif t.kind == 5 then ((bif t.kind == 2 then 1 else 0) + posnL t.subs) * minI (tms t.least t.most) 10001 else (bif t.kind == 2 then 1 else 0) + posnL t.subs) 10001 := by cases t; simp [posn, kind, subs, least, most]
theorem tms_pos (mn mx : Int) : 0 ≤ tms mn mx := by unfold tms; cases h : (mx == -1) <;> simp [maxI] <;> omega
theorem posn_bd : ∀ t : Nd, 0 ≤ t.posn ∧ t.posn ≤ 10001 := by
  intro t
  induction t using ind with
  | h k s mn mx ts ih =>
    have h0 : 0 ≤ posnL ts := by
      induction ts with
      | nil => simp [posnL]
      | cons x l ihl => have := ih x (by simp); have := ihl (fun t ht => ih t (by simp [ht])); simp [posnL]; omega
    have h1 := tms_pos mn mx
    have h2 : 0 ≤ minI (tms mn mx) 10001 := by unfold minI; split <;> omega
    have h3 : (0 : Int) ≤ (bif k == 2 then 1 else 0) := by cases (k == 2) <;> simp
    have h4 := Int.mul_nonneg (show (0 : Int) ≤ (bif k == 2 then 1 else 0) + posnL ts by omega) h2
    simp only [posn]
    generalize ((bif k == 2 then (1 : Int) else 0) + posnL ts) * minI (tms mn mx) 10001 = q at h4
    cases (k == 5) <;> simp only [cond_true, cond_false, minI] <;> split <;> omega
theorem posnL_bd (ts : List Nd) : 0 ≤ posnL ts ∧ posnL ts ≤ 10001 * ts.length := by
  induction ts with
  | nil => simp [posnL]
  | cons x l ih => have := posn_bd x; simp [posnL]; omega
theorem posnL_append (a b : List Nd) : posnL (a ++ b) = posnL a + posnL b := by
  induction a with
  | nil => simp [posnL]
  | cons x l ih => simp [posnL, ih]; omega
theorem posnL_succ {ts : List Nd} {k : Nat} {t : Nd} (h : ts[k]? = some t) : posnL (ts.take (k + 1)) = posnL (ts.take k) + t.posn := by
  rw [List.take_add_one, h, posnL_append]; simp [posnL]
def mostI (t : Nd) : Int := if t.most = -1 then 9223372036854775807 else t.most
def posns (t : Nd) : Int := if t.light then t.posn else 10001
def groups (t : Nd) : Int := if t.light then ((t.pre.filter fun x => x.kind == 6).length : Int) else 10001
def sizes (t : Nd) : Int := if t.light then (t.size : Int) else 10001
def check (t : Nd) : Int := if !t.clean then 80 else if t.sizes > 120 then 81 else if t.posns > 400 then 82 else if t.groups > 9 then 83 else 0
/-- the sets of all Classes, each once -/
def setsOf (t : Nd) : List S4 := if t.light then t.pre.foldl (fun l x => if x.kind == 2 && !l.contains x.set then l ++ [x.set] else l) [] else []

theorem same_iff : ∀ a b : Nd, a.same b = true ↔ a = b := by
  intro a
  induction a using ind with
  | h k s mn mx ts ih =>
    intro b
    obtain ⟨k', s', mn', mx', ts'⟩ := b
    have key : ∀ l' : List Nd, sameL ts l' = true ↔ ts = l' := by
      clear k s mn mx k' s' mn' mx' ts'
      induction ts with
      | nil => intro l'; cases l' <;> simp [sameL]
      | cons x l ihl =>
        intro l'
        cases l' with
        | nil => simp [sameL]
        | cons y l' => simp [sameL, ih x (by simp) y, ihl (fun t ht => ih t (by simp [ht])) l']
    simp [same, key]
    constructor
    · rintro ⟨⟨⟨⟨rfl, rfl⟩, rfl⟩, rfl⟩, rfl⟩; exact ⟨rfl, rfl, rfl, rfl, rfl⟩
    · rintro ⟨rfl, rfl, rfl, rfl, rfl⟩; exact ⟨⟨⟨⟨rfl, rfl⟩, rfl⟩, rfl⟩, rfl⟩
end Nd
end Go.Proofs.Ytaggidjijekpbaa
namespace Go.Proofs.Ytaggidjijekpbaa
def cmpI (a b : Int) : Int := if a < b then -1 else if b < a then 1 else 0
def idxI {α : Type} (p : α → Bool) : List α → Int
  | [] => -1
  | t :: ts => if p t then 0 else (match idxI p ts with | .ofNat n => (n : Int) + 1 | i => i)
theorem idxI_spec {α : Type} (p : α → Bool) (ts : List α) : (∀ t ∈ ts, p t = false) ∧ idxI p ts = -1 ∨ ∃ n : Nat, idxI p ts = n ∧ n < ts.length ∧ (∃ t, ts[n]? = some t ∧ p t = true) ∧ ∀ (m : Nat) (t : α), m < n → ts[m]? = some t → p t = false := by
  induction ts with
  | nil => left; simp [idxI]
  | cons x ts ih =>
    by_cases hx : p x = true
    · right; exact ⟨0, by simp [idxI, hx], by simp, ⟨x, by simp, hx⟩, fun m t hm => by omega⟩
    · have hx' : p x = false := by simpa using hx
      rcases ih with ⟨h1, h2⟩ | ⟨n, h1, h2, h3, h4⟩
      · left; refine ⟨?_, by simp [idxI, hx', h2]⟩
        intro t ht
        cases ht with
        | head => exact hx'
        | tail _ h => exact h1 t h
      · right; refine ⟨n + 1, by simp [idxI, hx', h1], by simp; omega, by simpa using h3, ?_⟩
        intro m t hm hmt
        cases m with
        | zero => simp at hmt; subst hmt; exact hx'
        | succ m => exact h4 m t (by omega) (by simpa using hmt)
theorem idxI_any {α : Type} (p : α → Bool) (ts : List α) : decide (0 ≤ idxI p ts) = ts.any p := by
  rcases idxI_spec p ts with ⟨h1, h2⟩ | ⟨n, h1, h2, ⟨t, h3, h4⟩, _⟩
  · rw [h2]; rw [Bool.eq_iff_iff]; simp; intro x hx; simpa using h1 x hx
  · rw [h1]; rw [Bool.eq_iff_iff]; simp; exact ⟨t, List.mem_of_getElem? h3, h4⟩
/-- the place of the first, found by going through them -/
theorem idxI_at {α : Type} {p : α → Bool} {ts : List α} {n : Nat} {t : α} (ht : ts[n]? = some t) (hp : p t = true) (h : ∀ (m : Nat) (t : α), m < n → ts[m]? = some t → p t = false) : idxI p ts = n := by
  rcases idxI_spec p ts with ⟨h1, _⟩ | ⟨k, h1, _, ⟨u, h3, h4⟩, h5⟩
  · rw [h1 t (List.mem_of_getElem? ht)] at hp; cases hp
  · rcases Nat.lt_trichotomy k n with hk | rfl | hk
    · rw [h k u hk h3] at h4; cases h4
    · exact h1
    · rw [h5 n t hk ht] at hp; cases hp
theorem idxI_none {α : Type} {p : α → Bool} {ts : List α} (h : ∀ (m : Nat) (t : α), m < ts.length → ts[m]? = some t → p t = false) : idxI p ts = -1 := by
  rcases idxI_spec p ts with ⟨_, h2⟩ | ⟨k, h1, h2, ⟨u, h3, h4⟩, _⟩
  · exact h2
  · rw [h k u h2 h3] at h4; cases h4
theorem minmax_bd (a b : Int) : 0 ≤ minI (maxI (maxI a 0) b) 10001 ∧ minI (maxI (maxI a 0) b) 10001 ≤ 10001 := by
  unfold minI maxI; (repeat' split) <;> omega
theorem mul_fits {x y : Int} (h0 : 0 ≤ x) (h1 : x ≤ 900000000000000) (h2 : 0 ≤ y) (h3 : y ≤ 10001) : IntKind.i64.wrap (x * y) = x * y := by
  have a := Int.mul_nonneg h0 h2
  have b := Int.mul_le_mul h1 h3 h2 (by omega)
  exact IntWalk.i64_in _ (by omega)
end Go.Proofs.Ytaggidjijekpbaa
