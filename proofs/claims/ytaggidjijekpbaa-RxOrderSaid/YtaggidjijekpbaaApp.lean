/- append onto a slice of nodes that the call owns. -/
import Derived.Test.YtaggidjijekpbaaPosts
import Derived.Test.YtaggidjijekpbaaTreeB
import Derived.Maps.AppendAt
import Derived.Laws.OwnMore
import Derived.Lib.LazyBuf
namespace Go.Proofs.Ytaggidjijekpbaa
open Go.RowKit

def smallB (P : Program) (e : TypeId) : Bool := match P.info? e with | some q => Nat.ble q.bytes 128 && Nat.blt 0 q.bytes | none => false

theorem NodeL.one {D : Nat → Prop} {w : World} {l : List Value} {T : Nd} (h : NodeL D w l T) : ∀ u ∈ l, u.oneCell' = true := by
  cases h with
  | mk k s mn mx sl ls ts hsl hlen _ =>
    obtain ⟨a, cap, rfl, _⟩ := hsl
    intro u hu
    simp only [ncells, List.mem_cons, List.not_mem_nil, or_false] at hu
    rcases hu with rfl | rfl | rfl | rfl | rfl | rfl | rfl | rfl <;> rfl

/-- cells of several nodes, one behind the other -/
def RowsL (D : Nat → Prop) (w : World) (ls : List (List Value)) (ts : List Nd) : Prop :=
  ls.length = ts.length ∧ ∀ (i : Nat) (l : List Value) (t : Nd), ls[i]? = some l → ts[i]? = some t → NodeL D w l t
theorem RowsL.step {D D' : Nat → Prop} {w w' : World} {ls ts} (h : RowsL D w ls ts) (hs : ∀ l t, NodeL D w l t → NodeL D' w' l t) : RowsL D' w' ls ts :=
  ⟨h.1, fun i l t h1 h2 => hs l t (h.2 i l t h1 h2)⟩
theorem RowsL.eight {D : Nat → Prop} {w : World} {ls ts} (h : RowsL D w ls ts) : ∀ l ∈ ls, l.length = 8 := by
  intro l hl
  obtain ⟨i, hi, rfl⟩ := List.mem_iff_getElem.1 hl
  have : i < ts.length := by rw [← h.1]; exact hi
  exact (h.2 i _ ts[i] (by simp [hi]) (by simp [this])).length
theorem RowsL.one {D : Nat → Prop} {w : World} {ls ts} (h : RowsL D w ls ts) : ∀ u ∈ ls.flatten, u.oneCell' = true := by
  intro u hu
  obtain ⟨l, hl, hu⟩ := List.mem_flatten.1 hu
  obtain ⟨i, hi, rfl⟩ := List.mem_iff_getElem.1 hl
  have : i < ts.length := by rw [← h.1]; exact hi
  exact (h.2 i _ ts[i] (by simp [hi]) (by simp [this])).one u hu
theorem RowsL.append {D : Nat → Prop} {w : World} {ls ls' ts ts'} (h : RowsL D w ls ts) (h' : RowsL D w ls' ts') : RowsL D w (ls ++ ls') (ts ++ ts') := by
  refine ⟨by simp [h.1, h'.1], fun i l t h1 h2 => ?_⟩
  rcases Nat.lt_or_ge i ls.length with hi | hi
  · rw [List.getElem?_append_left hi] at h1
    rw [List.getElem?_append_left (by rw [← h.1]; exact hi)] at h2
    exact h.2 i l t h1 h2
  · rw [List.getElem?_append_right hi] at h1
    rw [List.getElem?_append_right (by rw [← h.1]; exact hi), ← h.1] at h2
    exact h'.2 _ l t h1 h2
theorem RowsL.nil (D : Nat → Prop) (w : World) : RowsL D w [] [] := ⟨rfl, fun i l t h => by simp at h⟩
theorem RowsL.single {D : Nat → Prop} {w : World} {l t} (h : NodeL D w l t) : RowsL D w [l] [t] := by
  refine ⟨rfl, fun i l' t' h1 h2 => ?_⟩
  cases i with
  | zero => simp at h1 h2; subst h1; subst h2; exact h
  | succ i => simp at h1
theorem len_flatten {n : Nat} : ∀ (ls : List (List Value)), (∀ l ∈ ls, l.length = n) → ls.flatten.length = ls.length * n := by
  intro ls
  induction ls with
  | nil => intro _; simp
  | cons x l ih => intro h; simp only [List.flatten_cons, List.length_append, List.length_cons, h x (by simp), ih (fun q hq => h q (by simp [hq])), Nat.add_mul, Nat.one_mul]; omega
theorem flatten_get {n : Nat} {l : List Value} {j : Nat} {v : Value} (hj : l[j]? = some v) : ∀ (ls : List (List Value)), (∀ l ∈ ls, l.length = n) → ∀ i, ls[i]? = some l → ls.flatten[i * n + j]? = some v := by
  intro ls
  induction ls with
  | nil => intro _ i h; simp at h
  | cons x ls ih =>
    intro h8 i hi
    have hx := h8 x (by simp)
    simp only [List.flatten_cons]
    cases i with
    | zero =>
      simp at hi; subst hi
      have : j < x.length := (List.getElem?_eq_some_iff.1 hj).1
      rw [List.getElem?_append_left (by omega)]; simpa using hj
    | succ i =>
      rw [List.getElem?_append_right (by rw [hx, Nat.add_mul]; omega)]
      have : (i + 1) * n + j - x.length = i * n + j := by rw [Nat.add_mul]; omega
      rw [this]
      exact ih (fun l hl => h8 l (by simp [hl])) i (by simpa using hi)
theorem NodesV.rows {D : Nat → Prop} {w : World} {a : Option Addr} {n cap : Nat} {ts : List Nd} (h : NodesV D w (.slice a n cap) ts) : ∃ ls, RowsL D w ls ts ∧ n = ts.length ∧ (ts = [] ∨ ∃ b o, a = some ⟨b, o, none⟩ ∧ D b ∧ Reads w b o ls.flatten) := by
  obtain ⟨ls, ⟨a', cap', he, _, hn, h⟩, h2, h3⟩ := h
  cases he
  refine ⟨ls, ⟨h2, h3⟩, h2, ?_⟩
  rcases h with h | ⟨b, o, ha, hb, hr⟩
  · subst h; left; exact List.eq_nil_of_length_eq_zero (by simpa using h2.symm)
  · right
    refine ⟨b, o, ha, hb, fun j v hj => ?_⟩
    have hlt : j < ls.length * 8 := by rw [← len_flatten ls hn]; exact (List.getElem?_eq_some_iff.1 hj).1
    have hq : j / 8 < ls.length := by omega
    have hl8 := hn (ls[j / 8]) (List.getElem_mem hq)
    have hm : j % 8 < (ls[j / 8]).length := by omega
    have h1 := flatten_get (l := ls[j / 8]) (j := j % 8) (v := (ls[j / 8])[j % 8]) (List.getElem?_eq_getElem hm) ls hn (j / 8) (List.getElem?_eq_getElem hq)
    have e : j / 8 * 8 + j % 8 = j := by omega
    rw [e, hj] at h1
    cases h1
    have := hr (j / 8) _ (List.getElem?_eq_getElem hq) (j % 8) _ (List.getElem?_eq_getElem hm)
    have e2 : o + j / 8 * 8 + j % 8 = o + j := by omega
    rw [e2] at this; exact this

/-- a slice of nodes in a row of the call's own -/
def OwnV (e : TypeId) (base : Nat) (D : Nat → Prop) (w : World) (v : Value) (ts : List Nd) : Prop :=
  ∃ ls, w.ownsRow base e 8 v ts.length ls.flatten ∧ RowsL (fun k => D k ∧ k < w.heap.size ∧ v.ownBlock ≠ some k) w ls ts ∧ ts.length ≤ 1000000000
theorem OwnV.nil (e : TypeId) (base : Nat) (D : Nat → Prop) (w : World) : OwnV e base D w (.slice none 0 0) [] := ⟨[], ⟨rfl, .inl ⟨rfl, rfl⟩⟩, RowsL.nil _ _, by simp⟩
theorem OwnV.cases {e : TypeId} {base : Nat} {D : Nat → Prop} {w : World} {v : Value} {ts : List Nd} (h : OwnV e base D w v ts) : ∃ a cap, v = .slice a ts.length cap ∧ (a = none → ts = [] ∧ cap = 0) ∧ ∀ x, a = some x → base ≤ x.block ∧ x.block < w.heap.size ∧ v.ownBlock = some x.block := by
  obtain ⟨ls, ⟨_, h⟩, _, _⟩ := h
  rcases h with ⟨rfl, h0⟩ | ⟨g, cap, cur, rfl, hg, hrow, _⟩
  · have : ts = [] := List.eq_nil_of_length_eq_zero h0
    subst this
    exact ⟨none, 0, rfl, fun _ => ⟨rfl, rfl⟩, fun x h => by cases h⟩
  · exact ⟨_, cap, rfl, (fun h => by cases h), (fun x h => by cases h; exact ⟨hg, (Array.getElem?_eq_some_iff.1 hrow).1, rfl⟩)⟩
theorem OwnV.nodes {e : TypeId} {base : Nat} {D : Nat → Prop} {w : World} {v : Value} {ts : List Nd} (h : OwnV e base D w v ts) : NodesV (fun k => D k ∨ (base ≤ k ∧ v.ownBlock = some k)) w v ts := by
  obtain ⟨ls, ⟨hl, h⟩, h2, h3⟩ := h
  rcases h with ⟨rfl, h0⟩ | ⟨g, cap, cur, rfl, hg, hrow, hn, hcm, hcs, htake⟩
  · have : ts = [] := List.eq_nil_of_length_eq_zero h0
    subst this
    exact NodesV.nil _ _ _ _
  · refine NodesV.row (ls := ls) (more := cur.toList.drop (ts.length * 8)) (ty := e) ?_ (.inr ⟨hg, rfl⟩) h2.1 (by have := h2.1; omega) h2.eight (fun i l t h1 h' => (h2.2 i l t h1 h').dom (fun k hk => .inl hk.1))
    simp only [Row]
    rw [hrow, ← htake, List.take_append_drop]
theorem OwnV.dom {e : TypeId} {base : Nat} {D D' : Nat → Prop} {w : World} {v : Value} {ts : List Nd} (h : OwnV e base D w v ts) (hd : ∀ k, D k → k < w.heap.size → v.ownBlock ≠ some k → D' k) : OwnV e base D' w v ts := by
  obtain ⟨ls, h1, h2, h3⟩ := h
  exact ⟨ls, h1, h2.step (fun l t hn => hn.dom (fun k hk => ⟨hd k hk.1 hk.2.1 hk.2.2, hk.2⟩)), h3⟩
theorem OwnV.to {e : TypeId} {base : Nat} {D : Nat → Prop} {w w' : World} {v : Value} {ts : List Nd} (h : OwnV e base D w v ts) (hsz : w.heap.size ≤ w'.heap.size) (hb : ∀ k, k < w.heap.size → (D k ∨ v.ownBlock = some k) → w'.heap[k]? = w.heap[k]?) : OwnV e base D w' v ts := by
  obtain ⟨ls, ⟨hl, h⟩, h2, h3⟩ := h
  refine ⟨ls, ⟨hl, ?_⟩, h2.step (fun l t hn => hn.step (fun k hk => ⟨hk.1, by omega, hk.2.2⟩) (fun b o l hk hr j u hj => ?_)), h3⟩
  · rcases h with h | ⟨g, cap, cur, rfl, hg, hrow, h⟩
    · exact .inl h
    · exact .inr ⟨g, cap, cur, rfl, hg, by rw [hb g (Array.getElem?_eq_some_iff.1 hrow).1 (.inr rfl)]; exact hrow, h⟩
  · have := hr j u hj
    rw [← this]
    exact World.cell?_of_block (hb b hk.2.1 (.inl hk.1))
theorem OwnV.ext {e : TypeId} {base : Nat} {D : Nat → Prop} {w w' : World} {v : Value} {ts : List Nd} (h : OwnV e base D w v ts) (E : Ext w w') : OwnV e base D w' v ts := h.to E.size (fun k hk _ => E.block k hk)
theorem OwnV.but {e : TypeId} {base : Nat} {D : Nat → Prop} {w w' : World} {v : Value} {ts : List Nd} {b : Nat} (h : OwnV e base D w v ts) (E : But b w w') (h1 : ¬ D b) (h2 : v.ownBlock ≠ some b) : OwnV e base D w' v ts :=
  h.to (by rw [E.size]; exact Nat.le_refl _) (fun k _ hk => E.block k (fun he => by subst he; rcases hk with hk | hk; exact h1 hk; exact h2 hk))

theorem OwnV.own {e : TypeId} {base : Nat} {D : Nat → Prop} {w : World} {v : Value} {ts : List Nd} (h : OwnV e base D w v ts) : ∀ k, v.ownBlock = some k → base ≤ k ∧ k < w.heap.size := by
  obtain ⟨a, cap, rfl, h1, h2⟩ := h.cases
  intro k hk
  cases a with
  | none => simp [Value.ownBlock] at hk
  | some x => simp only [Value.ownBlock, Option.some.injEq] at hk; subst hk; exact ⟨(h2 x rfl).1, (h2 x rfl).2.1⟩
theorem OwnV.le {e : TypeId} {base : Nat} {D : Nat → Prop} {w : World} {v : Value} {ts : List Nd} (h : OwnV e base D w v ts) : ts.length ≤ 1000000000 := by
  obtain ⟨_, _, _, h⟩ := h; exact h

/-- the same, each element with blocks of its own -/
def MixV (e : TypeId) (base : Nat) (DD : Nat → Nat → Prop) (w : World) (v : Value) (ts : List Nd) : Prop :=
  ∃ ls : List (List Value), w.ownsRow base e 8 v ts.length ls.flatten ∧ ls.length = ts.length ∧ (∀ (i : Nat) (l : List Value) (t : Nd), ls[i]? = some l → ts[i]? = some t → NodeL (fun k => DD i k ∧ k < w.heap.size ∧ v.ownBlock ≠ some k) w l t) ∧ ts.length ≤ 1000000000
theorem OwnV.mix {e : TypeId} {base : Nat} {D : Nat → Prop} {w : World} {v : Value} {ts : List Nd} (h : OwnV e base D w v ts) : MixV e base (fun _ => D) w v ts := by
  obtain ⟨ls, h1, h2, h3⟩ := h; exact ⟨ls, h1, h2.1, h2.2, h3⟩
theorem MixV.own {e : TypeId} {base : Nat} {DD : Nat → Nat → Prop} {D : Nat → Prop} {w : World} {v : Value} {ts : List Nd} (h : MixV e base DD w v ts) (hd : ∀ i k, i < ts.length → DD i k → k < w.heap.size → v.ownBlock ≠ some k → D k) : OwnV e base D w v ts := by
  obtain ⟨ls, h1, h2, h3, h4⟩ := h
  exact ⟨ls, h1, ⟨h2, fun i l t hl ht => (h3 i l t hl ht).dom (fun k hk => ⟨hd i k (List.getElem?_eq_some_iff.1 ht).1 hk.1 hk.2.1 hk.2.2, hk.2⟩)⟩, h4⟩
theorem MixV.dom {e : TypeId} {base : Nat} {DD DD' : Nat → Nat → Prop} {w : World} {v : Value} {ts : List Nd} (h : MixV e base DD w v ts) (hd : ∀ i k, i < ts.length → DD i k → k < w.heap.size → v.ownBlock ≠ some k → DD' i k) : MixV e base DD' w v ts := by
  obtain ⟨ls, h1, h2, h3, h4⟩ := h
  exact ⟨ls, h1, h2, fun i l t hl ht => (h3 i l t hl ht).dom (fun k hk => ⟨hd i k (List.getElem?_eq_some_iff.1 ht).1 hk.1 hk.2.1 hk.2.2, hk.2⟩), h4⟩
theorem MixV.at {e : TypeId} {base : Nat} {DD : Nat → Nat → Prop} {w : World} {a : Option Addr} {n cap : Nat} {ts : List Nd} (h : MixV e base DD w (.slice a n cap) ts) {i : Nat} {t : Nd} (ht : ts[i]? = some t) :
    ∃ g l, a = some ⟨g, 0, none⟩ ∧ base ≤ g ∧ g < w.heap.size ∧ Reads w g (0 + i * 8) l ∧ NodeL (fun k => (DD i k ∧ k ≠ g) ∧ k < w.heap.size) w l t := by
  obtain ⟨ls, ⟨hl, h⟩, h2, h3, h4⟩ := h
  have hi : i < ls.length := by rw [h2]; exact (List.getElem?_eq_some_iff.1 ht).1
  rcases h with ⟨he, h0⟩ | ⟨g, cap', cur, he, hg, hrow, hn, hcm, hcs, htake⟩
  · rw [h2, h0] at hi; exact absurd hi (Nat.not_lt_zero _)
  · cases he
    have hli : ls[i]? = some ls[i] := by simp [hi]
    have hN := h3 i _ t hli ht
    refine ⟨g, ls[i], rfl, hg, (Array.getElem?_eq_some_iff.1 hrow).1, ?_, hN.dom (fun k hk => ⟨⟨hk.1, fun hh => hk.2.2 (by simp [Value.ownBlock, hh])⟩, hk.2.1⟩)⟩
    intro j u hj
    have h8 : ∀ l ∈ ls, l.length = 8 := by
      intro l hl
      obtain ⟨q, hq, rfl⟩ := List.mem_iff_getElem.1 hl
      exact (h3 q _ (ts[q]'(by omega)) (by simp [hq]) (by simp)).length
    have hf := flatten_get hj ls h8 i hli
    rw [← htake, List.getElem?_take] at hf
    split at hf
    · rw [cell_of_row w g _ cur e (0, 0) hrow]; simpa using hf
    · cases hf
theorem MixV.ext {e : TypeId} {base : Nat} {DD : Nat → Nat → Prop} {w w' : World} {v : Value} {ts : List Nd} (h : MixV e base DD w v ts) (E : Ext w w') : MixV e base DD w' v ts := by
  obtain ⟨ls, ⟨hl, h⟩, h2, h3, h4⟩ := h
  refine ⟨ls, ⟨hl, ?_⟩, h2, fun i l t h1 ht => (h3 i l t h1 ht).step (fun k hk => ⟨hk.1, Nat.lt_of_lt_of_le hk.2.1 E.size, hk.2.2⟩) (fun b o l hk hr => hr.ext E), h4⟩
  rcases h with h | ⟨g, cap, cur, rfl, hg, hrow, h⟩
  · exact .inl h
  · exact .inr ⟨g, cap, cur, rfl, hg, by rw [E.block g (Array.getElem?_eq_some_iff.1 hrow).1]; exact hrow, h⟩
theorem MixV.but {e : TypeId} {base : Nat} {DD : Nat → Nat → Prop} {w w' : World} {v : Value} {ts : List Nd} {b : Nat} (h : MixV e base DD w v ts) (E : But b w w') (h1 : ∀ i, i < ts.length → ¬ (DD i b ∧ b < w.heap.size)) (hb : v.ownBlock ≠ some b) : MixV e base DD w' v ts := by
  obtain ⟨ls, ⟨hl, h⟩, h2, h3, h4⟩ := h
  refine ⟨ls, ⟨hl, ?_⟩, h2, fun i l t h1' ht => (h3 i l t h1' ht).step (fun k hk => ⟨hk.1, by rw [E.size]; exact hk.2.1, hk.2.2⟩) (fun c o l hk hr => E.reads hr (fun he => h1 i (List.getElem?_eq_some_iff.1 ht).1 (by subst he; exact ⟨hk.1, hk.2.1⟩))), h4⟩
  rcases h with h | ⟨g, cap, cur, rfl, hg, hrow, h⟩
  · exact .inl h
  · exact .inr ⟨g, cap, cur, rfl, hg, by rw [E.block g (fun he => hb (by simp [Value.ownBlock, he]))]; exact hrow, h⟩
theorem MixV.block {e : TypeId} {base : Nat} {DD : Nat → Nat → Prop} {w : World} {v : Value} {ts : List Nd} (h : MixV e base DD w v ts) : ∀ k, v.ownBlock = some k → base ≤ k ∧ k < w.heap.size := by
  obtain ⟨ls, ⟨hl, h⟩, h2, h3, h4⟩ := h
  intro k hk
  rcases h with ⟨rfl, _⟩ | ⟨g, cap, cur, rfl, hg, hrow, _⟩
  · simp [Value.ownBlock] at hk
  · simp only [Value.ownBlock, Option.some.injEq] at hk; subst hk; exact ⟨hg, (Array.getElem?_eq_some_iff.1 hrow).1⟩

theorem RowsL.cons {D1 D2 : Nat → Prop} {w : World} {l : List Value} {t : Nd} {ls ts} (h : NodeL D1 w l t) (hs : RowsL D2 w ls ts) : RowsL (fun k => D1 k ∨ D2 k) w (l :: ls) (t :: ts) := by
  refine ⟨by simp [hs.1], fun i l' t' h1 h2 => ?_⟩
  cases i with
  | zero => simp at h1 h2; subst h1; subst h2; exact h.dom (fun k hk => .inl hk)
  | succ i => exact (hs.2 i l' t' (by simpa using h1) (by simpa using h2)).dom (fun k hk => .inr hk)
theorem RowsL.nil' (w : World) : RowsL (fun _ => False) w [] [] := RowsL.nil _ _
theorem NodesV.lit {D : Nat → Prop} {w : World} {b n : Nat} {cells : List Value} {ls : List (List Value)} {ts : List Nd} {ty : TypeId} (hR : Row w b cells ty) (h : RowsL D w ls ts) (hc : cells = ls.flatten) (hn : ts.length = n) (hle : n ≤ 1000) : NodesV (fun k => D k ∨ k = b) w (.slice (some ⟨b, 0, none⟩) n n) ts := by
  subst hn; subst hc
  exact NodesV.row (ls := ls) (more := []) (by simpa using hR) (.inr rfl) h.1 (by have := h.1; omega) h.eight (fun i l t h1 h2 => (h.2 i l t h1 h2).dom (fun k hk => .inl hk))
theorem grown_row {w w' : World} {row : Option Nat} {b : Nat} {l : List Value} {t : TypeId} (h : w.grownBy w' row) (hR : Row w b l t) (hne : row ≠ some b) : Row w' b l t :=
  (h.block b hR.lt (fun hh => hne hh.symm)).trans hR
theorem NodeL.grown {D : Nat → Prop} {w w' : World} {row : Option Nat} {l : List Value} {T : Nd} (hn : NodeL D w l T) (h : w.grownBy w' row) (hd : ∀ k, D k → k < w.heap.size → row ≠ some k) : NodeL D w' l T :=
  hn.lt.step (fun k hk => hk.1) (fun b o l hk hr j u hj => by rw [← hr j u hj]; exact World.cell?_of_block (h.block b hk.2 (fun hh => hd b hk.1 hk.2 hh.symm)))
theorem NodesV.grown {D : Nat → Prop} {w w' : World} {row : Option Nat} {sl : Value} {ts : List Nd} (hn : NodesV D w sl ts) (h : w.grownBy w' row) (hd : ∀ k, D k → k < w.heap.size → row ≠ some k) : NodesV D w' sl ts :=
  hn.lt.step (fun k hk => hk.1) (fun b o l hk hr j u hj => by rw [← hr j u hj]; exact World.cell?_of_block (h.block b hk.2 (fun hh => hd b hk.1 hk.2 hh.symm)))
theorem NodesV.none {D : Nat → Prop} {w : World} {n cap : Nat} {ts : List Nd} (h : NodesV D w (.slice none n cap) ts) : ts = [] := by
  obtain ⟨ls, _, _, h⟩ := h.rows
  rcases h with h | ⟨b, o, h, _⟩
  · exact h
  · cases h
/-- what a call left, away from the boxes that lay -/
theorem NodeL.off0 {D : Nat → Prop} {w0 w w' : World} {β : Boxes} {l : List Value} {T : Nd} (h : NodeL (fun k => w.heap.size ≤ k) w' l T) (hb : BInv w0 w β) (hD : ∀ k, w.heap.size ≤ k → D k) : NodeL (Off D w' β) w' l T :=
  h.lt.dom (fun k hk => ⟨hD k hk.1, fun x hx => by have := hb.hi x hx; have := hk.1; omega, hk.2⟩)
theorem MixV.base {e : TypeId} {base base' : Nat} {DD : Nat → Nat → Prop} {w : World} {v : Value} {ts : List Nd} (h : MixV e base DD w v ts) (hb : base' ≤ base) : MixV e base' DD w v ts := by
  obtain ⟨ls, ⟨hl, h⟩, h2⟩ := h
  refine ⟨ls, ⟨hl, ?_⟩, h2⟩
  rcases h with h | ⟨g, cap, cur, he, hg, h⟩
  · exact .inl h
  · exact .inr ⟨g, cap, cur, he, Nat.le_trans hb hg, h⟩
theorem set_self {ts : List Nd} {i : Nat} {t : Nd} (h : ts[i]? = some t) : ts.set i t = ts := by
  apply List.ext_getElem?
  intro j
  by_cases hj : i = j
  · subst hj; rw [List.getElem?_set_self (List.getElem?_eq_some_iff.1 h).1, h]
  · rw [List.getElem?_set_ne hj]

section
variable {P : Program}
theorem run_append_none_any {w : World} (base : Nat) (t ty e : TypeId) (i : TypeInfo) (size c : Nat) (ht : P.underlying t = some (.slice e)) (hi : P.info? e = some i)
    (v : Value) (n : Nat) (xs : List Value) (hown : w.ownsRow base e size v n xs) :
    (Builtin.append_ #[t, t] ty #[v, .slice none 0 c]).run P w = .ok v w := by
  rcases hown.2 with ⟨rfl, rfl⟩ | ⟨g, cap, cur, rfl, _, _, hnc, _⟩
  · simp [Builtin.append_, run_underlying ht, sizeOf, typeInfo, hi, Builtin.lenOf, Builtin.firstCells]
  · simp [Builtin.append_, run_underlying ht, sizeOf, typeInfo, hi, Builtin.lenOf, Builtin.firstCells, hnc, storeCells]

theorem run_appendR {w : World} {base : Nat} {D D2 : Nat → Prop} {t ty e : TypeId} {z v : Value} {ts us : List Nd} {us' : List (List Value)} {a : Option Addr} {c : Nat} (ht : sliceB P t e 8 = true) (hz : zeroB P e z) (hzs : z.cells.size = 8) (hby : smallB P e = true)
    (hown : OwnV e base D w v ts) (hus0 : RowsL D2 w us' us) (hr : us = [] ∨ ∃ b o, a = some ⟨b, o, none⟩ ∧ Reads w b o us'.flatten) (hap : ∀ k, D2 k → v.ownBlock ≠ some k) (hlen : ts.length + us.length ≤ 1000000000) (hbase : base ≤ w.heap.size) :
    ∃ v' w', (Builtin.append_ #[t, t] ty #[v, .slice a us.length c]).run P w = .ok v' w' ∧ OwnV e base (fun k => D k ∨ D2 k) w' v' (ts ++ us) ∧ w.grownBy w' v.ownBlock ∧ (v'.ownBlock = v.ownBlock ∨ v'.ownBlock = some w.heap.size) := by
  obtain ⟨hu, q, hq, hs⟩ := sliceB_u ht
  obtain ⟨ls, hrow, hls, hle⟩ := hown
  have hbt : q.bytes ≤ 128 := by unfold smallB at hby; rw [hq] at hby; simp at hby; exact hby.1
  have hus' : RowsL (fun k => D2 k ∧ k < w.heap.size) w us' us := hus0.step (fun l t h => h.lt)
  have hzz : q.zero = some z := by unfold zeroB at hz; rw [hq] at hz; exact hz
  have fin : ∀ (v' : Value) (w' : World), w'.ownsRow base e 8 v' (ts.length + us.length) (ls.flatten ++ us'.flatten) → w.grownBy w' v.ownBlock → (v'.ownBlock = v.ownBlock ∨ v'.ownBlock = some w.heap.size) → OwnV e base (fun k => D k ∨ D2 k) w' v' (ts ++ us) := by
    intro v' w' h1 h2 h3
    refine ⟨ls ++ us', by simpa using h1, RowsL.append (hls.step (fun l t hn => hn.step (fun k hk => ?_) ?_)) (hus'.step (fun l t hn => hn.step (fun k hk => ?_) ?_)), by simpa using hlen⟩
    · refine ⟨.inl hk.1, Nat.lt_of_lt_of_le hk.2.1 h2.size, ?_⟩
      rcases h3 with h3 | h3 <;> rw [h3]
      · exact hk.2.2
      · intro hh; cases hh; exact absurd hk.2.1 (Nat.lt_irrefl _)
    · intro b o l hk hrd j u hj
      rw [← hrd j u hj]; exact World.cell?_of_block (h2.block b hk.2.1 (fun hh => hk.2.2 hh.symm))
    · refine ⟨.inr hk.1, Nat.lt_of_lt_of_le hk.2 h2.size, ?_⟩
      rcases h3 with h3 | h3 <;> rw [h3]
      · exact hap k hk.1
      · intro hh; cases hh; exact absurd hk.2 (Nat.lt_irrefl _)
    · intro b o l hk hrd j u hj
      rw [← hrd j u hj]; exact World.cell?_of_block (h2.block b hk.2 (fun hh => hap b hk.1 hh.symm))
  have hlen8 := len_flatten us' hus'.eight
  cases a with
  | none =>
    have hnil : us = [] := by rcases hr with h | ⟨b, o, h, _⟩ <;> first | exact h | cases h
    subst hnil
    have : us' = [] := List.eq_nil_of_length_eq_zero (by simpa using hus'.1)
    subst this
    refine ⟨v, w, run_append_none_any base t ty e q 8 c hu hq v _ _ hrow, ?_, ⟨rfl, rfl, rfl, Nat.le_refl _, fun _ _ _ => rfl⟩, .inl rfl⟩
    exact fin v w (by simpa using hrow) ⟨rfl, rfl, rfl, Nat.le_refl _, fun _ _ _ => rfl⟩ (.inl rfl)
  | some ad =>
    obtain ⟨v', w', h1, h2, h3, _, h5⟩ := run_append_own_at (P := P) w base t ty e q z 8 q.bytes hu hq hzz hs rfl hzs (by omega) v ts.length ls.flatten hrow ad us.length c us'.flatten (by rw [hlen8, hus'.1]) (by
      intro j u hj
      rcases hr with h | ⟨b, o, h, hrd⟩
      · subst h
        have : us' = [] := List.eq_nil_of_length_eq_zero (by simpa using hus'.1)
        subst this; simp at hj
      · cases h; exact (addr_add b o j) ▸ hrd j u hj) hus'.one (by simp only [maxLen]; omega) (by
        have := Nat.mul_le_mul hlen hbt
        omega) hbase
    exact ⟨v', w', h1, fin v' w' h2 h3 h5, h3, h5⟩

theorem run_appendV {w : World} {base : Nat} {D D2 : Nat → Prop} {t ty e : TypeId} {z v : Value} {ts us : List Nd} {a : Option Addr} {n c : Nat} (ht : sliceB P t e 8 = true) (hz : zeroB P e z) (hzs : z.cells.size = 8) (hby : smallB P e = true)
    (hown : OwnV e base D w v ts) (hus : NodesV D2 w (.slice a n c) us) (hap : ∀ k, D2 k → v.ownBlock ≠ some k) (hlen : ts.length + us.length ≤ 1000000000) (hbase : base ≤ w.heap.size) :
    ∃ v' w', (Builtin.append_ #[t, t] ty #[v, .slice a n c]).run P w = .ok v' w' ∧ OwnV e base (fun k => D k ∨ D2 k) w' v' (ts ++ us) ∧ w.grownBy w' v.ownBlock ∧ (v'.ownBlock = v.ownBlock ∨ v'.ownBlock = some w.heap.size) := by
  obtain ⟨us', h1, rfl, h2⟩ := hus.rows
  exact run_appendR ht hz hzs hby hown h1 (h2.imp (fun h => h) (fun ⟨b, o, h1, _, h2⟩ => ⟨b, o, h1, h2⟩)) hap hlen hbase
variable {ro : Option Nat} {all : Array Oper} {Q : Exit → Act → World → Prop} {N : Nat} {ds : List Deferred} {r : Reg} {w : World} {rest : List Oper}
  {ty : TypeId} {pos : String} {aft : Array Edge} {g : Option (Nat × Bool)}
theorem WL.appendV {d : Nat} {t e : TypeId} {base : Nat} {D D2 : Nat → Prop} {x y : Operand} {z v : Value} {ts us : List Nd} {a : Option Addr} {n c : Nat} (hw : want all r g = some true) (hd : Nat.blt d N = true) (ht : sliceB P t e 8 = true) (hz : zeroB P e z) (hzs : z.cells.size = 8) (hby : smallB P e = true)
    (hx : ev r x = some v) (hy : ev r y = some (.slice a n c)) (hown : OwnV e base D w v ts) (hus : NodesV D2 w (.slice a n c) us) (hap : ∀ k, D2 k → v.ownBlock ≠ some k) (hlen : ts.length + us.length ≤ 1000000000) (hbase : base ≤ w.heap.size)
    (next : ∀ v' w', w.grownBy w' v.ownBlock → OwnV e base (fun k => D k ∨ D2 k) w' v' (ts ++ us) → (v'.ownBlock = v.ownBlock ∨ v'.ownBlock = some w.heap.size) → WL ro P all Q N ds rest ((d, v') :: r) w') :
    WL ro P all Q N ds (⟨some d, .call ⟨.builtin .append, #[x, y], #[t, t]⟩, ty, pos, aft, g⟩ :: rest) r w := by
  obtain ⟨v', w', h1, h2, h3, h4⟩ := run_appendV (ty := ty) ht hz hzs hby hown hus hap hlen hbase
  exact WL.val hw hd (by intro c h; cases h) (fun a ha => by simp [execOp, resolve, invoke, builtin, ha.ev hx, ha.ev hy, h1]) (next v' w' h3 h2 h4)
/-- one node appended -/
theorem WL.append1 {d : Nat} {t e t' : TypeId} {base b c : Nat} {D D2 : Nat → Prop} {x y : Operand} {z v : Value} {ts : List Nd} {l : List Value} {T : Nd} (hw : want all r g = some true) (hd : Nat.blt d N = true) (ht : sliceB P t e 8 = true) (hz : zeroB P e z) (hzs : z.cells.size = 8) (hby : smallB P e = true)
    (hx : ev r x = some v) (hy : ev r y = some (.slice (some ⟨b, 0, none⟩) 1 c)) (hown : OwnV e base D w v ts) (hR : Row w b l t') (hl : NodeL D2 w l T) (hap : ∀ k, D2 k → v.ownBlock ≠ some k) (hlen : ts.length + 1 ≤ 1000000000) (hbase : base ≤ w.heap.size)
    (next : ∀ v' w', w.grownBy w' v.ownBlock → OwnV e base (fun k => D k ∨ D2 k) w' v' (ts ++ [T]) → (v'.ownBlock = v.ownBlock ∨ v'.ownBlock = some w.heap.size) → WL ro P all Q N ds rest ((d, v') :: r) w') :
    WL ro P all Q N ds (⟨some d, .call ⟨.builtin .append, #[x, y], #[t, t]⟩, ty, pos, aft, g⟩ :: rest) r w := by
  obtain ⟨v', w', h1, h2, h3, h4⟩ := run_appendR (P := P) (ty := ty) (a := some ⟨b, 0, none⟩) (c := c) ht hz hzs hby hown (RowsL.single hl) (.inr ⟨b, 0, rfl, by simpa using hR.reads0⟩) hap (by simpa using hlen) hbase
  exact WL.val hw hd (by intro c h; cases h) (fun a ha => by simp only [List.length_singleton] at h1; simp [execOp, resolve, invoke, builtin, ha.ev hx, ha.ev hy, h1]) (next v' w' h3 h2 h4)
/-- a byte of a string -/
theorem WL.indexS {d : Nat} {t : Nat} {x y : Operand} {bs : List UInt8} {i : Nat} {k : IntKind} {j : Int} {b : UInt8} (hw : want all r g = some true) (hd : Nat.blt d N = true) (ht : P.underlying t = some .string)
    (hx : ev r x = some (.string ⟨bs.toArray⟩)) (hy : ev r y = some (.int k j)) (hj : j = i) (hv : bs[i]? = some b)
    (next : WL ro P all Q N ds rest ((d, .int .u8 b.toNat) :: r) w) : WL ro P all Q N ds (⟨some d, .index t x y, ty, pos, aft, g⟩ :: rest) r w := by
  subst hj
  refine WL.val hw hd (by intro c h; cases h) (fun a ha => ?_) next
  have hi : i < bs.length := (List.getElem?_eq_some_iff.1 hv).1
  have hb : (⟨bs.toArray⟩ : ByteArray)[i]? = some b := by
    have e : bs[i] = b := by rw [List.getElem?_eq_getElem hi] at hv; exact Option.some.inj hv
    rw [getElem?_pos (⟨bs.toArray⟩ : ByteArray) i hi, ← e]; rfl
  simp [execOp, ha.ev hx, ha.ev hy, Instr.index, asIntOf, run_underlying ht, hb]
theorem WL.lenS {d : Nat} {t : TypeId} {x : Operand} {bs : List UInt8} (hw : want all r g = some true) (hd : Nat.blt d N = true) (ht : P.underlying t = some .string) (hx : ev r x = some (.string ⟨bs.toArray⟩))
    (next : WL ro P all Q N ds rest ((d, .int .i64 bs.length) :: r) w) : WL ro P all Q N ds (⟨some d, .call ⟨.builtin .len, #[x], #[t]⟩, ty, pos, aft, g⟩ :: rest) r w := WL.lens hw hd ht hx next
theorem scells_get (s : S4) (i : Nat) (h : i < 4) : (scells s)[0 + i * 1]? = some (.int .u64 (Nd.S4get s i)) := by
  have hi : i = 0 ∨ i = 1 ∨ i = 2 ∨ i = 3 := by omega
  rcases hi with rfl | rfl | rfl | rfl <;> rfl
theorem scells_put (s : S4) (i : Nat) (v : Int) (h : i < 4) : (scells s).take (0 + i * 1) ++ [.int .u64 v] ++ (scells s).drop (0 + i * 1 + 1) = scells (Nd.S4put s i v) := by
  have hi : i = 0 ∨ i = 1 ∨ i = 2 ∨ i = 3 := by omega
  rcases hi with rfl | rfl | rfl | rfl <;> rfl
theorem WL.sliceNil {d : Nat} {t e : TypeId} {x y : Operand} {a : Option Addr} {n c : Nat} {b : Bool} {t2 : TypeId} (hw : want all r g = some true) (hd : Nat.blt d N = true) (ht : P.underlying t = some (.slice e)) (hx : ev r x = some (.slice a n c)) (hy : ev r y = some (.slice none 0 0)) (hb : a.isNone = b)
    (next : WL ro P all Q N ds rest ((d, .bool b) :: r) w) : WL ro P all Q N ds (⟨some d, .binOp .eql t x y t2, ty, pos, aft, g⟩ :: rest) r w := by
  refine WL.val hw hd (by intro c h; cases h) (fun ac ha => ?_) next
  have hg : ∀ u v, (eqGuard .eql t u v (.slice a n c) (.slice none 0 0)).run P w = .ok () w := by intro u v; simp [eqGuard]
  simp only [execOp, ha.ev hx, ha.ev hy, hg, Sem.run_bind, Sem.run_pure, Result.andThen_ok, run_eql_slice_nil w t e _ _ _ ht, hb]
theorem WL.storeV {t e : TypeId} {base : Nat} {DD : Nat → Nat → Prop} {D' : Nat → Prop} {x y : Operand} {b i n cap : Nat} {l : List Value} {T : Nd} {ts : List Nd} (hw : want all r g = some true) (ht : aggB P t 8 = true)
    (hx : ev r x = some (.pointer (some ⟨b, 0 + i * 8, none⟩))) (hy : ev r y = some (.agg l.toArray)) (hM : MixV e base DD w (.slice (some ⟨b, 0, none⟩) n cap) ts) (hi : i < ts.length) (hl : NodeL D' w l T) (hap : ∀ k, D' k → k < w.heap.size → k ≠ b)
    (next : ∀ w', But b w w' → MixV e base (fun j k => (j = i ∧ D' k) ∨ (j ≠ i ∧ DD j k)) w' (.slice (some ⟨b, 0, none⟩) n cap) (ts.set i T) → WL ro P all Q N ds rest r w') :
    WL ro P all Q N ds (⟨none, .store t x y, ty, pos, aft, g⟩ :: rest) r w := by
  obtain ⟨ls, ⟨hlen, h⟩, h2, h3, h4⟩ := hM
  have h8 : ∀ l ∈ ls, l.length = 8 := by
    intro l hl
    obtain ⟨q, hq, rfl⟩ := List.mem_iff_getElem.1 hl
    exact (h3 q _ (ts[q]'(by omega)) (by simp [hq]) (by simp)).length
  rcases h with ⟨he, _⟩ | ⟨g', cap', cur, he, hg, hrow, hn, hcm, hcs, htake⟩
  · cases he
  · cases he
    have hcl : cur.toList.length = cap * 8 := by simpa using hcs
    have hl8 := hl.length
    refine WL.store (n := 8) (vl := l) hw hx hy (by simpa [Row] using hrow : Row w b cur.toList e) (run_sizeOf_agg ht) rfl hl8 (by omega) (List.all_eq_true.2 hl.one) (fun w' hB hR => next w' hB ?_)
    have key : ∀ (q : Nat), q ≠ i → ∀ l t, ls[q]? = some l → ts[q]? = some t → NodeL (fun k => ((q = i ∧ D' k) ∨ (q ≠ i ∧ DD q k)) ∧ k < w'.heap.size ∧ (Value.slice (some ⟨b, 0, none⟩) ts.length cap).ownBlock ≠ some k) w' l t := fun q hq l t hl' ht' =>
      (h3 q l t hl' ht').step (fun k hk => ⟨.inr ⟨hq, hk.1⟩, by rw [hB.size]; exact hk.2.1, hk.2.2⟩) (fun c o l' hk hr => hB.reads hr (fun he => hk.2.2 (by simp [Value.ownBlock, he])))
    refine ⟨ls.set i l, ⟨?_, .inr ⟨b, cap, (cur.toList.take (0 + i * 8) ++ l ++ cur.toList.drop (0 + i * 8 + 8)).toArray, by simp, hg, by simpa [Row] using hR, by simpa using hn, hcm, by simp [hl8]; omega, ?_⟩⟩, by simpa using h2, ?_, by simpa using h4⟩
    · rw [len_flatten _ (fun q hq => by rcases List.mem_or_eq_of_mem_set hq with h | h; exact h8 q h; rw [h]; exact hl8)]; simp [h2]
    · have hfl : ∀ (ls : List (List Value)) (cur : List Value) (i : Nat), (∀ l ∈ ls, l.length = 8) → i < ls.length → cur.take (ls.length * 8) = ls.flatten → (cur.take (i * 8) ++ l ++ cur.drop (i * 8 + 8)).take (ls.length * 8) = (ls.set i l).flatten := by
        clear h3 key hB hR next hl hy
        intro ls
        induction ls with
        | nil => intro cur i _ hi; simp at hi
        | cons x ls ih =>
          intro cur i h8 hi he
          have hx8 := h8 x (by simp)
          have hc1 : cur.take 8 = x := by
            have := congrArg (List.take 8) he
            rw [List.take_take, List.flatten_cons, List.take_left' hx8, List.length_cons, Nat.min_eq_left (by omega)] at this
            exact this
          have hc2 : (cur.drop 8).take (ls.length * 8) = ls.flatten := by
            have := congrArg (List.drop 8) he
            rw [List.drop_take, List.flatten_cons, List.drop_left' hx8, List.length_cons] at this
            rw [← this]; congr 1; omega
          cases i with
          | zero =>
            simp only [Nat.zero_mul, List.take_zero, List.nil_append, Nat.zero_add, List.set_cons_zero, List.flatten_cons, List.length_cons]
            have e : (ls.length + 1) * 8 = l.length + ls.length * 8 := by omega
            rw [e, List.take_length_add_append, hc2]
          | succ i =>
            simp only [List.set_cons_succ, List.flatten_cons, List.length_cons]
            have := ih (cur.drop 8) i (fun q hq => h8 q (by simp [hq])) (by simpa using hi) hc2
            rw [← this]
            have hcur : cur = x ++ cur.drop 8 := by conv => lhs; rw [← List.take_append_drop 8 cur, hc1]
            have e1 : (i + 1) * 8 = x.length + i * 8 := by omega
            have e2 : (ls.length + 1) * 8 = x.length + ls.length * 8 := by omega
            have e3 : x.length + i * 8 + 8 = x.length + (i * 8 + 8) := by omega
            rw [e1, e2, e3]
            generalize cur.drop 8 = c2 at hcur
            rw [hcur, List.take_length_add_append, List.append_assoc, List.append_assoc, List.take_length_add_append, List.append_assoc]
            congr 3
            rw [← List.drop_drop, List.drop_left]
      have hln : ts.length = ls.length := h2.symm
      have := hfl ls cur.toList i h8 (by omega) (by rw [← hln]; exact htake)
      simpa [hln] using this
    · intro q l' t' h1 ht'
      by_cases hq : q = i
      · subst hq
        rw [List.getElem?_set_self (by omega)] at h1 ht'
        cases h1; cases ht'
        have hl2 := hl.lt
        refine hl2.step (fun k hk => ⟨.inl ⟨rfl, hk.1⟩, by rw [hB.size]; exact hk.2, ?_⟩) (fun c o l' hk hr => hB.reads hr (hap c hk.1 hk.2))
        intro hh
        simp only [Value.ownBlock, Option.some.injEq] at hh
        exact hap k hk.1 hk.2 hh.symm
      · rw [List.getElem?_set_ne (fun h => hq h.symm)] at h1 ht'
        simpa using key q hq l' t' h1 ht'
/-- an empty slice that is not nil -/
theorem WL.buildSlice0 {d : Nat} {t e n : Nat} (hw : want all r g = some true) (hd : Nat.blt d N = true) (ht : sliceB P t e n = true)
    (next : ∀ b w', b = w.heap.size → Ext w w' → w'.heap.size = w.heap.size + 1 → w'.heap[b]? = some (.cells #[] e (0, 0)) → WL ro P all Q N ds rest ((d, .slice (some ⟨b, 0, none⟩) 0 0) :: r) w') :
    WL ro P all Q N ds (⟨some d, .buildSlice t 0 #[], ty, pos, aft, g⟩ :: rest) r w := by
  obtain ⟨hu, q, hq, hs⟩ := sliceB_u ht
  refine WL.val hw hd (by intro c h; cases h) (w' := w.alloc (.cells #[] e)) (v := .slice (some ⟨w.heap.size, 0, none⟩) 0 0) (fun a ha => ?_) (next _ _ rfl (Ext.alloc _ _) (by simp) (World.alloc_heap_new w _))
  simp [execOp, Instr.buildSlice, run_underlying hu, sizeOf, typeInfo, hq, Instr.fill, newRow]
  have h0 : Array.range 0 = #[] := by apply Array.ext <;> simp
  rw [h0, Array.map_empty]
theorem OwnV.empty {e : TypeId} {base : Nat} {D : Nat → Prop} {w : World} {b : Nat} (hb : base ≤ b) (h : w.heap[b]? = some (.cells #[] e (0, 0))) : OwnV e base D w (.slice (some ⟨b, 0, none⟩) 0 0) [] :=
  ⟨[], ⟨rfl, .inr ⟨b, 0, #[], rfl, hb, h, Nat.le_refl _, by simp [maxLen], rfl, rfl⟩⟩, RowsL.nil _ _, by simp⟩
/-- what grew out of w: all that lay before the base lies -/
theorem grown_below {w w' a : World} {row : Option Nat} (h : w.grownBy w' row) (e : Ext a w) (hr : ∀ k, row = some k → a.heap.size ≤ k) : Ext a w' :=
  ⟨h.os.trans e.os, h.tape.trans e.tape, h.output.trans e.output, Nat.le_trans e.size h.size, fun k hk => (h.block k (Nat.lt_of_lt_of_le hk e.size) (fun hh => by have := hr k hh.symm; omega)).trans (e.block k hk)⟩
end
end Go.Proofs.Ytaggidjijekpbaa
