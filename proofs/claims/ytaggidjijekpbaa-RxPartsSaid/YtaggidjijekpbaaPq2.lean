/- Part 2 of the proof: walks through the program's functions, and what they compute in plain Lean. -/
import Derived.Test.YtaggidjijekpbaaPq1
import Derived.Maps.AppendAt
import Derived.Laws.OwnMore
import Derived.Lib.LazyBuf
import Derived.KernelRfl
import Derived.ArgAppend
import Derived.Laws.Slices
set_option linter.all false
namespace Go.Proofs.Ytaggidjijekpbaa
open Go.RowKit
def smallB (P : Program) (e : TypeId) : Bool := match P.info? e with | some q => Nat.ble q.bytes 128 && Nat.blt 0 q.bytes | none => false
theorem NodeL.one {D : Nat → Prop} {w : World} {l : List Value} {T : Nd} (h : NodeL D w l T) : ∀ u ∈ l, u.oneCell' = true := by
  cases h with
  | mk k s mn mx sl ls ts hsl hlen _ =>
    obtain ⟨a, cap, rfl, _⟩ := hsl
    intro u hu
    simp only [ncells, List.mem_cons, List.not_mem_nil, or_false] at hu
    rcases hu with rfl | rfl | rfl | rfl | rfl | rfl | rfl | rfl <;> rfl
def RowsL (D : Nat → Prop) (w : World) (ls : List (List Value)) (ts : List Nd) : Prop :=
  ls.length = ts.length ∧ ∀ (i : Nat) (l : List Value) (t : Nd), ls[i]? = some l → ts[i]? = some t → NodeL D w l t
theorem RowsL.step {D D' : Nat → Prop} {w w' : World} {ls ts} (h : RowsL D w ls ts) (hs : ∀ l t, NodeL D w l t → NodeL D' w' l t) : RowsL D' w' ls ts :=
  ⟨h.1, fun i l t h1 h2 => hs l t (h.2 i l t h1 h2)⟩
theorem RowsL.eight {D : Nat → Prop} {w : World} {ls ts} (h : RowsL D w ls ts) : ∀ l ∈ ls, l.length = 8 := by
  intro l hl
  obtain ⟨i, hi, rfl⟩ := List.mem_iff_getElem.1 hl
  have : i < ts.length := by rw [← h.1]; exact hi
  exact (h.2 i _ ts[i] (by simp [hi]) (by simp [this])).length
theorem RowsL.one {D : Nat → Prop} {w : World} {ls ts} (h : RowsL D w ls ts) : ∀ u ∈ ls.flatten, u.oneCell' = true := by
  intro u hu
  obtain ⟨l, hl, hu⟩ := List.mem_flatten.1 hu
  obtain ⟨i, hi, rfl⟩ := List.mem_iff_getElem.1 hl
  have : i < ts.length := by rw [← h.1]; exact hi
  exact (h.2 i _ ts[i] (by simp [hi]) (by simp [this])).one u hu
theorem RowsL.append {D : Nat → Prop} {w : World} {ls ls' ts ts'} (h : RowsL D w ls ts) (h' : RowsL D w ls' ts') : RowsL D w (ls ++ ls') (ts ++ ts') := by
  refine ⟨by simp [h.1, h'.1], fun i l t h1 h2 => ?_⟩
  rcases Nat.lt_or_ge i ls.length with hi | hi
  · rw [List.getElem?_append_left hi] at h1
    rw [List.getElem?_append_left (by rw [← h.1]; exact hi)] at h2
    exact h.2 i l t h1 h2
  · rw [List.getElem?_append_right hi] at h1
    rw [List.getElem?_append_right (by rw [← h.1]; exact hi), ← h.1] at h2
    exact h'.2 _ l t h1 h2
theorem RowsL.nil (D : Nat → Prop) (w : World) : RowsL D w [] [] := ⟨rfl, fun i l t h => by simp at h⟩
theorem RowsL.single {D : Nat → Prop} {w : World} {l t} (h : NodeL D w l t) : RowsL D w [l] [t] := by
  refine ⟨rfl, fun i l' t' h1 h2 => ?_⟩
  cases i with
  | zero => simp at h1 h2; subst h1; subst h2; exact h
  | succ i => simp at h1
theorem len_flatten {n : Nat} : ∀ (ls : List (List Value)), (∀ l ∈ ls, l.length = n) → ls.flatten.length = ls.length * n := by
  intro ls
  induction ls with
  | nil => intro _; simp
  | cons x l ih => intro h; simp only [List.flatten_cons, List.length_append, List.length_cons, h x (by simp), ih (fun q hq => h q (by simp [hq])), Nat.add_mul, Nat.one_mul]; omega
theorem flatten_get {n : Nat} {l : List Value} {j : Nat} {v : Value} (hj : l[j]? = some v) : ∀ (ls : List (List Value)), (∀ l ∈ ls, l.length = n) → ∀ i, ls[i]? = some l → ls.flatten[i * n + j]? = some v := by
  intro ls
  induction ls with
  | nil => intro _ i h; simp at h
  | cons x ls ih =>
    intro h8 i hi
    have hx := h8 x (by simp)
    simp only [List.flatten_cons]
    cases i with
    | zero =>
      simp at hi; subst hi
      have : j < x.length := (List.getElem?_eq_some_iff.1 hj).1
      rw [List.getElem?_append_left (by omega)]; simpa using hj
    | succ i =>
      rw [List.getElem?_append_right (by rw [hx, Nat.add_mul]; omega)]
      have : (i + 1) * n + j - x.length = i * n + j := by rw [Nat.add_mul]; omega
      rw [this]
      exact ih (fun l hl => h8 l (by simp [hl])) i (by simpa using hi)
theorem NodesV.rows {D : Nat → Prop} {w : World} {a : Option Addr} {n cap : Nat} {ts : List Nd} (h : NodesV D w (.slice a n cap) ts) : ∃ ls, RowsL D w ls ts ∧ n = ts.length ∧ (ts = [] ∨ ∃ b o, a = some ⟨b, o, none⟩ ∧ D b ∧ Reads w b o ls.flatten) := by
  obtain ⟨ls, ⟨a', cap', he, _, hn, h⟩, h2, h3⟩ := h
  cases he
  refine ⟨ls, ⟨h2, h3⟩, h2, ?_⟩
  rcases h with h | ⟨b, o, ha, hb, hr⟩
  · subst h; left; exact List.eq_nil_of_length_eq_zero (by simpa using h2.symm)
  · right
    refine ⟨b, o, ha, hb, fun j v hj => ?_⟩
    have hlt : j < ls.length * 8 := by rw [← len_flatten ls hn]; exact (List.getElem?_eq_some_iff.1 hj).1
    have hq : j / 8 < ls.length := by omega
    have hl8 := hn (ls[j / 8]) (List.getElem_mem hq)
    have hm : j % 8 < (ls[j / 8]).length := by omega
    have h1 := flatten_get (l := ls[j / 8]) (j := j % 8) (v := (ls[j / 8])[j % 8]) (List.getElem?_eq_getElem hm) ls hn (j / 8) (List.getElem?_eq_getElem hq)
    have e : j / 8 * 8 + j % 8 = j := by omega
    rw [e, hj] at h1
    cases h1
    have := hr (j / 8) _ (List.getElem?_eq_getElem hq) (j % 8) _ (List.getElem?_eq_getElem hm)
    have e2 : o + j / 8 * 8 + j % 8 = o + j := by omega
    rw [e2] at this; exact this
def OwnV (e : TypeId) (base : Nat) (D : Nat → Prop) (w : World) (v : Value) (ts : List Nd) : Prop :=
  ∃ ls, w.ownsRow base e 8 v ts.length ls.flatten ∧ RowsL (fun k => D k ∧ k < w.heap.size ∧ v.ownBlock ≠ some k) w ls ts ∧ ts.length ≤ 1000000000
theorem OwnV.nil (e : TypeId) (base : Nat) (D : Nat → Prop) (w : World) : OwnV e base D w (.slice none 0 0) [] := ⟨[], ⟨rfl, .inl ⟨rfl, rfl⟩⟩, RowsL.nil _ _, by simp⟩
theorem OwnV.cases {e : TypeId} {base : Nat} {D : Nat → Prop} {w : World} {v : Value} {ts : List Nd} (h : OwnV e base D w v ts) : ∃ a cap, v = .slice a ts.length cap ∧ (a = none → ts = [] ∧ cap = 0) ∧ ∀ x, a = some x → base ≤ x.block ∧ x.block < w.heap.size ∧ v.ownBlock = some x.block := by
  obtain ⟨ls, ⟨_, h⟩, _, _⟩ := h
  rcases h with ⟨rfl, h0⟩ | ⟨g, cap, cur, rfl, hg, hrow, _⟩
  · have : ts = [] := List.eq_nil_of_length_eq_zero h0
    subst this
    exact ⟨none, 0, rfl, fun _ => ⟨rfl, rfl⟩, fun x h => by cases h⟩
  · exact ⟨_, cap, rfl, (fun h => by cases h), (fun x h => by cases h; exact ⟨hg, (Array.getElem?_eq_some_iff.1 hrow).1, rfl⟩)⟩
theorem OwnV.nodes {e : TypeId} {base : Nat} {D : Nat → Prop} {w : World} {v : Value} {ts : List Nd} (h : OwnV e base D w v ts) : NodesV (fun k => D k ∨ (base ≤ k ∧ v.ownBlock = some k)) w v ts := by
  obtain ⟨ls, ⟨hl, h⟩, h2, h3⟩ := h
  rcases h with ⟨rfl, h0⟩ | ⟨g, cap, cur, rfl, hg, hrow, hn, hcm, hcs, htake⟩
  · have : ts = [] := List.eq_nil_of_length_eq_zero h0
    subst this
    exact NodesV.nil _ _ _ _
  · refine NodesV.row (ls := ls) (more := cur.toList.drop (ts.length * 8)) (ty := e) ?_ (.inr ⟨hg, rfl⟩) h2.1 (by have := h2.1; omega) h2.eight (fun i l t h1 h' => (h2.2 i l t h1 h').dom (fun k hk => .inl hk.1))
    simp only [Row]
    rw [hrow, ← htake, List.take_append_drop]
theorem OwnV.dom {e : TypeId} {base : Nat} {D D' : Nat → Prop} {w : World} {v : Value} {ts : List Nd} (h : OwnV e base D w v ts) (hd : ∀ k, D k → k < w.heap.size → v.ownBlock ≠ some k → D' k) : OwnV e base D' w v ts := by
  obtain ⟨ls, h1, h2, h3⟩ := h
  exact ⟨ls, h1, h2.step (fun l t hn => hn.dom (fun k hk => ⟨hd k hk.1 hk.2.1 hk.2.2, hk.2⟩)), h3⟩
theorem OwnV.to {e : TypeId} {base : Nat} {D : Nat → Prop} {w w' : World} {v : Value} {ts : List Nd} (h : OwnV e base D w v ts) (hsz : w.heap.size ≤ w'.heap.size) (hb : ∀ k, k < w.heap.size → (D k ∨ v.ownBlock = some k) → w'.heap[k]? = w.heap[k]?) : OwnV e base D w' v ts := by
  obtain ⟨ls, ⟨hl, h⟩, h2, h3⟩ := h
  refine ⟨ls, ⟨hl, ?_⟩, h2.step (fun l t hn => hn.step (fun k hk => ⟨hk.1, by omega, hk.2.2⟩) (fun b o l hk hr j u hj => ?_)), h3⟩
  · rcases h with h | ⟨g, cap, cur, rfl, hg, hrow, h⟩
    · exact .inl h
    · exact .inr ⟨g, cap, cur, rfl, hg, by rw [hb g (Array.getElem?_eq_some_iff.1 hrow).1 (.inr rfl)]; exact hrow, h⟩
  · have := hr j u hj
    rw [← this]
    exact World.cell?_of_block (hb b hk.2.1 (.inl hk.1))
theorem OwnV.ext {e : TypeId} {base : Nat} {D : Nat → Prop} {w w' : World} {v : Value} {ts : List Nd} (h : OwnV e base D w v ts) (E : Ext w w') : OwnV e base D w' v ts := h.to E.size (fun k hk _ => E.block k hk)
theorem OwnV.but {e : TypeId} {base : Nat} {D : Nat → Prop} {w w' : World} {v : Value} {ts : List Nd} {b : Nat} (h : OwnV e base D w v ts) (E : But b w w') (h1 : ¬ D b) (h2 : v.ownBlock ≠ some b) : OwnV e base D w' v ts :=
  h.to (by rw [E.size]; exact Nat.le_refl _) (fun k _ hk => E.block k (fun he => by subst he; rcases hk with hk | hk; exact h1 hk; exact h2 hk))
theorem OwnV.own {e : TypeId} {base : Nat} {D : Nat → Prop} {w : World} {v : Value} {ts : List Nd} (h : OwnV e base D w v ts) : ∀ k, v.ownBlock = some k → base ≤ k ∧ k < w.heap.size := by
  obtain ⟨a, cap, rfl, h1, h2⟩ := h.cases
  intro k hk
  cases a with
  | none => simp [Value.ownBlock] at hk
  | some x => simp only [Value.ownBlock, Option.some.injEq] at hk; subst hk; exact ⟨(h2 x rfl).1, (h2 x rfl).2.1⟩
theorem OwnV.le {e : TypeId} {base : Nat} {D : Nat → Prop} {w : World} {v : Value} {ts : List Nd} (h : OwnV e base D w v ts) : ts.length ≤ 1000000000 := by
  obtain ⟨_, _, _, h⟩ := h; exact h
def MixV (e : TypeId) (base : Nat) (DD : Nat → Nat → Prop) (w : World) (v : Value) (ts : List Nd) : Prop :=
  ∃ ls : List (List Value), w.ownsRow base e 8 v ts.length ls.flatten ∧ ls.length = ts.length ∧ (∀ (i : Nat) (l : List Value) (t : Nd), ls[i]? = some l → ts[i]? = some t → NodeL (fun k => DD i k ∧ k < w.heap.size ∧ v.ownBlock ≠ some k) w l t) ∧ ts.length ≤ 1000000000
theorem OwnV.mix {e : TypeId} {base : Nat} {D : Nat → Prop} {w : World} {v : Value} {ts : List Nd} (h : OwnV e base D w v ts) : MixV e base (fun _ => D) w v ts := by
  obtain ⟨ls, h1, h2, h3⟩ := h; exact ⟨ls, h1, h2.1, h2.2, h3⟩
theorem MixV.own {e : TypeId} {base : Nat} {DD : Nat → Nat → Prop} {D : Nat → Prop} {w : World} {v : Value} {ts : List Nd} (h : MixV e base DD w v ts) (hd : ∀ i k, i < ts.length → DD i k → k < w.heap.size → v.ownBlock ≠ some k → D k) : OwnV e base D w v ts := by
  obtain ⟨ls, h1, h2, h3, h4⟩ := h
  exact ⟨ls, h1, ⟨h2, fun i l t hl ht => (h3 i l t hl ht).dom (fun k hk => ⟨hd i k (List.getElem?_eq_some_iff.1 ht).1 hk.1 hk.2.1 hk.2.2, hk.2⟩)⟩, h4⟩
theorem MixV.dom {e : TypeId} {base : Nat} {DD DD' : Nat → Nat → Prop} {w : World} {v : Value} {ts : List Nd} (h : MixV e base DD w v ts) (hd : ∀ i k, i < ts.length → DD i k → k < w.heap.size → v.ownBlock ≠ some k → DD' i k) : MixV e base DD' w v ts := by
  obtain ⟨ls, h1, h2, h3, h4⟩ := h
  exact ⟨ls, h1, h2, fun i l t hl ht => (h3 i l t hl ht).dom (fun k hk => ⟨hd i k (List.getElem?_eq_some_iff.1 ht).1 hk.1 hk.2.1 hk.2.2, hk.2⟩), h4⟩
theorem MixV.at {e : TypeId} {base : Nat} {DD : Nat → Nat → Prop} {w : World} {a : Option Addr} {n cap : Nat} {ts : List Nd} (h : MixV e base DD w (.slice a n cap) ts) {i : Nat} {t : Nd} (ht : ts[i]? = some t) :
    ∃ g l, a = some ⟨g, 0, none⟩ ∧ base ≤ g ∧ g < w.heap.size ∧ Reads w g (0 + i * 8) l ∧ NodeL (fun k => (DD i k ∧ k ≠ g) ∧ k < w.heap.size) w l t := by
  obtain ⟨ls, ⟨hl, h⟩, h2, h3, h4⟩ := h
  have hi : i < ls.length := by rw [h2]; exact (List.getElem?_eq_some_iff.1 ht).1
  rcases h with ⟨he, h0⟩ | ⟨g, cap', cur, he, hg, hrow, hn, hcm, hcs, htake⟩
  · rw [h2, h0] at hi; exact absurd hi (Nat.not_lt_zero _)
  · cases he
    have hli : ls[i]? = some ls[i] := by simp [hi]
    have hN := h3 i _ t hli ht
    refine ⟨g, ls[i], rfl, hg, (Array.getElem?_eq_some_iff.1 hrow).1, ?_, hN.dom (fun k hk => ⟨⟨hk.1, fun hh => hk.2.2 (by simp [Value.ownBlock, hh])⟩, hk.2.1⟩)⟩
    intro j u hj
    have h8 : ∀ l ∈ ls, l.length = 8 := by
      intro l hl
      obtain ⟨q, hq, rfl⟩ := List.mem_iff_getElem.1 hl
      exact (h3 q _ (ts[q]'(by omega)) (by simp [hq]) (by simp)).length
    have hf := flatten_get hj ls h8 i hli
    rw [← htake, List.getElem?_take] at hf
    split at hf
    · rw [cell_of_row w g _ cur e (0, 0) hrow]; simpa using hf
    · cases hf
theorem MixV.ext {e : TypeId} {base : Nat} {DD : Nat → Nat → Prop} {w w' : World} {v : Value} {ts : List Nd} (h : MixV e base DD w v ts) (E : Ext w w') : MixV e base DD w' v ts := by
  obtain ⟨ls, ⟨hl, h⟩, h2, h3, h4⟩ := h
  refine ⟨ls, ⟨hl, ?_⟩, h2, fun i l t h1 ht => (h3 i l t h1 ht).step (fun k hk => ⟨hk.1, Nat.lt_of_lt_of_le hk.2.1 E.size, hk.2.2⟩) (fun b o l hk hr => hr.ext E), h4⟩
  rcases h with h | ⟨g, cap, cur, rfl, hg, hrow, h⟩
  · exact .inl h
  · exact .inr ⟨g, cap, cur, rfl, hg, by rw [E.block g (Array.getElem?_eq_some_iff.1 hrow).1]; exact hrow, h⟩
theorem MixV.but {e : TypeId} {base : Nat} {DD : Nat → Nat → Prop} {w w' : World} {v : Value} {ts : List Nd} {b : Nat} (h : MixV e base DD w v ts) (E : But b w w') (h1 : ∀ i, i < ts.length → ¬ (DD i b ∧ b < w.heap.size)) (hb : v.ownBlock ≠ some b) : MixV e base DD w' v ts := by
  obtain ⟨ls, ⟨hl, h⟩, h2, h3, h4⟩ := h
  refine ⟨ls, ⟨hl, ?_⟩, h2, fun i l t h1' ht => (h3 i l t h1' ht).step (fun k hk => ⟨hk.1, by rw [E.size]; exact hk.2.1, hk.2.2⟩) (fun c o l hk hr => E.reads hr (fun he => h1 i (List.getElem?_eq_some_iff.1 ht).1 (by subst he; exact ⟨hk.1, hk.2.1⟩))), h4⟩
  rcases h with h | ⟨g, cap, cur, rfl, hg, hrow, h⟩
  · exact .inl h
  · exact .inr ⟨g, cap, cur, rfl, hg, by rw [E.block g (fun he => hb (by simp [Value.ownBlock, he]))]; exact hrow, h⟩
theorem MixV.block {e : TypeId} {base : Nat} {DD : Nat → Nat → Prop} {w : World} {v : Value} {ts : List Nd} (h : MixV e base DD w v ts) : ∀ k, v.ownBlock = some k → base ≤ k ∧ k < w.heap.size := by
  obtain ⟨ls, ⟨hl, h⟩, h2, h3, h4⟩ := h
  intro k hk
  rcases h with ⟨rfl, _⟩ | ⟨g, cap, cur, rfl, hg, hrow, _⟩
  · simp [Value.ownBlock] at hk
  · simp only [Value.ownBlock, Option.some.injEq] at hk; subst hk; exact ⟨hg, (Array.getElem?_eq_some_iff.1 hrow).1⟩
theorem RowsL.cons {D1 D2 : Nat → Prop} {w : World} {l : List Value} {t : Nd} {ls ts} (h : NodeL D1 w l t) (hs : RowsL D2 w ls ts) : RowsL (fun k => D1 k ∨ D2 k) w (l :: ls) (t :: ts) := by
  refine ⟨by simp [hs.1], fun i l' t' h1 h2 => ?_⟩
  cases i with
  | zero => simp at h1 h2; subst h1; subst h2; exact h.dom (fun k hk => .inl hk)
  | succ i => exact (hs.2 i l' t' (by simpa using h1) (by simpa using h2)).dom (fun k hk => .inr hk)
theorem RowsL.nil' (w : World) : RowsL (fun _ => False) w [] [] := RowsL.nil _ _
theorem NodesV.lit {D : Nat → Prop} {w : World} {b n : Nat} {cells : List Value} {ls : List (List Value)} {ts : List Nd} {ty : TypeId} (hR : Row w b cells ty) (h : RowsL D w ls ts) (hc : cells = ls.flatten) (hn : ts.length = n) (hle : n ≤ 1000) : NodesV (fun k => D k ∨ k = b) w (.slice (some ⟨b, 0, none⟩) n n) ts := by
  subst hn; subst hc
  exact NodesV.row (ls := ls) (more := []) (by simpa using hR) (.inr rfl) h.1 (by have := h.1; omega) h.eight (fun i l t h1 h2 => (h.2 i l t h1 h2).dom (fun k hk => .inl hk))
structure GrownD (w w' : World) (row : Option Nat) : Prop extends World.grownBy w w' row where
  drawn : w.drawn ≤ w'.drawn
theorem grown_row {w w' : World} {row : Option Nat} {b : Nat} {l : List Value} {t : TypeId} (h : GrownD w w' row) (hR : Row w b l t) (hne : row ≠ some b) : Row w' b l t :=
  (h.block b hR.lt (fun hh => hne hh.symm)).trans hR
theorem NodeL.grown {D : Nat → Prop} {w w' : World} {row : Option Nat} {l : List Value} {T : Nd} (hn : NodeL D w l T) (h : GrownD w w' row) (hd : ∀ k, D k → k < w.heap.size → row ≠ some k) : NodeL D w' l T :=
  hn.lt.step (fun k hk => hk.1) (fun b o l hk hr j u hj => by rw [← hr j u hj]; exact World.cell?_of_block (h.block b hk.2 (fun hh => hd b hk.1 hk.2 hh.symm)))
theorem NodesV.grown {D : Nat → Prop} {w w' : World} {row : Option Nat} {sl : Value} {ts : List Nd} (hn : NodesV D w sl ts) (h : GrownD w w' row) (hd : ∀ k, D k → k < w.heap.size → row ≠ some k) : NodesV D w' sl ts :=
  hn.lt.step (fun k hk => hk.1) (fun b o l hk hr j u hj => by rw [← hr j u hj]; exact World.cell?_of_block (h.block b hk.2 (fun hh => hd b hk.1 hk.2 hh.symm)))
theorem NodesV.none {D : Nat → Prop} {w : World} {n cap : Nat} {ts : List Nd} (h : NodesV D w (.slice none n cap) ts) : ts = [] := by
  obtain ⟨ls, _, _, h⟩ := h.rows
  rcases h with h | ⟨b, o, h, _⟩
  · exact h
  · cases h
theorem NodeL.off0 {D : Nat → Prop} {w0 w w' : World} {β : Boxes} {l : List Value} {T : Nd} (h : NodeL (fun k => w.heap.size ≤ k) w' l T) (hb : BInv w0 w β) (hD : ∀ k, w.heap.size ≤ k → D k) : NodeL (Off D w' β) w' l T :=
  h.lt.dom (fun k hk => ⟨hD k hk.1, fun x hx => by have := hb.hi x hx; have := hk.1; omega, hk.2⟩)
theorem MixV.base {e : TypeId} {base base' : Nat} {DD : Nat → Nat → Prop} {w : World} {v : Value} {ts : List Nd} (h : MixV e base DD w v ts) (hb : base' ≤ base) : MixV e base' DD w v ts := by
  obtain ⟨ls, ⟨hl, h⟩, h2⟩ := h
  refine ⟨ls, ⟨hl, ?_⟩, h2⟩
  rcases h with h | ⟨g, cap, cur, he, hg, h⟩
  · exact .inl h
  · exact .inr ⟨g, cap, cur, he, Nat.le_trans hb hg, h⟩
theorem set_self {ts : List Nd} {i : Nat} {t : Nd} (h : ts[i]? = some t) : ts.set i t = ts := by
  apply List.ext_getElem?
  intro j
  by_cases hj : i = j
  · subst hj; rw [List.getElem?_set_self (List.getElem?_eq_some_iff.1 h).1, h]
  · rw [List.getElem?_set_ne hj]
section
variable {P : Program}
theorem run_append_none_any {w : World} (base : Nat) (t ty e : TypeId) (i : TypeInfo) (size c : Nat) (ht : P.underlying t = some (.slice e)) (hi : P.info? e = some i)
    (v : Value) (n : Nat) (xs : List Value) (hown : w.ownsRow base e size v n xs) :
    (Builtin.append_ #[t, t] ty #[v, .slice none 0 c]).run P w = .ok v w := by
  rcases hown.2 with ⟨rfl, rfl⟩ | ⟨g, cap, cur, rfl, _, _, hnc, _⟩
  · simp [Builtin.append_, run_underlying ht, sizeOf, typeInfo, hi, Builtin.lenOf, Builtin.firstCells]
  · simp [Builtin.append_, run_underlying ht, sizeOf, typeInfo, hi, Builtin.lenOf, Builtin.firstCells, hnc, storeCells]
theorem run_appendR {w : World} {base : Nat} {D D2 : Nat → Prop} {t ty e : TypeId} {z v : Value} {ts us : List Nd} {us' : List (List Value)} {a : Option Addr} {c : Nat} (ht : sliceB P t e 8 = true) (hz : zeroB P e z) (hzs : z.cells.size = 8) (hby : smallB P e = true)
    (hown : OwnV e base D w v ts) (hus0 : RowsL D2 w us' us) (hr : us = [] ∨ ∃ b o, a = some ⟨b, o, none⟩ ∧ Reads w b o us'.flatten) (hap : ∀ k, D2 k → v.ownBlock ≠ some k) (hlen : ts.length + us.length ≤ 1000000000) (hbase : base ≤ w.heap.size) :
    ∃ v' w', (Builtin.append_ #[t, t] ty #[v, .slice a us.length c]).run P w = .ok v' w' ∧ OwnV e base (fun k => D k ∨ D2 k) w' v' (ts ++ us) ∧ GrownD w w' v.ownBlock ∧ (v'.ownBlock = v.ownBlock ∨ v'.ownBlock = some w.heap.size) := by
  obtain ⟨hu, q, hq, hs⟩ := sliceB_u ht
  obtain ⟨ls, hrow, hls, hle⟩ := hown
  have hbt : q.bytes ≤ 128 := by unfold smallB at hby; rw [hq] at hby; simp at hby; exact hby.1
  have hus' : RowsL (fun k => D2 k ∧ k < w.heap.size) w us' us := hus0.step (fun l t h => h.lt)
  have hzz : q.zero = some z := by unfold zeroB at hz; rw [hq] at hz; exact hz
  have fin : ∀ (v' : Value) (w' : World), w'.ownsRow base e 8 v' (ts.length + us.length) (ls.flatten ++ us'.flatten) → w.grownBy w' v.ownBlock → (v'.ownBlock = v.ownBlock ∨ v'.ownBlock = some w.heap.size) → OwnV e base (fun k => D k ∨ D2 k) w' v' (ts ++ us) := by
    intro v' w' h1 h2 h3
    refine ⟨ls ++ us', by simpa using h1, RowsL.append (hls.step (fun l t hn => hn.step (fun k hk => ?_) ?_)) (hus'.step (fun l t hn => hn.step (fun k hk => ?_) ?_)), by simpa using hlen⟩
    · refine ⟨.inl hk.1, Nat.lt_of_lt_of_le hk.2.1 h2.size, ?_⟩
      rcases h3 with h3 | h3 <;> rw [h3]
      · exact hk.2.2
      · intro hh; cases hh; exact absurd hk.2.1 (Nat.lt_irrefl _)
    · intro b o l hk hrd j u hj
      rw [← hrd j u hj]; exact World.cell?_of_block (h2.block b hk.2.1 (fun hh => hk.2.2 hh.symm))
    · refine ⟨.inr hk.1, Nat.lt_of_lt_of_le hk.2 h2.size, ?_⟩
      rcases h3 with h3 | h3 <;> rw [h3]
      · exact hap k hk.1
      · intro hh; cases hh; exact absurd hk.2 (Nat.lt_irrefl _)
    · intro b o l hk hrd j u hj
      rw [← hrd j u hj]; exact World.cell?_of_block (h2.block b hk.2 (fun hh => hap b hk.1 hh.symm))
  have hlen8 := len_flatten us' hus'.eight
  cases a with
  | none =>
    have hnil : us = [] := by rcases hr with h | ⟨b, o, h, _⟩ <;> first | exact h | cases h
    subst hnil
    have : us' = [] := List.eq_nil_of_length_eq_zero (by simpa using hus'.1)
    subst this
    refine ⟨v, w, run_append_none_any base t ty e q 8 c hu hq v _ _ hrow, ?_, ⟨⟨rfl, rfl, rfl, Nat.le_refl _, fun _ _ _ => rfl⟩, Nat.le_refl _⟩, .inl rfl⟩
    exact fin v w (by simpa using hrow) ⟨rfl, rfl, rfl, Nat.le_refl _, fun _ _ _ => rfl⟩ (.inl rfl)
  | some ad =>
    obtain ⟨v', w', h1, h2, h3, _, h5⟩ := run_append_own_at (P := P) w base t ty e q z 8 q.bytes hu hq hzz hs rfl hzs (by omega) v ts.length ls.flatten hrow ad us.length c us'.flatten (by rw [hlen8, hus'.1]) (by
      intro j u hj
      rcases hr with h | ⟨b, o, h, hrd⟩
      · subst h
        have : us' = [] := List.eq_nil_of_length_eq_zero (by simpa using hus'.1)
        subst this; simp at hj
      · cases h; exact (addr_add b o j) ▸ hrd j u hj) hus'.one (by simp only [maxLen]; omega) (by
        have := Nat.mul_le_mul hlen hbt
        omega) hbase
    exact ⟨v', w', h1, fin v' w' h2 h3 h5, ⟨h3, run_drawn _ h1⟩, h5⟩
theorem run_appendV {w : World} {base : Nat} {D D2 : Nat → Prop} {t ty e : TypeId} {z v : Value} {ts us : List Nd} {a : Option Addr} {n c : Nat} (ht : sliceB P t e 8 = true) (hz : zeroB P e z) (hzs : z.cells.size = 8) (hby : smallB P e = true)
    (hown : OwnV e base D w v ts) (hus : NodesV D2 w (.slice a n c) us) (hap : ∀ k, D2 k → v.ownBlock ≠ some k) (hlen : ts.length + us.length ≤ 1000000000) (hbase : base ≤ w.heap.size) :
    ∃ v' w', (Builtin.append_ #[t, t] ty #[v, .slice a n c]).run P w = .ok v' w' ∧ OwnV e base (fun k => D k ∨ D2 k) w' v' (ts ++ us) ∧ GrownD w w' v.ownBlock ∧ (v'.ownBlock = v.ownBlock ∨ v'.ownBlock = some w.heap.size) := by
  obtain ⟨us', h1, rfl, h2⟩ := hus.rows
  exact run_appendR ht hz hzs hby hown h1 (h2.imp (fun h => h) (fun ⟨b, o, h1, _, h2⟩ => ⟨b, o, h1, h2⟩)) hap hlen hbase
variable {ro : Option Nat} {all : Array Oper} {Q : Exit → Act → World → Prop} {N : Nat} {ds : List Deferred} {r : Reg} {w : World} {rest : List Oper}
  {ty : TypeId} {pos : String} {aft : Array Edge} {g : Option (Nat × Bool)}
theorem WL.appendV {d : Nat} {t e : TypeId} {base : Nat} {D D2 : Nat → Prop} {x y : Operand} {z v : Value} {ts us : List Nd} {a : Option Addr} {n c : Nat} (hw : want all r g = some true) (hd : Nat.blt d N = true) (ht : sliceB P t e 8 = true) (hz : zeroB P e z) (hzs : z.cells.size = 8) (hby : smallB P e = true)
    (hx : ev r x = some v) (hy : ev r y = some (.slice a n c)) (hown : OwnV e base D w v ts) (hus : NodesV D2 w (.slice a n c) us) (hap : ∀ k, D2 k → v.ownBlock ≠ some k) (hlen : ts.length + us.length ≤ 1000000000) (hbase : base ≤ w.heap.size)
    (next : ∀ v' w', GrownD w w' v.ownBlock → OwnV e base (fun k => D k ∨ D2 k) w' v' (ts ++ us) → (v'.ownBlock = v.ownBlock ∨ v'.ownBlock = some w.heap.size) → WL ro P all Q N ds rest ((d, v') :: r) w') :
    WL ro P all Q N ds (⟨some d, .call ⟨.builtin .append, #[x, y], #[t, t]⟩, ty, pos, aft, g⟩ :: rest) r w := by
  obtain ⟨v', w', h1, h2, h3, h4⟩ := run_appendV (ty := ty) ht hz hzs hby hown hus hap hlen hbase
  exact WL.val hw hd (by intro c h; cases h) (fun a ha => by simp [execOp, resolve, invoke, builtin, ha.ev hx, ha.ev hy, h1]) (next v' w' h3 h2 h4)
theorem WL.append1 {d : Nat} {t e t' : TypeId} {base b c : Nat} {D D2 : Nat → Prop} {x y : Operand} {z v : Value} {ts : List Nd} {l : List Value} {T : Nd} (hw : want all r g = some true) (hd : Nat.blt d N = true) (ht : sliceB P t e 8 = true) (hz : zeroB P e z) (hzs : z.cells.size = 8) (hby : smallB P e = true)
    (hx : ev r x = some v) (hy : ev r y = some (.slice (some ⟨b, 0, none⟩) 1 c)) (hown : OwnV e base D w v ts) (hR : Row w b l t') (hl : NodeL D2 w l T) (hap : ∀ k, D2 k → v.ownBlock ≠ some k) (hlen : ts.length + 1 ≤ 1000000000) (hbase : base ≤ w.heap.size)
    (next : ∀ v' w', GrownD w w' v.ownBlock → OwnV e base (fun k => D k ∨ D2 k) w' v' (ts ++ [T]) → (v'.ownBlock = v.ownBlock ∨ v'.ownBlock = some w.heap.size) → WL ro P all Q N ds rest ((d, v') :: r) w') :
    WL ro P all Q N ds (⟨some d, .call ⟨.builtin .append, #[x, y], #[t, t]⟩, ty, pos, aft, g⟩ :: rest) r w := by
  obtain ⟨v', w', h1, h2, h3, h4⟩ := run_appendR (P := P) (ty := ty) (a := some ⟨b, 0, none⟩) (c := c) ht hz hzs hby hown (RowsL.single hl) (.inr ⟨b, 0, rfl, by simpa using hR.reads0⟩) hap (by simpa using hlen) hbase
  exact WL.val hw hd (by intro c h; cases h) (fun a ha => by simp only [List.length_singleton] at h1; simp [execOp, resolve, invoke, builtin, ha.ev hx, ha.ev hy, h1]) (next v' w' h3 h2 h4)
theorem WL.indexS {d : Nat} {t : Nat} {x y : Operand} {bs : List UInt8} {i : Nat} {k : IntKind} {j : Int} {b : UInt8} (hw : want all r g = some true) (hd : Nat.blt d N = true) (ht : P.underlying t = some .string)
    (hx : ev r x = some (.string ⟨bs.toArray⟩)) (hy : ev r y = some (.int k j)) (hj : j = i) (hv : bs[i]? = some b)
    (next : WL ro P all Q N ds rest ((d, .int .u8 b.toNat) :: r) w) : WL ro P all Q N ds (⟨some d, .index t x y, ty, pos, aft, g⟩ :: rest) r w := by
  subst hj
  refine WL.val hw hd (by intro c h; cases h) (fun a ha => ?_) next
  have hi : i < bs.length := (List.getElem?_eq_some_iff.1 hv).1
  have hb : (⟨bs.toArray⟩ : ByteArray)[i]? = some b := by
    have e : bs[i] = b := by rw [List.getElem?_eq_getElem hi] at hv; exact Option.some.inj hv
    rw [getElem?_pos (⟨bs.toArray⟩ : ByteArray) i hi, ← e]; rfl
  simp [execOp, ha.ev hx, ha.ev hy, Instr.index, asIntOf, run_underlying ht, hb]
theorem WL.lenS {d : Nat} {t : TypeId} {x : Operand} {bs : List UInt8} (hw : want all r g = some true) (hd : Nat.blt d N = true) (ht : P.underlying t = some .string) (hx : ev r x = some (.string ⟨bs.toArray⟩))
    (next : WL ro P all Q N ds rest ((d, .int .i64 bs.length) :: r) w) : WL ro P all Q N ds (⟨some d, .call ⟨.builtin .len, #[x], #[t]⟩, ty, pos, aft, g⟩ :: rest) r w := WL.lens hw hd ht hx next
theorem scells_get (s : S4) (i : Nat) (h : i < 4) : (scells s)[0 + i * 1]? = some (.int .u64 (Nd.S4get s i)) := by
  have hi : i = 0 ∨ i = 1 ∨ i = 2 ∨ i = 3 := by omega
  rcases hi with rfl | rfl | rfl | rfl <;> rfl
theorem scells_put (s : S4) (i : Nat) (v : Int) (h : i < 4) : (scells s).take (0 + i * 1) ++ [.int .u64 v] ++ (scells s).drop (0 + i * 1 + 1) = scells (Nd.S4put s i v) := by
  have hi : i = 0 ∨ i = 1 ∨ i = 2 ∨ i = 3 := by omega
  rcases hi with rfl | rfl | rfl | rfl <;> rfl
theorem WL.sliceNil {d : Nat} {t e : TypeId} {x y : Operand} {a : Option Addr} {n c : Nat} {b : Bool} {t2 : TypeId} (hw : want all r g = some true) (hd : Nat.blt d N = true) (ht : P.underlying t = some (.slice e)) (hx : ev r x = some (.slice a n c)) (hy : ev r y = some (.slice none 0 0)) (hb : a.isNone = b)
    (next : WL ro P all Q N ds rest ((d, .bool b) :: r) w) : WL ro P all Q N ds (⟨some d, .binOp .eql t x y t2, ty, pos, aft, g⟩ :: rest) r w := by
  refine WL.val hw hd (by intro c h; cases h) (fun ac ha => ?_) next
  have hg : ∀ u v, (eqGuard .eql t u v (.slice a n c) (.slice none 0 0)).run P w = .ok () w := by intro u v; simp [eqGuard]
  simp only [execOp, ha.ev hx, ha.ev hy, hg, Sem.run_bind, Sem.run_pure, Result.andThen_ok, run_eql_slice_nil w t e _ _ _ ht, hb]
theorem WL.storeV {t e : TypeId} {base : Nat} {DD : Nat → Nat → Prop} {D' : Nat → Prop} {x y : Operand} {b i n cap : Nat} {l : List Value} {T : Nd} {ts : List Nd} (hw : want all r g = some true) (ht : aggB P t 8 = true)
    (hx : ev r x = some (.pointer (some ⟨b, 0 + i * 8, none⟩))) (hy : ev r y = some (.agg l.toArray)) (hM : MixV e base DD w (.slice (some ⟨b, 0, none⟩) n cap) ts) (hi : i < ts.length) (hl : NodeL D' w l T) (hap : ∀ k, D' k → k < w.heap.size → k ≠ b)
    (next : ∀ w', But b w w' → MixV e base (fun j k => (j = i ∧ D' k) ∨ (j ≠ i ∧ DD j k)) w' (.slice (some ⟨b, 0, none⟩) n cap) (ts.set i T) → WL ro P all Q N ds rest r w') :
    WL ro P all Q N ds (⟨none, .store t x y, ty, pos, aft, g⟩ :: rest) r w := by
  obtain ⟨ls, ⟨hlen, h⟩, h2, h3, h4⟩ := hM
  have h8 : ∀ l ∈ ls, l.length = 8 := by
    intro l hl
    obtain ⟨q, hq, rfl⟩ := List.mem_iff_getElem.1 hl
    exact (h3 q _ (ts[q]'(by omega)) (by simp [hq]) (by simp)).length
  rcases h with ⟨he, _⟩ | ⟨g', cap', cur, he, hg, hrow, hn, hcm, hcs, htake⟩
  · cases he
  · cases he
    have hcl : cur.toList.length = cap * 8 := by simpa using hcs
    have hl8 := hl.length
    refine WL.store (n := 8) (vl := l) hw hx hy (by simpa [Row] using hrow : Row w b cur.toList e) (run_sizeOf_agg ht) rfl hl8 (by omega) (List.all_eq_true.2 hl.one) (fun w' hB hR => next w' hB ?_)
    have key : ∀ (q : Nat), q ≠ i → ∀ l t, ls[q]? = some l → ts[q]? = some t → NodeL (fun k => ((q = i ∧ D' k) ∨ (q ≠ i ∧ DD q k)) ∧ k < w'.heap.size ∧ (Value.slice (some ⟨b, 0, none⟩) ts.length cap).ownBlock ≠ some k) w' l t := fun q hq l t hl' ht' =>
      (h3 q l t hl' ht').step (fun k hk => ⟨.inr ⟨hq, hk.1⟩, by rw [hB.size]; exact hk.2.1, hk.2.2⟩) (fun c o l' hk hr => hB.reads hr (fun he => hk.2.2 (by simp [Value.ownBlock, he])))
    refine ⟨ls.set i l, ⟨?_, .inr ⟨b, cap, (cur.toList.take (0 + i * 8) ++ l ++ cur.toList.drop (0 + i * 8 + 8)).toArray, by simp, hg, by simpa [Row] using hR, by simpa using hn, hcm, by simp [hl8]; omega, ?_⟩⟩, by simpa using h2, ?_, by simpa using h4⟩
    · rw [len_flatten _ (fun q hq => by rcases List.mem_or_eq_of_mem_set hq with h | h; exact h8 q h; rw [h]; exact hl8)]; simp [h2]
    · have hfl : ∀ (ls : List (List Value)) (cur : List Value) (i : Nat), (∀ l ∈ ls, l.length = 8) → i < ls.length → cur.take (ls.length * 8) = ls.flatten → (cur.take (i * 8) ++ l ++ cur.drop (i * 8 + 8)).take (ls.length * 8) = (ls.set i l).flatten := by
        clear h3 key hB hR next hl hy
        intro ls
        induction ls with
        | nil => intro cur i _ hi; simp at hi
        | cons x ls ih =>
          intro cur i h8 hi he
          have hx8 := h8 x (by simp)
          have hc1 : cur.take 8 = x := by
            have := congrArg (List.take 8) he
            rw [List.take_take, List.flatten_cons, List.take_left' hx8, List.length_cons, Nat.min_eq_left (by omega)] at this
            exact this
          have hc2 : (cur.drop 8).take (ls.length * 8) = ls.flatten := by
            have := congrArg (List.drop 8) he
            rw [List.drop_take, List.flatten_cons, List.drop_left' hx8, List.length_cons] at this
            rw [← this]; congr 1; omega
          cases i with
          | zero =>
            simp only [Nat.zero_mul, List.take_zero, List.nil_append, Nat.zero_add, List.set_cons_zero, List.flatten_cons, List.length_cons]
            have e : (ls.length + 1) * 8 = l.length + ls.length * 8 := by omega
            rw [e, List.take_length_add_append, hc2]
          | succ i =>
            simp only [List.set_cons_succ, List.flatten_cons, List.length_cons]
            have := ih (cur.drop 8) i (fun q hq => h8 q (by simp [hq])) (by simpa using hi) hc2
            rw [← this]
            have hcur : cur = x ++ cur.drop 8 := by conv => lhs; rw [← List.take_append_drop 8 cur, hc1]
            have e1 : (i + 1) * 8 = x.length + i * 8 := by omega
            have e2 : (ls.length + 1) * 8 = x.length + ls.length * 8 := by omega
            have e3 : x.length + i * 8 + 8 = x.length + (i * 8 + 8) := by omega
            rw [e1, e2, e3]
            generalize cur.drop 8 = c2 at hcur
            rw [hcur, List.take_length_add_append, List.append_assoc, List.append_assoc, List.take_length_add_append, List.append_assoc]
            congr 3
            rw [← List.drop_drop, List.drop_left]
      have hln : ts.length = ls.length := h2.symm
      have := hfl ls cur.toList i h8 (by omega) (by rw [← hln]; exact htake)
      simpa [hln] using this
    · intro q l' t' h1 ht'
      by_cases hq : q = i
      · subst hq
        rw [List.getElem?_set_self (by omega)] at h1 ht'
        cases h1; cases ht'
        have hl2 := hl.lt
        refine hl2.step (fun k hk => ⟨.inl ⟨rfl, hk.1⟩, by rw [hB.size]; exact hk.2, ?_⟩) (fun c o l' hk hr => hB.reads hr (hap c hk.1 hk.2))
        intro hh
        simp only [Value.ownBlock, Option.some.injEq] at hh
        exact hap k hk.1 hk.2 hh.symm
      · rw [List.getElem?_set_ne (fun h => hq h.symm)] at h1 ht'
        simpa using key q hq l' t' h1 ht'
theorem WL.buildSlice0 {d : Nat} {t e n : Nat} (hw : want all r g = some true) (hd : Nat.blt d N = true) (ht : sliceB P t e n = true)
    (next : ∀ b w', b = w.heap.size → Ext w w' → w'.heap.size = w.heap.size + 1 → w'.heap[b]? = some (.cells #[] e (0, 0)) → WL ro P all Q N ds rest ((d, .slice (some ⟨b, 0, none⟩) 0 0) :: r) w') :
    WL ro P all Q N ds (⟨some d, .buildSlice t 0 #[], ty, pos, aft, g⟩ :: rest) r w := by
  obtain ⟨hu, q, hq, hs⟩ := sliceB_u ht
  refine WL.val hw hd (by intro c h; cases h) (w' := w.alloc (.cells #[] e)) (v := .slice (some ⟨w.heap.size, 0, none⟩) 0 0) (fun a ha => ?_) (next _ _ rfl (Ext.alloc _ _) (by simp) (World.alloc_heap_new w _))
  simp [execOp, Instr.buildSlice, run_underlying hu, sizeOf, typeInfo, hq, Instr.fill, newRow]
  have h0 : Array.range 0 = #[] := by apply Array.ext <;> simp
  rw [h0, Array.map_empty]
theorem OwnV.empty {e : TypeId} {base : Nat} {D : Nat → Prop} {w : World} {b : Nat} (hb : base ≤ b) (h : w.heap[b]? = some (.cells #[] e (0, 0))) : OwnV e base D w (.slice (some ⟨b, 0, none⟩) 0 0) [] :=
  ⟨[], ⟨rfl, .inr ⟨b, 0, #[], rfl, hb, h, Nat.le_refl _, by simp [maxLen], rfl, rfl⟩⟩, RowsL.nil _ _, by simp⟩
theorem grown_below {w w' a : World} {row : Option Nat} (h : GrownD w w' row) (e : Ext a w) (hr : ∀ k, row = some k → a.heap.size ≤ k) : Ext a w' :=
  ⟨⟨h.os.trans e.os, h.tape.trans e.tape, h.output.trans e.output, Nat.le_trans e.size h.size, fun k hk => (h.block k (Nat.lt_of_lt_of_le hk e.size) (fun hh => by have := hr k hh.symm; omega)).trans (e.block k hk)⟩, Nat.le_trans e.drawn h.drawn⟩
end
end Go.Proofs.Ytaggidjijekpbaa
namespace Go.Proofs.Ytaggidjijekpbaa
open Go.Proofs Go.RowKit
theorem small_node : smallB Try.prog 29 = true := by kernel_rfl
set_option maxRecDepth 20000 in
set_option maxHeartbeats 4000000 in
theorem clone_ok (D : Nat → Prop) (w : World) (a : Option Addr) (cap : Nat) (ts : List Nd) (hts : NodesV D w (.slice a ts.length cap) ts) (hD : ∀ k, D k → k < w.heap.size) (hle : ts.length ≤ 1000000000) :
  Calls Try.prog 48 #[.slice a ts.length cap] w fun e w' => ∃ v, e = .returned v ∧ OwnV 29 w.heap.size D w' v ts ∧ Ext w w' := by
 refine Calls.enter (args := [.slice a ts.length cap]) Try.func48 rfl rfl rfl rfl ?_
 refine sq ?_
 refine asg ?_
 refine WL.dn ?_
 refine WC.seqk ?_
 refine sq ?_
 refine mv ?_
 cases a with
 | none =>
  refine WL.sliceNil rfl rfl Try.underlying27 rfl rfl rfl ?_
  refine WL.dn ?_
  refine cT ?_
  refine sq ?_
  refine asg ?_
  refine WL.dn ?_
  refine WC.ret (fun a_ ha => ?_)
  refine ret_then ?_
  exact bodyPost_tmp rfl ha rfl ⟨_, rfl, (by have := hts.none; subst this; exact OwnV.nil _ _ _ _), (Ext.refl _)⟩
 | some ad =>
  refine WL.sliceNil rfl rfl Try.underlying27 rfl rfl rfl ?_
  refine WL.dn ?_
  refine cF ?_
  refine WC.sk ?_
  refine sq ?_
  refine WL.buildSlice0 rfl rfl Ty.slice27 (fun b51 w56 hb52 hE55 hs53 hR54 => ?_)
  refine mv ?_
  have hO57 := OwnV.empty (base := w.heap.size) (D := fun _ => False) (Nat.le_of_eq hb52.symm) hR54
  have hol58 := hO57.own
  refine WL.appendV rfl rfl Ty.slice27 Ty.zero29 rfl small_node rfl rfl hO57 (hts.ext hE55) (by intro k h1 hh; have := hD k h1; have := hol58 _ hh; first | omega | ((try dsimp only at h1); (repeat' first | (guard_hyp h1 : _ ∨ _; refine Or.elim h1 (fun h1 => ?_) (fun h1 => ?_)) | (guard_hyp h1 : _ ∧ _; have hx := h1.2; replace h1 := h1.1)) <;> first | contradiction | omega)) (by simp; omega) (by omega) ?_
  intro v58 w58 hG58 hO58 hv58
  have hE58 := grown_below hG58 hE55 (by intro k hk; have := hol58 _ hk; omega)
  have hz58 := hE58.size
  have hzz58 := hG58.size
  refine asg ?_
  refine WL.dn ?_
  refine WC.ret (fun a_ ha => ?_)
  exact bodyPost_tmp rfl ha rfl ⟨_, rfl, hO58.dom (by rintro k (h | h) _ _ <;> first | exact h.elim | exact h), hE58⟩
set_option maxRecDepth 20000 in
set_option maxHeartbeats 4000000 in
theorem copied_ok (T : Nd) : ∀ (D : Nat → Prop) (w : World) (l : List Value) (hT : NodeL D w l T) (hsz : T.size ≤ 10000),
  Calls Try.prog 41 #[.agg l.toArray] w fun e w' => ∃ l', e = .returned (.agg l'.toArray) ∧ NodeL (fun k => w.heap.size ≤ k) w' l' T ∧ Ext w w' := by
 induction T using Nd.ind with
 | h kd st mn mx tsx ih =>
 intro D w l hT hsz
 replace ih : ∀ t, t ∈ (Nd.mk kd st mn mx tsx).subs → _ := ih
 generalize Nd.mk kd st mn mx tsx = T at *
 clear kd st mn mx tsx
 have hT := hT.lt
 obtain ⟨a, cap, rfl, hts, hlen⟩ := hT.op2
 have hls := Nd.length_le_sizeL T.subs
 have hss := Nd.size_subs T
 refine Calls.enter (args := [.agg (tcells T (.slice a T.subs.length cap)).toArray]) Try.func41 rfl rfl rfl rfl ?_
 refine sq ?_
 refine WL.box_agg rfl rfl rfl (fun b1 w6 hb2 hE5 hs3 hR4 => ?_)
 refine WL.alloc rfl rfl Ty.zero29 rfl (fun b7 w12 hb8 hE11 hs9 hR10 => ?_)
 refine WL.dn ?_
 refine sq ?_
 refine WL.fieldAddr rfl rfl Ty.fld29_4 rfl ?_
 refine WL.load_fld rfl rfl Ty.flat27 rfl (hR4.ext hE11) rfl ?_
 have h14 := ((hts.ext hE5).ext hE11)
 refine WL.call rfl rfl rfl Ty.ent48 (clone_ok _ _ _ _ T.subs h14 (fun k hk => by have := hk.2; omega) (by omega)) ?_
 rintro _ w16 ⟨v13, rfl, hO13, hE15⟩
 have hzhE15 := hE15.size
 refine ⟨_, rfl, ?_⟩
 obtain ⟨a13, cap13, rfl, hn13, hx13⟩ := hO13.cases
 have hM13 : MixV 29 w12.heap.size (fun i b => ((i < 0 ∧ w12.heap.size ≤ b) ∨ (¬ i < 0 ∧ b < w.heap.size)) ∧ b < w12.heap.size) _ _ _ := hO13.mix.dom (by rintro i k _ ⟨h1, h2⟩ h3 _; (try dsimp only); omega)
 refine WL.fieldAddr rfl rfl Ty.fld29_4 rfl ?_
 have h19 := ((hR4.ext hE11).ext hE15)
 refine WL.store_fld rfl Ty.flat27 rfl rfl h19 rfl rfl (Nat.le_of_ble_eq_true rfl) rfl (fun w20 hB18 hR17 => ?_)
 have hzhB18 := hB18.size
 refine WL.dn ?_
 refine WC.seqk ?_
 refine sq ?_
 refine WL.fieldAddr rfl rfl Ty.fld29_4 rfl ?_
 refine WL.load_fld rfl rfl Ty.flat27 rfl hR17 rfl ?_
 refine WL.len rfl rfl Try.underlying27 rfl ?_
 refine mv ?_
 refine WL.dn ?_
 refine WC.block ?_
 have h21 := (hB18.row (hR10.ext hE15) (by omega))
 refine WC.weaken (r' := [(1, pt b1 0), (2, pt b7 0), (10, .slice a13 T.subs.length cap13), (11, .int .i64 T.subs.length), (12, .int .i64 0)]) (s4 (sr rfl (subReg_nil _))) ?_
 refine WC.loop (σ := Nat) (fun k r_ w_ => r_ = [(1, pt b1 0), (2, pt b7 0), (10, .slice a13 T.subs.length cap13), (11, .int .i64 T.subs.length), (12, .int .i64 (k : Int))] ∧ Ext w w_ ∧ (k ≤ T.subs.length ∧ Row w_ b1 (tcells T (.slice a13 T.subs.length cap13)) 29 ∧ Row w_ b7 (zc 0 0 0 (.slice none 0 0)) 29 ∧ MixV 29 w12.heap.size (fun i b => ((i < k ∧ w12.heap.size ≤ b) ∨ (¬ i < k ∧ b < w.heap.size))) w_ (.slice a13 T.subs.length cap13) T.subs)) (fun k => T.subs.length - k) 0 ⟨rfl, (hB18.onto ((hE5.trans hE11).trans hE15) (by omega)), ⟨Nat.zero_le _, hR17, h21, (hM13.but hB18 (by rintro i hi ⟨h1, h2⟩; first | omega | (dsimp only at h1; omega) | ((try dsimp only at h1); (repeat' first | (guard_hyp h1 : _ ∨ _; refine Or.elim h1 (fun h1 => ?_) (fun h1 => ?_)) | (guard_hyp h1 : _ ∧ _; have hx := h1.2; replace h1 := h1.1)) <;> first | contradiction | omega)) (fun hk => by have := hM13.block _ hk; omega)).dom (fun i k _ h _ _ => h.1)⟩⟩ ?_
 rintro k r_ w24 ⟨rfl, hE22, hI23⟩
 have hzhE22 := hE22.size
 obtain ⟨hk, hR1, hR2, hM⟩ := hI23
 have hM := hM.dom (DD' := fun i b => (((i < k ∧ w12.heap.size ≤ b) ∨ (¬ i < k ∧ b < w.heap.size)) ∧ b < w24.heap.size)) (fun i b _ h hlt _ => ⟨h, hlt⟩)
 have hMb := hM.block
 refine sq ?_
 cases hc25 : decide (((k : Int) : Int) < T.subs.length) with
 | false =>
  refine WL.lss rfl rfl rfl rfl hc25 ?_
  have hp25 := of_decide_eq_false hc25
  refine WL.dn ?_
  refine WC.seqk ?_
  refine cF ?_
  refine WC.exit (fun a_ ha => ?_)
  refine exit_then ?_
  refine exit_then ?_
  refine exit_here ?_
  refine WC.at ?_ ha
  refine sq ?_
  refine WL.load_box rfl rfl rfl hR1 Ty.agg29 ?_
  refine WL.store_box rfl rfl rfl hR2 Ty.agg29 rfl rfl (fun w28 hB27 hR26 => ?_)
  have hzhB27 := hB27.size
  refine WL.dn ?_
  refine WC.ret (fun a_ ha => ?_)
  exact bodyPost_cell (l := (tcells T (.slice a13 T.subs.length cap13))) rfl ha rfl Ty.agg29 hR26 ⟨_, rfl, NodeL.mk' (((hM.but hB27 (by rintro i hi ⟨h1, h2⟩; first | omega | (dsimp only at h1; omega) | ((try dsimp only at h1); (repeat' first | (guard_hyp h1 : _ ∨ _; refine Or.elim h1 (fun h1 => ?_) (fun h1 => ?_)) | (guard_hyp h1 : _ ∧ _; have hx := h1.2; replace h1 := h1.1)) <;> first | contradiction | omega)) (fun hk => by have := hM.block _ hk; have := hMb _ hk; omega)).own (D := fun k => w.heap.size ≤ k) (by rintro i b hi h1 h2 h3; (try dsimp only at h1); omega)).nodes.dom (by rintro b (h | h) <;> omega)), (hB27.onto hE22 (by omega))⟩
 | true =>
  refine WL.lss rfl rfl rfl rfl hc25 ?_
  have hp25 := of_decide_eq_true hc25
  refine WL.dn ?_
  refine WC.seqk ?_
  refine cT ?_
  refine WC.sk ?_
  refine WC.seqk ?_
  refine WC.block ?_
  refine sq ?_
  refine mv ?_
  obtain ⟨t26, ht26⟩ : ∃ t, T.subs[k]? = some t := ⟨_, List.getElem?_eq_getElem (by omega)⟩
  obtain ⟨eb26, el26, hea26, hgb26, hgl26, her26, hn26⟩ := hM.at ht26
  obtain ⟨a26, cap26, rfl, hts26, hlen26⟩ := hn26.op2
  subst hea26
  refine WL.indexAddr (i := k) rfl rfl Ty.slice27 rfl rfl rfl (by omega) ?_
  refine WL.load_agg (l := tcells t26 (.slice a26 t26.subs.length cap26)) rfl rfl Ty.agg29 rfl her26 ?_
  refine WL.alloc rfl rfl Ty.zero29 rfl (fun b27 w32 hb28 hE31 hs29 hR30 => ?_)
  refine asg ?_
  refine WL.store_box rfl rfl rfl hR30 Ty.agg29 rfl rfl (fun w35 hB34 hR33 => ?_)
  have hzhB34 := hB34.size
  refine WL.dn ?_
  have h36 := ((hM.ext hE31).but hB34 (by rintro i hi ⟨h1, h2⟩; first | omega | (dsimp only at h1; omega) | ((try dsimp only at h1); (repeat' first | (guard_hyp h1 : _ ∨ _; refine Or.elim h1 (fun h1 => ?_) (fun h1 => ?_)) | (guard_hyp h1 : _ ∧ _; have hx := h1.2; replace h1 := h1.1)) <;> first | contradiction | omega)) (fun hk => by have := (hM.ext hE31).block _ hk; have := hMb _ hk; omega))
  have h37 := ((hn26.ext hE31).bu hB34)
  have h38 := (hB34.row (hR1.ext hE31) (by omega))
  have h39 := (hB34.row (hR2.ext hE31) (by omega))
  refine WC.weaken (r' := [(1, pt b1 0), (2, pt b7 0), (10, .slice (some ⟨eb26, 0, none⟩) T.subs.length cap13), (11, .int .i64 T.subs.length), (12, .int .i64 (k : Int)), (13, .bool true), (14, .int .i64 (k : Int)), (15, pt eb26 (0 + k * 8)), (16, .agg (tcells t26 (.slice a26 t26.subs.length cap26)).toArray), (4, pt b27 0), (3, .int .i64 (k : Int))]) (s4 (s4 (sr rfl (sr rfl (sr rfl (subReg_nil _)))))) ?_
  refine WC.draw 5 [17, 18, 19, 20, 21] [pc (pt b1 7), pc (.slice (some ⟨eb26, 0, none⟩) T.subs.length cap13), pc (.int .i64 (k : Int)), pc (.agg (tcells t26 (.slice a26 t26.subs.length cap26)).toArray), pnode (fun k => w35.heap.size ≤ k) t26] (by kernel_rfl) (by kernel_rfl) (k4 ⟨KW_pnode _ _, trivial⟩) rfl rfl rfl (sc4 ?_ ?_ ?_ ?_ (sc ?_ (StepsOn.nil _))) ?_
  ·intro σ β w1 hE1 hbi hk
   refine ⟨[], (agree_nil _), ?_⟩
   refine WL.fieldAddr rfl rfl Ty.fld29_4 rfl ?_
   exact dq hbi rfl
  ·intro σ β w1 hE1 hbi hk
   refine ⟨[(17, pt b1 7)], (ak hk 0 (agree_nil _)), ?_⟩
   refine WL.load_fld rfl rfl Ty.flat27 rfl (h38.ext hE1) rfl ?_
   exact dq hbi rfl
  ·intro σ β w1 hE1 hbi hk
   refine ⟨[], (agree_nil _), ?_⟩
   refine mv ?_
   exact dq hbi rfl
  ·intro σ β w1 hE1 hbi hk
   refine ⟨[], (agree_nil _), ?_⟩
   refine WL.load_box rfl rfl rfl (hR33.ext hE1) Ty.agg29 ?_
   exact dq hbi rfl
  ·intro σ β w1 hE1 hbi hk
   have hz1 := hE1.size
   refine ⟨[(20, .agg (tcells t26 (.slice a26 t26.subs.length cap26)).toArray)], (ak hk 3 (agree_nil _)), ?_⟩
   refine WL.call rfl rfl rfl Ty.ent41 (ih t26 (List.mem_of_getElem? ht26) _ _ _ (h37.ext hE1) (by have := Nd.size_le_sizeL (List.mem_of_getElem? ht26); have := Nd.size_subs T; omega)) ?_
   rintro _ w63 ⟨l61, rfl, hr61, hE62⟩
   refine ⟨_, rfl, ?_⟩
   have hn61 := hr61.lt
   obtain ⟨a61, cap61, rfl, hts61, hlen61⟩ := hn61.op2
   exact dqE hbi hE62 ⟨_, rfl, (hr61.off0 hbi (fun k hk => Nat.le_trans hE1.size hk))⟩
  intro σ β w40 hE40 hbi40 hk
  have hz40 := hE40.size
  have hbi := hbi40
  obtain ⟨_, hv43, l43, rfl, hn43⟩ := hk 4 (by decide) _ _ rfl rfl
  have hn43 := hn43.lt
  obtain ⟨a43, cap43, rfl, hts43, hlen43⟩ := hn43.op2
  refine WL.know [(18, .slice (some ⟨eb26, 0, none⟩) T.subs.length cap13), (19, .int .i64 (k : Int)), (21, .agg (tcells t26 (.slice a43 t26.subs.length cap43)).toArray)] (aj hk 1 (aj hk 2 (ag hv43 (agree_nil _)))) ?_
  refine WL.indexAddr (i := k) rfl rfl Ty.slice27 rfl rfl rfl (by omega) ?_
  refine WL.storeV (i := k) (T := t26) rfl Ty.agg29 rfl rfl (h36.ext hE40) (by omega) hn43 (by first | (rintro k ⟨h1, h2⟩ h3; first | omega | (dsimp only at h1; omega)) | (intro k h1 h3; (try dsimp only at h1); (repeat' first | (guard_hyp h1 : _ ∨ _; refine Or.elim h1 (fun h1 => ?_) (fun h1 => ?_)) | (guard_hyp h1 : _ ∧ _; have hx := h1.2; replace h1 := h1.1)) <;> first | contradiction | omega)) (fun w46 hB45 hM44 => ?_)
  have hzhB45 := hB45.size
  refine WL.dn ?_
  refine WC.region ?_
  refine WL.add (v := (k : Int) + 1) rfl rfl rfl rfl (IntWalk.i64_in _ (by omega)) ?_
  refine mv ?_
  refine WL.nil (fun a_ ha => ?_)
  have h47 := (hB45.row (h38.ext hE40) (by omega))
  have h48 := (hB45.row (h39.ext hE40) (by omega))
  exact ⟨k + 1, _, ha.weaken (s4 (sr rfl (subReg_nil _))), ⟨rfl, (hB45.onto ((hB34.onto (hE22.trans hE31) (by omega)).trans hE40) (by omega)), ⟨by omega, h47, h48, (by have hq := hM44; rw [set_self ht26] at hq; exact hq.dom (by rintro j b hj h1 h2 h3; (try dsimp only at h1 ⊢); omega))⟩⟩, by first | omega | (dsimp only; omega)⟩
end Go.Proofs.Ytaggidjijekpbaa
namespace Go.Proofs.Ytaggidjijekpbaa
open Go.Proofs Go.RowKit
abbrev qa1 : Nd := (Nd.mk 0 Nd.zero 0 0 ([]))
set_option maxRecDepth 20000 in
set_option maxHeartbeats 4000000 in
theorem checked_ok (D : Nat → Prop) (w : World) (l : List Value) (T : Nd) (hT : NodeL D w l T) :
  Calls Try.prog 42 #[.agg l.toArray] w fun e w' => ∃ l', e = .returned (.agg l'.toArray) ∧ NodeL (fun k => w.heap.size ≤ k) w' l' T.checked ∧ Ext w w' := by
 have hT := hT.lt
 obtain ⟨a, cap, rfl, hts, hlen⟩ := hT.op2
 refine Calls.enter (args := [.agg (tcells T (.slice a T.subs.length cap)).toArray]) Try.func42 rfl rfl rfl rfl ?_
 refine sq ?_
 refine WL.box_agg rfl rfl rfl (fun b1 w6 hb2 hE5 hs3 hR4 => ?_)
 refine WL.alloc rfl rfl Ty.zero29 rfl (fun b7 w12 hb8 hE11 hs9 hR10 => ?_)
 refine WL.dn ?_
 refine WC.seqk ?_
 refine sq ?_
 refine WL.load_box rfl rfl rfl (hR4.ext hE11) Ty.agg29 ?_
 have h13 := ((hT.ext hE5).ext hE11)
 refine WL.call rfl rfl rfl Ty.ent12 (clean_ok _ _ _ _ h13) ?_
 rintro _ w15 ⟨rfl, hE14⟩
 have hzhE14 := hE14.size
 refine ⟨_, rfl, ?_⟩
 cases hc16 : Nd.clean T with
 | false =>
  refine WL.not rfl rfl rfl ?_
  refine WL.dn ?_
  refine cT ?_
  refine sq ?_
  refine WL.build0 (l := (zc 0 0 0 (.slice none 0 0))) rfl rfl Ty.zero29 Ty.agg29 rfl Ty.bz29 ?_
  have hn17 : NodeL _ w15 (zc 0 0 0 (.slice none 0 0)) qa1 := NodeL.shut (k := 0) (s := Nd.zero) (mn := 0) (mx := 0) (sl := .slice none 0 0) (ts := []) (NodesV.nil (fun _ => False) _ none 0)
  have hn17 := hn17.lt
  refine WL.store_box rfl rfl rfl (hR10.ext hE14) Ty.agg29 rfl rfl (fun w20 hB19 hR18 => ?_)
  have hzhB19 := hB19.size
  refine WL.dn ?_
  refine WC.ret (fun a_ ha => ?_)
  refine ret_then ?_
  exact bodyPost_cell (l := (zc 0 0 0 (.slice none 0 0))) rfl ha rfl Ty.agg29 hR18 ⟨_, rfl, (by simp only [Nd.checked, hc16, cond_true, cond_false, Bool.not_true, Bool.not_false, Bool.or_true, Bool.true_or, Bool.or_false, Bool.false_or, Bool.and_true, Bool.true_and, Bool.and_false, Bool.false_and]; exact ((hn17.bu hB19).dom (by intro k hk; (try dsimp only at hk); first | omega | exact hk.1.elim))), (hB19.onto ((hE5.trans hE11).trans hE14) (by omega))⟩
 | true =>
  refine WL.not rfl rfl rfl ?_
  refine WL.dn ?_
  refine cF ?_
  refine WC.sk ?_
  refine sq ?_
  have h17 := ((hR4.ext hE11).ext hE14)
  refine WL.load_box rfl rfl rfl h17 Ty.agg29 ?_
  refine WL.call rfl rfl rfl Ty.ent41 (copied_ok T _ _ _ (h13.ext hE14) (Nd.clean_size hc16)) ?_
  rintro _ w20 ⟨l18, rfl, hr18, hE19⟩
  have hzhE19 := hE19.size
  refine ⟨_, rfl, ?_⟩
  have hn18 := hr18.lt
  obtain ⟨a18, cap18, rfl, hts18, hlen18⟩ := hn18.op2
  have h23 := ((hR10.ext hE14).ext hE19)
  refine WL.store_box rfl rfl rfl h23 Ty.agg29 rfl rfl (fun w24 hB22 hR21 => ?_)
  have hzhB22 := hB22.size
  refine WL.dn ?_
  refine WC.ret (fun a_ ha => ?_)
  exact bodyPost_cell (l := (tcells T (.slice a18 T.subs.length cap18))) rfl ha rfl Ty.agg29 hR21 ⟨_, rfl, (by simp only [Nd.checked, hc16, cond_true, cond_false, Bool.not_true, Bool.not_false, Bool.or_true, Bool.true_or, Bool.or_false, Bool.false_or, Bool.and_true, Bool.true_and, Bool.and_false, Bool.false_and]; exact ((hn18.bu hB22).dom (by intro k hk; (try dsimp only at hk); first | omega | exact hk.1.elim))), (hB22.onto (((hE5.trans hE11).trans hE14).trans hE19) (by omega))⟩
set_option maxRecDepth 20000 in
set_option maxHeartbeats 4000000 in
theorem good_ok (D : Nat → Prop) (w : World) (l : List Value) (T : Nd) (hT : NodeL D w l T) :
  Calls Try.prog 34 #[.agg l.toArray] w fun e w' => e = .returned (.bool T.good) ∧ Ext w w' := by
 have hT := hT.lt
 obtain ⟨a, cap, rfl, hts, hlen⟩ := hT.op2
 refine Calls.enter (args := [.agg (tcells T (.slice a T.subs.length cap)).toArray]) Try.func34 rfl rfl rfl rfl ?_
 refine sq ?_
 refine WL.box_agg rfl rfl rfl (fun b1 w6 hb2 hE5 hs3 hR4 => ?_)
 refine asg ?_
 refine WL.dn ?_
 refine sq ?_
 refine WL.load_box rfl rfl rfl hR4 Ty.agg29 ?_
 refine WL.build0 (l := (zc 0 0 0 (.slice none 0 0))) rfl rfl Ty.zero29 Ty.agg29 rfl Ty.bz29 ?_
 have hn7 : NodeL _ w6 (zc 0 0 0 (.slice none 0 0)) qa1 := NodeL.shut (k := 0) (s := Nd.zero) (mn := 0) (mx := 0) (sl := .slice none 0 0) (ts := []) (NodesV.nil (fun _ => False) _ none 0)
 have hn7 := hn7.lt
 refine WL.call rfl rfl rfl Ty.ent38 (same_ok T _ _ _ _ _ qa1 (hT.ext hE5) hn7) ?_
 rintro _ w9 ⟨rfl, hE8⟩
 have hzhE8 := hE8.size
 refine ⟨_, rfl, ?_⟩
 cases hc10 : T.same qa1 with
 | false =>
  refine mv ?_
  refine WL.load_box rfl rfl rfl (hR4.ext hE8) Ty.agg29 ?_
  have h11 := ((hT.ext hE5).ext hE8)
  refine WL.call rfl rfl rfl Ty.ent12 (clean_ok _ _ _ _ h11) ?_
  rintro _ w13 ⟨rfl, hE12⟩
  have hzhE12 := hE12.size
  refine ⟨_, rfl, ?_⟩
  refine pF ?_
  refine asg ?_
  refine WL.dn ?_
  refine WC.ret (fun a_ ha => ?_)
  exact bodyPost_tmp rfl ha rfl ⟨(by congr 2; have hcn := hc10; change _ = (T.same Nd.none || T.clean); change T.same Nd.none = _ at hcn; rw [hcn]; simp), ((hE5.trans hE8).trans hE12)⟩
 | true =>
  refine mv ?_
  refine ps ?_
  refine ps ?_
  refine pT ?_
  refine asg ?_
  refine WL.dn ?_
  refine WC.ret (fun a_ ha => ?_)
  exact bodyPost_tmp rfl ha rfl ⟨(by congr 2; have hcn := hc10; change _ = (T.same Nd.none || T.clean); change T.same Nd.none = _ at hcn; rw [hcn]; simp), (hE5.trans hE8)⟩
set_option maxRecDepth 20000 in
set_option maxHeartbeats 4000000 in
theorem flat_ok (D : Nat → Prop) (w : World) (kind without : Int) (a : Option Addr) (cap : Nat) (ts : List Nd) (hts : NodesV D w (.slice a ts.length cap) ts) (hD : ∀ k, D k → k < w.heap.size) (hle : Nd.sizeL ts ≤ 100000000) :
  Calls Try.prog 33 #[.int .u8 kind, .int .u8 without, .slice a ts.length cap] w fun e w' => ∃ v, e = .returned v ∧ OwnV 29 w.heap.size D w' v (Nd.flat kind without ts) ∧ Ext w w' := by
 have hlen := hts.len
 have hts := hts.lt
 refine Calls.enter (args := [.int .u8 kind, .int .u8 without, .slice a ts.length cap]) Try.func33 rfl rfl rfl rfl ?_
 refine sq ?_
 refine asg ?_
 refine WL.dn ?_
 refine sq ?_
 refine asg ?_
 refine WL.dn ?_
 refine WC.seqk ?_
 refine sq ?_
 refine mv ?_
 refine WL.len rfl rfl Try.underlying27 rfl ?_
 refine mv ?_
 refine WL.dn ?_
 refine WC.block ?_
 refine WC.weaken (r' := [(0, .int .u8 kind), (1, .int .u8 without), (10, .slice a ts.length cap), (11, .int .i64 ts.length), (12, .int .i64 0), (7, .slice none 0 0)]) (s4 (sr rfl (sr rfl (subReg_nil _)))) ?_
 refine WC.loop (σ := Nat × Value) (fun s r_ w_ => r_ = [(0, .int .u8 kind), (1, .int .u8 without), (10, .slice a ts.length cap), (11, .int .i64 ts.length), (12, .int .i64 (s.1 : Int)), (7, s.2)] ∧ Ext w w_ ∧ (s.1 ≤ ts.length ∧ OwnV 29 w.heap.size D w_ s.2 (Nd.flat kind without (ts.take s.1)))) (fun s => ts.length - s.1) (0, .slice none 0 0) ⟨rfl, (Ext.refl _), ⟨Nat.zero_le _, OwnV.nil _ _ _ _⟩⟩ ?_
 rintro ⟨k, v⟩ r_ w3 ⟨rfl, hE1, hI2⟩
 have hzhE1 := hE1.size
 dsimp only at hI2
 obtain ⟨hk, hO⟩ := hI2
 have hol := hO.own
 refine WC.weaken (r' := [(0, .int .u8 kind), (1, .int .u8 without), (10, .slice a ts.length cap), (11, .int .i64 ts.length), (12, .int .i64 (k : Int)), (7, v)]) (s4 (sr rfl (sr rfl (subReg_nil _)))) ?_
 refine sq ?_
 cases hc4 : decide (((k : Int) : Int) < ts.length) with
 | false =>
  refine WL.lss rfl rfl rfl rfl hc4 ?_
  have hp4 := of_decide_eq_false hc4
  refine WL.dn ?_
  refine WC.seqk ?_
  refine cF ?_
  refine WC.exit (fun a_ ha => ?_)
  refine exit_then ?_
  refine exit_then ?_
  refine exit_here ?_
  refine WC.at ?_ ha
  refine sq ?_
  refine mv ?_
  refine asg ?_
  refine WL.dn ?_
  refine WC.ret (fun a_ ha => ?_)
  exact bodyPost_tmp rfl ha rfl ⟨_, rfl, (by have hkk : k = ts.length := (by omega); have hq := hO; subst hkk; rw [List.take_length] at hq; exact hq), hE1⟩
 | true =>
  refine WL.lss rfl rfl rfl rfl hc4 ?_
  have hp4 := of_decide_eq_true hc4
  refine WL.dn ?_
  refine WC.seqk ?_
  refine cT ?_
  refine WC.sk ?_
  refine WC.seqk ?_
  refine WC.block ?_
  refine sq ?_
  obtain ⟨t5, ht5⟩ : ∃ t, ts[k]? = some t := ⟨_, List.getElem?_eq_getElem (by omega)⟩
  obtain ⟨eb5, eo5, el5, hea5, hD5, her5, hn5⟩ := (hts.ext hE1).at ht5
  obtain ⟨a5, cap5, rfl, hts5, hlen5⟩ := hn5.op2
  subst hea5
  refine WL.indexAddr (i := k) rfl rfl Ty.slice27 rfl rfl rfl (by omega) ?_
  refine WL.load_agg (l := tcells t5 (.slice a5 t5.subs.length cap5)) rfl rfl Ty.agg29 rfl her5 ?_
  refine WL.alloc rfl rfl Ty.zero29 rfl (fun b6 w11 hb7 hE10 hs8 hR9 => ?_)
  refine WL.store_box rfl rfl rfl hR9 Ty.agg29 rfl rfl (fun w14 hB13 hR12 => ?_)
  have hzhB13 := hB13.size
  refine WL.dn ?_
  refine sq ?_
  refine WL.fieldAddr rfl rfl Ty.fld29_0 rfl ?_
  refine WL.load_fld rfl rfl Ty.flat5 rfl hR12 rfl ?_
  refine WL.dn ?_
  refine WC.block ?_
  refine sq ?_
  refine mv ?_
  cases hc15 : ((t5.kind : Int) == kind) with
  | false =>
   refine WL.eql rfl rfl rfl rfl hc15 ?_
   have hp15 := beq_eq_false_iff_ne.1 hc15
   refine asg ?_
   refine WL.dn ?_
   refine cF ?_
   refine sq ?_
   refine mv ?_
   cases hc16 : ((t5.kind : Int) == without) with
   | false =>
    refine WL.eql rfl rfl rfl rfl hc16 ?_
    have hp16 := beq_eq_false_iff_ne.1 hc16
    refine asg ?_
    refine WL.dn ?_
    refine cF ?_
    refine WC.region ?_
    refine mv ?_
    refine WL.load_box rfl rfl rfl hR12 Ty.agg29 ?_
    have h17 := ((hn5.ext hE10).bu hB13)
    refine WL.buildSlice (vs := [.agg (tcells t5 (.slice a5 t5.subs.length cap5)).toArray]) (cells := (tcells t5 (.slice a5 t5.subs.length cap5))) rfl rfl Ty.slice27 Ty.zero29 rfl rfl rfl rfl rfl rfl (fun b18 w23 hb19 hE22 hs20 hR21 => ?_)
    have hts18 := (NodesV.lit (n := 1) (ts := [t5]) hR21 (RowsL.cons (h17.ext hE22) (RowsL.nil' _)) rfl rfl (by decide)).lt
    have h24 := (((hO.ext hE10).but hB13 (fun h1 => by have := hD _ h1; first | omega | (dsimp only at h1; omega)) (fun hk => by have := (hO.ext hE10).own _ hk; have := hol _ hk; omega)).ext hE22)
    have hol25 := h24.own
    refine WL.append1 rfl rfl Ty.slice27 Ty.zero29 rfl small_node rfl rfl h24 hR21 (h17.ext hE22) (by intro k h1 hh; have := hol25 _ hh; have := hol _ hh; first | omega | ((try dsimp only at h1); (repeat' first | (guard_hyp h1 : _ ∨ _; refine Or.elim h1 (fun h1 => ?_) (fun h1 => ?_)) | (guard_hyp h1 : _ ∧ _; have hx := h1.2; replace h1 := h1.1)) <;> first | contradiction | omega)) (by have h1 := Nd.sizeL_take ht5; have h2 := Nd.flat_len kind without (ts.take k); have h3 := Nd.size_subs t5; have h4 := Nd.length_le_sizeL t5.subs; omega) (by omega) ?_
    intro v25 w25 hG25 hO25 hv25
    have hE25 := grown_below hG25 ((hB13.onto (hE1.trans hE10) (by omega)).trans hE22) (by intro k hk; have := hol25 _ hk; omega)
    have hz25 := hE25.size
    have hzz25 := hG25.size
    refine asg ?_
    refine WL.dn ?_
    refine WC.region ?_
    refine WL.add (v := (k : Int) + 1) rfl rfl rfl rfl (IntWalk.i64_in _ (by omega)) ?_
    refine mv ?_
    refine WL.nil (fun a_ ha => ?_)
    exact ⟨(k + 1, v25), _, ha.weaken (s4 (sr rfl (sr rfl (subReg_nil _)))), ⟨rfl, hE25, ⟨by first | omega | (dsimp only; omega), (by dsimp only; simp only [Nd.flat_succ _ _ ht5, Nd.flat1, hc15, hc16, cond_true, cond_false, List.append_nil]; exact hO25.dom (by first | exact fun _ h _ _ => h | (rintro k h _ _; rcases h with h | h; exact h; first | exact h | exact h.1)))⟩⟩, by first | omega | (dsimp only; omega)⟩
   | true =>
    refine WL.eql rfl rfl rfl rfl hc16 ?_
    have hp16 := beq_iff_eq.1 hc16
    refine asg ?_
    refine WL.dn ?_
    refine cT ?_
    refine WC.sk ?_
    refine WC.region ?_
    refine WL.add (v := (k : Int) + 1) rfl rfl rfl rfl (IntWalk.i64_in _ (by omega)) ?_
    refine mv ?_
    refine WL.nil (fun a_ ha => ?_)
    have h17 := ((hO.ext hE10).but hB13 (fun h1 => by have := hD _ h1; first | omega | (dsimp only at h1; omega)) (fun hk => by have := (hO.ext hE10).own _ hk; have := hol _ hk; omega))
    exact ⟨(k + 1, v), _, ha.weaken (s4 (sr rfl (sr rfl (subReg_nil _)))), ⟨rfl, (hB13.onto (hE1.trans hE10) (by omega)), ⟨by first | omega | (dsimp only; omega), (by dsimp only; simp only [Nd.flat_succ _ _ ht5, Nd.flat1, hc15, hc16, cond_true, cond_false, List.append_nil]; exact h17.dom (by first | exact fun _ h _ _ => h | (rintro k h _ _; rcases h with h | h; exact h; first | exact h | exact h.1)))⟩⟩, by first | omega | (dsimp only; omega)⟩
  | true =>
   refine WL.eql rfl rfl rfl rfl hc15 ?_
   have hp15 := beq_iff_eq.1 hc15
   refine asg ?_
   refine WL.dn ?_
   refine cT ?_
   refine WC.region ?_
   refine mv ?_
   refine WL.fieldAddr rfl rfl Ty.fld29_4 rfl ?_
   refine WL.load_fld rfl rfl Ty.flat27 rfl hR12 rfl ?_
   have h16 := ((hO.ext hE10).but hB13 (fun h1 => by have := hD _ h1; first | omega | (dsimp only at h1; omega)) (fun hk => by have := (hO.ext hE10).own _ hk; have := hol _ hk; omega))
   have hol17 := h16.own
   have h18 := ((hts5.ext hE10).bu hB13)
   refine WL.appendV rfl rfl Ty.slice27 Ty.zero29 rfl small_node rfl rfl h16 h18 (by intro k h1 hh; have := hol17 _ hh; have := hol _ hh; first | omega | ((try dsimp only at h1); (repeat' first | (guard_hyp h1 : _ ∨ _; refine Or.elim h1 (fun h1 => ?_) (fun h1 => ?_)) | (guard_hyp h1 : _ ∧ _; have hx := h1.2; replace h1 := h1.1)) <;> first | contradiction | omega)) (by have h1 := Nd.sizeL_take ht5; have h2 := Nd.flat_len kind without (ts.take k); have h3 := Nd.size_subs t5; have h4 := Nd.length_le_sizeL t5.subs; omega) (by omega) ?_
   intro v17 w17 hG17 hO17 hv17
   have hE17 := grown_below hG17 (hB13.onto (hE1.trans hE10) (by omega)) (by intro k hk; have := hol17 _ hk; omega)
   have hz17 := hE17.size
   have hzz17 := hG17.size
   refine asg ?_
   refine WL.dn ?_
   refine WC.region ?_
   refine WL.add (v := (k : Int) + 1) rfl rfl rfl rfl (IntWalk.i64_in _ (by omega)) ?_
   refine mv ?_
   refine WL.nil (fun a_ ha => ?_)
   exact ⟨(k + 1, v17), _, ha.weaken (s4 (sr rfl (sr rfl (subReg_nil _)))), ⟨rfl, hE17, ⟨by first | omega | (dsimp only; omega), (by dsimp only; simp only [Nd.flat_succ _ _ ht5, Nd.flat1, hc15, cond_true, cond_false, List.append_nil]; exact hO17.dom (by first | exact fun _ h _ _ => h | (rintro k h _ _; rcases h with h | h; exact h; first | exact h | exact h.1)))⟩⟩, by first | omega | (dsimp only; omega)⟩
set_option maxRecDepth 20000 in
set_option maxHeartbeats 4000000 in
theorem joined_ok (D : Nat → Prop) (w : World) (kind : Int) (a : Option Addr) (cap : Nat) (ts : List Nd) (l2 : List Value) (U : Nd) (hts : NodesV D w (.slice a ts.length cap) ts) (hU : NodeL (fun _ => False) w l2 U) :
  Calls Try.prog 32 #[.int .u8 kind, .slice a ts.length cap, .agg l2.toArray] w fun e w' => ∃ l', e = .returned (.agg l'.toArray) ∧ NodeL (fun k => w.heap.size ≤ k) w' l' (Nd.joined kind ts U) ∧ Ext w w' := by
 have hlen := hts.len
 have hts := hts.lt
 have hU := hU.lt
 obtain ⟨a2, cap2, rfl, hts2, hlen2⟩ := hU.op2
 refine Calls.enter (args := [.int .u8 kind, .slice a ts.length cap, .agg (tcells U (.slice a2 U.subs.length cap2)).toArray]) Try.func32 rfl rfl rfl rfl ?_
 refine sq ?_
 refine WL.box_agg rfl rfl rfl (fun b1 w6 hb2 hE5 hs3 hR4 => ?_)
 refine WL.alloc rfl rfl Ty.zero29 rfl (fun b7 w12 hb8 hE11 hs9 hR10 => ?_)
 refine WL.dn ?_
 refine WC.seqk ?_
 refine sq ?_
 refine mv ?_
 refine WL.len rfl rfl Try.underlying27 rfl ?_
 refine WL.dn ?_
 refine WC.block ?_
 refine sq ?_
 cases hc13 : ((ts.length : Int) == 0) with
 | false =>
  refine WL.eql rfl rfl rfl rfl hc13 ?_
  have hp13 := beq_eq_false_iff_ne.1 hc13
  refine asg ?_
  refine WL.dn ?_
  refine cF ?_
  refine sq ?_
  cases hc14 : ((ts.length : Int) == 1) with
  | false =>
   refine WL.eql rfl rfl rfl rfl hc14 ?_
   have hp14 := beq_eq_false_iff_ne.1 hc14
   refine asg ?_
   refine WL.dn ?_
   refine cF ?_
   refine WC.sk ?_
   refine sq ?_
   refine mv ?_
   refine mv ?_
   refine WL.build (l := (zc kind 0 0 (.slice a ts.length cap))) rfl rfl Ty.zero29 Ty.st29 ⟨⟨rfl, rfl⟩, (by kernel_rfl)⟩ ?_
   have h16 := ((hts.ext hE5).ext hE11)
   have hn15 : NodeL _ w12 (zc kind 0 0 (.slice a ts.length cap)) (Nd.mk kind Nd.zero 0 0 ts) := NodeL.shut (k := kind) (s := Nd.zero) (mn := 0) (mx := 0) (sl := .slice a ts.length cap) (ts := ts) h16
   have hn15 := hn15.lt
   refine WL.call rfl rfl rfl Ty.ent42 (checked_ok _ _ _ _ hn15) ?_
   rintro _ w19 ⟨l17, rfl, hr17, hE18⟩
   have hzhE18 := hE18.size
   refine ⟨_, rfl, ?_⟩
   have hn17 := hr17.lt
   obtain ⟨a17, cap17, rfl, hts17, hlen17⟩ := hn17.op2
   refine WL.store_box rfl rfl rfl (hR10.ext hE18) Ty.agg29 rfl rfl (fun w22 hB21 hR20 => ?_)
   have hzhB21 := hB21.size
   refine WL.dn ?_
   refine WC.ret (fun a_ ha => ?_)
   exact bodyPost_cell (l := (tcells ((Nd.mk kind Nd.zero 0 0 ts).checked) (.slice a17 ((Nd.mk kind Nd.zero 0 0 ts).checked).subs.length cap17))) rfl ha rfl Ty.agg29 hR20 ⟨_, rfl, (by simp only [Nd.joined, hc13, hc14, cond_true, cond_false]; exact ((hn17.bu hB21).dom (by intro k hk; (try dsimp only at hk); first | omega | exact hk.1.elim))), (hB21.onto ((hE5.trans hE11).trans hE18) (by omega))⟩
  | true =>
   refine WL.eql rfl rfl rfl rfl hc14 ?_
   have hp14 := beq_iff_eq.1 hc14
   refine asg ?_
   refine WL.dn ?_
   refine cT ?_
   refine sq ?_
   refine mv ?_
   have h15 := ((hts.ext hE5).ext hE11)
   obtain ⟨t16, ht16⟩ : ∃ t, ts[0]? = some t := ⟨_, List.getElem?_eq_getElem (by omega)⟩
   obtain ⟨eb16, eo16, el16, hea16, hD16, her16, hn16⟩ := h15.at ht16
   obtain ⟨a16, cap16, rfl, hts16, hlen16⟩ := hn16.op2
   subst hea16
   refine WL.indexAddr (i := 0) rfl rfl Ty.slice27 rfl rfl rfl (by omega) ?_
   refine WL.load_agg (l := tcells t16 (.slice a16 t16.subs.length cap16)) rfl rfl Ty.agg29 rfl her16 ?_
   refine WL.call rfl rfl rfl Ty.ent42 (checked_ok _ _ _ _ hn16) ?_
   rintro _ w19 ⟨l17, rfl, hr17, hE18⟩
   have hzhE18 := hE18.size
   refine ⟨_, rfl, ?_⟩
   have hn17 := hr17.lt
   obtain ⟨a17, cap17, rfl, hts17, hlen17⟩ := hn17.op2
   refine WL.store_box rfl rfl rfl (hR10.ext hE18) Ty.agg29 rfl rfl (fun w22 hB21 hR20 => ?_)
   have hzhB21 := hB21.size
   refine WL.dn ?_
   refine WC.ret (fun a_ ha => ?_)
   refine ret_block ?_
   refine ret_then ?_
   exact bodyPost_cell (l := [.int .u8 t16.checked.kind, .int .u64 t16.checked.set.a, .int .u64 t16.checked.set.b, .int .u64 t16.checked.set.c, .int .u64 t16.checked.set.d, .int .i64 t16.checked.least, .int .i64 t16.checked.most, .slice a17 t16.checked.subs.length cap17]) rfl ha rfl Ty.agg29 hR20 ⟨_, rfl, (by simp only [Nd.joined, hc13, hc14, ht16, Option.getD_some, cond_true, cond_false]; exact ((hn17.bu hB21).dom (by intro k hk; (try dsimp only at hk); first | omega | exact hk.1.elim))), (hB21.onto ((hE5.trans hE11).trans hE18) (by omega))⟩
 | true =>
  refine WL.eql rfl rfl rfl rfl hc13 ?_
  have hp13 := beq_iff_eq.1 hc13
  refine asg ?_
  refine WL.dn ?_
  refine cT ?_
  refine sq ?_
  refine WL.load_box rfl rfl rfl (hR4.ext hE11) Ty.agg29 ?_
  refine WL.store_box rfl rfl rfl hR10 Ty.agg29 rfl rfl (fun w16 hB15 hR14 => ?_)
  have hzhB15 := hB15.size
  refine WL.dn ?_
  refine WC.ret (fun a_ ha => ?_)
  refine ret_block ?_
  refine ret_then ?_
  have h17 := (((hU.ext hE5).ext hE11).bu hB15)
  exact bodyPost_cell (l := (tcells U (.slice a2 U.subs.length cap2))) rfl ha rfl Ty.agg29 hR14 ⟨_, rfl, (by simp only [Nd.joined, hc13, cond_true, cond_false]; exact (h17.dom (by intro k hk; (try dsimp only at hk); first | omega | exact hk.1.elim))), (hB15.onto (hE5.trans hE11) (by omega))⟩
set_option maxRecDepth 20000 in
set_option maxHeartbeats 4000000 in
theorem seq_ok (D : Nat → Prop) (w : World) (a : Option Addr) (cap : Nat) (ts : List Nd) (hts : NodesV D w (.slice a ts.length cap) ts) (hle : ts.length ≤ 10000) :
  Calls Try.prog 10 #[.slice a ts.length cap] w fun e w' => ∃ l', e = .returned (.agg l'.toArray) ∧ NodeL (fun k => w.heap.size ≤ k) w' l' (Nd.seq ts) ∧ Ext w w' := by
 have hlen := hts.len
 have hts := hts.lt
 refine Calls.enter (args := [.slice a ts.length cap]) Try.func10 rfl rfl rfl rfl ?_
 refine sq ?_
 refine WL.alloc rfl rfl Ty.zero29 rfl (fun b1 w6 hb2 hE5 hs3 hR4 => ?_)
 refine WL.dn ?_
 refine WC.seqk ?_
 refine sq ?_
 refine mv ?_
 refine WL.len rfl rfl Try.underlying27 rfl ?_
 refine mv ?_
 refine WL.dn ?_
 refine WC.block ?_
 refine WC.weaken (r' := [(0, .slice a ts.length cap), (2, pt b1 0), (5, .slice a ts.length cap), (6, .int .i64 ts.length), (7, .int .i64 0)]) (s4 (sr rfl (subReg_nil _))) ?_
 refine WC.loop (σ := Nat) (fun k r_ w_ => r_ = [(0, .slice a ts.length cap), (2, pt b1 0), (5, .slice a ts.length cap), (6, .int .i64 ts.length), (7, .int .i64 (k : Int))] ∧ Ext w6 w_ ∧ (k ≤ ts.length ∧ ∀ (m : Nat) (t : Nd), m < k → ts[m]? = some t → Nd.bad0 t = false)) (fun k => ts.length - k) 0 ⟨rfl, (Ext.refl _), ⟨Nat.zero_le _, fun m t h => by omega⟩⟩ ?_
 rintro k r_ w9 ⟨rfl, hE7, hI8⟩
 have hzhE7 := hE7.size
 obtain ⟨hk, hI0⟩ := hI8
 refine sq ?_
 cases hc10 : decide (((k : Int) : Int) < ts.length) with
 | false =>
  refine WL.lss rfl rfl rfl rfl hc10 ?_
  have hp10 := of_decide_eq_false hc10
  refine WL.dn ?_
  refine WC.seqk ?_
  refine cF ?_
  refine WC.exit (fun a_ ha => ?_)
  refine exit_then ?_
  refine exit_then ?_
  refine exit_here ?_
  refine WC.at ?_ ha
  refine sq ?_
  refine mv ?_
  have h12 := ((hts.ext hE5).ext hE7)
  refine WL.call rfl rfl rfl Ty.ent33 (flat_ok _ _ _ _ _ _ ts h12 (fun k hk => by have := hk.2; omega) (by have := Nd.sizeL_le (l := ts) (fun t ht => by obtain ⟨i, hi, rfl⟩ := List.mem_iff_getElem.1 ht; have := hI0 i _ (by omega) (List.getElem?_eq_getElem hi); simp [Nd.bad0] at this; exact Nd.clean_size this.2); omega)) ?_
  rintro _ w14 ⟨v11, rfl, hO11, hE13⟩
  have hzhE13 := hE13.size
  refine ⟨_, rfl, ?_⟩
  obtain ⟨a11, cap11, rfl, hnn11, hx11⟩ := hO11.cases
  have hts11 := hO11.nodes.lt
  refine WL.build (l := (zc 1 0 0 (.slice none 0 0))) rfl rfl Ty.zero29 Ty.st29 ⟨⟨rfl, rfl⟩, (by kernel_rfl)⟩ ?_
  have hn15 : NodeL _ w14 (zc 1 0 0 (.slice none 0 0)) (Nd.mk 1 Nd.zero 0 0 ([])) := NodeL.shut (k := 1) (s := Nd.zero) (mn := 0) (mx := 0) (sl := .slice none 0 0) (ts := []) (NodesV.nil (fun _ => False) _ none 0)
  have hn15 := hn15.lt
  refine WL.call rfl rfl rfl Ty.ent32 (joined_ok _ _ _ _ _ (Nd.flat 3 1 ts) _ (Nd.mk 1 Nd.zero 0 0 ([])) hts11 (hn15.dom (by rintro k ⟨h1, h2⟩; exact h1))) ?_
  rintro _ w18 ⟨l16, rfl, hr16, hE17⟩
  have hzhE17 := hE17.size
  refine ⟨_, rfl, ?_⟩
  have hn16 := hr16.lt
  obtain ⟨a16, cap16, rfl, hts16, hlen16⟩ := hn16.op2
  have h21 := (((hR4.ext hE7).ext hE13).ext hE17)
  refine WL.store_box rfl rfl rfl h21 Ty.agg29 rfl rfl (fun w22 hB20 hR19 => ?_)
  have hzhB20 := hB20.size
  refine WL.dn ?_
  refine WC.ret (fun a_ ha => ?_)
  exact bodyPost_cell (l := (tcells (Nd.joined 3 (Nd.flat 3 1 ts) (Nd.mk 1 Nd.zero 0 0 ([]))) (.slice a16 (Nd.joined 3 (Nd.flat 3 1 ts) (Nd.mk 1 Nd.zero 0 0 ([]))).subs.length cap16))) rfl ha rfl Ty.agg29 hR19 ⟨_, rfl, (by rw [show Nd.seq ts = _ from by simp only [Nd.seq, Nd.any_no (p := Nd.bad0) (show ts.length ≤ k by omega) hI0, cond_false]; rfl]; exact ((hn16.bu hB20).dom (by intro k hk; (try dsimp only at hk); first | omega | exact hk.1.elim))), (hB20.onto (((hE5.trans hE7).trans hE13).trans hE17) (by omega))⟩
 | true =>
  refine WL.lss rfl rfl rfl rfl hc10 ?_
  have hp10 := of_decide_eq_true hc10
  refine WL.dn ?_
  refine WC.seqk ?_
  refine cT ?_
  refine WC.sk ?_
  refine WC.seqk ?_
  refine WC.block ?_
  refine sq ?_
  have h11 := ((hts.ext hE5).ext hE7)
  obtain ⟨t12, ht12⟩ : ∃ t, ts[k]? = some t := ⟨_, List.getElem?_eq_getElem (by omega)⟩
  obtain ⟨eb12, eo12, el12, hea12, hD12, her12, hn12⟩ := h11.at ht12
  obtain ⟨a12, cap12, rfl, hts12, hlen12⟩ := hn12.op2
  subst hea12
  refine WL.indexAddr (i := k) rfl rfl Ty.slice27 rfl rfl rfl (by omega) ?_
  refine WL.load_agg (l := tcells t12 (.slice a12 t12.subs.length cap12)) rfl rfl Ty.agg29 rfl her12 ?_
  refine WL.alloc rfl rfl Ty.zero29 rfl (fun b13 w18 hb14 hE17 hs15 hR16 => ?_)
  refine WL.store_box rfl rfl rfl hR16 Ty.agg29 rfl rfl (fun w21 hB20 hR19 => ?_)
  have hzhB20 := hB20.size
  refine WL.dn ?_
  refine sq ?_
  refine WL.fieldAddr rfl rfl Ty.fld29_0 rfl ?_
  refine WL.load_fld rfl rfl Ty.flat5 rfl hR19 rfl ?_
  cases hc22 : ((t12.kind : Int) == 0) with
  | false =>
   refine WL.eql rfl rfl rfl rfl hc22 ?_
   have hp22 := beq_eq_false_iff_ne.1 hc22
   refine mv ?_
   refine WL.load_box rfl rfl rfl hR19 Ty.agg29 ?_
   have h23 := ((hn12.ext hE17).bu hB20)
   refine WL.call rfl rfl rfl Ty.ent12 (clean_ok _ _ _ _ h23) ?_
   rintro _ w25 ⟨rfl, hE24⟩
   have hzhE24 := hE24.size
   refine ⟨_, rfl, ?_⟩
   cases hc26 : Nd.clean t12 with
   | false =>
    refine WL.not rfl rfl rfl ?_
    refine pF ?_
    refine WL.dn ?_
    refine cT ?_
    refine sq ?_
    refine WL.build0 (l := (zc 0 0 0 (.slice none 0 0))) rfl rfl Ty.zero29 Ty.agg29 rfl Ty.bz29 ?_
    have hn27 : NodeL _ w25 (zc 0 0 0 (.slice none 0 0)) qa1 := NodeL.shut (k := 0) (s := Nd.zero) (mn := 0) (mx := 0) (sl := .slice none 0 0) (ts := []) (NodesV.nil (fun _ => False) _ none 0)
    have hn27 := hn27.lt
    have h30 := ((hB20.row ((hR4.ext hE7).ext hE17) (by omega)).ext hE24)
    refine WL.store_box rfl rfl rfl h30 Ty.agg29 rfl rfl (fun w31 hB29 hR28 => ?_)
    have hzhB29 := hB29.size
    refine WL.dn ?_
    refine WC.ret (fun a_ ha => ?_)
    refine ret_block ?_
    refine ret_then ?_
    refine ret_then ?_
    refine ret_block ?_
    refine ret_then ?_
    exact bodyPost_cell (l := (zc 0 0 0 (.slice none 0 0))) rfl ha rfl Ty.agg29 hR28 ⟨_, rfl, (by rw [show Nd.seq ts = Nd.none from by simp only [Nd.seq, Nd.any_at ht12 (p := Nd.bad0) (by simp only [Nd.bad0, hc22, hc26] <;> rfl), cond_true]]; exact ((hn27.bu hB29).dom (by intro k hk; (try dsimp only at hk); first | omega | exact hk.1.elim))), (hB29.onto ((hB20.onto ((hE5.trans hE7).trans hE17) (by omega)).trans hE24) (by omega))⟩
   | true =>
    refine WL.not rfl rfl rfl ?_
    refine pF ?_
    refine WL.dn ?_
    refine cF ?_
    refine WC.sk ?_
    refine WC.region ?_
    refine WL.add (v := (k : Int) + 1) rfl rfl rfl rfl (IntWalk.i64_in _ (by omega)) ?_
    refine mv ?_
    refine WL.nil (fun a_ ha => ?_)
    exact ⟨k + 1, _, ha.weaken (s4 (sr rfl (subReg_nil _))), ⟨rfl, ((hB20.onto (hE7.trans hE17) (by omega)).trans hE24), ⟨by omega, by
   intro m t hm ht
   rcases Nat.lt_or_ge m k with h | h
   ·exact hI0 m t h ht
   ·obtain rfl : m = k := by omega
    rw [ht] at ht12; cases ht12; exact (by simp only [Nd.bad0, hc22, hc26]; rfl)⟩⟩, by first | omega | (dsimp only; omega)⟩
  | true =>
   refine WL.eql rfl rfl rfl rfl hc22 ?_
   have hp22 := beq_iff_eq.1 hc22
   refine mv ?_
   refine ps ?_
   refine ps ?_
   refine ps ?_
   refine pT ?_
   refine WL.dn ?_
   refine cT ?_
   refine sq ?_
   refine WL.build0 (l := (zc 0 0 0 (.slice none 0 0))) rfl rfl Ty.zero29 Ty.agg29 rfl Ty.bz29 ?_
   have hn23 : NodeL _ w21 (zc 0 0 0 (.slice none 0 0)) qa1 := NodeL.shut (k := 0) (s := Nd.zero) (mn := 0) (mx := 0) (sl := .slice none 0 0) (ts := []) (NodesV.nil (fun _ => False) _ none 0)
   have hn23 := hn23.lt
   have h26 := (hB20.row ((hR4.ext hE7).ext hE17) (by omega))
   refine WL.store_box rfl rfl rfl h26 Ty.agg29 rfl rfl (fun w27 hB25 hR24 => ?_)
   have hzhB25 := hB25.size
   refine WL.dn ?_
   refine WC.ret (fun a_ ha => ?_)
   refine ret_block ?_
   refine ret_then ?_
   refine ret_then ?_
   refine ret_block ?_
   refine ret_then ?_
   exact bodyPost_cell (l := (zc 0 0 0 (.slice none 0 0))) rfl ha rfl Ty.agg29 hR24 ⟨_, rfl, (by rw [show Nd.seq ts = Nd.none from by simp only [Nd.seq, Nd.any_at ht12 (p := Nd.bad0) (by simp only [Nd.bad0, hc22] <;> rfl), cond_true]]; exact ((hn23.bu hB25).dom (by intro k hk; (try dsimp only at hk); first | omega | exact hk.1.elim))), (hB25.onto (hB20.onto ((hE5.trans hE7).trans hE17) (by omega)) (by omega))⟩
set_option maxRecDepth 20000 in
set_option maxHeartbeats 4000000 in
theorem or_ok (D : Nat → Prop) (w : World) (a : Option Addr) (cap : Nat) (ts : List Nd) (hts : NodesV D w (.slice a ts.length cap) ts) (hle : ts.length ≤ 10000) :
  Calls Try.prog 11 #[.slice a ts.length cap] w fun e w' => ∃ l', e = .returned (.agg l'.toArray) ∧ NodeL (fun k => w.heap.size ≤ k) w' l' (Nd.or ts) ∧ Ext w w' := by
 have hlen := hts.len
 have hts := hts.lt
 refine Calls.enter (args := [.slice a ts.length cap]) Try.func11 rfl rfl rfl rfl ?_
 refine sq ?_
 refine WL.alloc rfl rfl Ty.zero29 rfl (fun b1 w6 hb2 hE5 hs3 hR4 => ?_)
 refine WL.dn ?_
 refine WC.seqk ?_
 refine sq ?_
 refine mv ?_
 refine WL.len rfl rfl Try.underlying27 rfl ?_
 refine mv ?_
 refine WL.dn ?_
 refine WC.block ?_
 refine WC.weaken (r' := [(0, .slice a ts.length cap), (2, pt b1 0), (5, .slice a ts.length cap), (6, .int .i64 ts.length), (7, .int .i64 0)]) (s4 (sr rfl (subReg_nil _))) ?_
 refine WC.loop (σ := Nat) (fun k r_ w_ => r_ = [(0, .slice a ts.length cap), (2, pt b1 0), (5, .slice a ts.length cap), (6, .int .i64 ts.length), (7, .int .i64 (k : Int))] ∧ Ext w6 w_ ∧ (k ≤ ts.length ∧ ∀ (m : Nat) (t : Nd), m < k → ts[m]? = some t → (fun x => !Nd.good x) t = false)) (fun k => ts.length - k) 0 ⟨rfl, (Ext.refl _), ⟨Nat.zero_le _, fun m t h => by omega⟩⟩ ?_
 rintro k r_ w9 ⟨rfl, hE7, hI8⟩
 have hzhE7 := hE7.size
 obtain ⟨hk, hI0⟩ := hI8
 refine sq ?_
 cases hc10 : decide (((k : Int) : Int) < ts.length) with
 | false =>
  refine WL.lss rfl rfl rfl rfl hc10 ?_
  have hp10 := of_decide_eq_false hc10
  refine WL.dn ?_
  refine WC.seqk ?_
  refine cF ?_
  refine WC.exit (fun a_ ha => ?_)
  refine exit_then ?_
  refine exit_then ?_
  refine exit_here ?_
  refine WC.at ?_ ha
  refine sq ?_
  refine mv ?_
  have h12 := ((hts.ext hE5).ext hE7)
  refine WL.call rfl rfl rfl Ty.ent33 (flat_ok _ _ _ _ _ _ ts h12 (fun k hk => by have := hk.2; omega) (by have := Nd.sizeL_le (l := ts) (fun t ht => by obtain ⟨i, hi, rfl⟩ := List.mem_iff_getElem.1 ht; have := hI0 i _ (by omega) (List.getElem?_eq_getElem hi); exact Nd.good_size (by simpa using this)); omega)) ?_
  rintro _ w14 ⟨v11, rfl, hO11, hE13⟩
  have hzhE13 := hE13.size
  refine ⟨_, rfl, ?_⟩
  obtain ⟨a11, cap11, rfl, hnn11, hx11⟩ := hO11.cases
  have hts11 := hO11.nodes.lt
  refine WL.build0 (l := (zc 0 0 0 (.slice none 0 0))) rfl rfl Ty.zero29 Ty.agg29 rfl Ty.bz29 ?_
  have hn15 : NodeL _ w14 (zc 0 0 0 (.slice none 0 0)) qa1 := NodeL.shut (k := 0) (s := Nd.zero) (mn := 0) (mx := 0) (sl := .slice none 0 0) (ts := []) (NodesV.nil (fun _ => False) _ none 0)
  have hn15 := hn15.lt
  refine WL.call rfl rfl rfl Ty.ent32 (joined_ok _ _ _ _ _ (Nd.flat 4 0 ts) _ qa1 hts11 (hn15.dom (by rintro k ⟨h1, h2⟩; exact h1))) ?_
  rintro _ w18 ⟨l16, rfl, hr16, hE17⟩
  have hzhE17 := hE17.size
  refine ⟨_, rfl, ?_⟩
  have hn16 := hr16.lt
  obtain ⟨a16, cap16, rfl, hts16, hlen16⟩ := hn16.op2
  have h21 := (((hR4.ext hE7).ext hE13).ext hE17)
  refine WL.store_box rfl rfl rfl h21 Ty.agg29 rfl rfl (fun w22 hB20 hR19 => ?_)
  have hzhB20 := hB20.size
  refine WL.dn ?_
  refine WC.ret (fun a_ ha => ?_)
  exact bodyPost_cell (l := (tcells (Nd.joined 4 (Nd.flat 4 0 ts) qa1) (.slice a16 (Nd.joined 4 (Nd.flat 4 0 ts) qa1).subs.length cap16))) rfl ha rfl Ty.agg29 hR19 ⟨_, rfl, (by rw [show Nd.or ts = _ from by simp only [Nd.or, Nd.any_no (p := (fun x => !Nd.good x)) (show ts.length ≤ k by omega) hI0, cond_false]; rfl]; exact ((hn16.bu hB20).dom (by intro k hk; (try dsimp only at hk); first | omega | exact hk.1.elim))), (hB20.onto (((hE5.trans hE7).trans hE13).trans hE17) (by omega))⟩
 | true =>
  refine WL.lss rfl rfl rfl rfl hc10 ?_
  have hp10 := of_decide_eq_true hc10
  refine WL.dn ?_
  refine WC.seqk ?_
  refine cT ?_
  refine WC.sk ?_
  refine WC.seqk ?_
  refine WC.block ?_
  refine sq ?_
  have h11 := ((hts.ext hE5).ext hE7)
  obtain ⟨t12, ht12⟩ : ∃ t, ts[k]? = some t := ⟨_, List.getElem?_eq_getElem (by omega)⟩
  obtain ⟨eb12, eo12, el12, hea12, hD12, her12, hn12⟩ := h11.at ht12
  obtain ⟨a12, cap12, rfl, hts12, hlen12⟩ := hn12.op2
  subst hea12
  refine WL.indexAddr (i := k) rfl rfl Ty.slice27 rfl rfl rfl (by omega) ?_
  refine WL.load_agg (l := tcells t12 (.slice a12 t12.subs.length cap12)) rfl rfl Ty.agg29 rfl her12 ?_
  refine WL.alloc rfl rfl Ty.zero29 rfl (fun b13 w18 hb14 hE17 hs15 hR16 => ?_)
  refine WL.store_box rfl rfl rfl hR16 Ty.agg29 rfl rfl (fun w21 hB20 hR19 => ?_)
  have hzhB20 := hB20.size
  refine WL.dn ?_
  refine sq ?_
  refine WL.load_box rfl rfl rfl hR19 Ty.agg29 ?_
  have h22 := ((hn12.ext hE17).bu hB20)
  refine WL.call rfl rfl rfl Ty.ent34 (good_ok _ _ _ _ h22) ?_
  rintro _ w24 ⟨rfl, hE23⟩
  have hzhE23 := hE23.size
  refine ⟨_, rfl, ?_⟩
  cases hc25 : Nd.good t12 with
  | false =>
   refine WL.not rfl rfl rfl ?_
   refine WL.dn ?_
   refine cT ?_
   refine sq ?_
   refine WL.build0 (l := (zc 0 0 0 (.slice none 0 0))) rfl rfl Ty.zero29 Ty.agg29 rfl Ty.bz29 ?_
   have hn26 : NodeL _ w24 (zc 0 0 0 (.slice none 0 0)) qa1 := NodeL.shut (k := 0) (s := Nd.zero) (mn := 0) (mx := 0) (sl := .slice none 0 0) (ts := []) (NodesV.nil (fun _ => False) _ none 0)
   have hn26 := hn26.lt
   have h29 := ((hB20.row ((hR4.ext hE7).ext hE17) (by omega)).ext hE23)
   refine WL.store_box rfl rfl rfl h29 Ty.agg29 rfl rfl (fun w30 hB28 hR27 => ?_)
   have hzhB28 := hB28.size
   refine WL.dn ?_
   refine WC.ret (fun a_ ha => ?_)
   refine ret_block ?_
   refine ret_then ?_
   refine ret_then ?_
   refine ret_block ?_
   refine ret_then ?_
   exact bodyPost_cell (l := (zc 0 0 0 (.slice none 0 0))) rfl ha rfl Ty.agg29 hR27 ⟨_, rfl, (by rw [show Nd.or ts = Nd.none from by simp only [Nd.or, Nd.any_at ht12 (p := (fun x => !Nd.good x)) (by simp only [Nd.bad0, hc25] <;> rfl), cond_true]]; exact ((hn26.bu hB28).dom (by intro k hk; (try dsimp only at hk); first | omega | exact hk.1.elim))), (hB28.onto ((hB20.onto ((hE5.trans hE7).trans hE17) (by omega)).trans hE23) (by omega))⟩
  | true =>
   refine WL.not rfl rfl rfl ?_
   refine WL.dn ?_
   refine cF ?_
   refine WC.sk ?_
   refine WC.region ?_
   refine WL.add (v := (k : Int) + 1) rfl rfl rfl rfl (IntWalk.i64_in _ (by omega)) ?_
   refine mv ?_
   refine WL.nil (fun a_ ha => ?_)
   exact ⟨k + 1, _, ha.weaken (s4 (sr rfl (subReg_nil _))), ⟨rfl, ((hB20.onto (hE7.trans hE17) (by omega)).trans hE23), ⟨by omega, by
   intro m t hm ht
   rcases Nat.lt_or_ge m k with h | h
   ·exact hI0 m t h ht
   ·obtain rfl : m = k := by omega
    rw [ht] at ht12; cases ht12; exact (by simp only [Nd.bad0, hc25]; rfl)⟩⟩, by first | omega | (dsimp only; omega)⟩
end Go.Proofs.Ytaggidjijekpbaa
namespace Go.Proofs.Ytaggidjijekpbaa
open Go.RowKit
set_option maxRecDepth 20000 in
theorem size_ok (D : Nat → Prop) (w : World) (l : List Value) (T : Nd) (hT : NodeL D w l T) :
    Calls Try.prog 16 #[.agg l.toArray] w fun e w' => e = .returned (.int .i64 T.sizes) ∧ Ext w w' := by
  have hTl := hT.lt
  obtain ⟨a, cap, rfl, hts, hlen⟩ := hT.op2
  refine Calls.enterM (args := [.agg (tcells T (.slice a T.subs.length cap)).toArray]) Try.func16 rfl rfl rfl rfl ?_
  refine sq ?_
  refine WL.box_agg rfl rfl rfl (fun b1 w1 hb1 hE1 hs1 hR1 => ?_)
  refine asg ?_
  refine WL.dn ?_
  refine WC.seqk ?_
  refine sq ?_
  refine WL.load_box rfl rfl rfl hR1 Ty.agg29 ?_
  refine WL.call rfl rfl rfl Ty.ent35 (light_ok _ _ _ T (hT.ext hE1)) ?_
  rintro e w2 ⟨rfl, hE2⟩
  refine ⟨_, rfl, ?_⟩
  have hz2 := hE2.size
  refine WL.not rfl rfl rfl ?_
  refine WL.dn ?_
  cases hc : T.light with
  | false =>
    refine cT ?_
    refine sq ?_
    refine asg ?_
    refine WL.dn ?_
    refine WC.ret (fun a_ ha => ?_)
    exact bodyPostM_tmp rfl ha rfl (Marks.nil _ w.heap.size) (fun wz hkz => ⟨by simp [Nd.sizes, hc], hkz.after (hE1.trans hE2) (fun k h => h)⟩)
  | true =>
  have hle := light_le hc
  refine cF ?_
  refine WC.sk ?_
  refine sq ?_
  refine WL.alloc rfl rfl Ty.zero3 rfl (fun b3 w3 hb3 hE3 hs3 hR3 => ?_)
  refine WL.store_cell rfl Ty.flat3 rfl rfl hR3 rfl rfl (fun w4 hB4 hR4 => ?_)
  have hE4 : Ext w2 w4 := hB4.onto hE3 (by omega)
  have hz4 := hB4.size
  refine WL.dn ?_
  refine WC.seqk ?_
  refine sq ?_
  refine WL.load_box rfl rfl rfl ((hR1.ext hE2).ext hE4) Ty.agg29 ?_
  refine WL.call rfl rfl rfl Ty.ent36 (nodes_ok _ _ rfl) ?_
  rintro e w5 ⟨b5, rfl, hE5, hR5, hb5, hs5⟩
  refine ⟨_, rfl, ?_⟩
  refine WL.dn ?_
  refine WC.block ?_
  refine WC.rangeFunc rfl rfl Ty.ent45 (nodes_iter hR5 ((((hTl.ext hE1).ext hE2).ext hE4).ext hE5)) (Ext.refl _) (by rintro k (⟨_, h⟩ | h) <;> omega) (fun k => k = b3) (by rintro k rfl; omega) (by rintro k rfl (⟨_, h⟩ | h) <;> omega)
    (fun i A => Row A b3 [.int .i64 (i : Nat)] 3) (fun _ _ => False) (fun i A B h hb => h.below hb (by omega)) (fun _ _ _ h _ => h)
    (hR4.ext hE5) ?_ ?_ (fun _ _ _ _ _ _ h => h.elim)
  · rintro i W1 cells lr hi hok hl1 hl2 hKW hRi
    have hzW := hKW.size
    refine WC.skip' (fun a_ ha => ?_)
    refine ⟨Keep.refl _ _, fun w9 hB9 => ?_⟩
    refine WC.at ?_ ha
    have hR9 : Row w9 b3 _ _ := hB9.row hRi (by omega)
    refine WC.block ?_
    refine WC.region ?_
    refine WL.load_fld rfl rfl Ty.flat3 rfl hR9 rfl ?_
    refine WL.add (v := ((i + 1 : Nat) : Int)) rfl rfl rfl rfl (by rw [IntWalk.i64_in _ (by omega)]; rfl) ?_
    refine WL.store_cell rfl Ty.flat3 rfl rfl hR9 rfl rfl (fun w10 hB10 hR10 => ?_)
    refine WL.nil (fun a_ ha => ?_)
    exact ⟨hB10.keep rfl, hR10⟩
  · rintro wd Dd hDd hdd hKd hRd a_ ha
    have hzd := hKd.size
    refine WC.at ?_ ha
    refine sq ?_
    refine WL.load_fld rfl rfl Ty.flat3 rfl hRd rfl ?_
    refine asg ?_
    refine WL.dn ?_
    refine WC.ret (fun a_ ha => ?_)
    exact bodyPostM_tmp rfl ha rfl (Marks.one (n0 := w.heap.size) (by omega) hdd) (fun wz hkz => ⟨by simp [Nd.sizes, hc, Nd.pre_length], hkz.after (hKd.after (((hE1.trans hE2).trans hE4).trans hE5) (by rintro k rfl; omega)) (fun k h => h)⟩)
def grpN (l : List Nd) (i : Nat) : Nat := ((l.take i).filter fun x => x.kind == 6).length
theorem grpN_succ {l : List Nd} {i : Nat} {t : Nd} (h : l[i]? = some t) : grpN l (i + 1) = grpN l i + if t.kind == 6 then 1 else 0 := by
  unfold grpN; rw [List.take_add_one, h, List.filter_append]
  by_cases hk : t.kind == 6 <;> simp [hk]
theorem grpN_le (l : List Nd) (i : Nat) : grpN l i ≤ l.length := by
  unfold grpN; exact Nat.le_trans (List.length_filter_le _ _) (by rw [List.length_take]; omega)
set_option maxRecDepth 20000 in
theorem groups_ok (D : Nat → Prop) (w : World) (l : List Value) (T : Nd) (hT : NodeL D w l T) :
    Calls Try.prog 17 #[.agg l.toArray] w fun e w' => e = .returned (.int .i64 T.groups) ∧ Ext w w' := by
  have hTl := hT.lt
  obtain ⟨a, cap, rfl, hts, hlen⟩ := hT.op2
  refine Calls.enterM (args := [.agg (tcells T (.slice a T.subs.length cap)).toArray]) Try.func17 rfl rfl rfl rfl ?_
  refine sq ?_
  refine WL.box_agg rfl rfl rfl (fun b1 w1 hb1 hE1 hs1 hR1 => ?_)
  refine asg ?_
  refine WL.dn ?_
  refine WC.seqk ?_
  refine sq ?_
  refine WL.load_box rfl rfl rfl hR1 Ty.agg29 ?_
  refine WL.call rfl rfl rfl Ty.ent35 (light_ok _ _ _ T (hT.ext hE1)) ?_
  rintro e w2 ⟨rfl, hE2⟩
  refine ⟨_, rfl, ?_⟩
  have hz2 := hE2.size
  refine WL.not rfl rfl rfl ?_
  refine WL.dn ?_
  cases hc : T.light with
  | false =>
    refine cT ?_
    refine sq ?_
    refine asg ?_
    refine WL.dn ?_
    refine WC.ret (fun a_ ha => ?_)
    exact bodyPostM_tmp rfl ha rfl (Marks.nil _ w.heap.size) (fun wz hkz => ⟨by simp [Nd.groups, hc], hkz.after (hE1.trans hE2) (fun k h => h)⟩)
  | true =>
  have hle := light_le hc
  refine cF ?_
  refine WC.sk ?_
  refine sq ?_
  refine WL.alloc rfl rfl Ty.zero3 rfl (fun b3 w3 hb3 hE3 hs3 hR3 => ?_)
  refine WL.store_cell rfl Ty.flat3 rfl rfl hR3 rfl rfl (fun w4 hB4 hR4 => ?_)
  have hE4 : Ext w2 w4 := hB4.onto hE3 (by omega)
  have hz4 := hB4.size
  refine WL.dn ?_
  refine WC.seqk ?_
  refine sq ?_
  refine WL.load_box rfl rfl rfl ((hR1.ext hE2).ext hE4) Ty.agg29 ?_
  refine WL.call rfl rfl rfl Ty.ent36 (nodes_ok _ _ rfl) ?_
  rintro e w5 ⟨b5, rfl, hE5, hR5, hb5, hs5⟩
  refine ⟨_, rfl, ?_⟩
  refine WL.dn ?_
  refine WC.block ?_
  refine WC.rangeFunc rfl rfl Ty.ent45 (nodes_iter hR5 ((((hTl.ext hE1).ext hE2).ext hE4).ext hE5)) (Ext.refl _) (by rintro k (⟨_, h⟩ | h) <;> omega) (fun k => k = b3) (by rintro k rfl; omega) (by rintro k rfl (⟨_, h⟩ | h) <;> omega)
    (fun i A => Row A b3 [.int .i64 (grpN T.pre i : Nat)] 3) (fun _ _ => False) (fun i A B h hb => h.below hb (by omega)) (fun _ _ _ h _ => h)
    (by simpa [grpN] using hR4.ext hE5) ?_ ?_ (fun _ _ _ _ _ _ h => h.elim)
  · rintro i W1 cells lr hi ⟨t, ht, hnt⟩ hl1 hl2 hKW hRi
    have hzW := hKW.size
    obtain ⟨q, rfl, hq⟩ := hnt.opn
    obtain ⟨aq, cq, rfl, -, -⟩ := hq.get
    refine WC.region ?_
    refine WL.alloc rfl rfl Ty.zero29 rfl (fun b7 w7 hb7 hE7 hs7 hR7 => ?_)
    refine WL.store_box rfl rfl rfl hR7 Ty.agg29 rfl rfl (fun w8 hB8 hR8 => ?_)
    have hE8 : Ext W1 w8 := hB8.onto hE7 (by omega)
    have hz8 := hB8.size
    refine WL.nil (fun a_ ha => ?_)
    refine ⟨hE8.keep _, fun w9 hB9 => ?_⟩
    refine WC.at ?_ ha
    have hR9 : Row w9 b3 _ _ := hB9.row (hRi.ext hE8) (by omega)
    have hR89 : Row w9 b7 _ _ := hB9.row hR8 (by omega)
    have hgl := grpN_le T.pre i
    have hgs := grpN_succ ht
    refine WC.block ?_
    refine sq ?_
    refine WL.fieldAddr rfl rfl Ty.fld29_0 rfl ?_
    refine WL.load_fld rfl rfl Ty.flat5 rfl hR89 rfl ?_
    cases hk : ((t.kind : Int) == 6) with
    | true =>
      refine WL.eql rfl rfl rfl rfl hk ?_
      refine WL.dn ?_
      refine cT ?_
      refine WC.region ?_
      refine WL.load_fld rfl rfl Ty.flat3 rfl hR9 rfl ?_
      refine WL.add (v := ((grpN T.pre i + 1 : Nat) : Int)) rfl rfl rfl rfl (by rw [IntWalk.i64_in _ (by omega)]; rfl) ?_
      refine WL.store_cell rfl Ty.flat3 rfl rfl hR9 rfl rfl (fun w10 hB10 hR10 => ?_)
      refine WL.nil (fun a_ ha => ?_)
      exact ⟨hB10.keep rfl, by rw [hgs, hk]; exact hR10⟩
    | false =>
      refine WL.eql rfl rfl rfl rfl hk ?_
      refine WL.dn ?_
      refine cF ?_
      refine WC.skip' (fun a_ ha => ?_)
      exact ⟨Keep.refl _ _, by rw [hgs, hk]; exact hR9⟩
  · rintro wd Dd hDd hdd hKd hRd a_ ha
    have hzd := hKd.size
    refine WC.at ?_ ha
    refine sq ?_
    refine WL.load_fld rfl rfl Ty.flat3 rfl hRd rfl ?_
    refine asg ?_
    refine WL.dn ?_
    refine WC.ret (fun a_ ha => ?_)
    exact bodyPostM_tmp rfl ha rfl (Marks.one (n0 := w.heap.size) (by omega) hdd) (fun wz hkz => ⟨by simp [Nd.groups, hc, grpN], hkz.after (hKd.after (((hE1.trans hE2).trans hE4).trans hE5) (by rintro k rfl; omega)) (fun k h => h)⟩)
end Go.Proofs.Ytaggidjijekpbaa
namespace Go.Proofs.Ytaggidjijekpbaa
open Go.Proofs Go.RowKit
abbrev qb1 : Nd := (Nd.mk 0 Nd.zero 0 0 ([]))
abbrev qb2 : Nd := (Nd.mk 1 Nd.zero 0 0 ([]))
set_option maxRecDepth 20000 in
set_option maxHeartbeats 4000000 in
theorem times_ok (D : Nat → Prop) (w : World) (l : List Value) (T : Nd) (mn mx : Int) (hT : NodeL D w l T) :
  Calls Try.prog 19 #[.agg l.toArray, .int .i64 mn, .int .i64 mx] w fun e w' => ∃ l', e = .returned (.agg l'.toArray) ∧ NodeL (fun k => w.heap.size ≤ k) w' l' (Nd.times T mn mx) ∧ Ext w w' := by
 have hT := hT.lt
 obtain ⟨a, cap, rfl, hts, hlen⟩ := hT.op2
 refine Calls.enter (args := [.agg (tcells T (.slice a T.subs.length cap)).toArray, .int .i64 mn, .int .i64 mx]) Try.func19 rfl rfl rfl rfl ?_
 refine sq ?_
 refine WL.box_agg rfl rfl rfl (fun b1 w6 hb2 hE5 hs3 hR4 => ?_)
 refine WL.alloc rfl rfl Ty.zero29 rfl (fun b7 w12 hb8 hE11 hs9 hR10 => ?_)
 refine WL.dn ?_
 refine sq ?_
 refine mv ?_
 cases hc13 : ((mn : Int) == 0) with
 | false =>
  refine WL.eql rfl rfl rfl rfl hc13 ?_
  have hp13 := beq_eq_false_iff_ne.1 hc13
  refine mv ?_
  refine ps ?_
  refine ps ?_
  refine pF ?_
  refine mv ?_
  cases hc14 : ((mn : Int) == 1) with
  | false =>
   refine WL.eql rfl rfl rfl rfl hc14 ?_
   have hp14 := beq_eq_false_iff_ne.1 hc14
   refine mv ?_
   refine ps ?_
   refine ps ?_
   refine pF ?_
   refine asg ?_
   refine asg ?_
   refine WL.dn ?_
   refine WC.seqk ?_
   refine WC.block ?_
   refine WC.seqk ?_
   refine WC.weaken (r' := [(1, .int .i64 mn), (2, .int .i64 mx), (3, pt b1 0), (6, pt b7 0), (7, .bool false), (8, .bool false)]) (s4 (sr rfl (sr rfl (subReg_nil _)))) ?_
   refine WC.region ?_
   refine WL.load_box rfl rfl rfl (hR4.ext hE11) Ty.agg29 ?_
   have h15 := ((hT.ext hE5).ext hE11)
   refine WL.call rfl rfl rfl Ty.ent34 (good_ok _ _ _ _ h15) ?_
   rintro _ w17 ⟨rfl, hE16⟩
   have hzhE16 := hE16.size
   refine ⟨_, rfl, ?_⟩
   cases hc18 : Nd.good T with
   | false =>
    refine WL.not rfl rfl rfl ?_
    refine mv ?_
    refine ps ?_
    refine ps ?_
    refine ps ?_
    refine ps ?_
    refine ps ?_
    refine ps ?_
    refine ps ?_
    refine ps ?_
    refine ps ?_
    refine ps ?_
    refine ps ?_
    refine ps ?_
    refine pT ?_
    refine asg ?_
    refine WL.dn ?_
    refine cT ?_
    refine WC.seqk ?_
    refine WC.weaken (r' := [(1, .int .i64 mn), (2, .int .i64 mx), (3, pt b1 0), (6, pt b7 0), (7, .bool false), (8, .bool false), (21, .bool true)]) (s4 (sr rfl (sr rfl (sr rfl (subReg_nil _))))) ?_
    refine WC.region ?_
    refine WL.build0 (l := (zc 0 0 0 (.slice none 0 0))) rfl rfl Ty.zero29 Ty.agg29 rfl Ty.bz29 ?_
    have hn19 : NodeL _ w17 (zc 0 0 0 (.slice none 0 0)) qb1 := NodeL.shut (k := 0) (s := Nd.zero) (mn := 0) (mx := 0) (sl := .slice none 0 0) (ts := []) (NodesV.nil (fun _ => False) _ none 0)
    have hn19 := hn19.lt
    refine WL.store_box rfl rfl rfl (hR10.ext hE16) Ty.agg29 rfl rfl (fun w22 hB21 hR20 => ?_)
    have hzhB21 := hB21.size
    refine WL.dn ?_
    refine WC.ret (fun a_ ha => ?_)
    refine ret_block ?_
    refine ret_then ?_
    exact bodyPost_cell (l := (zc 0 0 0 (.slice none 0 0))) rfl ha rfl Ty.agg29 hR20 ⟨_, rfl, (by simp only [Nd.times, hc13, hc14, hc18, cond_true, cond_false, Bool.not_true, Bool.not_false, Bool.or_true, Bool.true_or, Bool.or_false, Bool.false_or, Bool.and_true, Bool.true_and, Bool.and_false, Bool.false_and]; exact ((hn19.bu hB21).dom (by intro k hk; (try dsimp only at hk); first | omega | exact hk.1.elim))), (hB21.onto ((hE5.trans hE11).trans hE16) (by omega))⟩
   | true =>
    refine WL.not rfl rfl rfl ?_
    refine mv ?_
    refine mv ?_
    refine WL.not rfl rfl rfl ?_
    refine mv ?_
    refine mv ?_
    refine WL.not rfl rfl rfl ?_
    refine pT ?_
    refine mv ?_
    refine mv ?_
    refine mv ?_
    refine WL.call rfl rfl rfl Ty.ent40 (bounds_ok mn mx _) ?_
    rintro _ w20 ⟨rfl, hE19⟩
    have hzhE19 := hE19.size
    refine ⟨_, rfl, ?_⟩
    cases hc21 : Nd.bounds mn mx with
    | false =>
     refine WL.not rfl rfl rfl ?_
     refine pT ?_
     refine pF ?_
     refine asg ?_
     refine WL.dn ?_
     refine cT ?_
     refine WC.seqk ?_
     refine WC.weaken (r' := [(1, .int .i64 mn), (2, .int .i64 mx), (3, pt b1 0), (6, pt b7 0), (7, .bool false), (8, .bool false), (21, .bool true)]) (s4 (sr rfl (sr rfl (sr rfl (subReg_nil _))))) ?_
     refine WC.region ?_
     refine WL.build0 (l := (zc 0 0 0 (.slice none 0 0))) rfl rfl Ty.zero29 Ty.agg29 rfl Ty.bz29 ?_
     have hn22 : NodeL _ w20 (zc 0 0 0 (.slice none 0 0)) qb1 := NodeL.shut (k := 0) (s := Nd.zero) (mn := 0) (mx := 0) (sl := .slice none 0 0) (ts := []) (NodesV.nil (fun _ => False) _ none 0)
     have hn22 := hn22.lt
     have h25 := ((hR10.ext hE16).ext hE19)
     refine WL.store_box rfl rfl rfl h25 Ty.agg29 rfl rfl (fun w26 hB24 hR23 => ?_)
     have hzhB24 := hB24.size
     refine WL.dn ?_
     refine WC.ret (fun a_ ha => ?_)
     refine ret_block ?_
     refine ret_then ?_
     exact bodyPost_cell (l := (zc 0 0 0 (.slice none 0 0))) rfl ha rfl Ty.agg29 hR23 ⟨_, rfl, (by simp only [Nd.times, hc13, hc14, hc18, hc21, cond_true, cond_false, Bool.not_true, Bool.not_false, Bool.or_true, Bool.true_or, Bool.or_false, Bool.false_or, Bool.and_true, Bool.true_and, Bool.and_false, Bool.false_and]; exact ((hn22.bu hB24).dom (by intro k hk; (try dsimp only at hk); first | omega | exact hk.1.elim))), (hB24.onto (((hE5.trans hE11).trans hE16).trans hE19) (by omega))⟩
    | true =>
     refine WL.not rfl rfl rfl ?_
     refine pT ?_
     refine pF ?_
     refine asg ?_
     refine WL.dn ?_
     refine cF ?_
     refine WC.seqk ?_
     refine WC.weaken (r' := [(1, .int .i64 mn), (2, .int .i64 mx), (3, pt b1 0), (6, pt b7 0), (7, .bool false), (8, .bool false), (21, .bool false)]) (s4 (sr rfl (sr rfl (sr rfl (subReg_nil _))))) ?_
     refine WC.region ?_
     refine WL.fieldAddr rfl rfl Ty.fld29_0 rfl ?_
     have h22 := (((hR4.ext hE11).ext hE16).ext hE19)
     refine WL.load_fld rfl rfl Ty.flat5 rfl h22 rfl ?_
     cases hc23 : ((T.kind : Int) == 0) with
     | false =>
      refine WL.eql rfl rfl rfl rfl hc23 ?_
      have hp23 := beq_eq_false_iff_ne.1 hc23
      refine mv ?_
      refine ps ?_
      refine ps ?_
      refine pF ?_
      refine asg ?_
      refine WL.dn ?_
      refine cF ?_
      refine WC.seqk ?_
      refine WC.weaken (r' := [(1, .int .i64 mn), (2, .int .i64 mx), (3, pt b1 0), (6, pt b7 0), (7, .bool false), (8, .bool false), (21, .bool false), (40, .bool false)]) (s4 (s4 (subReg_nil _))) ?_
      refine WC.region ?_
      refine mv ?_
      refine mv ?_
      refine WL.fieldAddr rfl rfl Ty.fld29_0 rfl ?_
      refine WL.load_fld rfl rfl Ty.flat5 rfl h22 rfl ?_
      refine WL.eql (b := false) rfl rfl rfl rfl hc23 ?_
      refine pF ?_
      refine mv ?_
      refine WL.fieldAddr rfl rfl Ty.fld29_0 rfl ?_
      refine WL.load_fld rfl rfl Ty.flat5 rfl h22 rfl ?_
      cases hc24 : ((T.kind : Int) == 1) with
      | false =>
       refine WL.eql rfl rfl rfl rfl hc24 ?_
       have hp24 := beq_eq_false_iff_ne.1 hc24
       refine pF ?_
       refine asg ?_
       refine WL.dn ?_
       refine cF ?_
       refine WC.seqk ?_
       refine WC.weaken (r' := [(1, .int .i64 mn), (2, .int .i64 mx), (3, pt b1 0), (6, pt b7 0), (8, .bool false), (21, .bool false), (40, .bool false), (49, .bool false)]) (s4 (s4 (subReg_nil _))) ?_
       refine WC.region ?_
       refine mv ?_
       refine asg ?_
       refine WL.dn ?_
       refine cF ?_
       refine WC.sk ?_
       refine sq ?_
       refine mv ?_
       refine mv ?_
       refine WL.load_box rfl rfl rfl h22 Ty.agg29 ?_
       have h25 := ((h15.ext hE16).ext hE19)
       refine WL.buildSlice (vs := [.agg (tcells T (.slice a T.subs.length cap)).toArray]) (cells := (tcells T (.slice a T.subs.length cap))) rfl rfl Ty.slice27 Ty.zero29 rfl rfl rfl rfl rfl rfl (fun b26 w31 hb27 hE30 hs28 hR29 => ?_)
       have hts26 := (NodesV.lit (n := 1) (ts := [T]) hR29 (RowsL.cons (h25.ext hE30) (RowsL.nil' _)) rfl rfl (by decide)).lt
       refine WL.build (l := (zc 5 mn mx (.slice (some ⟨b26, 0, none⟩) 1 1))) rfl rfl Ty.zero29 Ty.st29 ⟨⟨rfl, rfl⟩, (by kernel_rfl)⟩ ?_
       have hn32 : NodeL _ w31 (zc 5 mn mx (.slice (some ⟨b26, 0, none⟩) 1 1)) (Nd.mk 5 Nd.zero mn mx ([T])) := NodeL.shut (k := 5) (s := Nd.zero) (mn := mn) (mx := mx) (sl := .slice (some ⟨b26, 0, none⟩) 1 1) (ts := [T]) hts26
       have hn32 := hn32.lt
       refine WL.call rfl rfl rfl Ty.ent42 (checked_ok _ _ _ _ hn32) ?_
       rintro _ w35 ⟨l33, rfl, hr33, hE34⟩
       have hzhE34 := hE34.size
       refine ⟨_, rfl, ?_⟩
       have hn33 := hr33.lt
       obtain ⟨a33, cap33, rfl, hts33, hlen33⟩ := hn33.op2
       have h38 := ((((hR10.ext hE16).ext hE19).ext hE30).ext hE34)
       refine WL.store_box rfl rfl rfl h38 Ty.agg29 rfl rfl (fun w39 hB37 hR36 => ?_)
       have hzhB37 := hB37.size
       refine WL.dn ?_
       refine WC.ret (fun a_ ha => ?_)
       exact bodyPost_cell (l := (tcells ((Nd.mk 5 Nd.zero mn mx ([T])).checked) (.slice a33 ((Nd.mk 5 Nd.zero mn mx ([T])).checked).subs.length cap33))) rfl ha rfl Ty.agg29 hR36 ⟨_, rfl, (by simp only [Nd.times, hc13, hc14, hc18, hc21, hc23, hc24, cond_true, cond_false, Bool.not_true, Bool.not_false, Bool.or_true, Bool.true_or, Bool.or_false, Bool.false_or, Bool.and_true, Bool.true_and, Bool.and_false, Bool.false_and]; exact ((hn33.bu hB37).dom (by intro k hk; (try dsimp only at hk); first | omega | exact hk.1.elim))), (hB37.onto (((((hE5.trans hE11).trans hE16).trans hE19).trans hE30).trans hE34) (by omega))⟩
      | true =>
       refine WL.eql rfl rfl rfl rfl hc24 ?_
       have hp24 := beq_iff_eq.1 hc24
       refine pF ?_
       refine asg ?_
       refine WL.dn ?_
       refine cT ?_
       refine WC.seqk ?_
       refine WC.weaken (r' := [(1, .int .i64 mn), (2, .int .i64 mx), (3, pt b1 0), (6, pt b7 0), (8, .bool false), (21, .bool false), (40, .bool false), (49, .bool true)]) (s4 (s4 (subReg_nil _))) ?_
       refine WC.region ?_
       refine WL.build (l := (zc 1 0 0 (.slice none 0 0))) rfl rfl Ty.zero29 Ty.st29 ⟨⟨rfl, rfl⟩, (by kernel_rfl)⟩ ?_
       have hn25 : NodeL _ w20 (zc 1 0 0 (.slice none 0 0)) qb2 := NodeL.shut (k := 1) (s := Nd.zero) (mn := 0) (mx := 0) (sl := .slice none 0 0) (ts := []) (NodesV.nil (fun _ => False) _ none 0)
       have hn25 := hn25.lt
       have h28 := ((hR10.ext hE16).ext hE19)
       refine WL.store_box rfl rfl rfl h28 Ty.agg29 rfl rfl (fun w29 hB27 hR26 => ?_)
       have hzhB27 := hB27.size
       refine WL.dn ?_
       refine WC.ret (fun a_ ha => ?_)
       refine ret_block ?_
       refine ret_then ?_
       exact bodyPost_cell (l := (zc 1 0 0 (.slice none 0 0))) rfl ha rfl Ty.agg29 hR26 ⟨_, rfl, (by simp only [Nd.times, hc13, hc14, hc18, hc21, hc23, hc24, cond_true, cond_false, Bool.not_true, Bool.not_false, Bool.or_true, Bool.true_or, Bool.or_false, Bool.false_or, Bool.and_true, Bool.true_and, Bool.and_false, Bool.false_and]; exact ((hn25.bu hB27).dom (by intro k hk; (try dsimp only at hk); first | omega | exact hk.1.elim))), (hB27.onto (((hE5.trans hE11).trans hE16).trans hE19) (by omega))⟩
     | true =>
      refine WL.eql rfl rfl rfl rfl hc23 ?_
      have hp23 := beq_iff_eq.1 hc23
      refine mv ?_
      refine mv ?_
      cases hc24 : decide ((0 : Int) < mn) with
      | false =>
       refine WL.gtr rfl rfl rfl rfl hc24 ?_
       have hp24 := of_decide_eq_false hc24
       refine pT ?_
       refine asg ?_
       refine WL.dn ?_
       refine cF ?_
       refine WC.seqk ?_
       refine WC.weaken (r' := [(1, .int .i64 mn), (2, .int .i64 mx), (3, pt b1 0), (6, pt b7 0), (7, .bool false), (8, .bool false), (21, .bool false), (40, .bool false)]) (s4 (s4 (subReg_nil _))) ?_
       refine WC.region ?_
       refine mv ?_
       refine mv ?_
       refine WL.fieldAddr rfl rfl Ty.fld29_0 rfl ?_
       refine WL.load_fld rfl rfl Ty.flat5 rfl h22 rfl ?_
       refine WL.eql (b := true) rfl rfl rfl rfl hc23 ?_
       refine pF ?_
       refine mv ?_
       refine ps ?_
       refine ps ?_
       refine ps ?_
       refine pT ?_
       refine asg ?_
       refine WL.dn ?_
       refine cT ?_
       refine WC.seqk ?_
       refine WC.weaken (r' := [(1, .int .i64 mn), (2, .int .i64 mx), (3, pt b1 0), (6, pt b7 0), (8, .bool false), (21, .bool false), (40, .bool false), (49, .bool true)]) (s4 (s4 (subReg_nil _))) ?_
       refine WC.region ?_
       refine WL.build (l := (zc 1 0 0 (.slice none 0 0))) rfl rfl Ty.zero29 Ty.st29 ⟨⟨rfl, rfl⟩, (by kernel_rfl)⟩ ?_
       have hn25 : NodeL _ w20 (zc 1 0 0 (.slice none 0 0)) qb2 := NodeL.shut (k := 1) (s := Nd.zero) (mn := 0) (mx := 0) (sl := .slice none 0 0) (ts := []) (NodesV.nil (fun _ => False) _ none 0)
       have hn25 := hn25.lt
       have h28 := ((hR10.ext hE16).ext hE19)
       refine WL.store_box rfl rfl rfl h28 Ty.agg29 rfl rfl (fun w29 hB27 hR26 => ?_)
       have hzhB27 := hB27.size
       refine WL.dn ?_
       refine WC.ret (fun a_ ha => ?_)
       refine ret_block ?_
       refine ret_then ?_
       exact bodyPost_cell (l := (zc 1 0 0 (.slice none 0 0))) rfl ha rfl Ty.agg29 hR26 ⟨_, rfl, (by simp only [Nd.times, hc13, hc14, hc18, hc21, hc23, hc24, cond_true, cond_false, Bool.not_true, Bool.not_false, Bool.or_true, Bool.true_or, Bool.or_false, Bool.false_or, Bool.and_true, Bool.true_and, Bool.and_false, Bool.false_and]; exact ((hn25.bu hB27).dom (by intro k hk; (try dsimp only at hk); first | omega | exact hk.1.elim))), (hB27.onto (((hE5.trans hE11).trans hE16).trans hE19) (by omega))⟩
      | true =>
       refine WL.gtr rfl rfl rfl rfl hc24 ?_
       have hp24 := of_decide_eq_true hc24
       refine pT ?_
       refine asg ?_
       refine WL.dn ?_
       refine cT ?_
       refine WC.seqk ?_
       refine WC.weaken (r' := [(1, .int .i64 mn), (2, .int .i64 mx), (3, pt b1 0), (6, pt b7 0), (7, .bool false), (8, .bool false), (21, .bool false), (40, .bool true)]) (s4 (s4 (subReg_nil _))) ?_
       refine WC.region ?_
       refine WL.build0 (l := (zc 0 0 0 (.slice none 0 0))) rfl rfl Ty.zero29 Ty.agg29 rfl Ty.bz29 ?_
       have hn25 : NodeL _ w20 (zc 0 0 0 (.slice none 0 0)) qb1 := NodeL.shut (k := 0) (s := Nd.zero) (mn := 0) (mx := 0) (sl := .slice none 0 0) (ts := []) (NodesV.nil (fun _ => False) _ none 0)
       have hn25 := hn25.lt
       have h28 := ((hR10.ext hE16).ext hE19)
       refine WL.store_box rfl rfl rfl h28 Ty.agg29 rfl rfl (fun w29 hB27 hR26 => ?_)
       have hzhB27 := hB27.size
       refine WL.dn ?_
       refine WC.ret (fun a_ ha => ?_)
       refine ret_block ?_
       refine ret_then ?_
       exact bodyPost_cell (l := (zc 0 0 0 (.slice none 0 0))) rfl ha rfl Ty.agg29 hR26 ⟨_, rfl, (by simp only [Nd.times, hc13, hc14, hc18, hc21, hc23, hc24, cond_true, cond_false, Bool.not_true, Bool.not_false, Bool.or_true, Bool.true_or, Bool.or_false, Bool.false_or, Bool.and_true, Bool.true_and, Bool.and_false, Bool.false_and]; exact ((hn25.bu hB27).dom (by intro k hk; (try dsimp only at hk); first | omega | exact hk.1.elim))), (hB27.onto (((hE5.trans hE11).trans hE16).trans hE19) (by omega))⟩
  | true =>
   refine WL.eql rfl rfl rfl rfl hc14 ?_
   have hp14 := beq_iff_eq.1 hc14
   refine mv ?_
   refine mv ?_
   cases hc15 : ((mx : Int) == 1) with
   | false =>
    refine WL.eql rfl rfl rfl rfl hc15 ?_
    have hp15 := beq_eq_false_iff_ne.1 hc15
    refine pT ?_
    refine asg ?_
    refine asg ?_
    refine WL.dn ?_
    refine WC.seqk ?_
    refine WC.block ?_
    refine WC.seqk ?_
    refine WC.weaken (r' := [(1, .int .i64 mn), (2, .int .i64 mx), (3, pt b1 0), (6, pt b7 0), (7, .bool false), (8, .bool false)]) (s4 (sr rfl (sr rfl (subReg_nil _)))) ?_
    refine WC.region ?_
    refine WL.load_box rfl rfl rfl (hR4.ext hE11) Ty.agg29 ?_
    have h16 := ((hT.ext hE5).ext hE11)
    refine WL.call rfl rfl rfl Ty.ent34 (good_ok _ _ _ _ h16) ?_
    rintro _ w18 ⟨rfl, hE17⟩
    have hzhE17 := hE17.size
    refine ⟨_, rfl, ?_⟩
    cases hc19 : Nd.good T with
    | false =>
     refine WL.not rfl rfl rfl ?_
     refine mv ?_
     refine ps ?_
     refine ps ?_
     refine ps ?_
     refine ps ?_
     refine ps ?_
     refine ps ?_
     refine ps ?_
     refine ps ?_
     refine ps ?_
     refine ps ?_
     refine ps ?_
     refine ps ?_
     refine pT ?_
     refine asg ?_
     refine WL.dn ?_
     refine cT ?_
     refine WC.seqk ?_
     refine WC.weaken (r' := [(1, .int .i64 mn), (2, .int .i64 mx), (3, pt b1 0), (6, pt b7 0), (7, .bool false), (8, .bool false), (21, .bool true)]) (s4 (sr rfl (sr rfl (sr rfl (subReg_nil _))))) ?_
     refine WC.region ?_
     refine WL.build0 (l := (zc 0 0 0 (.slice none 0 0))) rfl rfl Ty.zero29 Ty.agg29 rfl Ty.bz29 ?_
     have hn20 : NodeL _ w18 (zc 0 0 0 (.slice none 0 0)) qb1 := NodeL.shut (k := 0) (s := Nd.zero) (mn := 0) (mx := 0) (sl := .slice none 0 0) (ts := []) (NodesV.nil (fun _ => False) _ none 0)
     have hn20 := hn20.lt
     refine WL.store_box rfl rfl rfl (hR10.ext hE17) Ty.agg29 rfl rfl (fun w23 hB22 hR21 => ?_)
     have hzhB22 := hB22.size
     refine WL.dn ?_
     refine WC.ret (fun a_ ha => ?_)
     refine ret_block ?_
     refine ret_then ?_
     exact bodyPost_cell (l := (zc 0 0 0 (.slice none 0 0))) rfl ha rfl Ty.agg29 hR21 ⟨_, rfl, (by simp only [Nd.times, hc13, hc14, hc15, hc19, cond_true, cond_false, Bool.not_true, Bool.not_false, Bool.or_true, Bool.true_or, Bool.or_false, Bool.false_or, Bool.and_true, Bool.true_and, Bool.and_false, Bool.false_and]; exact ((hn20.bu hB22).dom (by intro k hk; (try dsimp only at hk); first | omega | exact hk.1.elim))), (hB22.onto ((hE5.trans hE11).trans hE17) (by omega))⟩
    | true =>
     refine WL.not rfl rfl rfl ?_
     refine mv ?_
     refine mv ?_
     refine WL.not rfl rfl rfl ?_
     refine mv ?_
     refine mv ?_
     refine WL.not rfl rfl rfl ?_
     refine pT ?_
     refine mv ?_
     refine mv ?_
     refine mv ?_
     refine WL.call rfl rfl rfl Ty.ent40 (bounds_ok mn mx _) ?_
     rintro _ w21 ⟨rfl, hE20⟩
     have hzhE20 := hE20.size
     refine ⟨_, rfl, ?_⟩
     cases hc22 : Nd.bounds mn mx with
     | false =>
      refine WL.not rfl rfl rfl ?_
      refine pT ?_
      refine pF ?_
      refine asg ?_
      refine WL.dn ?_
      refine cT ?_
      refine WC.seqk ?_
      refine WC.weaken (r' := [(1, .int .i64 mn), (2, .int .i64 mx), (3, pt b1 0), (6, pt b7 0), (7, .bool false), (8, .bool false), (21, .bool true)]) (s4 (sr rfl (sr rfl (sr rfl (subReg_nil _))))) ?_
      refine WC.region ?_
      refine WL.build0 (l := (zc 0 0 0 (.slice none 0 0))) rfl rfl Ty.zero29 Ty.agg29 rfl Ty.bz29 ?_
      have hn23 : NodeL _ w21 (zc 0 0 0 (.slice none 0 0)) qb1 := NodeL.shut (k := 0) (s := Nd.zero) (mn := 0) (mx := 0) (sl := .slice none 0 0) (ts := []) (NodesV.nil (fun _ => False) _ none 0)
      have hn23 := hn23.lt
      have h26 := ((hR10.ext hE17).ext hE20)
      refine WL.store_box rfl rfl rfl h26 Ty.agg29 rfl rfl (fun w27 hB25 hR24 => ?_)
      have hzhB25 := hB25.size
      refine WL.dn ?_
      refine WC.ret (fun a_ ha => ?_)
      refine ret_block ?_
      refine ret_then ?_
      exact bodyPost_cell (l := (zc 0 0 0 (.slice none 0 0))) rfl ha rfl Ty.agg29 hR24 ⟨_, rfl, (by simp only [Nd.times, hc13, hc14, hc15, hc19, hc22, cond_true, cond_false, Bool.not_true, Bool.not_false, Bool.or_true, Bool.true_or, Bool.or_false, Bool.false_or, Bool.and_true, Bool.true_and, Bool.and_false, Bool.false_and]; exact ((hn23.bu hB25).dom (by intro k hk; (try dsimp only at hk); first | omega | exact hk.1.elim))), (hB25.onto (((hE5.trans hE11).trans hE17).trans hE20) (by omega))⟩
     | true =>
      refine WL.not rfl rfl rfl ?_
      refine pT ?_
      refine pF ?_
      refine asg ?_
      refine WL.dn ?_
      refine cF ?_
      refine WC.seqk ?_
      refine WC.weaken (r' := [(1, .int .i64 mn), (2, .int .i64 mx), (3, pt b1 0), (6, pt b7 0), (7, .bool false), (8, .bool false), (21, .bool false)]) (s4 (sr rfl (sr rfl (sr rfl (subReg_nil _))))) ?_
      refine WC.region ?_
      refine WL.fieldAddr rfl rfl Ty.fld29_0 rfl ?_
      have h23 := (((hR4.ext hE11).ext hE17).ext hE20)
      refine WL.load_fld rfl rfl Ty.flat5 rfl h23 rfl ?_
      cases hc24 : ((T.kind : Int) == 0) with
      | false =>
       refine WL.eql rfl rfl rfl rfl hc24 ?_
       have hp24 := beq_eq_false_iff_ne.1 hc24
       refine mv ?_
       refine ps ?_
       refine ps ?_
       refine pF ?_
       refine asg ?_
       refine WL.dn ?_
       refine cF ?_
       refine WC.seqk ?_
       refine WC.weaken (r' := [(1, .int .i64 mn), (2, .int .i64 mx), (3, pt b1 0), (6, pt b7 0), (7, .bool false), (8, .bool false), (21, .bool false), (40, .bool false)]) (s4 (s4 (subReg_nil _))) ?_
       refine WC.region ?_
       refine mv ?_
       refine mv ?_
       refine WL.fieldAddr rfl rfl Ty.fld29_0 rfl ?_
       refine WL.load_fld rfl rfl Ty.flat5 rfl h23 rfl ?_
       refine WL.eql (b := false) rfl rfl rfl rfl hc24 ?_
       refine pF ?_
       refine mv ?_
       refine WL.fieldAddr rfl rfl Ty.fld29_0 rfl ?_
       refine WL.load_fld rfl rfl Ty.flat5 rfl h23 rfl ?_
       cases hc25 : ((T.kind : Int) == 1) with
       | false =>
        refine WL.eql rfl rfl rfl rfl hc25 ?_
        have hp25 := beq_eq_false_iff_ne.1 hc25
        refine pF ?_
        refine asg ?_
        refine WL.dn ?_
        refine cF ?_
        refine WC.seqk ?_
        refine WC.weaken (r' := [(1, .int .i64 mn), (2, .int .i64 mx), (3, pt b1 0), (6, pt b7 0), (8, .bool false), (21, .bool false), (40, .bool false), (49, .bool false)]) (s4 (s4 (subReg_nil _))) ?_
        refine WC.region ?_
        refine mv ?_
        refine asg ?_
        refine WL.dn ?_
        refine cF ?_
        refine WC.sk ?_
        refine sq ?_
        refine mv ?_
        refine mv ?_
        refine WL.load_box rfl rfl rfl h23 Ty.agg29 ?_
        have h26 := ((h16.ext hE17).ext hE20)
        refine WL.buildSlice (vs := [.agg (tcells T (.slice a T.subs.length cap)).toArray]) (cells := (tcells T (.slice a T.subs.length cap))) rfl rfl Ty.slice27 Ty.zero29 rfl rfl rfl rfl rfl rfl (fun b27 w32 hb28 hE31 hs29 hR30 => ?_)
        have hts27 := (NodesV.lit (n := 1) (ts := [T]) hR30 (RowsL.cons (h26.ext hE31) (RowsL.nil' _)) rfl rfl (by decide)).lt
        refine WL.build (l := (zc 5 mn mx (.slice (some ⟨b27, 0, none⟩) 1 1))) rfl rfl Ty.zero29 Ty.st29 ⟨⟨rfl, rfl⟩, (by kernel_rfl)⟩ ?_
        have hn33 : NodeL _ w32 (zc 5 mn mx (.slice (some ⟨b27, 0, none⟩) 1 1)) (Nd.mk 5 Nd.zero mn mx ([T])) := NodeL.shut (k := 5) (s := Nd.zero) (mn := mn) (mx := mx) (sl := .slice (some ⟨b27, 0, none⟩) 1 1) (ts := [T]) hts27
        have hn33 := hn33.lt
        refine WL.call rfl rfl rfl Ty.ent42 (checked_ok _ _ _ _ hn33) ?_
        rintro _ w36 ⟨l34, rfl, hr34, hE35⟩
        have hzhE35 := hE35.size
        refine ⟨_, rfl, ?_⟩
        have hn34 := hr34.lt
        obtain ⟨a34, cap34, rfl, hts34, hlen34⟩ := hn34.op2
        have h39 := ((((hR10.ext hE17).ext hE20).ext hE31).ext hE35)
        refine WL.store_box rfl rfl rfl h39 Ty.agg29 rfl rfl (fun w40 hB38 hR37 => ?_)
        have hzhB38 := hB38.size
        refine WL.dn ?_
        refine WC.ret (fun a_ ha => ?_)
        exact bodyPost_cell (l := (tcells ((Nd.mk 5 Nd.zero mn mx ([T])).checked) (.slice a34 ((Nd.mk 5 Nd.zero mn mx ([T])).checked).subs.length cap34))) rfl ha rfl Ty.agg29 hR37 ⟨_, rfl, (by simp only [Nd.times, hc13, hc14, hc15, hc19, hc22, hc24, hc25, cond_true, cond_false, Bool.not_true, Bool.not_false, Bool.or_true, Bool.true_or, Bool.or_false, Bool.false_or, Bool.and_true, Bool.true_and, Bool.and_false, Bool.false_and]; exact ((hn34.bu hB38).dom (by intro k hk; (try dsimp only at hk); first | omega | exact hk.1.elim))), (hB38.onto (((((hE5.trans hE11).trans hE17).trans hE20).trans hE31).trans hE35) (by omega))⟩
       | true =>
        refine WL.eql rfl rfl rfl rfl hc25 ?_
        have hp25 := beq_iff_eq.1 hc25
        refine pF ?_
        refine asg ?_
        refine WL.dn ?_
        refine cT ?_
        refine WC.seqk ?_
        refine WC.weaken (r' := [(1, .int .i64 mn), (2, .int .i64 mx), (3, pt b1 0), (6, pt b7 0), (8, .bool false), (21, .bool false), (40, .bool false), (49, .bool true)]) (s4 (s4 (subReg_nil _))) ?_
        refine WC.region ?_
        refine WL.build (l := (zc 1 0 0 (.slice none 0 0))) rfl rfl Ty.zero29 Ty.st29 ⟨⟨rfl, rfl⟩, (by kernel_rfl)⟩ ?_
        have hn26 : NodeL _ w21 (zc 1 0 0 (.slice none 0 0)) qb2 := NodeL.shut (k := 1) (s := Nd.zero) (mn := 0) (mx := 0) (sl := .slice none 0 0) (ts := []) (NodesV.nil (fun _ => False) _ none 0)
        have hn26 := hn26.lt
        have h29 := ((hR10.ext hE17).ext hE20)
        refine WL.store_box rfl rfl rfl h29 Ty.agg29 rfl rfl (fun w30 hB28 hR27 => ?_)
        have hzhB28 := hB28.size
        refine WL.dn ?_
        refine WC.ret (fun a_ ha => ?_)
        refine ret_block ?_
        refine ret_then ?_
        exact bodyPost_cell (l := (zc 1 0 0 (.slice none 0 0))) rfl ha rfl Ty.agg29 hR27 ⟨_, rfl, (by simp only [Nd.times, hc13, hc14, hc15, hc19, hc22, hc24, hc25, cond_true, cond_false, Bool.not_true, Bool.not_false, Bool.or_true, Bool.true_or, Bool.or_false, Bool.false_or, Bool.and_true, Bool.true_and, Bool.and_false, Bool.false_and]; exact ((hn26.bu hB28).dom (by intro k hk; (try dsimp only at hk); first | omega | exact hk.1.elim))), (hB28.onto (((hE5.trans hE11).trans hE17).trans hE20) (by omega))⟩
      | true =>
       refine WL.eql rfl rfl rfl rfl hc24 ?_
       have hp24 := beq_iff_eq.1 hc24
       refine mv ?_
       refine mv ?_
       have hc25 : decide ((0 : Int) < mn) = true := decide_eq_true (by omega)
       refine WL.gtr rfl rfl rfl rfl hc25 ?_
       refine pT ?_
       refine asg ?_
       refine WL.dn ?_
       refine cT ?_
       refine WC.seqk ?_
       refine WC.weaken (r' := [(1, .int .i64 mn), (2, .int .i64 mx), (3, pt b1 0), (6, pt b7 0), (7, .bool false), (8, .bool false), (21, .bool false), (40, .bool true)]) (s4 (s4 (subReg_nil _))) ?_
       refine WC.region ?_
       refine WL.build0 (l := (zc 0 0 0 (.slice none 0 0))) rfl rfl Ty.zero29 Ty.agg29 rfl Ty.bz29 ?_
       have hn26 : NodeL _ w21 (zc 0 0 0 (.slice none 0 0)) qb1 := NodeL.shut (k := 0) (s := Nd.zero) (mn := 0) (mx := 0) (sl := .slice none 0 0) (ts := []) (NodesV.nil (fun _ => False) _ none 0)
       have hn26 := hn26.lt
       have h29 := ((hR10.ext hE17).ext hE20)
       refine WL.store_box rfl rfl rfl h29 Ty.agg29 rfl rfl (fun w30 hB28 hR27 => ?_)
       have hzhB28 := hB28.size
       refine WL.dn ?_
       refine WC.ret (fun a_ ha => ?_)
       refine ret_block ?_
       refine ret_then ?_
       exact bodyPost_cell (l := (zc 0 0 0 (.slice none 0 0))) rfl ha rfl Ty.agg29 hR27 ⟨_, rfl, (by simp only [Nd.times, hc13, hc14, hc15, hc19, hc22, hc24, hc25, cond_true, cond_false, Bool.not_true, Bool.not_false, Bool.or_true, Bool.true_or, Bool.or_false, Bool.false_or, Bool.and_true, Bool.true_and, Bool.and_false, Bool.false_and]; exact ((hn26.bu hB28).dom (by intro k hk; (try dsimp only at hk); first | omega | exact hk.1.elim))), (hB28.onto (((hE5.trans hE11).trans hE17).trans hE20) (by omega))⟩
   | true =>
    refine WL.eql rfl rfl rfl rfl hc15 ?_
    have hp15 := beq_iff_eq.1 hc15
    refine pT ?_
    refine asg ?_
    refine asg ?_
    refine WL.dn ?_
    refine WC.seqk ?_
    refine WC.block ?_
    refine WC.seqk ?_
    refine WC.weaken (r' := [(1, .int .i64 mn), (2, .int .i64 mx), (3, pt b1 0), (6, pt b7 0), (7, .bool false), (8, .bool true)]) (s4 (sr rfl (sr rfl (subReg_nil _)))) ?_
    refine WC.region ?_
    refine WL.load_box rfl rfl rfl (hR4.ext hE11) Ty.agg29 ?_
    have h16 := ((hT.ext hE5).ext hE11)
    refine WL.call rfl rfl rfl Ty.ent34 (good_ok _ _ _ _ h16) ?_
    rintro _ w18 ⟨rfl, hE17⟩
    have hzhE17 := hE17.size
    refine ⟨_, rfl, ?_⟩
    cases hc19 : Nd.good T with
    | false =>
     refine WL.not rfl rfl rfl ?_
     refine mv ?_
     refine ps ?_
     refine ps ?_
     refine ps ?_
     refine ps ?_
     refine ps ?_
     refine ps ?_
     refine ps ?_
     refine ps ?_
     refine ps ?_
     refine ps ?_
     refine ps ?_
     refine ps ?_
     refine pT ?_
     refine asg ?_
     refine WL.dn ?_
     refine cT ?_
     refine WC.seqk ?_
     refine WC.weaken (r' := [(1, .int .i64 mn), (2, .int .i64 mx), (3, pt b1 0), (6, pt b7 0), (7, .bool false), (8, .bool true), (21, .bool true)]) (s4 (sr rfl (sr rfl (sr rfl (subReg_nil _))))) ?_
     refine WC.region ?_
     refine WL.build0 (l := (zc 0 0 0 (.slice none 0 0))) rfl rfl Ty.zero29 Ty.agg29 rfl Ty.bz29 ?_
     have hn20 : NodeL _ w18 (zc 0 0 0 (.slice none 0 0)) qb1 := NodeL.shut (k := 0) (s := Nd.zero) (mn := 0) (mx := 0) (sl := .slice none 0 0) (ts := []) (NodesV.nil (fun _ => False) _ none 0)
     have hn20 := hn20.lt
     refine WL.store_box rfl rfl rfl (hR10.ext hE17) Ty.agg29 rfl rfl (fun w23 hB22 hR21 => ?_)
     have hzhB22 := hB22.size
     refine WL.dn ?_
     refine WC.ret (fun a_ ha => ?_)
     refine ret_block ?_
     refine ret_then ?_
     exact bodyPost_cell (l := (zc 0 0 0 (.slice none 0 0))) rfl ha rfl Ty.agg29 hR21 ⟨_, rfl, (by simp only [Nd.times, hc13, hc14, hc15, hc19, cond_true, cond_false, Bool.not_true, Bool.not_false, Bool.or_true, Bool.true_or, Bool.or_false, Bool.false_or, Bool.and_true, Bool.true_and, Bool.and_false, Bool.false_and]; exact ((hn20.bu hB22).dom (by intro k hk; (try dsimp only at hk); first | omega | exact hk.1.elim))), (hB22.onto ((hE5.trans hE11).trans hE17) (by omega))⟩
    | true =>
     refine WL.not rfl rfl rfl ?_
     refine mv ?_
     refine mv ?_
     refine WL.not rfl rfl rfl ?_
     refine mv ?_
     refine mv ?_
     refine WL.not rfl rfl rfl ?_
     refine pT ?_
     refine mv ?_
     refine ps ?_
     refine ps ?_
     refine ps ?_
     refine ps ?_
     refine pF ?_
     refine pF ?_
     refine asg ?_
     refine WL.dn ?_
     refine cF ?_
     refine WC.seqk ?_
     refine WC.weaken (r' := [(1, .int .i64 mn), (2, .int .i64 mx), (3, pt b1 0), (6, pt b7 0), (7, .bool false), (8, .bool true), (21, .bool false)]) (s4 (sr rfl (sr rfl (sr rfl (subReg_nil _))))) ?_
     refine WC.region ?_
     refine WL.fieldAddr rfl rfl Ty.fld29_0 rfl ?_
     have h20 := ((hR4.ext hE11).ext hE17)
     refine WL.load_fld rfl rfl Ty.flat5 rfl h20 rfl ?_
     cases hc21 : ((T.kind : Int) == 0) with
     | false =>
      refine WL.eql rfl rfl rfl rfl hc21 ?_
      have hp21 := beq_eq_false_iff_ne.1 hc21
      refine mv ?_
      refine ps ?_
      refine ps ?_
      refine pF ?_
      refine asg ?_
      refine WL.dn ?_
      refine cF ?_
      refine WC.seqk ?_
      refine WC.weaken (r' := [(1, .int .i64 mn), (2, .int .i64 mx), (3, pt b1 0), (6, pt b7 0), (7, .bool false), (8, .bool true), (21, .bool false), (40, .bool false)]) (s4 (s4 (subReg_nil _))) ?_
      refine WC.region ?_
      refine mv ?_
      refine mv ?_
      refine WL.fieldAddr rfl rfl Ty.fld29_0 rfl ?_
      refine WL.load_fld rfl rfl Ty.flat5 rfl h20 rfl ?_
      refine WL.eql (b := false) rfl rfl rfl rfl hc21 ?_
      refine pF ?_
      refine mv ?_
      refine WL.fieldAddr rfl rfl Ty.fld29_0 rfl ?_
      refine WL.load_fld rfl rfl Ty.flat5 rfl h20 rfl ?_
      cases hc22 : ((T.kind : Int) == 1) with
      | false =>
       refine WL.eql rfl rfl rfl rfl hc22 ?_
       have hp22 := beq_eq_false_iff_ne.1 hc22
       refine pF ?_
       refine asg ?_
       refine WL.dn ?_
       refine cF ?_
       refine WC.seqk ?_
       refine WC.weaken (r' := [(1, .int .i64 mn), (2, .int .i64 mx), (3, pt b1 0), (6, pt b7 0), (8, .bool true), (21, .bool false), (40, .bool false), (49, .bool false)]) (s4 (s4 (subReg_nil _))) ?_
       refine WC.region ?_
       refine mv ?_
       refine asg ?_
       refine WL.dn ?_
       refine cT ?_
       refine sq ?_
       refine WL.load_box rfl rfl rfl h20 Ty.agg29 ?_
       refine WL.call rfl rfl rfl Ty.ent41 (copied_ok T _ _ _ (h16.ext hE17) (Nd.good_size (by assumption))) ?_
       rintro _ w25 ⟨l23, rfl, hr23, hE24⟩
       have hzhE24 := hE24.size
       refine ⟨_, rfl, ?_⟩
       have hn23 := hr23.lt
       obtain ⟨a23, cap23, rfl, hts23, hlen23⟩ := hn23.op2
       have h28 := ((hR10.ext hE17).ext hE24)
       refine WL.store_box rfl rfl rfl h28 Ty.agg29 rfl rfl (fun w29 hB27 hR26 => ?_)
       have hzhB27 := hB27.size
       refine WL.dn ?_
       refine WC.ret (fun a_ ha => ?_)
       refine ret_block ?_
       refine ret_then ?_
       exact bodyPost_cell (l := (tcells T (.slice a23 T.subs.length cap23))) rfl ha rfl Ty.agg29 hR26 ⟨_, rfl, (by simp only [Nd.times, hc13, hc14, hc15, hc19, hc21, hc22, cond_true, cond_false, Bool.not_true, Bool.not_false, Bool.or_true, Bool.true_or, Bool.or_false, Bool.false_or, Bool.and_true, Bool.true_and, Bool.and_false, Bool.false_and]; exact ((hn23.bu hB27).dom (by intro k hk; (try dsimp only at hk); first | omega | exact hk.1.elim))), (hB27.onto (((hE5.trans hE11).trans hE17).trans hE24) (by omega))⟩
      | true =>
       refine WL.eql rfl rfl rfl rfl hc22 ?_
       have hp22 := beq_iff_eq.1 hc22
       refine pF ?_
       refine asg ?_
       refine WL.dn ?_
       refine cT ?_
       refine WC.seqk ?_
       refine WC.weaken (r' := [(1, .int .i64 mn), (2, .int .i64 mx), (3, pt b1 0), (6, pt b7 0), (8, .bool true), (21, .bool false), (40, .bool false), (49, .bool true)]) (s4 (s4 (subReg_nil _))) ?_
       refine WC.region ?_
       refine WL.build (l := (zc 1 0 0 (.slice none 0 0))) rfl rfl Ty.zero29 Ty.st29 ⟨⟨rfl, rfl⟩, (by kernel_rfl)⟩ ?_
       have hn23 : NodeL _ w18 (zc 1 0 0 (.slice none 0 0)) qb2 := NodeL.shut (k := 1) (s := Nd.zero) (mn := 0) (mx := 0) (sl := .slice none 0 0) (ts := []) (NodesV.nil (fun _ => False) _ none 0)
       have hn23 := hn23.lt
       refine WL.store_box rfl rfl rfl (hR10.ext hE17) Ty.agg29 rfl rfl (fun w26 hB25 hR24 => ?_)
       have hzhB25 := hB25.size
       refine WL.dn ?_
       refine WC.ret (fun a_ ha => ?_)
       refine ret_block ?_
       refine ret_then ?_
       exact bodyPost_cell (l := (zc 1 0 0 (.slice none 0 0))) rfl ha rfl Ty.agg29 hR24 ⟨_, rfl, (by simp only [Nd.times, hc13, hc14, hc15, hc19, hc21, hc22, cond_true, cond_false, Bool.not_true, Bool.not_false, Bool.or_true, Bool.true_or, Bool.or_false, Bool.false_or, Bool.and_true, Bool.true_and, Bool.and_false, Bool.false_and]; exact ((hn23.bu hB25).dom (by intro k hk; (try dsimp only at hk); first | omega | exact hk.1.elim))), (hB25.onto ((hE5.trans hE11).trans hE17) (by omega))⟩
     | true =>
      refine WL.eql rfl rfl rfl rfl hc21 ?_
      have hp21 := beq_iff_eq.1 hc21
      refine mv ?_
      refine mv ?_
      have hc22 : decide ((0 : Int) < mn) = true := decide_eq_true (by omega)
      refine WL.gtr rfl rfl rfl rfl hc22 ?_
      refine pT ?_
      refine asg ?_
      refine WL.dn ?_
      refine cT ?_
      refine WC.seqk ?_
      refine WC.weaken (r' := [(1, .int .i64 mn), (2, .int .i64 mx), (3, pt b1 0), (6, pt b7 0), (7, .bool false), (8, .bool true), (21, .bool false), (40, .bool true)]) (s4 (s4 (subReg_nil _))) ?_
      refine WC.region ?_
      refine WL.build0 (l := (zc 0 0 0 (.slice none 0 0))) rfl rfl Ty.zero29 Ty.agg29 rfl Ty.bz29 ?_
      have hn23 : NodeL _ w18 (zc 0 0 0 (.slice none 0 0)) qb1 := NodeL.shut (k := 0) (s := Nd.zero) (mn := 0) (mx := 0) (sl := .slice none 0 0) (ts := []) (NodesV.nil (fun _ => False) _ none 0)
      have hn23 := hn23.lt
      refine WL.store_box rfl rfl rfl (hR10.ext hE17) Ty.agg29 rfl rfl (fun w26 hB25 hR24 => ?_)
      have hzhB25 := hB25.size
      refine WL.dn ?_
      refine WC.ret (fun a_ ha => ?_)
      refine ret_block ?_
      refine ret_then ?_
      exact bodyPost_cell (l := (zc 0 0 0 (.slice none 0 0))) rfl ha rfl Ty.agg29 hR24 ⟨_, rfl, (by simp only [Nd.times, hc13, hc14, hc15, hc19, hc21, hc22, cond_true, cond_false, Bool.not_true, Bool.not_false, Bool.or_true, Bool.true_or, Bool.or_false, Bool.false_or, Bool.and_true, Bool.true_and, Bool.and_false, Bool.false_and]; exact ((hn23.bu hB25).dom (by intro k hk; (try dsimp only at hk); first | omega | exact hk.1.elim))), (hB25.onto ((hE5.trans hE11).trans hE17) (by omega))⟩
 | true =>
  refine WL.eql rfl rfl rfl rfl hc13 ?_
  have hp13 := beq_iff_eq.1 hc13
  refine mv ?_
  refine mv ?_
  cases hc14 : ((mx : Int) == 0) with
  | false =>
   refine WL.eql rfl rfl rfl rfl hc14 ?_
   have hp14 := beq_eq_false_iff_ne.1 hc14
   refine pT ?_
   refine mv ?_
   have hc15 : ((mn : Int) == 1) = false := beq_eq_false_iff_ne.2 (by omega)
   refine WL.eql rfl rfl rfl rfl hc15 ?_
   refine mv ?_
   refine ps ?_
   refine ps ?_
   refine pF ?_
   refine asg ?_
   refine asg ?_
   refine WL.dn ?_
   refine WC.seqk ?_
   refine WC.block ?_
   refine WC.seqk ?_
   refine WC.weaken (r' := [(1, .int .i64 mn), (2, .int .i64 mx), (3, pt b1 0), (6, pt b7 0), (7, .bool false), (8, .bool false)]) (s4 (sr rfl (sr rfl (subReg_nil _)))) ?_
   refine WC.region ?_
   refine WL.load_box rfl rfl rfl (hR4.ext hE11) Ty.agg29 ?_
   have h16 := ((hT.ext hE5).ext hE11)
   refine WL.call rfl rfl rfl Ty.ent34 (good_ok _ _ _ _ h16) ?_
   rintro _ w18 ⟨rfl, hE17⟩
   have hzhE17 := hE17.size
   refine ⟨_, rfl, ?_⟩
   cases hc19 : Nd.good T with
   | false =>
    refine WL.not rfl rfl rfl ?_
    refine mv ?_
    refine ps ?_
    refine ps ?_
    refine ps ?_
    refine ps ?_
    refine ps ?_
    refine ps ?_
    refine ps ?_
    refine ps ?_
    refine ps ?_
    refine ps ?_
    refine ps ?_
    refine ps ?_
    refine pT ?_
    refine asg ?_
    refine WL.dn ?_
    refine cT ?_
    refine WC.seqk ?_
    refine WC.weaken (r' := [(1, .int .i64 mn), (2, .int .i64 mx), (3, pt b1 0), (6, pt b7 0), (7, .bool false), (8, .bool false), (21, .bool true)]) (s4 (sr rfl (sr rfl (sr rfl (subReg_nil _))))) ?_
    refine WC.region ?_
    refine WL.build0 (l := (zc 0 0 0 (.slice none 0 0))) rfl rfl Ty.zero29 Ty.agg29 rfl Ty.bz29 ?_
    have hn20 : NodeL _ w18 (zc 0 0 0 (.slice none 0 0)) qb1 := NodeL.shut (k := 0) (s := Nd.zero) (mn := 0) (mx := 0) (sl := .slice none 0 0) (ts := []) (NodesV.nil (fun _ => False) _ none 0)
    have hn20 := hn20.lt
    refine WL.store_box rfl rfl rfl (hR10.ext hE17) Ty.agg29 rfl rfl (fun w23 hB22 hR21 => ?_)
    have hzhB22 := hB22.size
    refine WL.dn ?_
    refine WC.ret (fun a_ ha => ?_)
    refine ret_block ?_
    refine ret_then ?_
    exact bodyPost_cell (l := (zc 0 0 0 (.slice none 0 0))) rfl ha rfl Ty.agg29 hR21 ⟨_, rfl, (by simp only [Nd.times, hc13, hc14, hc15, hc19, cond_true, cond_false, Bool.not_true, Bool.not_false, Bool.or_true, Bool.true_or, Bool.or_false, Bool.false_or, Bool.and_true, Bool.true_and, Bool.and_false, Bool.false_and]; exact ((hn20.bu hB22).dom (by intro k hk; (try dsimp only at hk); first | omega | exact hk.1.elim))), (hB22.onto ((hE5.trans hE11).trans hE17) (by omega))⟩
   | true =>
    refine WL.not rfl rfl rfl ?_
    refine mv ?_
    refine mv ?_
    refine WL.not rfl rfl rfl ?_
    refine mv ?_
    refine mv ?_
    refine WL.not rfl rfl rfl ?_
    refine pT ?_
    refine mv ?_
    refine mv ?_
    refine mv ?_
    refine WL.call rfl rfl rfl Ty.ent40 (bounds_ok mn mx _) ?_
    rintro _ w21 ⟨rfl, hE20⟩
    have hzhE20 := hE20.size
    refine ⟨_, rfl, ?_⟩
    cases hc22 : Nd.bounds mn mx with
    | false =>
     refine WL.not rfl rfl rfl ?_
     refine pT ?_
     refine pF ?_
     refine asg ?_
     refine WL.dn ?_
     refine cT ?_
     refine WC.seqk ?_
     refine WC.weaken (r' := [(1, .int .i64 mn), (2, .int .i64 mx), (3, pt b1 0), (6, pt b7 0), (7, .bool false), (8, .bool false), (21, .bool true)]) (s4 (sr rfl (sr rfl (sr rfl (subReg_nil _))))) ?_
     refine WC.region ?_
     refine WL.build0 (l := (zc 0 0 0 (.slice none 0 0))) rfl rfl Ty.zero29 Ty.agg29 rfl Ty.bz29 ?_
     have hn23 : NodeL _ w21 (zc 0 0 0 (.slice none 0 0)) qb1 := NodeL.shut (k := 0) (s := Nd.zero) (mn := 0) (mx := 0) (sl := .slice none 0 0) (ts := []) (NodesV.nil (fun _ => False) _ none 0)
     have hn23 := hn23.lt
     have h26 := ((hR10.ext hE17).ext hE20)
     refine WL.store_box rfl rfl rfl h26 Ty.agg29 rfl rfl (fun w27 hB25 hR24 => ?_)
     have hzhB25 := hB25.size
     refine WL.dn ?_
     refine WC.ret (fun a_ ha => ?_)
     refine ret_block ?_
     refine ret_then ?_
     exact bodyPost_cell (l := (zc 0 0 0 (.slice none 0 0))) rfl ha rfl Ty.agg29 hR24 ⟨_, rfl, (by simp only [Nd.times, hc13, hc14, hc15, hc19, hc22, cond_true, cond_false, Bool.not_true, Bool.not_false, Bool.or_true, Bool.true_or, Bool.or_false, Bool.false_or, Bool.and_true, Bool.true_and, Bool.and_false, Bool.false_and]; exact ((hn23.bu hB25).dom (by intro k hk; (try dsimp only at hk); first | omega | exact hk.1.elim))), (hB25.onto (((hE5.trans hE11).trans hE17).trans hE20) (by omega))⟩
    | true =>
     refine WL.not rfl rfl rfl ?_
     refine pT ?_
     refine pF ?_
     refine asg ?_
     refine WL.dn ?_
     refine cF ?_
     refine WC.seqk ?_
     refine WC.weaken (r' := [(1, .int .i64 mn), (2, .int .i64 mx), (3, pt b1 0), (6, pt b7 0), (7, .bool false), (8, .bool false), (21, .bool false)]) (s4 (sr rfl (sr rfl (sr rfl (subReg_nil _))))) ?_
     refine WC.region ?_
     refine WL.fieldAddr rfl rfl Ty.fld29_0 rfl ?_
     have h23 := (((hR4.ext hE11).ext hE17).ext hE20)
     refine WL.load_fld rfl rfl Ty.flat5 rfl h23 rfl ?_
     cases hc24 : ((T.kind : Int) == 0) with
     | false =>
      refine WL.eql rfl rfl rfl rfl hc24 ?_
      have hp24 := beq_eq_false_iff_ne.1 hc24
      refine mv ?_
      refine ps ?_
      refine ps ?_
      refine pF ?_
      refine asg ?_
      refine WL.dn ?_
      refine cF ?_
      refine WC.seqk ?_
      refine WC.weaken (r' := [(1, .int .i64 mn), (2, .int .i64 mx), (3, pt b1 0), (6, pt b7 0), (7, .bool false), (8, .bool false), (21, .bool false), (40, .bool false)]) (s4 (s4 (subReg_nil _))) ?_
      refine WC.region ?_
      refine mv ?_
      refine mv ?_
      refine WL.fieldAddr rfl rfl Ty.fld29_0 rfl ?_
      refine WL.load_fld rfl rfl Ty.flat5 rfl h23 rfl ?_
      refine WL.eql (b := false) rfl rfl rfl rfl hc24 ?_
      refine pF ?_
      refine mv ?_
      refine WL.fieldAddr rfl rfl Ty.fld29_0 rfl ?_
      refine WL.load_fld rfl rfl Ty.flat5 rfl h23 rfl ?_
      cases hc25 : ((T.kind : Int) == 1) with
      | false =>
       refine WL.eql rfl rfl rfl rfl hc25 ?_
       have hp25 := beq_eq_false_iff_ne.1 hc25
       refine pF ?_
       refine asg ?_
       refine WL.dn ?_
       refine cF ?_
       refine WC.seqk ?_
       refine WC.weaken (r' := [(1, .int .i64 mn), (2, .int .i64 mx), (3, pt b1 0), (6, pt b7 0), (8, .bool false), (21, .bool false), (40, .bool false), (49, .bool false)]) (s4 (s4 (subReg_nil _))) ?_
       refine WC.region ?_
       refine mv ?_
       refine asg ?_
       refine WL.dn ?_
       refine cF ?_
       refine WC.sk ?_
       refine sq ?_
       refine mv ?_
       refine mv ?_
       refine WL.load_box rfl rfl rfl h23 Ty.agg29 ?_
       have h26 := ((h16.ext hE17).ext hE20)
       refine WL.buildSlice (vs := [.agg (tcells T (.slice a T.subs.length cap)).toArray]) (cells := (tcells T (.slice a T.subs.length cap))) rfl rfl Ty.slice27 Ty.zero29 rfl rfl rfl rfl rfl rfl (fun b27 w32 hb28 hE31 hs29 hR30 => ?_)
       have hts27 := (NodesV.lit (n := 1) (ts := [T]) hR30 (RowsL.cons (h26.ext hE31) (RowsL.nil' _)) rfl rfl (by decide)).lt
       refine WL.build (l := (zc 5 mn mx (.slice (some ⟨b27, 0, none⟩) 1 1))) rfl rfl Ty.zero29 Ty.st29 ⟨⟨rfl, rfl⟩, (by kernel_rfl)⟩ ?_
       have hn33 : NodeL _ w32 (zc 5 mn mx (.slice (some ⟨b27, 0, none⟩) 1 1)) (Nd.mk 5 Nd.zero mn mx ([T])) := NodeL.shut (k := 5) (s := Nd.zero) (mn := mn) (mx := mx) (sl := .slice (some ⟨b27, 0, none⟩) 1 1) (ts := [T]) hts27
       have hn33 := hn33.lt
       refine WL.call rfl rfl rfl Ty.ent42 (checked_ok _ _ _ _ hn33) ?_
       rintro _ w36 ⟨l34, rfl, hr34, hE35⟩
       have hzhE35 := hE35.size
       refine ⟨_, rfl, ?_⟩
       have hn34 := hr34.lt
       obtain ⟨a34, cap34, rfl, hts34, hlen34⟩ := hn34.op2
       have h39 := ((((hR10.ext hE17).ext hE20).ext hE31).ext hE35)
       refine WL.store_box rfl rfl rfl h39 Ty.agg29 rfl rfl (fun w40 hB38 hR37 => ?_)
       have hzhB38 := hB38.size
       refine WL.dn ?_
       refine WC.ret (fun a_ ha => ?_)
       exact bodyPost_cell (l := (tcells ((Nd.mk 5 Nd.zero mn mx ([T])).checked) (.slice a34 ((Nd.mk 5 Nd.zero mn mx ([T])).checked).subs.length cap34))) rfl ha rfl Ty.agg29 hR37 ⟨_, rfl, (by simp only [Nd.times, hc13, hc14, hc15, hc19, hc22, hc24, hc25, cond_true, cond_false, Bool.not_true, Bool.not_false, Bool.or_true, Bool.true_or, Bool.or_false, Bool.false_or, Bool.and_true, Bool.true_and, Bool.and_false, Bool.false_and]; exact ((hn34.bu hB38).dom (by intro k hk; (try dsimp only at hk); first | omega | exact hk.1.elim))), (hB38.onto (((((hE5.trans hE11).trans hE17).trans hE20).trans hE31).trans hE35) (by omega))⟩
      | true =>
       refine WL.eql rfl rfl rfl rfl hc25 ?_
       have hp25 := beq_iff_eq.1 hc25
       refine pF ?_
       refine asg ?_
       refine WL.dn ?_
       refine cT ?_
       refine WC.seqk ?_
       refine WC.weaken (r' := [(1, .int .i64 mn), (2, .int .i64 mx), (3, pt b1 0), (6, pt b7 0), (8, .bool false), (21, .bool false), (40, .bool false), (49, .bool true)]) (s4 (s4 (subReg_nil _))) ?_
       refine WC.region ?_
       refine WL.build (l := (zc 1 0 0 (.slice none 0 0))) rfl rfl Ty.zero29 Ty.st29 ⟨⟨rfl, rfl⟩, (by kernel_rfl)⟩ ?_
       have hn26 : NodeL _ w21 (zc 1 0 0 (.slice none 0 0)) qb2 := NodeL.shut (k := 1) (s := Nd.zero) (mn := 0) (mx := 0) (sl := .slice none 0 0) (ts := []) (NodesV.nil (fun _ => False) _ none 0)
       have hn26 := hn26.lt
       have h29 := ((hR10.ext hE17).ext hE20)
       refine WL.store_box rfl rfl rfl h29 Ty.agg29 rfl rfl (fun w30 hB28 hR27 => ?_)
       have hzhB28 := hB28.size
       refine WL.dn ?_
       refine WC.ret (fun a_ ha => ?_)
       refine ret_block ?_
       refine ret_then ?_
       exact bodyPost_cell (l := (zc 1 0 0 (.slice none 0 0))) rfl ha rfl Ty.agg29 hR27 ⟨_, rfl, (by simp only [Nd.times, hc13, hc14, hc15, hc19, hc22, hc24, hc25, cond_true, cond_false, Bool.not_true, Bool.not_false, Bool.or_true, Bool.true_or, Bool.or_false, Bool.false_or, Bool.and_true, Bool.true_and, Bool.and_false, Bool.false_and]; exact ((hn26.bu hB28).dom (by intro k hk; (try dsimp only at hk); first | omega | exact hk.1.elim))), (hB28.onto (((hE5.trans hE11).trans hE17).trans hE20) (by omega))⟩
     | true =>
      refine WL.eql rfl rfl rfl rfl hc24 ?_
      have hp24 := beq_iff_eq.1 hc24
      refine mv ?_
      refine mv ?_
      have hc25 : decide ((0 : Int) < mn) = false := decide_eq_false (by omega)
      refine WL.gtr rfl rfl rfl rfl hc25 ?_
      refine pT ?_
      refine asg ?_
      refine WL.dn ?_
      refine cF ?_
      refine WC.seqk ?_
      refine WC.weaken (r' := [(1, .int .i64 mn), (2, .int .i64 mx), (3, pt b1 0), (6, pt b7 0), (7, .bool false), (8, .bool false), (21, .bool false), (40, .bool false)]) (s4 (s4 (subReg_nil _))) ?_
      refine WC.region ?_
      refine mv ?_
      refine mv ?_
      refine WL.fieldAddr rfl rfl Ty.fld29_0 rfl ?_
      refine WL.load_fld rfl rfl Ty.flat5 rfl h23 rfl ?_
      refine WL.eql (b := true) rfl rfl rfl rfl hc24 ?_
      refine pF ?_
      refine mv ?_
      refine ps ?_
      refine ps ?_
      refine ps ?_
      refine pT ?_
      refine asg ?_
      refine WL.dn ?_
      refine cT ?_
      refine WC.seqk ?_
      refine WC.weaken (r' := [(1, .int .i64 mn), (2, .int .i64 mx), (3, pt b1 0), (6, pt b7 0), (8, .bool false), (21, .bool false), (40, .bool false), (49, .bool true)]) (s4 (s4 (subReg_nil _))) ?_
      refine WC.region ?_
      refine WL.build (l := (zc 1 0 0 (.slice none 0 0))) rfl rfl Ty.zero29 Ty.st29 ⟨⟨rfl, rfl⟩, (by kernel_rfl)⟩ ?_
      have hn26 : NodeL _ w21 (zc 1 0 0 (.slice none 0 0)) qb2 := NodeL.shut (k := 1) (s := Nd.zero) (mn := 0) (mx := 0) (sl := .slice none 0 0) (ts := []) (NodesV.nil (fun _ => False) _ none 0)
      have hn26 := hn26.lt
      have h29 := ((hR10.ext hE17).ext hE20)
      refine WL.store_box rfl rfl rfl h29 Ty.agg29 rfl rfl (fun w30 hB28 hR27 => ?_)
      have hzhB28 := hB28.size
      refine WL.dn ?_
      refine WC.ret (fun a_ ha => ?_)
      refine ret_block ?_
      refine ret_then ?_
      exact bodyPost_cell (l := (zc 1 0 0 (.slice none 0 0))) rfl ha rfl Ty.agg29 hR27 ⟨_, rfl, (by simp only [Nd.times, hc13, hc14, hc15, hc19, hc22, hc24, hc25, cond_true, cond_false, Bool.not_true, Bool.not_false, Bool.or_true, Bool.true_or, Bool.or_false, Bool.false_or, Bool.and_true, Bool.true_and, Bool.and_false, Bool.false_and]; exact ((hn26.bu hB28).dom (by intro k hk; (try dsimp only at hk); first | omega | exact hk.1.elim))), (hB28.onto (((hE5.trans hE11).trans hE17).trans hE20) (by omega))⟩
  | true =>
   refine WL.eql rfl rfl rfl rfl hc14 ?_
   have hp14 := beq_iff_eq.1 hc14
   refine pT ?_
   refine mv ?_
   have hc15 : ((mn : Int) == 1) = false := beq_eq_false_iff_ne.2 (by omega)
   refine WL.eql rfl rfl rfl rfl hc15 ?_
   refine mv ?_
   refine ps ?_
   refine ps ?_
   refine pF ?_
   refine asg ?_
   refine asg ?_
   refine WL.dn ?_
   refine WC.seqk ?_
   refine WC.block ?_
   refine WC.seqk ?_
   refine WC.weaken (r' := [(1, .int .i64 mn), (2, .int .i64 mx), (3, pt b1 0), (6, pt b7 0), (7, .bool true), (8, .bool false)]) (s4 (sr rfl (sr rfl (subReg_nil _)))) ?_
   refine WC.region ?_
   refine WL.load_box rfl rfl rfl (hR4.ext hE11) Ty.agg29 ?_
   have h16 := ((hT.ext hE5).ext hE11)
   refine WL.call rfl rfl rfl Ty.ent34 (good_ok _ _ _ _ h16) ?_
   rintro _ w18 ⟨rfl, hE17⟩
   have hzhE17 := hE17.size
   refine ⟨_, rfl, ?_⟩
   cases hc19 : Nd.good T with
   | false =>
    refine WL.not rfl rfl rfl ?_
    refine mv ?_
    refine ps ?_
    refine ps ?_
    refine ps ?_
    refine ps ?_
    refine ps ?_
    refine ps ?_
    refine ps ?_
    refine ps ?_
    refine ps ?_
    refine ps ?_
    refine ps ?_
    refine ps ?_
    refine pT ?_
    refine asg ?_
    refine WL.dn ?_
    refine cT ?_
    refine WC.seqk ?_
    refine WC.weaken (r' := [(1, .int .i64 mn), (2, .int .i64 mx), (3, pt b1 0), (6, pt b7 0), (7, .bool true), (8, .bool false), (21, .bool true)]) (s4 (sr rfl (sr rfl (sr rfl (subReg_nil _))))) ?_
    refine WC.region ?_
    refine WL.build0 (l := (zc 0 0 0 (.slice none 0 0))) rfl rfl Ty.zero29 Ty.agg29 rfl Ty.bz29 ?_
    have hn20 : NodeL _ w18 (zc 0 0 0 (.slice none 0 0)) qb1 := NodeL.shut (k := 0) (s := Nd.zero) (mn := 0) (mx := 0) (sl := .slice none 0 0) (ts := []) (NodesV.nil (fun _ => False) _ none 0)
    have hn20 := hn20.lt
    refine WL.store_box rfl rfl rfl (hR10.ext hE17) Ty.agg29 rfl rfl (fun w23 hB22 hR21 => ?_)
    have hzhB22 := hB22.size
    refine WL.dn ?_
    refine WC.ret (fun a_ ha => ?_)
    refine ret_block ?_
    refine ret_then ?_
    exact bodyPost_cell (l := (zc 0 0 0 (.slice none 0 0))) rfl ha rfl Ty.agg29 hR21 ⟨_, rfl, (by simp only [Nd.times, hc13, hc14, hc15, hc19, cond_true, cond_false, Bool.not_true, Bool.not_false, Bool.or_true, Bool.true_or, Bool.or_false, Bool.false_or, Bool.and_true, Bool.true_and, Bool.and_false, Bool.false_and]; exact ((hn20.bu hB22).dom (by intro k hk; (try dsimp only at hk); first | omega | exact hk.1.elim))), (hB22.onto ((hE5.trans hE11).trans hE17) (by omega))⟩
   | true =>
    refine WL.not rfl rfl rfl ?_
    refine mv ?_
    refine mv ?_
    refine WL.not rfl rfl rfl ?_
    refine mv ?_
    refine ps ?_
    refine ps ?_
    refine pF ?_
    refine mv ?_
    refine ps ?_
    refine ps ?_
    refine ps ?_
    refine ps ?_
    refine pF ?_
    refine pF ?_
    refine asg ?_
    refine WL.dn ?_
    refine cF ?_
    refine WC.seqk ?_
    refine WC.weaken (r' := [(1, .int .i64 mn), (2, .int .i64 mx), (3, pt b1 0), (6, pt b7 0), (7, .bool true), (8, .bool false), (21, .bool false)]) (s4 (sr rfl (sr rfl (sr rfl (subReg_nil _))))) ?_
    refine WC.region ?_
    refine WL.fieldAddr rfl rfl Ty.fld29_0 rfl ?_
    have h20 := ((hR4.ext hE11).ext hE17)
    refine WL.load_fld rfl rfl Ty.flat5 rfl h20 rfl ?_
    cases hc21 : ((T.kind : Int) == 0) with
    | false =>
     refine WL.eql rfl rfl rfl rfl hc21 ?_
     have hp21 := beq_eq_false_iff_ne.1 hc21
     refine mv ?_
     refine ps ?_
     refine ps ?_
     refine pF ?_
     refine asg ?_
     refine WL.dn ?_
     refine cF ?_
     refine WC.seqk ?_
     refine WC.weaken (r' := [(1, .int .i64 mn), (2, .int .i64 mx), (3, pt b1 0), (6, pt b7 0), (7, .bool true), (8, .bool false), (21, .bool false), (40, .bool false)]) (s4 (s4 (subReg_nil _))) ?_
     refine WC.region ?_
     refine mv ?_
     refine mv ?_
     refine ps ?_
     refine ps ?_
     refine ps ?_
     refine pT ?_
     refine mv ?_
     refine ps ?_
     refine ps ?_
     refine ps ?_
     refine pT ?_
     refine asg ?_
     refine WL.dn ?_
     refine cT ?_
     refine WC.seqk ?_
     refine WC.weaken (r' := [(1, .int .i64 mn), (2, .int .i64 mx), (3, pt b1 0), (6, pt b7 0), (8, .bool false), (21, .bool false), (40, .bool false), (49, .bool true)]) (s4 (s4 (subReg_nil _))) ?_
     refine WC.region ?_
     refine WL.build (l := (zc 1 0 0 (.slice none 0 0))) rfl rfl Ty.zero29 Ty.st29 ⟨⟨rfl, rfl⟩, (by kernel_rfl)⟩ ?_
     have hn22 : NodeL _ w18 (zc 1 0 0 (.slice none 0 0)) qb2 := NodeL.shut (k := 1) (s := Nd.zero) (mn := 0) (mx := 0) (sl := .slice none 0 0) (ts := []) (NodesV.nil (fun _ => False) _ none 0)
     have hn22 := hn22.lt
     refine WL.store_box rfl rfl rfl (hR10.ext hE17) Ty.agg29 rfl rfl (fun w25 hB24 hR23 => ?_)
     have hzhB24 := hB24.size
     refine WL.dn ?_
     refine WC.ret (fun a_ ha => ?_)
     refine ret_block ?_
     refine ret_then ?_
     exact bodyPost_cell (l := (zc 1 0 0 (.slice none 0 0))) rfl ha rfl Ty.agg29 hR23 ⟨_, rfl, (by simp only [Nd.times, hc13, hc14, hc15, hc19, hc21, cond_true, cond_false, Bool.not_true, Bool.not_false, Bool.or_true, Bool.true_or, Bool.or_false, Bool.false_or, Bool.and_true, Bool.true_and, Bool.and_false, Bool.false_and]; exact ((hn22.bu hB24).dom (by intro k hk; (try dsimp only at hk); first | omega | exact hk.1.elim))), (hB24.onto ((hE5.trans hE11).trans hE17) (by omega))⟩
    | true =>
     refine WL.eql rfl rfl rfl rfl hc21 ?_
     have hp21 := beq_iff_eq.1 hc21
     refine mv ?_
     refine mv ?_
     have hc22 : decide ((0 : Int) < mn) = false := decide_eq_false (by omega)
     refine WL.gtr rfl rfl rfl rfl hc22 ?_
     refine pT ?_
     refine asg ?_
     refine WL.dn ?_
     refine cF ?_
     refine WC.seqk ?_
     refine WC.weaken (r' := [(1, .int .i64 mn), (2, .int .i64 mx), (3, pt b1 0), (6, pt b7 0), (7, .bool true), (8, .bool false), (21, .bool false), (40, .bool false)]) (s4 (s4 (subReg_nil _))) ?_
     refine WC.region ?_
     refine mv ?_
     refine mv ?_
     refine ps ?_
     refine ps ?_
     refine ps ?_
     refine pT ?_
     refine mv ?_
     refine ps ?_
     refine ps ?_
     refine ps ?_
     refine pT ?_
     refine asg ?_
     refine WL.dn ?_
     refine cT ?_
     refine WC.seqk ?_
     refine WC.weaken (r' := [(1, .int .i64 mn), (2, .int .i64 mx), (3, pt b1 0), (6, pt b7 0), (8, .bool false), (21, .bool false), (40, .bool false), (49, .bool true)]) (s4 (s4 (subReg_nil _))) ?_
     refine WC.region ?_
     refine WL.build (l := (zc 1 0 0 (.slice none 0 0))) rfl rfl Ty.zero29 Ty.st29 ⟨⟨rfl, rfl⟩, (by kernel_rfl)⟩ ?_
     have hn23 : NodeL _ w18 (zc 1 0 0 (.slice none 0 0)) qb2 := NodeL.shut (k := 1) (s := Nd.zero) (mn := 0) (mx := 0) (sl := .slice none 0 0) (ts := []) (NodesV.nil (fun _ => False) _ none 0)
     have hn23 := hn23.lt
     refine WL.store_box rfl rfl rfl (hR10.ext hE17) Ty.agg29 rfl rfl (fun w26 hB25 hR24 => ?_)
     have hzhB25 := hB25.size
     refine WL.dn ?_
     refine WC.ret (fun a_ ha => ?_)
     refine ret_block ?_
     refine ret_then ?_
     exact bodyPost_cell (l := (zc 1 0 0 (.slice none 0 0))) rfl ha rfl Ty.agg29 hR24 ⟨_, rfl, (by simp only [Nd.times, hc13, hc14, hc15, hc19, hc21, hc22, cond_true, cond_false, Bool.not_true, Bool.not_false, Bool.or_true, Bool.true_or, Bool.or_false, Bool.false_or, Bool.and_true, Bool.true_and, Bool.and_false, Bool.false_and]; exact ((hn23.bu hB25).dom (by intro k hk; (try dsimp only at hk); first | omega | exact hk.1.elim))), (hB25.onto ((hE5.trans hE11).trans hE17) (by omega))⟩
set_option maxRecDepth 20000 in
set_option maxHeartbeats 4000000 in
theorem Positions_ok (D : Nat → Prop) (w : World) (l : List Value) (T : Nd) (hT : NodeL D w l T) :
  Calls Try.prog 15 #[.agg l.toArray] w fun e w' => e = .returned (.int .i64 T.posns) ∧ Ext w w' := by
 have hT := hT.lt
 obtain ⟨a, cap, rfl, hts, hlen⟩ := hT.op2
 refine Calls.enter (args := [.agg (tcells T (.slice a T.subs.length cap)).toArray]) Try.func15 rfl rfl rfl rfl ?_
 refine sq ?_
 refine WL.box_agg rfl rfl rfl (fun b1 w6 hb2 hE5 hs3 hR4 => ?_)
 refine asg ?_
 refine WL.dn ?_
 refine WC.seqk ?_
 refine sq ?_
 refine WL.load_box rfl rfl rfl hR4 Ty.agg29 ?_
 refine WL.call rfl rfl rfl Ty.ent35 (light_ok _ _ _ _ (hT.ext hE5)) ?_
 rintro _ w8 ⟨rfl, hE7⟩
 have hzhE7 := hE7.size
 refine ⟨_, rfl, ?_⟩
 cases hc9 : Nd.light T with
 | false =>
  refine WL.not rfl rfl rfl ?_
  refine WL.dn ?_
  refine cT ?_
  refine sq ?_
  refine asg ?_
  refine WL.dn ?_
  refine WC.ret (fun a_ ha => ?_)
  refine ret_then ?_
  exact bodyPost_tmp rfl ha rfl ⟨(by congr 2; simp only [Nd.posns, hc9]; rfl), (hE5.trans hE7)⟩
 | true =>
  refine WL.not rfl rfl rfl ?_
  refine WL.dn ?_
  refine cF ?_
  refine WC.sk ?_
  refine sq ?_
  refine WL.load_box rfl rfl rfl (hR4.ext hE7) Ty.agg29 ?_
  have h10 := ((hT.ext hE5).ext hE7)
  refine WL.call rfl rfl rfl Ty.ent39 (positions_ok T _ _ _ h10 (by simpa [Nd.light] using hc9)) ?_
  rintro _ w12 ⟨rfl, hE11⟩
  have hzhE11 := hE11.size
  refine ⟨_, rfl, ?_⟩
  refine asg ?_
  refine WL.dn ?_
  refine WC.ret (fun a_ ha => ?_)
  exact bodyPost_tmp rfl ha rfl ⟨(by congr 2; simp only [Nd.posns, hc9]; rfl), ((hE5.trans hE7).trans hE11)⟩
set_option maxRecDepth 20000 in
set_option maxHeartbeats 4000000 in
theorem check_ok (D : Nat → Prop) (w : World) (b1 b2 : Bool) (l : List Value) (T : Nd) (hT : NodeL D w l T) :
  Calls Try.prog 13 #[.agg (.bool b1 :: .bool b2 :: l).toArray] w fun e w' => e = .returned (.int .i64 T.check) ∧ Ext w w' := by
 have hT := hT.lt
 obtain ⟨sl, rfl, hts⟩ := hT.opn
 obtain ⟨a, cap, rfl, hlen, -⟩ := hts.get
 refine Calls.enter (args := [.agg #[.bool b1, .bool b2, .int .u8 T.kind, .int .u64 T.set.a, .int .u64 T.set.b, .int .u64 T.set.c, .int .u64 T.set.d, .int .i64 T.least, .int .i64 T.most, .slice a T.subs.length cap]]) Try.func13 rfl rfl rfl rfl ?_
 refine WC.seqk ?_
 refine WC.region ?_
 refine WL.box_agg rfl rfl rfl (fun b1 w6 hb2 hE5 hs3 hR4 => ?_)
 refine WL.assign rfl rfl rfl ?_
 refine WL.done' ?_ (fun _ _ h => h)
 refine WC.seqk ?_
 refine WC.block ?_
 refine WC.seqk ?_
 refine WC.region ?_
 refine WL.fieldAddr rfl rfl Ty.fld36_2 rfl ?_
 refine WL.load_part 8 rfl rfl rfl hR4 rfl Ty.agg29 ?_
 refine WL.call rfl rfl rfl Ty.ent12 (clean_ok _ _ _ _ (hT.ext hE5)) ?_
 rintro _ w8 ⟨rfl, hE7⟩
 have hzhE7 := hE7.size
 refine ⟨_, rfl, ?_⟩
 cases hc9 : Nd.clean T with
 | false =>
  refine WL.not rfl rfl rfl ?_
  refine WL.assign rfl rfl rfl ?_
  refine WL.done' ?_ (fun _ _ h => h)
  refine WC.cond_t rfl ?_
  refine WC.seqk ?_
  refine WC.region ?_
  refine WL.assign rfl rfl rfl ?_
  refine WL.done' ?_ (fun _ _ h => h)
  refine WC.ret (fun a_ ha => ?_)
  refine ret_block ?_
  refine ret_then ?_
  exact bodyPost_tmp rfl ha rfl ⟨(by congr 2; clear ha; simp [Nd.check, hc9] at *; all_goals omega), (hE5.trans hE7)⟩
 | true =>
  refine WL.not rfl rfl rfl ?_
  refine WL.assign rfl rfl rfl ?_
  refine WL.done' ?_ (fun _ _ h => h)
  refine WC.cond_f rfl ?_
  refine WC.seqk ?_
  refine WC.region ?_
  refine WL.fieldAddr rfl rfl Ty.fld36_2 rfl ?_
  refine WL.load_part 8 rfl rfl rfl (hR4.ext hE7) rfl Ty.agg29 ?_
  have h10 := ((hT.ext hE5).ext hE7)
  refine WL.call rfl rfl rfl Ty.ent16 (size_ok _ _ _ _ h10) ?_
  rintro _ w12 ⟨rfl, hE11⟩
  have hzhE11 := hE11.size
  refine ⟨_, rfl, ?_⟩
  cases hc13 : decide ((120 : Int) < (Nd.sizes T)) with
  | false =>
   refine WL.gtr rfl rfl rfl rfl hc13 ?_
   have hp13 := of_decide_eq_false hc13
   refine WL.assign rfl rfl rfl ?_
   refine WL.done' ?_ (fun _ _ h => h)
   refine WC.cond_f rfl ?_
   refine WC.seqk ?_
   refine WC.weaken (r' := [(1, .pointer (some ⟨b1, 0, none⟩)), (2, .int .i64 0), (3, .bool false), (8, .bool false)]) (subReg_cons rfl (subReg_cons rfl (subReg_cons rfl (subReg_cons rfl (subReg_nil _))))) ?_
   refine WC.region ?_
   refine WL.fieldAddr rfl rfl Ty.fld36_2 rfl ?_
   have h14 := ((hR4.ext hE7).ext hE11)
   refine WL.load_part 8 rfl rfl rfl h14 rfl Ty.agg29 ?_
   refine WL.call rfl rfl rfl Ty.ent15 (Positions_ok _ _ _ _ (h10.ext hE11)) ?_
   rintro _ w16 ⟨rfl, hE15⟩
   have hzhE15 := hE15.size
   refine ⟨_, rfl, ?_⟩
   cases hc17 : decide ((400 : Int) < (Nd.posns T)) with
   | false =>
    refine WL.gtr rfl rfl rfl rfl hc17 ?_
    have hp17 := of_decide_eq_false hc17
    refine WL.assign rfl rfl rfl ?_
    refine WL.done' ?_ (fun _ _ h => h)
    refine WC.cond_f rfl ?_
    refine WC.seqk ?_
    refine WC.region ?_
    refine WL.fieldAddr rfl rfl Ty.fld36_2 rfl ?_
    refine WL.load_part 8 rfl rfl rfl (h14.ext hE15) rfl Ty.agg29 ?_
    have h18 := ((h10.ext hE11).ext hE15)
    refine WL.call rfl rfl rfl Ty.ent17 (groups_ok _ _ _ _ h18) ?_
    rintro _ w20 ⟨rfl, hE19⟩
    have hzhE19 := hE19.size
    refine ⟨_, rfl, ?_⟩
    cases hc21 : decide ((9 : Int) < (Nd.groups T)) with
    | false =>
     refine WL.gtr rfl rfl rfl rfl hc21 ?_
     have hp21 := of_decide_eq_false hc21
     refine WL.assign rfl rfl rfl ?_
     refine WL.done' ?_ (fun _ _ h => h)
     refine WC.cond_f rfl ?_
     refine WC.skip'' ?_ (fun _ _ h => h)
     refine WC.seqk ?_
     refine WC.weaken (r' := [(2, .int .i64 0), (3, .bool false), (8, .bool false), (13, .bool false), (18, .bool false)]) (subReg_cons rfl (subReg_cons rfl (subReg_cons rfl (subReg_cons rfl (subReg_cons rfl (subReg_nil _)))))) ?_
     refine WC.region ?_
     refine WL.assign rfl rfl rfl ?_
     refine WL.done' ?_ (fun _ _ h => h)
     refine WC.ret (fun a_ ha => ?_)
     exact bodyPost_tmp rfl ha rfl ⟨(by congr 2; clear ha; simp [Nd.check, hc9, hc13, hc17, hc21] at *; all_goals omega), ((((hE5.trans hE7).trans hE11).trans hE15).trans hE19)⟩
    | true =>
     refine WL.gtr rfl rfl rfl rfl hc21 ?_
     have hp21 := of_decide_eq_true hc21
     refine WL.assign rfl rfl rfl ?_
     refine WL.done' ?_ (fun _ _ h => h)
     refine WC.cond_t rfl ?_
     refine WC.seqk ?_
     refine WC.weaken (r' := [(2, .int .i64 0), (3, .bool false), (8, .bool false), (13, .bool false), (18, .bool true)]) (subReg_cons rfl (subReg_cons rfl (subReg_cons rfl (subReg_cons rfl (subReg_cons rfl (subReg_nil _)))))) ?_
     refine WC.region ?_
     refine WL.assign rfl rfl rfl ?_
     refine WL.done' ?_ (fun _ _ h => h)
     refine WC.ret (fun a_ ha => ?_)
     refine ret_block ?_
     refine ret_then ?_
     exact bodyPost_tmp rfl ha rfl ⟨(by congr 2; clear ha; simp [Nd.check, hc9, hc13, hc17, hc21] at *; all_goals omega), ((((hE5.trans hE7).trans hE11).trans hE15).trans hE19)⟩
   | true =>
    refine WL.gtr rfl rfl rfl rfl hc17 ?_
    have hp17 := of_decide_eq_true hc17
    refine WL.assign rfl rfl rfl ?_
    refine WL.done' ?_ (fun _ _ h => h)
    refine WC.cond_t rfl ?_
    refine WC.seqk ?_
    refine WC.region ?_
    refine WL.assign rfl rfl rfl ?_
    refine WL.done' ?_ (fun _ _ h => h)
    refine WC.ret (fun a_ ha => ?_)
    refine ret_block ?_
    refine ret_then ?_
    exact bodyPost_tmp rfl ha rfl ⟨(by congr 2; clear ha; simp [Nd.check, hc9, hc13, hc17] at *; all_goals omega), (((hE5.trans hE7).trans hE11).trans hE15)⟩
  | true =>
   refine WL.gtr rfl rfl rfl rfl hc13 ?_
   have hp13 := of_decide_eq_true hc13
   refine WL.assign rfl rfl rfl ?_
   refine WL.done' ?_ (fun _ _ h => h)
   refine WC.cond_t rfl ?_
   refine WC.seqk ?_
   refine WC.weaken (r' := [(1, .pointer (some ⟨b1, 0, none⟩)), (2, .int .i64 0), (3, .bool false), (8, .bool true)]) (subReg_cons rfl (subReg_cons rfl (subReg_cons rfl (subReg_cons rfl (subReg_nil _))))) ?_
   refine WC.region ?_
   refine WL.assign rfl rfl rfl ?_
   refine WL.done' ?_ (fun _ _ h => h)
   refine WC.ret (fun a_ ha => ?_)
   refine ret_block ?_
   refine ret_then ?_
   exact bodyPost_tmp rfl ha rfl ⟨(by congr 2; clear ha; simp [Nd.check, hc9, hc13] at *; all_goals omega), ((hE5.trans hE7).trans hE11)⟩
set_option maxRecDepth 20000 in
set_option maxHeartbeats 4000000 in
theorem cat_ok (D : Nat → Prop) (w : World) (a : Option Addr) (cap : Nat) (ts : List Nd) (hts : NodesV D w (.slice a ts.length cap) ts) :
  Calls Try.prog 21 #[.slice a ts.length cap] w fun e w' => ∃ l', e = .returned (.agg l'.toArray) ∧ NodeL (fun k => D k ∨ w.heap.size ≤ k) w' l' (Nd.mk 3 Nd.zero 0 0 ts) ∧ Ext w w' := by
 have hlen := hts.len
 have hts := hts.lt
 refine Calls.enter (args := [.slice a ts.length cap]) Try.func21 rfl rfl rfl rfl ?_
 refine sq ?_
 refine WL.alloc rfl rfl Ty.zero29 rfl (fun b1 w6 hb2 hE5 hs3 hR4 => ?_)
 refine WL.dn ?_
 refine sq ?_
 refine mv ?_
 refine WL.build (l := (zc 3 0 0 (.slice a ts.length cap))) rfl rfl Ty.zero29 Ty.st29 ⟨⟨rfl, rfl⟩, (by kernel_rfl)⟩ ?_
 have hn7 : NodeL _ w6 (zc 3 0 0 (.slice a ts.length cap)) (Nd.mk 3 Nd.zero 0 0 ts) := NodeL.shut (k := 3) (s := Nd.zero) (mn := 0) (mx := 0) (sl := .slice a ts.length cap) (ts := ts) (hts.ext hE5)
 have hn7 := hn7.lt
 refine WL.store_box rfl rfl rfl hR4 Ty.agg29 rfl rfl (fun w10 hB9 hR8 => ?_)
 have hzhB9 := hB9.size
 refine WL.dn ?_
 refine WC.ret (fun a_ ha => ?_)
 exact bodyPost_cell (l := (zc 3 0 0 (.slice a ts.length cap))) rfl ha rfl Ty.agg29 hR8 ⟨_, rfl, (hn7.bu hB9).dom (by intro k h1; (try dsimp only at h1); (repeat' first | (guard_hyp h1 : _ ∨ _; refine Or.elim h1 (fun h1 => ?_) (fun h1 => ?_)) | (guard_hyp h1 : _ ∧ _; have hx := h1.2; replace h1 := h1.1)) <;> first | contradiction | exact .inl h1 | exact .inr (by omega)), (hB9.onto hE5 (by omega))⟩
set_option maxRecDepth 20000 in
set_option maxHeartbeats 4000000 in
theorem alt_ok (D : Nat → Prop) (w : World) (a : Option Addr) (cap : Nat) (ts : List Nd) (hts : NodesV D w (.slice a ts.length cap) ts) :
  Calls Try.prog 22 #[.slice a ts.length cap] w fun e w' => ∃ l', e = .returned (.agg l'.toArray) ∧ NodeL (fun k => D k ∨ w.heap.size ≤ k) w' l' (Nd.mk 4 Nd.zero 0 0 ts) ∧ Ext w w' := by
 have hlen := hts.len
 have hts := hts.lt
 refine Calls.enter (args := [.slice a ts.length cap]) Try.func22 rfl rfl rfl rfl ?_
 refine sq ?_
 refine WL.alloc rfl rfl Ty.zero29 rfl (fun b1 w6 hb2 hE5 hs3 hR4 => ?_)
 refine WL.dn ?_
 refine sq ?_
 refine mv ?_
 refine WL.build (l := (zc 4 0 0 (.slice a ts.length cap))) rfl rfl Ty.zero29 Ty.st29 ⟨⟨rfl, rfl⟩, (by kernel_rfl)⟩ ?_
 have hn7 : NodeL _ w6 (zc 4 0 0 (.slice a ts.length cap)) (Nd.mk 4 Nd.zero 0 0 ts) := NodeL.shut (k := 4) (s := Nd.zero) (mn := 0) (mx := 0) (sl := .slice a ts.length cap) (ts := ts) (hts.ext hE5)
 have hn7 := hn7.lt
 refine WL.store_box rfl rfl rfl hR4 Ty.agg29 rfl rfl (fun w10 hB9 hR8 => ?_)
 have hzhB9 := hB9.size
 refine WL.dn ?_
 refine WC.ret (fun a_ ha => ?_)
 exact bodyPost_cell (l := (zc 4 0 0 (.slice a ts.length cap))) rfl ha rfl Ty.agg29 hR8 ⟨_, rfl, (hn7.bu hB9).dom (by intro k h1; (try dsimp only at h1); (repeat' first | (guard_hyp h1 : _ ∨ _; refine Or.elim h1 (fun h1 => ?_) (fun h1 => ?_)) | (guard_hyp h1 : _ ∧ _; have hx := h1.2; replace h1 := h1.1)) <;> first | contradiction | exact .inl h1 | exact .inr (by omega)), (hB9.onto hE5 (by omega))⟩
set_option maxRecDepth 20000 in
set_option maxHeartbeats 4000000 in
theorem rep_ok (D : Nat → Prop) (w : World) (l : List Value) (T : Nd) (mn mx : Int) (hT : NodeL D w l T) :
  Calls Try.prog 23 #[.agg l.toArray, .int .i64 mn, .int .i64 mx] w fun e w' => ∃ l', e = .returned (.agg l'.toArray) ∧ NodeL (fun k => D k ∨ w.heap.size ≤ k) w' l' (Nd.mk 5 Nd.zero mn mx [T]) ∧ Ext w w' := by
 have hT := hT.lt
 obtain ⟨a, cap, rfl, hts, hlen⟩ := hT.op2
 refine Calls.enter (args := [.agg (tcells T (.slice a T.subs.length cap)).toArray, .int .i64 mn, .int .i64 mx]) Try.func23 rfl rfl rfl rfl ?_
 refine sq ?_
 refine WL.box_agg rfl rfl rfl (fun b1 w6 hb2 hE5 hs3 hR4 => ?_)
 refine WL.alloc rfl rfl Ty.zero29 rfl (fun b7 w12 hb8 hE11 hs9 hR10 => ?_)
 refine WL.dn ?_
 refine sq ?_
 refine mv ?_
 refine mv ?_
 refine WL.load_box rfl rfl rfl (hR4.ext hE11) Ty.agg29 ?_
 have h13 := ((hT.ext hE5).ext hE11)
 refine WL.buildSlice (vs := [.agg (tcells T (.slice a T.subs.length cap)).toArray]) (cells := (tcells T (.slice a T.subs.length cap))) rfl rfl Ty.slice27 Ty.zero29 rfl rfl rfl rfl rfl rfl (fun b14 w19 hb15 hE18 hs16 hR17 => ?_)
 have hts14 := (NodesV.lit (n := 1) (ts := [T]) hR17 (RowsL.cons (h13.ext hE18) (RowsL.nil' _)) rfl rfl (by decide)).lt
 refine WL.build (l := (zc 5 mn mx (.slice (some ⟨b14, 0, none⟩) 1 1))) rfl rfl Ty.zero29 Ty.st29 ⟨⟨rfl, rfl⟩, (by kernel_rfl)⟩ ?_
 have hn20 : NodeL _ w19 (zc 5 mn mx (.slice (some ⟨b14, 0, none⟩) 1 1)) (Nd.mk 5 Nd.zero mn mx ([T])) := NodeL.shut (k := 5) (s := Nd.zero) (mn := mn) (mx := mx) (sl := .slice (some ⟨b14, 0, none⟩) 1 1) (ts := [T]) hts14
 have hn20 := hn20.lt
 refine WL.store_box rfl rfl rfl (hR10.ext hE18) Ty.agg29 rfl rfl (fun w23 hB22 hR21 => ?_)
 have hzhB22 := hB22.size
 refine WL.dn ?_
 refine WC.ret (fun a_ ha => ?_)
 exact bodyPost_cell (l := (zc 5 mn mx (.slice (some ⟨b14, 0, none⟩) 1 1))) rfl ha rfl Ty.agg29 hR21 ⟨_, rfl, (hn20.bu hB22).dom (by intro k h1; (try dsimp only at h1); (repeat' first | (guard_hyp h1 : _ ∨ _; refine Or.elim h1 (fun h1 => ?_) (fun h1 => ?_)) | (guard_hyp h1 : _ ∧ _; have hx := h1.2; replace h1 := h1.1)) <;> first | contradiction | exact .inl h1 | exact .inr (by omega)), (hB22.onto ((hE5.trans hE11).trans hE18) (by omega))⟩
set_option maxRecDepth 20000 in
set_option maxHeartbeats 4000000 in
theorem group_ok (D : Nat → Prop) (w : World) (l : List Value) (T : Nd) (hT : NodeL D w l T) :
  Calls Try.prog 24 #[.agg l.toArray] w fun e w' => ∃ l', e = .returned (.agg l'.toArray) ∧ NodeL (fun k => D k ∨ w.heap.size ≤ k) w' l' (Nd.mk 6 Nd.zero 0 0 [T]) ∧ Ext w w' := by
 have hT := hT.lt
 obtain ⟨a, cap, rfl, hts, hlen⟩ := hT.op2
 refine Calls.enter (args := [.agg (tcells T (.slice a T.subs.length cap)).toArray]) Try.func24 rfl rfl rfl rfl ?_
 refine sq ?_
 refine WL.box_agg rfl rfl rfl (fun b1 w6 hb2 hE5 hs3 hR4 => ?_)
 refine WL.alloc rfl rfl Ty.zero29 rfl (fun b7 w12 hb8 hE11 hs9 hR10 => ?_)
 refine WL.dn ?_
 refine sq ?_
 refine WL.load_box rfl rfl rfl (hR4.ext hE11) Ty.agg29 ?_
 have h13 := ((hT.ext hE5).ext hE11)
 refine WL.buildSlice (vs := [.agg (tcells T (.slice a T.subs.length cap)).toArray]) (cells := (tcells T (.slice a T.subs.length cap))) rfl rfl Ty.slice27 Ty.zero29 rfl rfl rfl rfl rfl rfl (fun b14 w19 hb15 hE18 hs16 hR17 => ?_)
 have hts14 := (NodesV.lit (n := 1) (ts := [T]) hR17 (RowsL.cons (h13.ext hE18) (RowsL.nil' _)) rfl rfl (by decide)).lt
 refine WL.build (l := (zc 6 0 0 (.slice (some ⟨b14, 0, none⟩) 1 1))) rfl rfl Ty.zero29 Ty.st29 ⟨⟨rfl, rfl⟩, (by kernel_rfl)⟩ ?_
 have hn20 : NodeL _ w19 (zc 6 0 0 (.slice (some ⟨b14, 0, none⟩) 1 1)) (Nd.mk 6 Nd.zero 0 0 ([T])) := NodeL.shut (k := 6) (s := Nd.zero) (mn := 0) (mx := 0) (sl := .slice (some ⟨b14, 0, none⟩) 1 1) (ts := [T]) hts14
 have hn20 := hn20.lt
 refine WL.store_box rfl rfl rfl (hR10.ext hE18) Ty.agg29 rfl rfl (fun w23 hB22 hR21 => ?_)
 have hzhB22 := hB22.size
 refine WL.dn ?_
 refine WC.ret (fun a_ ha => ?_)
 exact bodyPost_cell (l := (zc 6 0 0 (.slice (some ⟨b14, 0, none⟩) 1 1))) rfl ha rfl Ty.agg29 hR21 ⟨_, rfl, (hn20.bu hB22).dom (by intro k h1; (try dsimp only at h1); (repeat' first | (guard_hyp h1 : _ ∨ _; refine Or.elim h1 (fun h1 => ?_) (fun h1 => ?_)) | (guard_hyp h1 : _ ∧ _; have hx := h1.2; replace h1 := h1.1)) <;> first | contradiction | exact .inl h1 | exact .inr (by omega)), (hB22.onto ((hE5.trans hE11).trans hE18) (by omega))⟩
end Go.Proofs.Ytaggidjijekpbaa
namespace Go.Proofs.Ytaggidjijekpbaa
open Go.Proofs Go.RowKit
set_option maxRecDepth 20000 in
set_option maxHeartbeats 4000000 in
theorem class_ok (w : World) (bs : List UInt8) (hbs : bs.length ≤ 100) :
  Calls Try.prog 20 #[.string ⟨List.toArray bs⟩] w fun e w' => ∃ l', e = .returned (.agg l'.toArray) ∧ NodeL (fun k => w.heap.size ≤ k) w' l' (Nd.classS bs) ∧ Ext w w' := by
 refine Calls.enter (args := [.string ⟨List.toArray bs⟩]) Try.func20 rfl rfl rfl rfl ?_
 refine sq ?_
 refine WL.alloc rfl rfl Ty.zero29 rfl (fun b1 w6 hb2 hE5 hs3 hR4 => ?_)
 refine WL.dn ?_
 refine sq ?_
 refine WL.alloc rfl rfl Ty.zero26 rfl (fun b7 w12 hb8 hE11 hs9 hR10 => ?_)
 refine WL.dn ?_
 refine WC.seqk ?_
 refine sq ?_
 refine mv ?_
 refine WL.lenS rfl rfl Try.underlying9 rfl ?_
 refine mv ?_
 refine WL.dn ?_
 refine WC.block ?_
 refine WC.weaken (r' := [(0, .string ⟨List.toArray bs⟩), (2, pt b1 0), (3, pt b7 0), (5, .string ⟨List.toArray bs⟩), (6, .int .i64 (bs.length : Int)), (7, .int .i64 0)]) (s4 (sr rfl (sr rfl (subReg_nil _)))) ?_
 refine WC.loop (σ := Nat) (fun k r_ w_ => r_ = [(0, .string ⟨List.toArray bs⟩), (2, pt b1 0), (3, pt b7 0), (5, .string ⟨List.toArray bs⟩), (6, .int .i64 (bs.length : Int)), (7, .int .i64 (k : Int))] ∧ Ext w w_ ∧ (k ≤ bs.length ∧ Row w_ b1 (zc 0 0 0 (.slice none 0 0)) 29 ∧ Row w_ b7 (scells (Nd.setB (bs.take k))) 26)) (fun k => bs.length - k) 0 ⟨rfl, (hE5.trans hE11), ⟨Nat.zero_le _, (hR4.ext hE11), hR10⟩⟩ ?_
 rintro k r_ w15 ⟨rfl, hE13, hI14⟩
 have hzhE13 := hE13.size
 obtain ⟨hk, hR2, hR3⟩ := hI14
 refine sq ?_
 cases hc16 : decide (((k : Int) : Int) < (bs.length : Int)) with
 | false =>
  refine WL.lss rfl rfl rfl rfl hc16 ?_
  have hp16 := of_decide_eq_false hc16
  refine WL.dn ?_
  refine WC.seqk ?_
  refine cF ?_
  refine WC.exit (fun a_ ha => ?_)
  refine exit_then ?_
  refine exit_then ?_
  refine exit_here ?_
  refine WC.at ?_ ha
  refine sq ?_
  refine WL.load_box rfl rfl rfl hR3 Ty.agg26 ?_
  refine WL.build (l := [.int .u8 2, .int .u64 (Nd.setB (bs.take k)).a, .int .u64 (Nd.setB (bs.take k)).b, .int .u64 (Nd.setB (bs.take k)).c, .int .u64 (Nd.setB (bs.take k)).d, .int .i64 0, .int .i64 0, .slice none 0 0]) rfl rfl Ty.zero29 Ty.st29 ⟨⟨rfl, rfl⟩, (by kernel_rfl)⟩ ?_
  have hn17 : NodeL _ w15 [.int .u8 2, .int .u64 (Nd.setB (bs.take k)).a, .int .u64 (Nd.setB (bs.take k)).b, .int .u64 (Nd.setB (bs.take k)).c, .int .u64 (Nd.setB (bs.take k)).d, .int .i64 0, .int .i64 0, .slice none 0 0] (Nd.mk 2 (Nd.setB (bs.take k)) 0 0 ([])) := NodeL.shut (k := 2) (s := (Nd.setB (bs.take k))) (mn := 0) (mx := 0) (sl := .slice none 0 0) (ts := []) (NodesV.nil (fun _ => False) _ none 0)
  have hn17 := hn17.lt
  refine WL.store_box rfl rfl rfl hR2 Ty.agg29 rfl rfl (fun w20 hB19 hR18 => ?_)
  have hzhB19 := hB19.size
  refine WL.dn ?_
  refine WC.ret (fun a_ ha => ?_)
  have hkk : k = bs.length := by omega
  have hF := (hn17.bu hB19)
  exact bodyPost_cell (l := [.int .u8 2, .int .u64 (Nd.setB (bs.take k)).a, .int .u64 (Nd.setB (bs.take k)).b, .int .u64 (Nd.setB (bs.take k)).c, .int .u64 (Nd.setB (bs.take k)).d, .int .i64 0, .int .i64 0, .slice none 0 0]) rfl ha rfl Ty.agg29 hR18 ⟨_, rfl, (by subst hkk; rw [List.take_length] at *; exact hF.dom (by intro k hk; exact hk.1.elim)), (hB19.onto hE13 (by omega))⟩
 | true =>
  refine WL.lss rfl rfl rfl rfl hc16 ?_
  have hp16 := of_decide_eq_true hc16
  refine WL.dn ?_
  refine WC.seqk ?_
  refine cT ?_
  refine WC.sk ?_
  refine WC.seqk ?_
  refine WC.block ?_
  refine sq ?_
  refine mv ?_
  refine asg ?_
  refine WL.dn ?_
  obtain ⟨c, hcb⟩ : ∃ c, bs[k]? = some c := ⟨_, List.getElem?_eq_getElem (by omega)⟩
  have hcl := c.toNat_lt
  have hc4 : c.toNat / 64 < 4 := by omega
  refine WC.weaken (r' := [(0, .string ⟨List.toArray bs⟩), (2, pt b1 0), (3, pt b7 0), (5, .string ⟨List.toArray bs⟩), (6, .int .i64 (bs.length : Int)), (7, .int .i64 (k : Int)), (8, .bool true), (9, .int .i64 (k : Int)), (4, .int .i64 (k : Int))]) (s4 (s4 (sr rfl (subReg_nil _)))) ?_
  refine WC.draw 12 [10, 11, 12, 13, 14, 15, 16, 17, 18, 19, 20, 21] [pc (.string ⟨List.toArray bs⟩), pc (.int .i64 (k : Int)), pc (.int .u8 (c.toNat : Int)), pc (.int .u8 ((c.toNat / 64 : Nat) : Int)), pc (pt b7 (0 + (c.toNat / 64) * 1)), pc (.int .u64 (Nd.S4get (Nd.setB (bs.take k)) (c.toNat / 64))), pc (.string ⟨List.toArray bs⟩), pc (.int .i64 (k : Int)), pc (.int .u8 (c.toNat : Int)), pc (.int .u8 ((c.toNat % 64 : Nat) : Int)), pc (.int .u64 (Nd.bit1 c.toNat)), pc (.int .u64 (Nd.orI (Nd.S4get (Nd.setB (bs.take k)) (c.toNat / 64)) (Nd.bit1 c.toNat)))] (by kernel_rfl) (by kernel_rfl) (k4 (k4 (k4 trivial))) rfl rfl rfl (sc4 ?_ ?_ ?_ ?_ (sc4 ?_ ?_ ?_ ?_ (sc4 ?_ ?_ ?_ ?_ (StepsOn.nil _)))) ?_
  ·intro σ β w1 hE1 hbi hk
   refine ⟨[], (agree_nil _), ?_⟩
   refine mv ?_
   exact dq hbi rfl
  ·intro σ β w1 hE1 hbi hk
   refine ⟨[], (agree_nil _), ?_⟩
   refine mv ?_
   exact dq hbi rfl
  ·intro σ β w1 hE1 hbi hk
   refine ⟨[(10, .string ⟨List.toArray bs⟩), (11, .int .i64 (k : Int))], (ak hk 0 (ak hk 1 (agree_nil _))), ?_⟩
   refine WL.indexS (i := k) rfl rfl Try.underlying9 rfl rfl rfl hcb ?_
   exact dq hbi rfl
  ·intro σ β w1 hE1 hbi hk
   refine ⟨[(12, .int .u8 (c.toNat : Int))], (ak hk 2 (agree_nil _)), ?_⟩
   refine WL.quo (v := ((c.toNat / 64 : Nat) : Int)) rfl rfl rfl rfl (by decide) (Nd.quo64 _ hcl) ?_
   exact dq hbi rfl
  ·intro σ β w1 hE1 hbi hk
   refine ⟨[(13, .int .u8 ((c.toNat / 64 : Nat) : Int))], (ak hk 3 (agree_nil _)), ?_⟩
   refine WL.indexAddrA (i := (c.toNat / 64)) rfl rfl Ty.arr26 rfl rfl rfl hc4 ?_
   exact dq hbi rfl
  ·intro σ β w1 hE1 hbi hk
   refine ⟨[(14, pt b7 (0 + (c.toNat / 64) * 1))], (ak hk 4 (agree_nil _)), ?_⟩
   refine WL.load_fld (v := .int .u64 (Nd.S4get (Nd.setB (bs.take k)) (c.toNat / 64))) rfl rfl Ty.flat24 rfl (hR3.ext hE1) (scells_get _ _ hc4) ?_
   exact dq hbi rfl
  ·intro σ β w1 hE1 hbi hk
   refine ⟨[], (agree_nil _), ?_⟩
   refine mv ?_
   exact dq hbi rfl
  ·intro σ β w1 hE1 hbi hk
   refine ⟨[], (agree_nil _), ?_⟩
   refine mv ?_
   exact dq hbi rfl
  ·intro σ β w1 hE1 hbi hk
   refine ⟨[(16, .string ⟨List.toArray bs⟩), (17, .int .i64 (k : Int))], (ak hk 6 (ak hk 7 (agree_nil _))), ?_⟩
   refine WL.indexS (i := k) rfl rfl Try.underlying9 rfl rfl rfl hcb ?_
   exact dq hbi rfl
  ·intro σ β w1 hE1 hbi hk
   refine ⟨[(18, .int .u8 (c.toNat : Int))], (ak hk 8 (agree_nil _)), ?_⟩
   refine WL.rem (v := ((c.toNat % 64 : Nat) : Int)) rfl rfl rfl rfl (by decide) (Nd.rem64 _) ?_
   exact dq hbi rfl
  ·intro σ β w1 hE1 hbi hk
   refine ⟨[(19, .int .u8 ((c.toNat % 64 : Nat) : Int))], (ak hk 9 (agree_nil _)), ?_⟩
   refine WL.shl (v := Nd.bit1 c.toNat) rfl rfl rfl rfl rfl ?_
   exact dq hbi rfl
  ·intro σ β w1 hE1 hbi hk
   refine ⟨[(15, .int .u64 (Nd.S4get (Nd.setB (bs.take k)) (c.toNat / 64))), (20, .int .u64 (Nd.bit1 c.toNat))], (ak hk 5 (ak hk 10 (agree_nil _))), ?_⟩
   refine WL.or (v := Nd.orI (Nd.S4get (Nd.setB (bs.take k)) (c.toNat / 64)) (Nd.bit1 c.toNat)) rfl rfl rfl rfl rfl ?_
   exact dq hbi rfl
  intro σ β w17 hE17 hbi17 hk
  have hz17 := hE17.size
  have hbi := hbi17
  refine WL.know [(13, .int .u8 ((c.toNat / 64 : Nat) : Int)), (21, .int .u64 (Nd.orI (Nd.S4get (Nd.setB (bs.take k)) (c.toNat / 64)) (Nd.bit1 c.toNat)))] (aj hk 3 (aj hk 11 (agree_nil _))) ?_
  refine WL.indexAddrA (i := (c.toNat / 64)) rfl rfl Ty.arr26 rfl rfl rfl hc4 ?_
  refine WL.store_fld (new := [.int .u64 (Nd.set1 (Nd.setB (bs.take k)) c.toNat).a, .int .u64 (Nd.set1 (Nd.setB (bs.take k)) c.toNat).b, .int .u64 (Nd.set1 (Nd.setB (bs.take k)) c.toNat).c, .int .u64 (Nd.set1 (Nd.setB (bs.take k)) c.toNat).d]) rfl Ty.flat24 rfl rfl (hR3.ext hE17) rfl rfl (by simp; omega) (scells_put _ _ _ hc4) (fun w22 hB21 hR20 => ?_)
  have hzhB21 := hB21.size
  refine WL.dn ?_
  refine WC.region ?_
  refine WL.add (v := (k : Int) + 1) rfl rfl rfl rfl (IntWalk.i64_in _ (by omega)) ?_
  refine mv ?_
  refine WL.nil (fun a_ ha => ?_)
  have h23 := (hB21.row (hR2.ext hE17) (by omega))
  exact ⟨k + 1, _, ha.weaken (s4 (sr rfl (sr rfl (subReg_nil _)))), ⟨rfl, (hB21.onto (hE13.trans hE17) (by omega)), ⟨by omega, h23, (by rw [Nd.setB_succ hcb]; exact hR20)⟩⟩, by first | omega | (dsimp only; omega)⟩
set_option maxRecDepth 20000 in
set_option maxHeartbeats 4000000 in
theorem letters_ok (w : World) (n : Int) (hn : 0 ≤ n) :
  Calls Try.prog 31 #[.int .u8 n] w fun e w' => e = .returned (.string ⟨List.toArray (Nd.lettersS n)⟩) ∧ Ext w w' := by
 have hm : n.tmod 12 = n % 12 := Int.tmod_eq_emod_of_nonneg hn
 refine Calls.enter (args := [.int .u8 n]) Try.func31 rfl rfl rfl rfl ?_
 refine sq ?_
 refine asg ?_
 refine WL.dn ?_
 refine sq ?_
 refine WL.buildSlice (vs := [.string ⟨List.toArray ([97])⟩, .string ⟨List.toArray ([98])⟩, .string ⟨List.toArray ([97, 98])⟩, .string ⟨List.toArray ([97])⟩, .string ⟨List.toArray ([98])⟩, .string ⟨List.toArray ([99])⟩, .string ⟨List.toArray ([97, 98, 99])⟩, .string ⟨List.toArray ([98, 99])⟩, .string ⟨List.toArray ([10])⟩, .string ⟨List.toArray ([0, 255])⟩, .string ⟨List.toArray ([97])⟩, .string ⟨List.toArray ([98])⟩]) (cells := [.string ⟨List.toArray ([97])⟩, .string ⟨List.toArray ([98])⟩, .string ⟨List.toArray ([97, 98])⟩, .string ⟨List.toArray ([97])⟩, .string ⟨List.toArray ([98])⟩, .string ⟨List.toArray ([99])⟩, .string ⟨List.toArray ([97, 98, 99])⟩, .string ⟨List.toArray ([98, 99])⟩, .string ⟨List.toArray ([10])⟩, .string ⟨List.toArray ([0, 255])⟩, .string ⟨List.toArray ([97])⟩, .string ⟨List.toArray ([98])⟩]) rfl rfl Ty.slice62 Ty.zero9 rfl rfl rfl rfl rfl rfl (fun b1 w6 hb2 hE5 hs3 hR4 => ?_)
 refine mv ?_
 refine WL.rem (v := (n.tmod 12)) rfl rfl rfl rfl (by decide) rfl ?_
 refine WL.indexAddr (i := (n.tmod 12).toNat) rfl rfl Ty.slice62 rfl rfl (by omega) (by omega) ?_
 refine WL.load_fld (v := .string ⟨List.toArray (Nd.lettersS n)⟩) rfl rfl Ty.flat9 rfl hR4 (by have h : (n.tmod 12).toNat = 0 ∨ (n.tmod 12).toNat = 1 ∨ (n.tmod 12).toNat = 2 ∨ (n.tmod 12).toNat = 3 ∨ (n.tmod 12).toNat = 4 ∨ (n.tmod 12).toNat = 5 ∨ (n.tmod 12).toNat = 6 ∨ (n.tmod 12).toNat = 7 ∨ (n.tmod 12).toNat = 8 ∨ (n.tmod 12).toNat = 9 ∨ (n.tmod 12).toNat = 10 ∨ (n.tmod 12).toNat = 11 := (by omega); unfold Nd.lettersS; rcases h with h | h | h | h | h | h | h | h | h | h | h | h <;> rw [h] <;> rfl) ?_
 refine asg ?_
 refine WL.dn ?_
 refine WC.ret (fun a_ ha => ?_)
 exact bodyPost_tmp rfl ha rfl ⟨rfl, hE5⟩
end Go.Proofs.Ytaggidjijekpbaa
namespace Go.Proofs.Ytaggidjijekpbaa
open Go.Proofs Go.RowKit
set_option maxRecDepth 20000 in
set_option maxHeartbeats 4000000 in
theorem joins_ok (D D2 : Nat → Prop) (w : World) (kind : Int) (l l2 : List Value) (T U : Nd) (hT : NodeL D w l T) (hU : NodeL D2 w l2 U) (hs1 : T.size ≤ 100000) (hs2 : U.size ≤ 100000) :
  Calls Try.prog 18 #[.int .u8 kind, .agg l.toArray, .agg l2.toArray] w fun e w' => ∃ l', e = .returned (.agg l'.toArray) ∧ NodeL (fun k => (D k ∨ D2 k) ∨ w.heap.size ≤ k) w' l' (Nd.joins kind T U) ∧ Ext w w' := by
 have hT := hT.lt
 obtain ⟨a, cap, rfl, hts, hlen⟩ := hT.op2
 have hU := hU.lt
 obtain ⟨a2, cap2, rfl, hts2, hlen2⟩ := hU.op2
 refine Calls.enter (args := [.int .u8 kind, .agg (tcells T (.slice a T.subs.length cap)).toArray, .agg (tcells U (.slice a2 U.subs.length cap2)).toArray]) Try.func18 rfl rfl rfl rfl ?_
 refine sq ?_
 refine WL.box_agg rfl rfl rfl (fun b1 w6 hb2 hE5 hs3 hR4 => ?_)
 refine WL.box_agg rfl rfl rfl (fun b7 w12 hb8 hE11 hs9 hR10 => ?_)
 refine WL.alloc rfl rfl Ty.zero29 rfl (fun b13 w18 hb14 hE17 hs15 hR16 => ?_)
 refine WL.dn ?_
 refine sq ?_
 refine asg ?_
 refine WL.dn ?_
 refine WC.seqk ?_
 refine sq ?_
 have h19 := ((hR4.ext hE11).ext hE17)
 refine WL.load_box rfl rfl rfl h19 Ty.agg29 ?_
 refine WL.load_box rfl rfl rfl (hR10.ext hE17) Ty.agg29 ?_
 have h20 := (((hT.ext hE5).ext hE11).ext hE17)
 have h21 := (((hU.ext hE5).ext hE11).ext hE17)
 refine WL.buildSlice (vs := [.agg (tcells T (.slice a T.subs.length cap)).toArray, .agg (tcells U (.slice a2 U.subs.length cap2)).toArray]) (cells := (tcells T (.slice a T.subs.length cap) ++ tcells U (.slice a2 U.subs.length cap2))) rfl rfl Ty.slice27 Ty.zero29 rfl rfl rfl rfl rfl rfl (fun b22 w27 hb23 hE26 hs24 hR25 => ?_)
 have hts22 := (NodesV.lit (n := 2) (ts := [T, U]) hR25 (RowsL.cons (h20.ext hE26) (RowsL.cons (h21.ext hE26) (RowsL.nil' _))) rfl rfl (by decide)).lt
 refine WL.len rfl rfl Try.underlying27 rfl ?_
 refine mv ?_
 refine WL.dn ?_
 refine WC.block ?_
 refine WC.weaken (r' := [(0, .int .u8 kind), (6, pt b13 0), (12, .slice (some ⟨b22, 0, none⟩) 2 2), (13, .int .i64 2), (14, .int .i64 0), (7, .slice none 0 0)]) (s4 (sr rfl (sr rfl (subReg_nil _)))) ?_
 refine WC.loop (σ := Nat × Value) (fun s r_ w_ => r_ = [(0, .int .u8 kind), (6, pt b13 0), (12, .slice (some ⟨b22, 0, none⟩) 2 2), (13, .int .i64 2), (14, .int .i64 (s.1 : Int)), (7, s.2)] ∧ Ext w w_ ∧ (s.1 ≤ 2 ∧ w27.heap.size ≤ w_.heap.size ∧ Row w_ b13 (zc 0 0 0 (.slice none 0 0)) 29 ∧ NodesV (fun k => (((D k ∧ k < w.heap.size) ∨ (D2 k ∧ k < w.heap.size)) ∨ k = b22) ∧ k < w27.heap.size) w_ (.slice (some ⟨b22, 0, none⟩) 2 2) [T, U] ∧ OwnV 29 w27.heap.size (fun k => (((D k ∧ k < w.heap.size) ∨ (D2 k ∧ k < w.heap.size)) ∨ k = b22) ∧ k < w27.heap.size) w_ s.2 (Nd.flatJ kind ([T, U].take s.1)))) (fun s => 2 - s.1) (0, .slice none 0 0) ⟨rfl, (((hE5.trans hE11).trans hE17).trans hE26), ⟨Nat.zero_le _, Nat.le_refl _, (hR16.ext hE26), (hts22.dom (by intro k h1; have h2 := h1.2; refine ⟨?_, by omega⟩; replace h1 := h1.1; (repeat' first | (guard_hyp h1 : _ ∨ _; refine Or.elim h1 (fun h1 => ?_) (fun h1 => ?_)) | (guard_hyp h1 : _ ∧ _; have hx := h1.2; replace h1 := h1.1)) <;> first | exact h1.elim | exact .inr h1 | exact .inl (.inl ⟨h1, hx⟩) | exact .inl (.inr ⟨h1, hx⟩))), OwnV.nil _ _ _ _⟩⟩ ?_
 rintro ⟨k, v⟩ r_ w30 ⟨rfl, hE28, hI29⟩
 have hzhE28 := hE28.size
 dsimp only at hI29
 obtain ⟨hk, hWw, hR6, hts, hO⟩ := hI29
 have hD : ∀ k, ((((D k ∧ k < w.heap.size) ∨ (D2 k ∧ k < w.heap.size)) ∨ k = b22) ∧ k < w27.heap.size) → k < w27.heap.size := fun k h => h.2
 have hol := hO.own
 refine WC.weaken (r' := [(0, .int .u8 kind), (6, pt b13 0), (12, .slice (some ⟨b22, 0, none⟩) 2 2), (13, .int .i64 2), (14, .int .i64 (k : Int)), (7, v)]) (s4 (sr rfl (sr rfl (subReg_nil _)))) ?_
 refine sq ?_
 cases hc31 : decide (((k : Int) : Int) < 2) with
 | false =>
  refine WL.lss rfl rfl rfl rfl hc31 ?_
  have hp31 := of_decide_eq_false hc31
  refine WL.dn ?_
  refine WC.seqk ?_
  refine cF ?_
  refine WC.exit (fun a_ ha => ?_)
  refine exit_then ?_
  refine exit_then ?_
  refine exit_here ?_
  refine WC.at ?_ ha
  refine WC.seqk ?_
  refine sq ?_
  refine mv ?_
  have hkk : k = 2 := by omega
  subst hkk
  have hOO : OwnV _ _ _ _ _ (Nd.flatJ kind [T, U]) := hO
  have hle32 := hOO.le
  obtain ⟨a32, cap32, rfl, hnn32, hx32⟩ := hOO.cases
  have hts32 := hOO.nodes.lt
  refine WL.len rfl rfl Try.underlying27 rfl ?_
  refine WL.dn ?_
  refine WC.block ?_
  refine sq ?_
  cases hc33 : (((Nd.flatJ kind [T, U]).length : Int) == 0) with
  | false =>
   refine WL.eql rfl rfl rfl rfl hc33 ?_
   have hp33 := beq_eq_false_iff_ne.1 hc33
   refine asg ?_
   refine WL.dn ?_
   refine cF ?_
   refine sq ?_
   cases hc34 : (((Nd.flatJ kind [T, U]).length : Int) == 1) with
   | false =>
    refine WL.eql rfl rfl rfl rfl hc34 ?_
    have hp34 := beq_eq_false_iff_ne.1 hc34
    refine asg ?_
    refine WL.dn ?_
    refine cF ?_
    refine WC.sk ?_
    refine sq ?_
    refine mv ?_
    refine mv ?_
    refine WL.build (l := (zc kind 0 0 (.slice a32 ((Nd.flatJ kind [T, U]).length) cap32))) rfl rfl Ty.zero29 Ty.st29 ⟨⟨rfl, rfl⟩, (by kernel_rfl)⟩ ?_
    have hn35 : NodeL _ w30 (zc kind 0 0 (.slice a32 ((Nd.flatJ kind [T, U]).length) cap32)) (Nd.mk kind Nd.zero 0 0 (Nd.flatJ kind [T, U])) := NodeL.shut (k := kind) (s := Nd.zero) (mn := 0) (mx := 0) (sl := .slice a32 ((Nd.flatJ kind [T, U]).length) cap32) (ts := (Nd.flatJ kind [T, U])) hts32
    have hn35 := hn35.lt
    refine WL.store_box rfl rfl rfl hR6 Ty.agg29 rfl rfl (fun w38 hB37 hR36 => ?_)
    have hzhB37 := hB37.size
    refine WL.dn ?_
    refine WC.ret (fun a_ ha => ?_)
    exact bodyPost_cell (l := (zc kind 0 0 (.slice a32 ((Nd.flatJ kind [T, U]).length) cap32))) rfl ha rfl Ty.agg29 hR36 ⟨_, rfl, (by simp only [Nd.joins, Nd.joinsL, hc33, hc34, cond_true, cond_false]; exact (hn35.bu hB37).dom (by intro k h1; (try dsimp only at h1); (repeat' first | (guard_hyp h1 : _ ∨ _; refine Or.elim h1 (fun h1 => ?_) (fun h1 => ?_)) | (guard_hyp h1 : _ ∧ _; have hx := h1.2; replace h1 := h1.1)) <;> first | exact h1.elim | exact .inl (.inl h1) | exact .inl (.inr h1) | exact .inr (by omega))), (hB37.onto hE28 (by omega))⟩
   | true =>
    refine WL.eql rfl rfl rfl rfl hc34 ?_
    have hp34 := beq_iff_eq.1 hc34
    refine asg ?_
    refine WL.dn ?_
    refine cT ?_
    refine sq ?_
    refine mv ?_
    obtain ⟨t35, ht35⟩ : ∃ t, (Nd.flatJ kind [T, U])[0]? = some t := ⟨_, List.getElem?_eq_getElem (by omega)⟩
    obtain ⟨eb35, eo35, el35, hea35, hD35, her35, hn35⟩ := hts32.at ht35
    obtain ⟨a35, cap35, rfl, hts35, hlen35⟩ := hn35.op2
    subst hea35
    refine WL.indexAddr (i := 0) rfl rfl Ty.slice27 rfl rfl rfl (by omega) ?_
    refine WL.load_agg (l := tcells t35 (.slice a35 t35.subs.length cap35)) rfl rfl Ty.agg29 rfl her35 ?_
    refine WL.store_box rfl rfl rfl hR6 Ty.agg29 rfl rfl (fun w38 hB37 hR36 => ?_)
    have hzhB37 := hB37.size
    refine WL.dn ?_
    refine WC.ret (fun a_ ha => ?_)
    refine ret_block ?_
    refine ret_then ?_
    exact bodyPost_cell (l := (tcells t35 (.slice a35 t35.subs.length cap35))) rfl ha rfl Ty.agg29 hR36 ⟨_, rfl, (by simp only [Nd.joins, Nd.joinsL, hc33, hc34, ht35, Option.getD_some, cond_true, cond_false]; exact (hn35.bu hB37).dom (by intro k h1; (try dsimp only at h1); (repeat' first | (guard_hyp h1 : _ ∨ _; refine Or.elim h1 (fun h1 => ?_) (fun h1 => ?_)) | (guard_hyp h1 : _ ∧ _; have hx := h1.2; replace h1 := h1.1)) <;> first | exact h1.elim | exact .inl (.inl h1) | exact .inl (.inr h1) | exact .inr (by omega))), (hB37.onto hE28 (by omega))⟩
  | true =>
   refine WL.eql rfl rfl rfl rfl hc33 ?_
   have hp33 := beq_iff_eq.1 hc33
   refine asg ?_
   refine WL.dn ?_
   refine cT ?_
   refine sq ?_
   refine WL.build (l := (zc 1 0 0 (.slice none 0 0))) rfl rfl Ty.zero29 Ty.st29 ⟨⟨rfl, rfl⟩, (by kernel_rfl)⟩ ?_
   have hn34 : NodeL _ w30 (zc 1 0 0 (.slice none 0 0)) (Nd.mk 1 Nd.zero 0 0 ([])) := NodeL.shut (k := 1) (s := Nd.zero) (mn := 0) (mx := 0) (sl := .slice none 0 0) (ts := []) (NodesV.nil (fun _ => False) _ none 0)
   have hn34 := hn34.lt
   refine WL.store_box rfl rfl rfl hR6 Ty.agg29 rfl rfl (fun w37 hB36 hR35 => ?_)
   have hzhB36 := hB36.size
   refine WL.dn ?_
   refine WC.ret (fun a_ ha => ?_)
   refine ret_block ?_
   refine ret_then ?_
   exact bodyPost_cell (l := (zc 1 0 0 (.slice none 0 0))) rfl ha rfl Ty.agg29 hR35 ⟨_, rfl, (by simp only [Nd.joins, Nd.joinsL, hc33, cond_true, cond_false]; exact (hn34.bu hB36).dom (by intro k h1; (try dsimp only at h1); (repeat' first | (guard_hyp h1 : _ ∨ _; refine Or.elim h1 (fun h1 => ?_) (fun h1 => ?_)) | (guard_hyp h1 : _ ∧ _; have hx := h1.2; replace h1 := h1.1)) <;> first | exact h1.elim | exact .inl (.inl h1) | exact .inl (.inr h1) | exact .inr (by omega))), (hB36.onto hE28 (by omega))⟩
 | true =>
  refine WL.lss rfl rfl rfl rfl hc31 ?_
  have hp31 := of_decide_eq_true hc31
  refine WL.dn ?_
  refine WC.seqk ?_
  refine cT ?_
  refine WC.sk ?_
  refine WC.seqk ?_
  refine WC.block ?_
  refine sq ?_
  obtain ⟨t32, ht32⟩ : ∃ t, [T, U][k]? = some t := ⟨_, List.getElem?_eq_getElem (by show k < 2; omega)⟩
  obtain ⟨eb32, eo32, el32, hea32, hD32, her32, hn32⟩ := hts.at ht32
  obtain ⟨a32, cap32, rfl, hts32, hlen32⟩ := hn32.op2
  cases hea32
  refine WL.indexAddr (i := k) rfl rfl Ty.slice27 rfl rfl rfl (by show k < 2; omega) ?_
  refine WL.load_agg (l := tcells t32 (.slice a32 t32.subs.length cap32)) rfl rfl Ty.agg29 rfl her32 ?_
  refine WL.alloc rfl rfl Ty.zero29 rfl (fun b33 w38 hb34 hE37 hs35 hR36 => ?_)
  refine WL.store_box rfl rfl rfl hR36 Ty.agg29 rfl rfl (fun w41 hB40 hR39 => ?_)
  have hzhB40 := hB40.size
  refine WL.dn ?_
  refine WC.block ?_
  refine sq ?_
  refine WL.fieldAddr rfl rfl Ty.fld29_0 rfl ?_
  refine WL.load_fld rfl rfl Ty.flat5 rfl hR39 rfl ?_
  refine mv ?_
  cases hc42 : ((t32.kind : Int) == kind) with
  | false =>
   refine WL.eql rfl rfl rfl rfl hc42 ?_
   have hp42 := beq_eq_false_iff_ne.1 hc42
   refine asg ?_
   refine WL.dn ?_
   refine cF ?_
   refine sq ?_
   refine mv ?_
   cases hc43 : ((kind : Int) == 3) with
   | false =>
    refine WL.eql rfl rfl rfl rfl hc43 ?_
    have hp43 := beq_eq_false_iff_ne.1 hc43
    refine mv ?_
    refine ps ?_
    refine ps ?_
    refine ps ?_
    refine pF ?_
    refine asg ?_
    refine WL.dn ?_
    refine cF ?_
    refine WC.region ?_
    refine mv ?_
    refine WL.load_box rfl rfl rfl hR39 Ty.agg29 ?_
    have h44 := ((hn32.ext hE37).bu hB40)
    refine WL.buildSlice (vs := [.agg (tcells t32 (.slice a32 t32.subs.length cap32)).toArray]) (cells := (tcells t32 (.slice a32 t32.subs.length cap32))) rfl rfl Ty.slice27 Ty.zero29 rfl rfl rfl rfl rfl rfl (fun b45 w50 hb46 hE49 hs47 hR48 => ?_)
    have hts45 := (NodesV.lit (n := 1) (ts := [t32]) hR48 (RowsL.cons (h44.ext hE49) (RowsL.nil' _)) rfl rfl (by decide)).lt
    have h51 := (((hO.ext hE37).but hB40 (fun h1 => by have := hD _ h1; first | omega | (dsimp only at h1; omega)) (fun hk => by have := (hO.ext hE37).own _ hk; have := hol _ hk; omega)).ext hE49)
    have hol52 := h51.own
    refine WL.append1 rfl rfl Ty.slice27 Ty.zero29 rfl small_node rfl rfl h51 hR48 (h44.ext hE49) (by intro k h1 hh; have := hol52 _ hh; have := hol _ hh; first | omega | ((try dsimp only at h1); (repeat' first | (guard_hyp h1 : _ ∨ _; refine Or.elim h1 (fun h1 => ?_) (fun h1 => ?_)) | (guard_hyp h1 : _ ∧ _; have hx := h1.2; replace h1 := h1.1)) <;> first | contradiction | omega)) (by have h1 := Nd.sizeL_take ht32; have h2 := Nd.flatJ_len kind ([T, U].take k); have h3 := Nd.size_subs t32; have h4 := Nd.length_le_sizeL t32.subs; have h5 : Nd.sizeL [T, U] = T.size + U.size := (by simp [Nd.sizeL]); omega) (by omega) ?_
    intro v52 w52 hG52 hO52 hv52
    have hE52 := grown_below hG52 ((hB40.onto (hE28.trans hE37) (by omega)).trans hE49) (by intro k hk; have := hol52 _ hk; omega)
    have hz52 := hE52.size
    have hzz52 := hG52.size
    refine asg ?_
    refine WL.dn ?_
    refine WC.region ?_
    refine WL.add (v := (k : Int) + 1) rfl rfl rfl rfl (IntWalk.i64_in _ (by omega)) ?_
    refine mv ?_
    refine WL.nil (fun a_ ha => ?_)
    have h53 := (grown_row hG52 ((hB40.row (hR6.ext hE37) (by omega)).ext hE49) (fun hh => by have := hol52 _ hh; have := hol _ hh; omega))
    have h54 := ((((hts.ext hE37).bu hB40).ext hE49).grown hG52 (by intro k h1 hlt hh; have := hol52 _ hh; have := hol _ hh; first | omega | ((try dsimp only at h1); (repeat' first | (guard_hyp h1 : _ ∨ _; refine Or.elim h1 (fun h1 => ?_) (fun h1 => ?_)) | (guard_hyp h1 : _ ∧ _; have hx := h1.2; replace h1 := h1.1)) <;> first | contradiction | omega)))
    exact ⟨(k + 1, v52), _, ha.weaken (s4 (sr rfl (sr rfl (subReg_nil _)))), ⟨rfl, hE52, ⟨by first | omega | (dsimp only; omega), by omega, h53, h54, (by dsimp only; simp only [Nd.flatJ_succ _ ht32, Nd.flatJ1, hc42, hc43, cond_true, cond_false, List.append_nil, Bool.true_and, Bool.false_and]; exact hO52.dom (by first | exact fun _ h _ _ => h | (rintro k h _ _; rcases h with h | h; exact h; first | exact h | exact h.1)))⟩⟩, by first | omega | (dsimp only; omega)⟩
   | true =>
    refine WL.eql rfl rfl rfl rfl hc43 ?_
    have hp43 := beq_iff_eq.1 hc43
    refine mv ?_
    refine WL.fieldAddr rfl rfl Ty.fld29_0 rfl ?_
    refine WL.load_fld rfl rfl Ty.flat5 rfl hR39 rfl ?_
    cases hc44 : ((t32.kind : Int) == 1) with
    | false =>
     refine WL.eql rfl rfl rfl rfl hc44 ?_
     have hp44 := beq_eq_false_iff_ne.1 hc44
     refine pT ?_
     refine asg ?_
     refine WL.dn ?_
     refine cF ?_
     refine WC.region ?_
     refine mv ?_
     refine WL.load_box rfl rfl rfl hR39 Ty.agg29 ?_
     have h45 := ((hn32.ext hE37).bu hB40)
     refine WL.buildSlice (vs := [.agg (tcells t32 (.slice a32 t32.subs.length cap32)).toArray]) (cells := (tcells t32 (.slice a32 t32.subs.length cap32))) rfl rfl Ty.slice27 Ty.zero29 rfl rfl rfl rfl rfl rfl (fun b46 w51 hb47 hE50 hs48 hR49 => ?_)
     have hts46 := (NodesV.lit (n := 1) (ts := [t32]) hR49 (RowsL.cons (h45.ext hE50) (RowsL.nil' _)) rfl rfl (by decide)).lt
     have h52 := (((hO.ext hE37).but hB40 (fun h1 => by have := hD _ h1; first | omega | (dsimp only at h1; omega)) (fun hk => by have := (hO.ext hE37).own _ hk; have := hol _ hk; omega)).ext hE50)
     have hol53 := h52.own
     refine WL.append1 rfl rfl Ty.slice27 Ty.zero29 rfl small_node rfl rfl h52 hR49 (h45.ext hE50) (by intro k h1 hh; have := hol53 _ hh; have := hol _ hh; first | omega | ((try dsimp only at h1); (repeat' first | (guard_hyp h1 : _ ∨ _; refine Or.elim h1 (fun h1 => ?_) (fun h1 => ?_)) | (guard_hyp h1 : _ ∧ _; have hx := h1.2; replace h1 := h1.1)) <;> first | contradiction | omega)) (by have h1 := Nd.sizeL_take ht32; have h2 := Nd.flatJ_len kind ([T, U].take k); have h3 := Nd.size_subs t32; have h4 := Nd.length_le_sizeL t32.subs; have h5 : Nd.sizeL [T, U] = T.size + U.size := (by simp [Nd.sizeL]); omega) (by omega) ?_
     intro v53 w53 hG53 hO53 hv53
     have hE53 := grown_below hG53 ((hB40.onto (hE28.trans hE37) (by omega)).trans hE50) (by intro k hk; have := hol53 _ hk; omega)
     have hz53 := hE53.size
     have hzz53 := hG53.size
     refine asg ?_
     refine WL.dn ?_
     refine WC.region ?_
     refine WL.add (v := (k : Int) + 1) rfl rfl rfl rfl (IntWalk.i64_in _ (by omega)) ?_
     refine mv ?_
     refine WL.nil (fun a_ ha => ?_)
     have h54 := (grown_row hG53 ((hB40.row (hR6.ext hE37) (by omega)).ext hE50) (fun hh => by have := hol53 _ hh; have := hol _ hh; omega))
     have h55 := ((((hts.ext hE37).bu hB40).ext hE50).grown hG53 (by intro k h1 hlt hh; have := hol53 _ hh; have := hol _ hh; first | omega | ((try dsimp only at h1); (repeat' first | (guard_hyp h1 : _ ∨ _; refine Or.elim h1 (fun h1 => ?_) (fun h1 => ?_)) | (guard_hyp h1 : _ ∧ _; have hx := h1.2; replace h1 := h1.1)) <;> first | contradiction | omega)))
     exact ⟨(k + 1, v53), _, ha.weaken (s4 (sr rfl (sr rfl (subReg_nil _)))), ⟨rfl, hE53, ⟨by first | omega | (dsimp only; omega), by omega, h54, h55, (by dsimp only; simp only [Nd.flatJ_succ _ ht32, Nd.flatJ1, hc42, hc43, hc44, cond_true, cond_false, List.append_nil, Bool.true_and, Bool.false_and]; exact hO53.dom (by first | exact fun _ h _ _ => h | (rintro k h _ _; rcases h with h | h; exact h; first | exact h | exact h.1)))⟩⟩, by first | omega | (dsimp only; omega)⟩
    | true =>
     refine WL.eql rfl rfl rfl rfl hc44 ?_
     have hp44 := beq_iff_eq.1 hc44
     refine pT ?_
     refine asg ?_
     refine WL.dn ?_
     refine cT ?_
     refine WC.sk ?_
     refine WC.region ?_
     refine WL.add (v := (k : Int) + 1) rfl rfl rfl rfl (IntWalk.i64_in _ (by omega)) ?_
     refine mv ?_
     refine WL.nil (fun a_ ha => ?_)
     have h45 := ((hO.ext hE37).but hB40 (fun h1 => by have := hD _ h1; first | omega | (dsimp only at h1; omega)) (fun hk => by have := (hO.ext hE37).own _ hk; have := hol _ hk; omega))
     have h46 := (hB40.row (hR6.ext hE37) (by omega))
     have h47 := ((hts.ext hE37).bu hB40)
     exact ⟨(k + 1, v), _, ha.weaken (s4 (sr rfl (sr rfl (subReg_nil _)))), ⟨rfl, (hB40.onto (hE28.trans hE37) (by omega)), ⟨by first | omega | (dsimp only; omega), by omega, h46, h47, (by dsimp only; simp only [Nd.flatJ_succ _ ht32, Nd.flatJ1, hc42, hc43, hc44, cond_true, cond_false, List.append_nil, Bool.true_and, Bool.false_and]; exact h45.dom (by first | exact fun _ h _ _ => h | (rintro k h _ _; rcases h with h | h; exact h; first | exact h | exact h.1)))⟩⟩, by first | omega | (dsimp only; omega)⟩
  | true =>
   refine WL.eql rfl rfl rfl rfl hc42 ?_
   have hp42 := beq_iff_eq.1 hc42
   refine asg ?_
   refine WL.dn ?_
   refine cT ?_
   refine WC.region ?_
   refine mv ?_
   refine WL.fieldAddr rfl rfl Ty.fld29_4 rfl ?_
   refine WL.load_fld rfl rfl Ty.flat27 rfl hR39 rfl ?_
   have h43 := ((hO.ext hE37).but hB40 (fun h1 => by have := hD _ h1; first | omega | (dsimp only at h1; omega)) (fun hk => by have := (hO.ext hE37).own _ hk; have := hol _ hk; omega))
   have hol44 := h43.own
   have h45 := ((hts32.ext hE37).bu hB40)
   refine WL.appendV rfl rfl Ty.slice27 Ty.zero29 rfl small_node rfl rfl h43 h45 (by intro k h1 hh; have := hol44 _ hh; have := hol _ hh; first | omega | ((try dsimp only at h1); (repeat' first | (guard_hyp h1 : _ ∨ _; refine Or.elim h1 (fun h1 => ?_) (fun h1 => ?_)) | (guard_hyp h1 : _ ∧ _; have hx := h1.2; replace h1 := h1.1)) <;> first | contradiction | omega)) (by have h1 := Nd.sizeL_take ht32; have h2 := Nd.flatJ_len kind ([T, U].take k); have h3 := Nd.size_subs t32; have h4 := Nd.length_le_sizeL t32.subs; have h5 : Nd.sizeL [T, U] = T.size + U.size := (by simp [Nd.sizeL]); omega) (by omega) ?_
   intro v44 w44 hG44 hO44 hv44
   have hE44 := grown_below hG44 (hB40.onto (hE28.trans hE37) (by omega)) (by intro k hk; have := hol44 _ hk; omega)
   have hz44 := hE44.size
   have hzz44 := hG44.size
   refine asg ?_
   refine WL.dn ?_
   refine WC.region ?_
   refine WL.add (v := (k : Int) + 1) rfl rfl rfl rfl (IntWalk.i64_in _ (by omega)) ?_
   refine mv ?_
   refine WL.nil (fun a_ ha => ?_)
   have h46 := (grown_row hG44 (hB40.row (hR6.ext hE37) (by omega)) (fun hh => by have := hol44 _ hh; have := hol _ hh; omega))
   have h47 := (((hts.ext hE37).bu hB40).grown hG44 (by intro k h1 hlt hh; have := hol44 _ hh; have := hol _ hh; first | omega | ((try dsimp only at h1); (repeat' first | (guard_hyp h1 : _ ∨ _; refine Or.elim h1 (fun h1 => ?_) (fun h1 => ?_)) | (guard_hyp h1 : _ ∧ _; have hx := h1.2; replace h1 := h1.1)) <;> first | contradiction | omega)))
   exact ⟨(k + 1, v44), _, ha.weaken (s4 (sr rfl (sr rfl (subReg_nil _)))), ⟨rfl, hE44, ⟨by first | omega | (dsimp only; omega), by omega, h46, h47, (by dsimp only; simp only [Nd.flatJ_succ _ ht32, Nd.flatJ1, hc42, cond_true, cond_false, List.append_nil, Bool.true_and, Bool.false_and]; exact hO44.dom (by first | exact fun _ h _ _ => h | (rintro k h _ _; rcases h with h | h; exact h; first | exact h | exact h.1)))⟩⟩, by first | omega | (dsimp only; omega)⟩
end Go.Proofs.Ytaggidjijekpbaa
namespace Go.Proofs.Ytaggidjijekpbaa
open Go.Proofs Go.RowKit
abbrev qc1 : Nd := (Nd.classS ([]))
abbrev qc2 : Nd := (Nd.classS ([97]))
abbrev qc3 : Nd := (Nd.classS ([98]))
abbrev qc4 : Nd := (Nd.classS ([99]))
abbrev qc5 : Nd := (Nd.mk 0 Nd.zero 0 0 ([]))
abbrev qc6 : Nd := (Nd.mk 5 Nd.zero 2 3 [qc2])
abbrev qc7 : Nd := (Nd.mk 6 Nd.zero 0 0 [qc6])
abbrev qc8 : Nd := (Nd.mk 5 Nd.zero 4 4 [qc7])
abbrev qc9 : Nd := (Nd.mk 5 Nd.zero 1 1 [qc2])
abbrev qc10 : Nd := (Nd.mk 5 Nd.zero 3 2 [qc2])
abbrev qc11 : Nd := (Nd.mk 3 Nd.zero 0 0 ([qc2]))
abbrev qc12 : Nd := (Nd.mk 5 Nd.zero 0 (-1) [qc4])
abbrev qc13 : Nd := (Nd.mk 4 Nd.zero 0 0 ([qc3, qc4]))
abbrev qc14 : Nd := (Nd.mk 3 Nd.zero 0 0 ([qc3, qc12]))
abbrev qc15 : Nd := (Nd.mk 4 Nd.zero 0 0 ([qc2, qc14]))
abbrev qc16 : Nd := (Nd.mk 4 Nd.zero 0 0 ([qc2, qc13]))
set_option maxRecDepth 20000 in
set_option maxHeartbeats 4000000 in
theorem awake_ok (w : World) :
  Calls Try.prog 8 #[] w fun e w' => e = .returned (.bool true) ∧ Ext w w' := by
 refine Calls.enter (args := []) Try.func8 rfl rfl rfl rfl ?_
 refine sq ?_
 refine asg ?_
 refine WL.dn ?_
 refine sq ?_
 refine WL.call rfl rfl rfl Ty.ent20 (class_ok _ ([97]) (by first | decide | exact Nd.lettersS_len _)) ?_
 rintro _ w3 ⟨l1, rfl, hr1, hE2⟩
 have hzhE2 := hE2.size
 refine ⟨_, rfl, ?_⟩
 have hn1 := hr1.lt
 obtain ⟨a1, cap1, rfl, hts1, hlen1⟩ := hn1.op2
 refine WL.call rfl rfl rfl Ty.ent20 (class_ok _ ([98]) (by first | decide | exact Nd.lettersS_len _)) ?_
 rintro _ w6 ⟨l4, rfl, hr4, hE5⟩
 have hzhE5 := hE5.size
 refine ⟨_, rfl, ?_⟩
 have hn4 := hr4.lt
 obtain ⟨a4, cap4, rfl, hts4, hlen4⟩ := hn4.op2
 refine WL.call rfl rfl rfl Ty.ent20 (class_ok _ ([99]) (by first | decide | exact Nd.lettersS_len _)) ?_
 rintro _ w9 ⟨l7, rfl, hr7, hE8⟩
 have hzhE8 := hE8.size
 refine ⟨_, rfl, ?_⟩
 have hn7 := hr7.lt
 obtain ⟨a7, cap7, rfl, hts7, hlen7⟩ := hn7.op2
 refine WL.build (l := (zc 1 0 0 (.slice none 0 0))) rfl rfl Ty.zero29 Ty.st29 ⟨⟨rfl, rfl⟩, (by kernel_rfl)⟩ ?_
 have hn10 : NodeL _ w9 (zc 1 0 0 (.slice none 0 0)) (Nd.mk 1 Nd.zero 0 0 ([])) := NodeL.shut (k := 1) (s := Nd.zero) (mn := 0) (mx := 0) (sl := .slice none 0 0) (ts := []) (NodesV.nil (fun _ => False) _ none 0)
 have hn10 := hn10.lt
 refine WL.alloc rfl rfl Ty.zero29 rfl (fun b11 w16 hb12 hE15 hs13 hR14 => ?_)
 refine WL.alloc rfl rfl Ty.zero29 rfl (fun b17 w22 hb18 hE21 hs19 hR20 => ?_)
 refine WL.alloc rfl rfl Ty.zero29 rfl (fun b23 w28 hb24 hE27 hs25 hR26 => ?_)
 refine WL.alloc rfl rfl Ty.zero29 rfl (fun b29 w34 hb30 hE33 hs31 hR32 => ?_)
 have h37 := (((hR14.ext hE21).ext hE27).ext hE33)
 refine WL.store_box rfl rfl rfl h37 Ty.agg29 rfl rfl (fun w38 hB36 hR35 => ?_)
 have hzhB36 := hB36.size
 have h41 := (hB36.row ((hR20.ext hE27).ext hE33) (by omega))
 refine WL.store_box rfl rfl rfl h41 Ty.agg29 rfl rfl (fun w42 hB40 hR39 => ?_)
 have hzhB40 := hB40.size
 have h45 := (hB40.row (hB36.row (hR26.ext hE33) (by omega)) (by omega))
 refine WL.store_box rfl rfl rfl h45 Ty.agg29 rfl rfl (fun w46 hB44 hR43 => ?_)
 have hzhB44 := hB44.size
 have h49 := (hB44.row (hB40.row (hB36.row hR32 (by omega)) (by omega)) (by omega))
 refine WL.store_box rfl rfl rfl h49 Ty.agg29 rfl rfl (fun w50 hB48 hR47 => ?_)
 have hzhB48 := hB48.size
 refine WL.dn ?_
 refine WC.seqk ?_
 have h51 := ((((((((((hn1.ext hE5).ext hE8).ext hE15).ext hE21).ext hE27).ext hE33).bu hB36).bu hB40).bu hB44).bu hB48)
 have h52 := (((((((((hn4.ext hE8).ext hE15).ext hE21).ext hE27).ext hE33).bu hB36).bu hB40).bu hB44).bu hB48)
 have h53 := ((((((((hn7.ext hE15).ext hE21).ext hE27).ext hE33).bu hB36).bu hB40).bu hB44).bu hB48)
 have h54 := ((((((((hn10.ext hE15).ext hE21).ext hE27).ext hE33).bu hB36).bu hB40).bu hB44).bu hB48)
 have h55 := (hB48.row (hB44.row (hB40.row hR35 (by omega)) (by omega)) (by omega))
 have h56 := (hB48.row (hB44.row hR39 (by omega)) (by omega))
 refine WC.weaken (r' := [(0, .bool false), (1, pt b11 0), (2, pt b17 0), (3, pt b23 0), (4, pt b29 0)]) (s4 (sr rfl (subReg_nil _))) ?_
 refine WC.draw 14 [13, 14, 15, 16, 17, 18, 19, 20, 21, 22, 23, 24, 5, 6] [pc (.agg (tcells qc2 (.slice a1 qc2.subs.length cap1)).toArray), pc (.agg (tcells qc3 (.slice a4 qc3.subs.length cap4)).toArray), pc (.agg (tcells qc4 (.slice a7 qc4.subs.length cap7)).toArray), pnode (fun _ => True) qc12, pnodes (fun _ => True) ([qc3, qc12]), pnode (fun _ => True) qc14, pnodes (fun _ => True) ([qc2, qc14]), pnode (fun _ => True) qc15, pc (.agg (tcells qc2 (.slice a1 qc2.subs.length cap1)).toArray), pnode (fun _ => True) qc6, pnode (fun _ => True) qc7, pnode (fun _ => True) qc8, palloc 5 (zc 0 0 0 (.slice none 0 0)) 29, palloc 6 (zc 0 0 0 (.slice none 0 0)) 29] (by kernel_rfl) (by kernel_rfl) ⟨KW_pc _, KW_pc _, KW_pc _, KW_pnode _ _, KW_pnodes _ _, KW_pnode _ _, KW_pnodes _ _, KW_pnode _ _, KW_pc _, KW_pnode _ _, KW_pnode _ _, KW_pnode _ _, KW_palloc _ _ _, KW_palloc _ _ _, trivial⟩ rfl rfl rfl (sc4 ?_ ?_ ?_ ?_ (sc4 ?_ ?_ ?_ ?_ (sc4 ?_ ?_ ?_ ?_ (sc ?_ (sc ?_ (StepsOn.nil _)))))) ?_
 ·intro σ β w1 hE1 hbi hk
  refine ⟨[], (agree_nil _), ?_⟩
  refine WL.load_box rfl rfl rfl (h55.ext hE1) Ty.agg29 ?_
  exact dq hbi rfl
 ·intro σ β w1 hE1 hbi hk
  refine ⟨[], (agree_nil _), ?_⟩
  refine WL.load_box rfl rfl rfl (h56.ext hE1) Ty.agg29 ?_
  exact dq hbi rfl
 ·intro σ β w1 hE1 hbi hk
  have hz1 := hE1.size
  refine ⟨[], (agree_nil _), ?_⟩
  have h77 := ((hB48.row hR43 (by omega)).ext hE1)
  refine WL.load_box rfl rfl rfl h77 Ty.agg29 ?_
  exact dq hbi rfl
 ·intro σ β w1 hE1 hbi hk
  have hz1 := hE1.size
  refine ⟨[(15, .agg (tcells qc4 (.slice a7 qc4.subs.length cap7)).toArray)], (ak hk 2 (agree_nil _)), ?_⟩
  refine WL.call rfl rfl rfl Ty.ent23 (rep_ok _ _ _ qc4 0 (-1) (h53.ext hE1)) ?_
  rintro _ w80 ⟨l78, rfl, hr78, hE79⟩
  have hzhE79 := hE79.size
  refine ⟨_, rfl, ?_⟩
  have hn78 := hr78.lt
  obtain ⟨a78, cap78, rfl, hts78, hlen78⟩ := hn78.op2
  exact dqE hbi hE79 ⟨_, rfl, (hr78.lt.dom (by intro k h1; refine ⟨trivial, ?_, h1.2⟩; replace h1 := h1.1; intro x hxm; have hi := hbi.hi x hxm; have lo := hbi.lo x hxm; (try dsimp only at h1); (repeat' first | (guard_hyp h1 : _ ∨ _; refine Or.elim h1 (fun h1 => ?_) (fun h1 => ?_)) | (guard_hyp h1 : _ ∧ _; have hx := h1.2; replace h1 := h1.1)) <;> first | contradiction | omega | exact hx.1 x hxm))⟩
 ·intro σ β w1 hE1 hbi hk
  have hz1 := hE1.size
  obtain ⟨_, hv78, l78, rfl, hn78⟩ := kn hk 3 rfl rfl
  have hn78 := hn78.lt
  obtain ⟨a78, cap78, rfl, hts78, hlen78⟩ := hn78.op2
  refine ⟨[(14, .agg (tcells qc3 (.slice a4 qc3.subs.length cap4)).toArray), (16, .agg (tcells qc12 (.slice a78 qc12.subs.length cap78)).toArray)], (ak hk 1 (ag hv78 (agree_nil _))), ?_⟩
  refine WL.buildSlice (vs := [.agg (tcells qc3 (.slice a4 qc3.subs.length cap4)).toArray, .agg (tcells qc12 (.slice a78 qc12.subs.length cap78)).toArray]) (cells := (tcells qc3 (.slice a4 qc3.subs.length cap4) ++ tcells qc12 (.slice a78 qc12.subs.length cap78))) rfl rfl Ty.slice27 Ty.zero29 rfl rfl rfl rfl rfl rfl (fun b79 w84 hb80 hE83 hs81 hR82 => ?_)
  have hts79 := (NodesV.lit (n := 2) (ts := [qc3, qc12]) hR82 (RowsL.cons ((h52.ext hE1).ext hE83) (RowsL.cons (hn78.ext hE83) (RowsL.nil' _))) rfl rfl (by decide)).lt
  exact dqE hbi hE83 ⟨_, _, rfl, (hts79.dom (by intro k h1; refine ⟨trivial, ?_, h1.2⟩; replace h1 := h1.1; intro x hxm; have hi := hbi.hi x hxm; have lo := hbi.lo x hxm; (try dsimp only at h1); (repeat' first | (guard_hyp h1 : _ ∨ _; refine Or.elim h1 (fun h1 => ?_) (fun h1 => ?_)) | (guard_hyp h1 : _ ∧ _; have hx := h1.2; replace h1 := h1.1)) <;> first | contradiction | omega | exact hx.1 x hxm))⟩
 ·intro σ β w1 hE1 hbi hk
  have hz1 := hE1.size
  obtain ⟨_, hv77, a77, cap77, rfl, hts77⟩ := kn hk 4 rfl rfl
  have hts77 := hts77.lt
  have hlen77 := hts77.len
  refine ⟨[(17, .slice a77 (([qc3, qc12]).length) cap77)], (ag hv77 (agree_nil _)), ?_⟩
  refine WL.call rfl rfl rfl Ty.ent21 (cat_ok _ _ _ _ ([qc3, qc12]) hts77) ?_
  rintro _ w80 ⟨l78, rfl, hr78, hE79⟩
  have hzhE79 := hE79.size
  refine ⟨_, rfl, ?_⟩
  have hn78 := hr78.lt
  obtain ⟨a78, cap78, rfl, hts78, hlen78⟩ := hn78.op2
  exact dqE hbi hE79 ⟨_, rfl, (hr78.lt.dom (by intro k h1; refine ⟨trivial, ?_, h1.2⟩; replace h1 := h1.1; intro x hxm; have hi := hbi.hi x hxm; have lo := hbi.lo x hxm; (try dsimp only at h1); (repeat' first | (guard_hyp h1 : _ ∨ _; refine Or.elim h1 (fun h1 => ?_) (fun h1 => ?_)) | (guard_hyp h1 : _ ∧ _; have hx := h1.2; replace h1 := h1.1)) <;> first | contradiction | omega | exact hx.1 x hxm))⟩
 ·intro σ β w1 hE1 hbi hk
  have hz1 := hE1.size
  obtain ⟨_, hv78, l78, rfl, hn78⟩ := kn hk 5 rfl rfl
  have hn78 := hn78.lt
  obtain ⟨a78, cap78, rfl, hts78, hlen78⟩ := hn78.op2
  refine ⟨[(13, .agg (tcells qc2 (.slice a1 qc2.subs.length cap1)).toArray), (18, .agg (tcells qc14 (.slice a78 qc14.subs.length cap78)).toArray)], (ak hk 0 (ag hv78 (agree_nil _))), ?_⟩
  refine WL.buildSlice (vs := [.agg (tcells qc2 (.slice a1 qc2.subs.length cap1)).toArray, .agg (tcells qc14 (.slice a78 qc14.subs.length cap78)).toArray]) (cells := (tcells qc2 (.slice a1 qc2.subs.length cap1) ++ tcells qc14 (.slice a78 qc14.subs.length cap78))) rfl rfl Ty.slice27 Ty.zero29 rfl rfl rfl rfl rfl rfl (fun b79 w84 hb80 hE83 hs81 hR82 => ?_)
  have hts79 := (NodesV.lit (n := 2) (ts := [qc2, qc14]) hR82 (RowsL.cons ((h51.ext hE1).ext hE83) (RowsL.cons (hn78.ext hE83) (RowsL.nil' _))) rfl rfl (by decide)).lt
  exact dqE hbi hE83 ⟨_, _, rfl, (hts79.dom (by intro k h1; refine ⟨trivial, ?_, h1.2⟩; replace h1 := h1.1; intro x hxm; have hi := hbi.hi x hxm; have lo := hbi.lo x hxm; (try dsimp only at h1); (repeat' first | (guard_hyp h1 : _ ∨ _; refine Or.elim h1 (fun h1 => ?_) (fun h1 => ?_)) | (guard_hyp h1 : _ ∧ _; have hx := h1.2; replace h1 := h1.1)) <;> first | contradiction | omega | exact hx.1 x hxm))⟩
 ·intro σ β w1 hE1 hbi hk
  have hz1 := hE1.size
  obtain ⟨_, hv77, a77, cap77, rfl, hts77⟩ := kn hk 6 rfl rfl
  have hts77 := hts77.lt
  have hlen77 := hts77.len
  refine ⟨[(19, .slice a77 (([qc2, qc14]).length) cap77)], (ag hv77 (agree_nil _)), ?_⟩
  refine WL.call rfl rfl rfl Ty.ent22 (alt_ok _ _ _ _ ([qc2, qc14]) hts77) ?_
  rintro _ w80 ⟨l78, rfl, hr78, hE79⟩
  have hzhE79 := hE79.size
  refine ⟨_, rfl, ?_⟩
  have hn78 := hr78.lt
  obtain ⟨a78, cap78, rfl, hts78, hlen78⟩ := hn78.op2
  exact dqE hbi hE79 ⟨_, rfl, (hr78.lt.dom (by intro k h1; refine ⟨trivial, ?_, h1.2⟩; replace h1 := h1.1; intro x hxm; have hi := hbi.hi x hxm; have lo := hbi.lo x hxm; (try dsimp only at h1); (repeat' first | (guard_hyp h1 : _ ∨ _; refine Or.elim h1 (fun h1 => ?_) (fun h1 => ?_)) | (guard_hyp h1 : _ ∧ _; have hx := h1.2; replace h1 := h1.1)) <;> first | contradiction | omega | exact hx.1 x hxm))⟩
 ·intro σ β w1 hE1 hbi hk
  refine ⟨[], (agree_nil _), ?_⟩
  refine WL.load_box rfl rfl rfl (h55.ext hE1) Ty.agg29 ?_
  exact dq hbi rfl
 ·intro σ β w1 hE1 hbi hk
  have hz1 := hE1.size
  refine ⟨[(21, .agg (tcells qc2 (.slice a1 qc2.subs.length cap1)).toArray)], (ak hk 8 (agree_nil _)), ?_⟩
  refine WL.call rfl rfl rfl Ty.ent23 (rep_ok _ _ _ qc2 2 3 (h51.ext hE1)) ?_
  rintro _ w80 ⟨l78, rfl, hr78, hE79⟩
  have hzhE79 := hE79.size
  refine ⟨_, rfl, ?_⟩
  have hn78 := hr78.lt
  obtain ⟨a78, cap78, rfl, hts78, hlen78⟩ := hn78.op2
  exact dqE hbi hE79 ⟨_, rfl, (hr78.lt.dom (by intro k h1; refine ⟨trivial, ?_, h1.2⟩; replace h1 := h1.1; intro x hxm; have hi := hbi.hi x hxm; have lo := hbi.lo x hxm; (try dsimp only at h1); (repeat' first | (guard_hyp h1 : _ ∨ _; refine Or.elim h1 (fun h1 => ?_) (fun h1 => ?_)) | (guard_hyp h1 : _ ∧ _; have hx := h1.2; replace h1 := h1.1)) <;> first | contradiction | omega | exact hx.1 x hxm))⟩
 ·intro σ β w1 hE1 hbi hk
  have hz1 := hE1.size
  obtain ⟨_, hv77, l77, rfl, hn77⟩ := kn hk 9 rfl rfl
  have hn77 := hn77.lt
  obtain ⟨a77, cap77, rfl, hts77, hlen77⟩ := hn77.op2
  refine ⟨[(22, .agg (tcells qc6 (.slice a77 qc6.subs.length cap77)).toArray)], (ag hv77 (agree_nil _)), ?_⟩
  refine WL.call rfl rfl rfl Ty.ent24 (group_ok _ _ _ qc6 hn77) ?_
  rintro _ w80 ⟨l78, rfl, hr78, hE79⟩
  have hzhE79 := hE79.size
  refine ⟨_, rfl, ?_⟩
  have hn78 := hr78.lt
  obtain ⟨a78, cap78, rfl, hts78, hlen78⟩ := hn78.op2
  exact dqE hbi hE79 ⟨_, rfl, (hr78.lt.dom (by intro k h1; refine ⟨trivial, ?_, h1.2⟩; replace h1 := h1.1; intro x hxm; have hi := hbi.hi x hxm; have lo := hbi.lo x hxm; (try dsimp only at h1); (repeat' first | (guard_hyp h1 : _ ∨ _; refine Or.elim h1 (fun h1 => ?_) (fun h1 => ?_)) | (guard_hyp h1 : _ ∧ _; have hx := h1.2; replace h1 := h1.1)) <;> first | contradiction | omega | exact hx.1 x hxm))⟩
 ·intro σ β w1 hE1 hbi hk
  have hz1 := hE1.size
  obtain ⟨_, hv77, l77, rfl, hn77⟩ := kn hk 10 rfl rfl
  have hn77 := hn77.lt
  obtain ⟨a77, cap77, rfl, hts77, hlen77⟩ := hn77.op2
  refine ⟨[(23, .agg (tcells qc7 (.slice a77 qc7.subs.length cap77)).toArray)], (ag hv77 (agree_nil _)), ?_⟩
  refine WL.call rfl rfl rfl Ty.ent23 (rep_ok _ _ _ qc7 4 4 hn77) ?_
  rintro _ w80 ⟨l78, rfl, hr78, hE79⟩
  have hzhE79 := hE79.size
  refine ⟨_, rfl, ?_⟩
  have hn78 := hr78.lt
  obtain ⟨a78, cap78, rfl, hts78, hlen78⟩ := hn78.op2
  exact dqE hbi hE79 ⟨_, rfl, (hr78.lt.dom (by intro k h1; refine ⟨trivial, ?_, h1.2⟩; replace h1 := h1.1; intro x hxm; have hi := hbi.hi x hxm; have lo := hbi.lo x hxm; (try dsimp only at h1); (repeat' first | (guard_hyp h1 : _ ∨ _; refine Or.elim h1 (fun h1 => ?_) (fun h1 => ?_)) | (guard_hyp h1 : _ ∧ _; have hx := h1.2; replace h1 := h1.1)) <;> first | contradiction | omega | exact hx.1 x hxm))⟩
 ·intro σ β w1 hE1 hbi hk
  refine ⟨[], (agree_nil _), ?_⟩
  refine WL.alloc rfl rfl Ty.zero29 rfl (fun b77 w82 hb78 hE81 hs79 hR80 => ?_)
  refine WL.nil (fun a_ ha => ?_)
  exact ⟨_, (5, b77) :: β, ha, hE81, BExt.cons (Nat.le_of_eq hb78.symm), hbi.cons hE81 hE1.size (Nat.le_of_eq hb78.symm) hR80.lt, b77, rfl, hR80, .head _⟩
 ·intro σ β w1 hE1 hbi hk
  refine ⟨[], (agree_nil _), ?_⟩
  refine WL.alloc rfl rfl Ty.zero29 rfl (fun b77 w82 hb78 hE81 hs79 hR80 => ?_)
  refine WL.nil (fun a_ ha => ?_)
  exact ⟨_, (6, b77) :: β, ha, hE81, BExt.cons (Nat.le_of_eq hb78.symm), hbi.cons hE81 hE1.size (Nat.le_of_eq hb78.symm) hR80.lt, b77, rfl, hR80, .head _⟩
 intro σ β w57 hE57 hbi57 hk
 have hz57 := hE57.size
 have hbi := hbi57
 obtain ⟨_, hv58, b58, rfl, hR58, hm58⟩ := hk 12 (by decide) _ _ rfl rfl
 have hlo58 := hbi.lo _ hm58
 have hhi58 := hbi.hi _ hm58
 obtain ⟨_, hv59, b59, rfl, hR59, hm59⟩ := hk 13 (by decide) _ _ rfl rfl
 have hlo59 := hbi.lo _ hm59
 have hhi59 := hbi.hi _ hm59
 have hne59_58 : b59 ≠ b58 := fun h => by have := hbi.one _ _ hm59 hm58 h; simp at this
 have hne58_59 := hne59_58.symm
 obtain ⟨_, hv60, l60, rfl, hn60⟩ := hk 7 (by decide) _ _ rfl rfl
 have hn60 := hn60.dom (D' := fun k => ((True) ∧ b58 ≠ k ∧ b59 ≠ k) ∧ k < w57.heap.size) (fun k h => ⟨⟨h.1, h.2.1 _ hm58, h.2.1 _ hm59⟩, h.2.2⟩)
 obtain ⟨a60, cap60, rfl, hts60, hlen60⟩ := hn60.op2
 obtain ⟨_, hv61, l61, rfl, hn61⟩ := hk 11 (by decide) _ _ rfl rfl
 have hn61 := hn61.dom (D' := fun k => ((True) ∧ b58 ≠ k ∧ b59 ≠ k) ∧ k < w57.heap.size) (fun k h => ⟨⟨h.1, h.2.1 _ hm58, h.2.1 _ hm59⟩, h.2.2⟩)
 obtain ⟨a61, cap61, rfl, hts61, hlen61⟩ := hn61.op2
 refine WL.know [(5, pt b58 0), (6, pt b59 0), (20, .agg (tcells qc15 (.slice a60 qc15.subs.length cap60)).toArray), (24, .agg (tcells qc8 (.slice a61 qc8.subs.length cap61)).toArray)] (ag hv58 (ag hv59 (ag hv60 (ag hv61 (agree_nil _))))) ?_
 refine WL.store_box rfl rfl rfl hR58 Ty.agg29 rfl rfl (fun w64 hB63 hR62 => ?_)
 have hzhB63 := hB63.size
 refine WL.store_box rfl rfl rfl (hB63.row hR59 (by omega)) Ty.agg29 rfl rfl (fun w67 hB66 hR65 => ?_)
 have hzhB66 := hB66.size
 refine WL.dn ?_
 refine WC.seqk ?_
 refine sq ?_
 refine WL.load_box rfl rfl rfl (hB66.row hR62 (by omega)) Ty.agg29 ?_
 have h68 := ((hn60.bu hB63).bu hB66)
 refine WL.call rfl rfl rfl Ty.ent16 (size_ok _ _ _ _ h68) ?_
 rintro _ w70 ⟨rfl, hE69⟩
 have hzhE69 := hE69.size
 refine ⟨_, rfl, ?_⟩
 refine WL.neq (b := false) rfl rfl rfl rfl (by kernel_rfl) ?_
 refine mv ?_
 have h71 := ((hB66.row hR62 (by omega)).ext hE69)
 refine WL.load_box rfl rfl rfl h71 Ty.agg29 ?_
 refine WL.call rfl rfl rfl Ty.ent15 (Positions_ok _ _ _ _ (h68.ext hE69)) ?_
 rintro _ w73 ⟨rfl, hE72⟩
 have hzhE72 := hE72.size
 refine ⟨_, rfl, ?_⟩
 refine WL.neq (b := false) rfl rfl rfl rfl (by kernel_rfl) ?_
 refine pF ?_
 refine mv ?_
 refine WL.load_box rfl rfl rfl (h71.ext hE72) Ty.agg29 ?_
 have h74 := ((h68.ext hE69).ext hE72)
 refine WL.call rfl rfl rfl Ty.ent17 (groups_ok _ _ _ _ h74) ?_
 rintro _ w76 ⟨rfl, hE75⟩
 have hzhE75 := hE75.size
 refine ⟨_, rfl, ?_⟩
 refine WL.neq (b := false) rfl rfl rfl rfl (by kernel_rfl) ?_
 refine pF ?_
 refine mv ?_
 have h77 := ((h71.ext hE72).ext hE75)
 refine WL.load_box rfl rfl rfl h77 Ty.agg29 ?_
 refine WL.call rfl rfl rfl Ty.ent12 (clean_ok _ _ _ _ (h74.ext hE75)) ?_
 rintro _ w79 ⟨he, hE78⟩
 have hq : (Nd.clean qc15) = true := (by kernel_rfl)
 rw [hq] at he
 subst he
 clear hq
 have hzhE78 := hE78.size
 refine ⟨_, rfl, ?_⟩
 refine WL.not rfl rfl rfl ?_
 refine pF ?_
 refine mv ?_
 have h80 := ((((hR65.ext hE69).ext hE72).ext hE75).ext hE78)
 refine WL.load_box rfl rfl rfl h80 Ty.agg29 ?_
 have h81 := ((((((hn61.bu hB63).bu hB66).ext hE69).ext hE72).ext hE75).ext hE78)
 refine WL.call rfl rfl rfl Ty.ent16 (size_ok _ _ _ _ h81) ?_
 rintro _ w83 ⟨rfl, hE82⟩
 have hzhE82 := hE82.size
 refine ⟨_, rfl, ?_⟩
 refine WL.neq (b := false) rfl rfl rfl rfl (by kernel_rfl) ?_
 refine pF ?_
 refine mv ?_
 refine WL.load_box rfl rfl rfl (h80.ext hE82) Ty.agg29 ?_
 refine WL.call rfl rfl rfl Ty.ent15 (Positions_ok _ _ _ _ (h81.ext hE82)) ?_
 rintro _ w85 ⟨rfl, hE84⟩
 have hzhE84 := hE84.size
 refine ⟨_, rfl, ?_⟩
 refine WL.neq (b := false) rfl rfl rfl rfl (by kernel_rfl) ?_
 refine pF ?_
 refine mv ?_
 have h86 := ((h80.ext hE82).ext hE84)
 refine WL.load_box rfl rfl rfl h86 Ty.agg29 ?_
 have h87 := ((h81.ext hE82).ext hE84)
 refine WL.call rfl rfl rfl Ty.ent17 (groups_ok _ _ _ _ h87) ?_
 rintro _ w89 ⟨rfl, hE88⟩
 have hzhE88 := hE88.size
 refine ⟨_, rfl, ?_⟩
 refine WL.neq (b := false) rfl rfl rfl rfl (by kernel_rfl) ?_
 refine pF ?_
 refine mv ?_
 refine WL.load_box rfl rfl rfl (h86.ext hE88) Ty.agg29 ?_
 refine WL.call rfl rfl rfl Ty.ent12 (clean_ok _ _ _ _ (h87.ext hE88)) ?_
 rintro _ w91 ⟨he, hE90⟩
 have hq : (Nd.clean qc8) = true := (by kernel_rfl)
 rw [hq] at he
 subst he
 clear hq
 have hzhE90 := hE90.size
 refine ⟨_, rfl, ?_⟩
 refine WL.not rfl rfl rfl ?_
 refine pF ?_
 refine mv ?_
 have h92 := ((h86.ext hE88).ext hE90)
 refine WL.load_box rfl rfl rfl h92 Ty.agg29 ?_
 refine WL.build (l := ([.bool false, .bool false] ++ tcells qc8 (.slice a61 qc8.subs.length cap61))) rfl rfl Ty.zero36 Ty.st36 ⟨⟨rfl, rfl⟩, (by kernel_rfl)⟩ ?_
 have h93 := ((h87.ext hE88).ext hE90)
 refine WL.call rfl rfl rfl Ty.ent13 (check_ok _ _ false false _ qc8 h93) ?_
 rintro _ w95 ⟨rfl, hE94⟩
 have hzhE94 := hE94.size
 refine ⟨_, rfl, ?_⟩
 refine WL.neq (b := false) rfl rfl rfl rfl (by kernel_rfl) ?_
 refine pF ?_
 refine WL.dn ?_
 refine cF ?_
 refine WC.sk ?_
 refine WC.seqk ?_
 refine WC.seqk ?_
 have h96 := (((((((h74.ext hE75).ext hE78).ext hE82).ext hE84).ext hE88).ext hE90).ext hE94)
 have h97 := ((((((((((hB66.row (hB63.row (h55.ext hE57) (by omega)) (by omega)).ext hE69).ext hE72).ext hE75).ext hE78).ext hE82).ext hE84).ext hE88).ext hE90).ext hE94)
 have h98 := ((((((((((((h51.ext hE57).bu hB63).bu hB66).ext hE69).ext hE72).ext hE75).ext hE78).ext hE82).ext hE84).ext hE88).ext hE90).ext hE94)
 have h99 := ((((((((((hB66.row (hB63.row (h56.ext hE57) (by omega)) (by omega)).ext hE69).ext hE72).ext hE75).ext hE78).ext hE82).ext hE84).ext hE88).ext hE90).ext hE94)
 have h100 := ((((((((((((h52.ext hE57).bu hB63).bu hB66).ext hE69).ext hE72).ext hE75).ext hE78).ext hE82).ext hE84).ext hE88).ext hE90).ext hE94)
 have h101 := ((((((((((hB66.row (hB63.row ((hB48.row hR43 (by omega)).ext hE57) (by omega)) (by omega)).ext hE69).ext hE72).ext hE75).ext hE78).ext hE82).ext hE84).ext hE88).ext hE90).ext hE94)
 have h102 := ((((((((((((h53.ext hE57).bu hB63).bu hB66).ext hE69).ext hE72).ext hE75).ext hE78).ext hE82).ext hE84).ext hE88).ext hE90).ext hE94)
 have h103 := ((((((((((hB66.row (hB63.row (hR47.ext hE57) (by omega)) (by omega)).ext hE69).ext hE72).ext hE75).ext hE78).ext hE82).ext hE84).ext hE88).ext hE90).ext hE94)
 have h104 := ((((((((((((h54.ext hE57).bu hB63).bu hB66).ext hE69).ext hE72).ext hE75).ext hE78).ext hE82).ext hE84).ext hE88).ext hE90).ext hE94)
 have h105 := ((((((h77.ext hE78).ext hE82).ext hE84).ext hE88).ext hE90).ext hE94)
 refine WC.weaken (r' := [(0, .bool false), (1, pt b11 0), (2, pt b17 0), (3, pt b23 0), (4, pt b29 0), (68, .bool false)]) (s4 (sr rfl (sr rfl (subReg_nil _)))) ?_
 refine WC.draw 37 [69, 70, 71, 72, 73, 74, 75, 76, 77, 78, 79, 80, 81, 82, 83, 84, 85, 86, 87, 88, 89, 90, 91, 92, 93, 94, 95, 96, 97, 98, 99, 100, 101, 102, 103, 104, 105] [pc (.agg (tcells qc2 (.slice a1 qc2.subs.length cap1)).toArray), pc (.agg (tcells qc3 (.slice a4 qc3.subs.length cap4)).toArray), pc (.agg (tcells qc4 (.slice a7 qc4.subs.length cap7)).toArray), pnodes (fun _ => True) ([qc3, qc4]), pnode (fun k => w95.heap.size ≤ k) (Nd.seq ([qc3, qc4])), pnodes (fun _ => True) ([qc2, (Nd.seq ([qc3, qc4]))]), pnode (fun k => w95.heap.size ≤ k) (Nd.seq ([qc2, (Nd.seq ([qc3, qc4]))])), pc (.agg (tcells qc2 (.slice a1 qc2.subs.length cap1)).toArray), pc (.agg (tcells qc3 (.slice a4 qc3.subs.length cap4)).toArray), pc (.agg (tcells qc4 (.slice a7 qc4.subs.length cap7)).toArray), pnodes (fun _ => True) ([qc2, qc3, qc4]), pnode (fun k => w95.heap.size ≤ k) (Nd.seq ([qc2, qc3, qc4])), pc (.bool true), pc (.bool false), pc (.bool false), pc (.agg (zc 0 0 0 (.slice none 0 0)).toArray), pc (.agg (tcells qc2 (.slice a1 qc2.subs.length cap1)).toArray), pnodes (fun _ => True) ([qc5, qc2]), pnode (fun k => w95.heap.size ≤ k) (Nd.or ([qc5, qc2])), pc (.agg (tcells qc2 (.slice a1 qc2.subs.length cap1)).toArray), pc (.bool true), pc (.bool false), pc (.bool false), pc (.bool false), pc (.agg (tcells qc2 (.slice a1 qc2.subs.length cap1)).toArray), pnode (fun k => w95.heap.size ≤ k) (Nd.times qc2 1 1), pc (.agg (tcells qc2 (.slice a1 qc2.subs.length cap1)).toArray), pc (.bool true), pc (.bool false), pc (.bool false), pc (.bool false), pc (.agg (zc 0 0 0 (.slice none 0 0)).toArray), pnode (fun k => w95.heap.size ≤ k) (Nd.times qc5 0 (-1)), pc (.agg (zc 1 0 0 (.slice none 0 0)).toArray), pc (.bool true), pc (.bool false), pc (.bool false)] (by kernel_rfl) (by kernel_rfl) ⟨KW_pc _, KW_pc _, KW_pc _, KW_pnodes _ _, KW_pnode _ _, KW_pnodes _ _, KW_pnode _ _, KW_pc _, KW_pc _, KW_pc _, KW_pnodes _ _, KW_pnode _ _, k4 ⟨KW_pc _, KW_pnodes _ _, KW_pnode _ _, k4 ⟨KW_pc _, KW_pc _, KW_pnode _ _, k4 ⟨KW_pc _, KW_pc _, KW_pnode _ _, k4 trivial⟩⟩⟩⟩ rfl rfl rfl (sc4 ?_ ?_ ?_ ?_ (sc4 ?_ ?_ ?_ ?_ (sc4 ?_ ?_ ?_ ?_ (sc4 ?_ ?_ ?_ ?_ (sc4 ?_ ?_ ?_ ?_ (sc4 ?_ ?_ ?_ ?_ (sc4 ?_ ?_ ?_ ?_ (sc4 ?_ ?_ ?_ ?_ (sc4 ?_ ?_ ?_ ?_ (sc ?_ (StepsOn.nil _))))))))))) ?_
 ·intro σ β w1 hE1 hbi hk
  refine ⟨[], (agree_nil _), ?_⟩
  refine WL.load_box rfl rfl rfl (h97.ext hE1) Ty.agg29 ?_
  exact dq hbi rfl
 ·intro σ β w1 hE1 hbi hk
  refine ⟨[], (agree_nil _), ?_⟩
  refine WL.load_box rfl rfl rfl (h99.ext hE1) Ty.agg29 ?_
  exact dq hbi rfl
 ·intro σ β w1 hE1 hbi hk
  refine ⟨[], (agree_nil _), ?_⟩
  refine WL.load_box rfl rfl rfl (h101.ext hE1) Ty.agg29 ?_
  exact dq hbi rfl
 ·intro σ β w1 hE1 hbi hk
  have hz1 := hE1.size
  refine ⟨[(70, .agg (tcells qc3 (.slice a4 qc3.subs.length cap4)).toArray), (71, .agg (tcells qc4 (.slice a7 qc4.subs.length cap7)).toArray)], (ak hk 1 (ak hk 2 (agree_nil _))), ?_⟩
  refine WL.buildSlice (vs := [.agg (tcells qc3 (.slice a4 qc3.subs.length cap4)).toArray, .agg (tcells qc4 (.slice a7 qc4.subs.length cap7)).toArray]) (cells := (tcells qc3 (.slice a4 qc3.subs.length cap4) ++ tcells qc4 (.slice a7 qc4.subs.length cap7))) rfl rfl Ty.slice27 Ty.zero29 rfl rfl rfl rfl rfl rfl (fun b128 w133 hb129 hE132 hs130 hR131 => ?_)
  have hts128 := (NodesV.lit (n := 2) (ts := [qc3, qc4]) hR131 (RowsL.cons ((h100.ext hE1).ext hE132) (RowsL.cons ((h102.ext hE1).ext hE132) (RowsL.nil' _))) rfl rfl (by decide)).lt
  exact dqE hbi hE132 ⟨_, _, rfl, (hts128.dom (by intro k h1; refine ⟨trivial, ?_, h1.2⟩; replace h1 := h1.1; intro x hxm; have hi := hbi.hi x hxm; have lo := hbi.lo x hxm; (try dsimp only at h1); (repeat' first | (guard_hyp h1 : _ ∨ _; refine Or.elim h1 (fun h1 => ?_) (fun h1 => ?_)) | (guard_hyp h1 : _ ∧ _; have hx := h1.2; replace h1 := h1.1)) <;> first | contradiction | omega | exact hx.1 x hxm))⟩
 ·intro σ β w1 hE1 hbi hk
  obtain ⟨_, hv126, a126, cap126, rfl, hts126⟩ := kn hk 3 rfl rfl
  have hts126 := hts126.lt
  have hlen126 := hts126.len
  refine ⟨[(72, .slice a126 (([qc3, qc4]).length) cap126)], (ag hv126 (agree_nil _)), ?_⟩
  refine WL.call rfl rfl rfl Ty.ent10 (seq_ok _ _ _ _ ([qc3, qc4]) hts126 (Nat.le_of_ble_eq_true rfl)) ?_
  rintro _ w129 ⟨l127, rfl, hr127, hE128⟩
  refine ⟨_, rfl, ?_⟩
  have hn127 := hr127.lt
  obtain ⟨a127, cap127, rfl, hts127, hlen127⟩ := hn127.op2
  exact dqE hbi hE128 ⟨_, rfl, (hr127.off0 hbi (fun k hk => Nat.le_trans hE1.size hk))⟩
 ·intro σ β w1 hE1 hbi hk
  have hz1 := hE1.size
  obtain ⟨_, hv127, l127, rfl, hn127⟩ := kn hk 4 rfl rfl
  have hn127 := hn127.lt
  obtain ⟨a127, cap127, rfl, hts127, hlen127⟩ := hn127.op2
  refine ⟨[(69, .agg (tcells qc2 (.slice a1 qc2.subs.length cap1)).toArray), (73, .agg (tcells (Nd.seq ([qc3, qc4])) (.slice a127 (Nd.seq ([qc3, qc4])).subs.length cap127)).toArray)], (ak hk 0 (ag hv127 (agree_nil _))), ?_⟩
  refine WL.buildSlice (vs := [.agg (tcells qc2 (.slice a1 qc2.subs.length cap1)).toArray, .agg (tcells (Nd.seq ([qc3, qc4])) (.slice a127 (Nd.seq ([qc3, qc4])).subs.length cap127)).toArray]) (cells := (tcells qc2 (.slice a1 qc2.subs.length cap1) ++ tcells (Nd.seq ([qc3, qc4])) (.slice a127 (Nd.seq ([qc3, qc4])).subs.length cap127))) rfl rfl Ty.slice27 Ty.zero29 rfl rfl rfl rfl rfl rfl (fun b128 w133 hb129 hE132 hs130 hR131 => ?_)
  have hts128 := (NodesV.lit (n := 2) (ts := [qc2, (Nd.seq ([qc3, qc4]))]) hR131 (RowsL.cons ((h98.ext hE1).ext hE132) (RowsL.cons (hn127.ext hE132) (RowsL.nil' _))) rfl rfl (by decide)).lt
  exact dqE hbi hE132 ⟨_, _, rfl, (hts128.dom (by intro k h1; refine ⟨trivial, ?_, h1.2⟩; replace h1 := h1.1; intro x hxm; have hi := hbi.hi x hxm; have lo := hbi.lo x hxm; (try dsimp only at h1); (repeat' first | (guard_hyp h1 : _ ∨ _; refine Or.elim h1 (fun h1 => ?_) (fun h1 => ?_)) | (guard_hyp h1 : _ ∧ _; have hx := h1.2; replace h1 := h1.1)) <;> first | contradiction | omega | exact hx.1 x hxm))⟩
 ·intro σ β w1 hE1 hbi hk
  obtain ⟨_, hv126, a126, cap126, rfl, hts126⟩ := kn hk 5 rfl rfl
  have hts126 := hts126.lt
  have hlen126 := hts126.len
  refine ⟨[(74, .slice a126 (([qc2, (Nd.seq ([qc3, qc4]))]).length) cap126)], (ag hv126 (agree_nil _)), ?_⟩
  refine WL.call rfl rfl rfl Ty.ent10 (seq_ok _ _ _ _ ([qc2, (Nd.seq ([qc3, qc4]))]) hts126 (Nat.le_of_ble_eq_true rfl)) ?_
  rintro _ w129 ⟨l127, rfl, hr127, hE128⟩
  refine ⟨_, rfl, ?_⟩
  have hn127 := hr127.lt
  obtain ⟨a127, cap127, rfl, hts127, hlen127⟩ := hn127.op2
  exact dqE hbi hE128 ⟨_, rfl, (hr127.off0 hbi (fun k hk => Nat.le_trans hE1.size hk))⟩
 ·intro σ β w1 hE1 hbi hk
  refine ⟨[], (agree_nil _), ?_⟩
  refine WL.load_box rfl rfl rfl (h97.ext hE1) Ty.agg29 ?_
  exact dq hbi rfl
 ·intro σ β w1 hE1 hbi hk
  refine ⟨[], (agree_nil _), ?_⟩
  refine WL.load_box rfl rfl rfl (h99.ext hE1) Ty.agg29 ?_
  exact dq hbi rfl
 ·intro σ β w1 hE1 hbi hk
  refine ⟨[], (agree_nil _), ?_⟩
  refine WL.load_box rfl rfl rfl (h101.ext hE1) Ty.agg29 ?_
  exact dq hbi rfl
 ·intro σ β w1 hE1 hbi hk
  have hz1 := hE1.size
  refine ⟨[(76, .agg (tcells qc2 (.slice a1 qc2.subs.length cap1)).toArray), (77, .agg (tcells qc3 (.slice a4 qc3.subs.length cap4)).toArray), (78, .agg (tcells qc4 (.slice a7 qc4.subs.length cap7)).toArray)], (ak hk 7 (ak hk 8 (ak hk 9 (agree_nil _)))), ?_⟩
  refine WL.buildSlice (vs := [.agg (tcells qc2 (.slice a1 qc2.subs.length cap1)).toArray, .agg (tcells qc3 (.slice a4 qc3.subs.length cap4)).toArray, .agg (tcells qc4 (.slice a7 qc4.subs.length cap7)).toArray]) (cells := (tcells qc2 (.slice a1 qc2.subs.length cap1) ++ tcells qc3 (.slice a4 qc3.subs.length cap4) ++ tcells qc4 (.slice a7 qc4.subs.length cap7))) rfl rfl Ty.slice27 Ty.zero29 rfl rfl rfl rfl rfl rfl (fun b129 w134 hb130 hE133 hs131 hR132 => ?_)
  have hts129 := (NodesV.lit (n := 3) (ts := [qc2, qc3, qc4]) hR132 (RowsL.cons ((h98.ext hE1).ext hE133) (RowsL.cons ((h100.ext hE1).ext hE133) (RowsL.cons ((h102.ext hE1).ext hE133) (RowsL.nil' _)))) rfl rfl (by decide)).lt
  exact dqE hbi hE133 ⟨_, _, rfl, (hts129.dom (by intro k h1; refine ⟨trivial, ?_, h1.2⟩; replace h1 := h1.1; intro x hxm; have hi := hbi.hi x hxm; have lo := hbi.lo x hxm; (try dsimp only at h1); (repeat' first | (guard_hyp h1 : _ ∨ _; refine Or.elim h1 (fun h1 => ?_) (fun h1 => ?_)) | (guard_hyp h1 : _ ∧ _; have hx := h1.2; replace h1 := h1.1)) <;> first | contradiction | omega | exact hx.1 x hxm))⟩
 ·intro σ β w1 hE1 hbi hk
  obtain ⟨_, hv126, a126, cap126, rfl, hts126⟩ := kn hk 10 rfl rfl
  have hts126 := hts126.lt
  have hlen126 := hts126.len
  refine ⟨[(79, .slice a126 (([qc2, qc3, qc4]).length) cap126)], (ag hv126 (agree_nil _)), ?_⟩
  refine WL.call rfl rfl rfl Ty.ent10 (seq_ok _ _ _ _ ([qc2, qc3, qc4]) hts126 (Nat.le_of_ble_eq_true rfl)) ?_
  rintro _ w129 ⟨l127, rfl, hr127, hE128⟩
  refine ⟨_, rfl, ?_⟩
  have hn127 := hr127.lt
  obtain ⟨a127, cap127, rfl, hts127, hlen127⟩ := hn127.op2
  exact dqE hbi hE128 ⟨_, rfl, (hr127.off0 hbi (fun k hk => Nat.le_trans hE1.size hk))⟩
 ·intro σ β w1 hE1 hbi hk
  obtain ⟨_, hv126, l126, rfl, hn126⟩ := kn hk 6 rfl rfl
  have hn126 := hn126.lt
  obtain ⟨a126, cap126, rfl, hts126, hlen126⟩ := hn126.op2
  obtain ⟨_, hv127, l127, rfl, hn127⟩ := kn hk 11 rfl rfl
  have hn127 := hn127.lt
  obtain ⟨a127, cap127, rfl, hts127, hlen127⟩ := hn127.op2
  refine ⟨[(75, .agg (tcells (Nd.seq ([qc2, (Nd.seq ([qc3, qc4]))])) (.slice a126 (Nd.seq ([qc2, (Nd.seq ([qc3, qc4]))])).subs.length cap126)).toArray), (80, .agg (tcells (Nd.seq ([qc2, qc3, qc4])) (.slice a127 (Nd.seq ([qc2, qc3, qc4])).subs.length cap127)).toArray)], (ag hv126 (ag hv127 (agree_nil _))), ?_⟩
  refine WL.call rfl rfl rfl Ty.ent14 (Same_ok _ _ _ _ _ (Nd.seq ([qc2, (Nd.seq ([qc3, qc4]))])) (Nd.seq ([qc2, qc3, qc4])) hn126 hn127) ?_
  rintro _ w129 ⟨he, hE128⟩
  have hq : (Nd.light (Nd.seq ([qc2, (Nd.seq ([qc3, qc4]))])) && Nd.light (Nd.seq ([qc2, qc3, qc4])) && Nd.same (Nd.seq ([qc2, (Nd.seq ([qc3, qc4]))])) (Nd.seq ([qc2, qc3, qc4]))) = true := (by kernel_rfl)
  rw [hq] at he
  subst he
  clear hq
  refine ⟨_, rfl, ?_⟩
  exact dqE hbi hE128 rfl
 ·intro σ β w1 hE1 hbi hk
  refine ⟨[(81, .bool true)], (ak hk 12 (agree_nil _)), ?_⟩
  refine WL.not rfl rfl rfl ?_
  exact dq hbi rfl
 ·intro σ β w1 hE1 hbi hk
  refine ⟨[(82, .bool false)], (ak hk 13 (agree_nil _)), ?_⟩
  refine mv ?_
  exact dq hbi rfl
 ·intro σ β w1 hE1 hbi hk
  refine ⟨[(83, .bool false)], (ak hk 14 (agree_nil _)), ?_⟩
  refine WL.build0 (l := (zc 0 0 0 (.slice none 0 0))) rfl rfl Ty.zero29 Ty.agg29 rfl Ty.bz29 ?_
  have hn127 : NodeL _ w1 (zc 0 0 0 (.slice none 0 0)) qc5 := NodeL.shut (k := 0) (s := Nd.zero) (mn := 0) (mx := 0) (sl := .slice none 0 0) (ts := []) (NodesV.nil (fun _ => False) _ none 0)
  have hn127 := hn127.lt
  exact dq hbi rfl
 ·intro σ β w1 hE1 hbi hk
  refine ⟨[(83, .bool false)], (ak hk 14 (agree_nil _)), ?_⟩
  refine WL.load_box rfl rfl rfl (h97.ext hE1) Ty.agg29 ?_
  exact dq hbi rfl
 ·intro σ β w1 hE1 hbi hk
  have hz1 := hE1.size
  have hn128 : NodeL _ w1 (zc 0 0 0 (.slice none 0 0)) qc5 := NodeL.shut (k := 0) (s := Nd.zero) (mn := 0) (mx := 0) (sl := .slice none 0 0) (ts := []) (NodesV.nil (fun _ => False) _ none 0)
  have hn128 := hn128.lt
  refine ⟨[(83, .bool false), (84, .agg (zc 0 0 0 (.slice none 0 0)).toArray), (85, .agg (tcells qc2 (.slice a1 qc2.subs.length cap1)).toArray)], (ak hk 14 (ak hk 15 (ak hk 16 (agree_nil _)))), ?_⟩
  refine WL.buildSlice (vs := [.agg (zc 0 0 0 (.slice none 0 0)).toArray, .agg (tcells qc2 (.slice a1 qc2.subs.length cap1)).toArray]) (cells := (zc 0 0 0 (.slice none 0 0) ++ tcells qc2 (.slice a1 qc2.subs.length cap1))) rfl rfl Ty.slice27 Ty.zero29 rfl rfl rfl rfl rfl rfl (fun b130 w135 hb131 hE134 hs132 hR133 => ?_)
  have hts130 := (NodesV.lit (n := 2) (ts := [qc5, qc2]) hR133 (RowsL.cons (hn128.ext hE134) (RowsL.cons ((h98.ext hE1).ext hE134) (RowsL.nil' _))) rfl rfl (by decide)).lt
  exact dqE hbi hE134 ⟨_, _, rfl, (hts130.dom (by intro k h1; refine ⟨trivial, ?_, h1.2⟩; replace h1 := h1.1; intro x hxm; have hi := hbi.hi x hxm; have lo := hbi.lo x hxm; (try dsimp only at h1); (repeat' first | (guard_hyp h1 : _ ∨ _; refine Or.elim h1 (fun h1 => ?_) (fun h1 => ?_)) | (guard_hyp h1 : _ ∧ _; have hx := h1.2; replace h1 := h1.1)) <;> first | contradiction | omega | exact hx.1 x hxm))⟩
 ·intro σ β w1 hE1 hbi hk
  obtain ⟨_, hv127, a127, cap127, rfl, hts127⟩ := kn hk 17 rfl rfl
  have hts127 := hts127.lt
  have hlen127 := hts127.len
  refine ⟨[(83, .bool false), (86, .slice a127 (([qc5, qc2]).length) cap127)], (ak hk 14 (ag hv127 (agree_nil _))), ?_⟩
  refine WL.call rfl rfl rfl Ty.ent11 (or_ok _ _ _ _ ([qc5, qc2]) hts127 (Nat.le_of_ble_eq_true rfl)) ?_
  rintro _ w130 ⟨l128, rfl, hr128, hE129⟩
  refine ⟨_, rfl, ?_⟩
  have hn128 := hr128.lt
  obtain ⟨a128, cap128, rfl, hts128, hlen128⟩ := hn128.op2
  exact dqE hbi hE129 ⟨_, rfl, (hr128.off0 hbi (fun k hk => Nat.le_trans hE1.size hk))⟩
 ·intro σ β w1 hE1 hbi hk
  refine ⟨[(83, .bool false)], (ak hk 14 (agree_nil _)), ?_⟩
  refine WL.load_box rfl rfl rfl (h97.ext hE1) Ty.agg29 ?_
  exact dq hbi rfl
 ·intro σ β w1 hE1 hbi hk
  obtain ⟨_, hv127, l127, rfl, hn127⟩ := kn hk 18 rfl rfl
  have hn127 := hn127.lt
  obtain ⟨a127, cap127, rfl, hts127, hlen127⟩ := hn127.op2
  refine ⟨[(83, .bool false), (87, .agg (tcells (Nd.or ([qc5, qc2])) (.slice a127 (Nd.or ([qc5, qc2])).subs.length cap127)).toArray), (88, .agg (tcells qc2 (.slice a1 qc2.subs.length cap1)).toArray)], (ak hk 14 (ag hv127 (ak hk 19 (agree_nil _)))), ?_⟩
  refine WL.call rfl rfl rfl Ty.ent14 (Same_ok _ _ _ _ _ (Nd.or ([qc5, qc2])) qc2 hn127 (h98.ext hE1)) ?_
  rintro _ w130 ⟨he, hE129⟩
  have hq : (Nd.light (Nd.or ([qc5, qc2])) && Nd.light qc2 && Nd.same (Nd.or ([qc5, qc2])) qc2) = true := (by kernel_rfl)
  rw [hq] at he
  subst he
  clear hq
  refine ⟨_, rfl, ?_⟩
  exact dqE hbi hE129 rfl
 ·intro σ β w1 hE1 hbi hk
  refine ⟨[(83, .bool false), (89, .bool true)], (ak hk 14 (ak hk 20 (agree_nil _))), ?_⟩
  refine WL.not rfl rfl rfl ?_
  exact dq hbi rfl
 ·intro σ β w1 hE1 hbi hk
  refine ⟨[(83, .bool false), (90, .bool false)], (ak hk 14 (ak hk 21 (agree_nil _))), ?_⟩
  refine pF ?_
  exact dq hbi rfl
 ·intro σ β w1 hE1 hbi hk
  refine ⟨[(91, .bool false)], (ak hk 22 (agree_nil _)), ?_⟩
  refine mv ?_
  exact dq hbi rfl
 ·intro σ β w1 hE1 hbi hk
  refine ⟨[(92, .bool false)], (ak hk 23 (agree_nil _)), ?_⟩
  refine WL.load_box rfl rfl rfl (h97.ext hE1) Ty.agg29 ?_
  exact dq hbi rfl
 ·intro σ β w1 hE1 hbi hk
  refine ⟨[(92, .bool false), (93, .agg (tcells qc2 (.slice a1 qc2.subs.length cap1)).toArray)], (ak hk 23 (ak hk 24 (agree_nil _))), ?_⟩
  refine WL.call rfl rfl rfl Ty.ent19 (times_ok _ _ _ qc2 1 1 (h98.ext hE1)) ?_
  rintro _ w130 ⟨l128, rfl, hr128, hE129⟩
  refine ⟨_, rfl, ?_⟩
  have hn128 := hr128.lt
  obtain ⟨a128, cap128, rfl, hts128, hlen128⟩ := hn128.op2
  exact dqE hbi hE129 ⟨_, rfl, (hr128.off0 hbi (fun k hk => Nat.le_trans hE1.size hk))⟩
 ·intro σ β w1 hE1 hbi hk
  refine ⟨[(92, .bool false)], (ak hk 23 (agree_nil _)), ?_⟩
  refine WL.load_box rfl rfl rfl (h97.ext hE1) Ty.agg29 ?_
  exact dq hbi rfl
 ·intro σ β w1 hE1 hbi hk
  obtain ⟨_, hv127, l127, rfl, hn127⟩ := kn hk 25 rfl rfl
  have hn127 := hn127.lt
  obtain ⟨a127, cap127, rfl, hts127, hlen127⟩ := hn127.op2
  refine ⟨[(92, .bool false), (94, .agg (tcells (Nd.times qc2 1 1) (.slice a127 (Nd.times qc2 1 1).subs.length cap127)).toArray), (95, .agg (tcells qc2 (.slice a1 qc2.subs.length cap1)).toArray)], (ak hk 23 (ag hv127 (ak hk 26 (agree_nil _)))), ?_⟩
  refine WL.call rfl rfl rfl Ty.ent14 (Same_ok _ _ _ _ _ (Nd.times qc2 1 1) qc2 hn127 (h98.ext hE1)) ?_
  rintro _ w130 ⟨he, hE129⟩
  have hq : (Nd.light (Nd.times qc2 1 1) && Nd.light qc2 && Nd.same (Nd.times qc2 1 1) qc2) = true := (by kernel_rfl)
  rw [hq] at he
  subst he
  clear hq
  refine ⟨_, rfl, ?_⟩
  exact dqE hbi hE129 rfl
 ·intro σ β w1 hE1 hbi hk
  refine ⟨[(92, .bool false), (96, .bool true)], (ak hk 23 (ak hk 27 (agree_nil _))), ?_⟩
  refine WL.not rfl rfl rfl ?_
  exact dq hbi rfl
 ·intro σ β w1 hE1 hbi hk
  refine ⟨[(92, .bool false), (97, .bool false)], (ak hk 23 (ak hk 28 (agree_nil _))), ?_⟩
  refine pF ?_
  exact dq hbi rfl
 ·intro σ β w1 hE1 hbi hk
  refine ⟨[(98, .bool false)], (ak hk 29 (agree_nil _)), ?_⟩
  refine mv ?_
  exact dq hbi rfl
 ·intro σ β w1 hE1 hbi hk
  refine ⟨[(99, .bool false)], (ak hk 30 (agree_nil _)), ?_⟩
  refine WL.build0 (l := (zc 0 0 0 (.slice none 0 0))) rfl rfl Ty.zero29 Ty.agg29 rfl Ty.bz29 ?_
  have hn127 : NodeL _ w1 (zc 0 0 0 (.slice none 0 0)) qc5 := NodeL.shut (k := 0) (s := Nd.zero) (mn := 0) (mx := 0) (sl := .slice none 0 0) (ts := []) (NodesV.nil (fun _ => False) _ none 0)
  have hn127 := hn127.lt
  exact dq hbi rfl
 ·intro σ β w1 hE1 hbi hk
  have hn128 : NodeL _ w1 (zc 0 0 0 (.slice none 0 0)) qc5 := NodeL.shut (k := 0) (s := Nd.zero) (mn := 0) (mx := 0) (sl := .slice none 0 0) (ts := []) (NodesV.nil (fun _ => False) _ none 0)
  have hn128 := hn128.lt
  refine ⟨[(99, .bool false), (100, .agg (zc 0 0 0 (.slice none 0 0)).toArray)], (ak hk 30 (ak hk 31 (agree_nil _))), ?_⟩
  refine WL.call rfl rfl rfl Ty.ent19 (times_ok _ _ _ qc5 0 (-1) hn128) ?_
  rintro _ w131 ⟨l129, rfl, hr129, hE130⟩
  refine ⟨_, rfl, ?_⟩
  have hn129 := hr129.lt
  obtain ⟨a129, cap129, rfl, hts129, hlen129⟩ := hn129.op2
  exact dqE hbi hE130 ⟨_, rfl, (hr129.off0 hbi (fun k hk => Nat.le_trans hE1.size hk))⟩
 ·intro σ β w1 hE1 hbi hk
  refine ⟨[(99, .bool false)], (ak hk 30 (agree_nil _)), ?_⟩
  refine WL.load_box rfl rfl rfl (h103.ext hE1) Ty.agg29 ?_
  exact dq hbi rfl
 ·intro σ β w1 hE1 hbi hk
  obtain ⟨_, hv127, l127, rfl, hn127⟩ := kn hk 32 rfl rfl
  have hn127 := hn127.lt
  obtain ⟨a127, cap127, rfl, hts127, hlen127⟩ := hn127.op2
  refine ⟨[(99, .bool false), (101, .agg (tcells (Nd.times qc5 0 (-1)) (.slice a127 (Nd.times qc5 0 (-1)).subs.length cap127)).toArray), (102, .agg (zc 1 0 0 (.slice none 0 0)).toArray)], (ak hk 30 (ag hv127 (ak hk 33 (agree_nil _)))), ?_⟩
  refine WL.call rfl rfl rfl Ty.ent14 (Same_ok _ _ _ _ _ (Nd.times qc5 0 (-1)) (Nd.mk 1 Nd.zero 0 0 ([])) hn127 (h104.ext hE1)) ?_
  rintro _ w130 ⟨he, hE129⟩
  have hq : (Nd.light (Nd.times qc5 0 (-1)) && Nd.light (Nd.mk 1 Nd.zero 0 0 ([])) && Nd.same (Nd.times qc5 0 (-1)) (Nd.mk 1 Nd.zero 0 0 ([]))) = true := (by kernel_rfl)
  rw [hq] at he
  subst he
  clear hq
  refine ⟨_, rfl, ?_⟩
  exact dqE hbi hE129 rfl
 ·intro σ β w1 hE1 hbi hk
  refine ⟨[(99, .bool false), (103, .bool true)], (ak hk 30 (ak hk 34 (agree_nil _))), ?_⟩
  refine WL.not rfl rfl rfl ?_
  exact dq hbi rfl
 ·intro σ β w1 hE1 hbi hk
  refine ⟨[(99, .bool false), (104, .bool false)], (ak hk 30 (ak hk 35 (agree_nil _))), ?_⟩
  refine pF ?_
  exact dq hbi rfl
 intro σ β w106 hE106 hbi106 hk
 have hz106 := hE106.size
 have hbi := hbi106
 refine WL.know [(105, .bool false)] (aj hk 36 (agree_nil _)) ?_
 refine WL.dn ?_
 refine cF ?_
 refine WC.sk ?_
 refine WC.seqk ?_
 refine WC.seqk ?_
 have h108 := ((h92.ext hE94).ext hE106)
 have h109 := ((h93.ext hE94).ext hE106)
 refine WC.weaken (r' := [(0, .bool false), (1, pt b11 0), (2, pt b17 0), (3, pt b23 0), (68, .bool false), (105, .bool false)]) (s4 (sr rfl (sr rfl (subReg_nil _)))) ?_
 refine WC.draw 21 [106, 107, 108, 109, 110, 111, 112, 113, 114, 115, 116, 117, 118, 119, 120, 121, 122, 123, 124, 125, 126] [pc (.agg (tcells qc2 (.slice a1 qc2.subs.length cap1)).toArray), pnodes (fun _ => True) ([qc2]), pnode (fun _ => True) qc11, pc (.agg (tcells qc2 (.slice a1 qc2.subs.length cap1)).toArray), pc (.agg (tcells qc3 (.slice a4 qc3.subs.length cap4)).toArray), pc (.agg (tcells qc4 (.slice a7 qc4.subs.length cap7)).toArray), pnodes (fun _ => True) ([qc3, qc4]), pnode (fun _ => True) qc13, pnodes (fun _ => True) ([qc2, qc13]), pnode (fun _ => True) qc16, pc (.agg (tcells qc2 (.slice a1 qc2.subs.length cap1)).toArray), pnode (fun _ => True) qc9, pc (.agg (tcells qc2 (.slice a1 qc2.subs.length cap1)).toArray), pnode (fun _ => True) qc10, pnode (fun k => w106.heap.size ≤ k) qc1, pc (pt b11 1), pc (.agg #[.int .u64 qc2.set.a, .int .u64 qc2.set.b, .int .u64 qc2.set.c, .int .u64 qc2.set.d]), pc (.agg #[.int .u8 2, .int .u64 qc2.set.a, .int .u64 qc2.set.b, .int .u64 qc2.set.c, .int .u64 qc2.set.d, .int .i64 1, .int .i64 0, .slice none 0 0]), pnodes (fun _ => True) ([qc11, qc16, qc9, qc10, qc1, (Nd.mk 2 (qc2.set) 1 0 ([]))]), pc (.int .i64 6), pc (.int .i64 0)] (by kernel_rfl) (by kernel_rfl) ⟨KW_pc _, KW_pnodes _ _, KW_pnode _ _, KW_pc _, KW_pc _, KW_pc _, KW_pnodes _ _, KW_pnode _ _, KW_pnodes _ _, KW_pnode _ _, KW_pc _, KW_pnode _ _, KW_pc _, KW_pnode _ _, KW_pnode _ _, KW_pc _, KW_pc _, KW_pc _, KW_pnodes _ _, KW_pc _, KW_pc _, trivial⟩ rfl rfl rfl (sc4 ?_ ?_ ?_ ?_ (sc4 ?_ ?_ ?_ ?_ (sc4 ?_ ?_ ?_ ?_ (sc4 ?_ ?_ ?_ ?_ (sc4 ?_ ?_ ?_ ?_ (sc ?_ (StepsOn.nil _))))))) ?_
 ·intro σ β w1 hE1 hbi hk
  refine ⟨[], (agree_nil _), ?_⟩
  have h130 := ((h97.ext hE106).ext hE1)
  refine WL.load_box rfl rfl rfl h130 Ty.agg29 ?_
  exact dq hbi rfl
 ·intro σ β w1 hE1 hbi hk
  have hz1 := hE1.size
  refine ⟨[(106, .agg (tcells qc2 (.slice a1 qc2.subs.length cap1)).toArray)], (ak hk 0 (agree_nil _)), ?_⟩
  have h131 := ((h98.ext hE106).ext hE1)
  refine WL.buildSlice (vs := [.agg (tcells qc2 (.slice a1 qc2.subs.length cap1)).toArray]) (cells := (tcells qc2 (.slice a1 qc2.subs.length cap1))) rfl rfl Ty.slice27 Ty.zero29 rfl rfl rfl rfl rfl rfl (fun b132 w137 hb133 hE136 hs134 hR135 => ?_)
  have hts132 := (NodesV.lit (n := 1) (ts := [qc2]) hR135 (RowsL.cons (h131.ext hE136) (RowsL.nil' _)) rfl rfl (by decide)).lt
  exact dqE hbi hE136 ⟨_, _, rfl, (hts132.dom (by intro k h1; refine ⟨trivial, ?_, h1.2⟩; replace h1 := h1.1; intro x hxm; have hi := hbi.hi x hxm; have lo := hbi.lo x hxm; (try dsimp only at h1); (repeat' first | (guard_hyp h1 : _ ∨ _; refine Or.elim h1 (fun h1 => ?_) (fun h1 => ?_)) | (guard_hyp h1 : _ ∧ _; have hx := h1.2; replace h1 := h1.1)) <;> first | contradiction | omega | exact hx.1 x hxm))⟩
 ·intro σ β w1 hE1 hbi hk
  have hz1 := hE1.size
  obtain ⟨_, hv130, a130, cap130, rfl, hts130⟩ := kn hk 1 rfl rfl
  have hts130 := hts130.lt
  have hlen130 := hts130.len
  refine ⟨[(107, .slice a130 (([qc2]).length) cap130)], (ag hv130 (agree_nil _)), ?_⟩
  refine WL.call rfl rfl rfl Ty.ent21 (cat_ok _ _ _ _ ([qc2]) hts130) ?_
  rintro _ w133 ⟨l131, rfl, hr131, hE132⟩
  have hzhE132 := hE132.size
  refine ⟨_, rfl, ?_⟩
  have hn131 := hr131.lt
  obtain ⟨a131, cap131, rfl, hts131, hlen131⟩ := hn131.op2
  exact dqE hbi hE132 ⟨_, rfl, (hr131.lt.dom (by intro k h1; refine ⟨trivial, ?_, h1.2⟩; replace h1 := h1.1; intro x hxm; have hi := hbi.hi x hxm; have lo := hbi.lo x hxm; (try dsimp only at h1); (repeat' first | (guard_hyp h1 : _ ∨ _; refine Or.elim h1 (fun h1 => ?_) (fun h1 => ?_)) | (guard_hyp h1 : _ ∧ _; have hx := h1.2; replace h1 := h1.1)) <;> first | contradiction | omega | exact hx.1 x hxm))⟩
 ·intro σ β w1 hE1 hbi hk
  refine ⟨[], (agree_nil _), ?_⟩
  have h130 := ((h97.ext hE106).ext hE1)
  refine WL.load_box rfl rfl rfl h130 Ty.agg29 ?_
  exact dq hbi rfl
 ·intro σ β w1 hE1 hbi hk
  refine ⟨[], (agree_nil _), ?_⟩
  have h130 := ((h99.ext hE106).ext hE1)
  refine WL.load_box rfl rfl rfl h130 Ty.agg29 ?_
  exact dq hbi rfl
 ·intro σ β w1 hE1 hbi hk
  refine ⟨[], (agree_nil _), ?_⟩
  have h130 := ((h101.ext hE106).ext hE1)
  refine WL.load_box rfl rfl rfl h130 Ty.agg29 ?_
  exact dq hbi rfl
 ·intro σ β w1 hE1 hbi hk
  have hz1 := hE1.size
  refine ⟨[(110, .agg (tcells qc3 (.slice a4 qc3.subs.length cap4)).toArray), (111, .agg (tcells qc4 (.slice a7 qc4.subs.length cap7)).toArray)], (ak hk 4 (ak hk 5 (agree_nil _))), ?_⟩
  have h132 := ((h100.ext hE106).ext hE1)
  have h133 := ((h102.ext hE106).ext hE1)
  refine WL.buildSlice (vs := [.agg (tcells qc3 (.slice a4 qc3.subs.length cap4)).toArray, .agg (tcells qc4 (.slice a7 qc4.subs.length cap7)).toArray]) (cells := (tcells qc3 (.slice a4 qc3.subs.length cap4) ++ tcells qc4 (.slice a7 qc4.subs.length cap7))) rfl rfl Ty.slice27 Ty.zero29 rfl rfl rfl rfl rfl rfl (fun b134 w139 hb135 hE138 hs136 hR137 => ?_)
  have hts134 := (NodesV.lit (n := 2) (ts := [qc3, qc4]) hR137 (RowsL.cons (h132.ext hE138) (RowsL.cons (h133.ext hE138) (RowsL.nil' _))) rfl rfl (by decide)).lt
  exact dqE hbi hE138 ⟨_, _, rfl, (hts134.dom (by intro k h1; refine ⟨trivial, ?_, h1.2⟩; replace h1 := h1.1; intro x hxm; have hi := hbi.hi x hxm; have lo := hbi.lo x hxm; (try dsimp only at h1); (repeat' first | (guard_hyp h1 : _ ∨ _; refine Or.elim h1 (fun h1 => ?_) (fun h1 => ?_)) | (guard_hyp h1 : _ ∧ _; have hx := h1.2; replace h1 := h1.1)) <;> first | contradiction | omega | exact hx.1 x hxm))⟩
 ·intro σ β w1 hE1 hbi hk
  have hz1 := hE1.size
  obtain ⟨_, hv130, a130, cap130, rfl, hts130⟩ := kn hk 6 rfl rfl
  have hts130 := hts130.lt
  have hlen130 := hts130.len
  refine ⟨[(112, .slice a130 (([qc3, qc4]).length) cap130)], (ag hv130 (agree_nil _)), ?_⟩
  refine WL.call rfl rfl rfl Ty.ent22 (alt_ok _ _ _ _ ([qc3, qc4]) hts130) ?_
  rintro _ w133 ⟨l131, rfl, hr131, hE132⟩
  have hzhE132 := hE132.size
  refine ⟨_, rfl, ?_⟩
  have hn131 := hr131.lt
  obtain ⟨a131, cap131, rfl, hts131, hlen131⟩ := hn131.op2
  exact dqE hbi hE132 ⟨_, rfl, (hr131.lt.dom (by intro k h1; refine ⟨trivial, ?_, h1.2⟩; replace h1 := h1.1; intro x hxm; have hi := hbi.hi x hxm; have lo := hbi.lo x hxm; (try dsimp only at h1); (repeat' first | (guard_hyp h1 : _ ∨ _; refine Or.elim h1 (fun h1 => ?_) (fun h1 => ?_)) | (guard_hyp h1 : _ ∧ _; have hx := h1.2; replace h1 := h1.1)) <;> first | contradiction | omega | exact hx.1 x hxm))⟩
 ·intro σ β w1 hE1 hbi hk
  have hz1 := hE1.size
  obtain ⟨_, hv131, l131, rfl, hn131⟩ := kn hk 7 rfl rfl
  have hn131 := hn131.lt
  obtain ⟨a131, cap131, rfl, hts131, hlen131⟩ := hn131.op2
  refine ⟨[(109, .agg (tcells qc2 (.slice a1 qc2.subs.length cap1)).toArray), (113, .agg (tcells qc13 (.slice a131 qc13.subs.length cap131)).toArray)], (ak hk 3 (ag hv131 (agree_nil _))), ?_⟩
  have h132 := ((h98.ext hE106).ext hE1)
  refine WL.buildSlice (vs := [.agg (tcells qc2 (.slice a1 qc2.subs.length cap1)).toArray, .agg (tcells qc13 (.slice a131 qc13.subs.length cap131)).toArray]) (cells := (tcells qc2 (.slice a1 qc2.subs.length cap1) ++ tcells qc13 (.slice a131 qc13.subs.length cap131))) rfl rfl Ty.slice27 Ty.zero29 rfl rfl rfl rfl rfl rfl (fun b133 w138 hb134 hE137 hs135 hR136 => ?_)
  have hts133 := (NodesV.lit (n := 2) (ts := [qc2, qc13]) hR136 (RowsL.cons (h132.ext hE137) (RowsL.cons (hn131.ext hE137) (RowsL.nil' _))) rfl rfl (by decide)).lt
  exact dqE hbi hE137 ⟨_, _, rfl, (hts133.dom (by intro k h1; refine ⟨trivial, ?_, h1.2⟩; replace h1 := h1.1; intro x hxm; have hi := hbi.hi x hxm; have lo := hbi.lo x hxm; (try dsimp only at h1); (repeat' first | (guard_hyp h1 : _ ∨ _; refine Or.elim h1 (fun h1 => ?_) (fun h1 => ?_)) | (guard_hyp h1 : _ ∧ _; have hx := h1.2; replace h1 := h1.1)) <;> first | contradiction | omega | exact hx.1 x hxm))⟩
 ·intro σ β w1 hE1 hbi hk
  have hz1 := hE1.size
  obtain ⟨_, hv130, a130, cap130, rfl, hts130⟩ := kn hk 8 rfl rfl
  have hts130 := hts130.lt
  have hlen130 := hts130.len
  refine ⟨[(114, .slice a130 (([qc2, qc13]).length) cap130)], (ag hv130 (agree_nil _)), ?_⟩
  refine WL.call rfl rfl rfl Ty.ent22 (alt_ok _ _ _ _ ([qc2, qc13]) hts130) ?_
  rintro _ w133 ⟨l131, rfl, hr131, hE132⟩
  have hzhE132 := hE132.size
  refine ⟨_, rfl, ?_⟩
  have hn131 := hr131.lt
  obtain ⟨a131, cap131, rfl, hts131, hlen131⟩ := hn131.op2
  exact dqE hbi hE132 ⟨_, rfl, (hr131.lt.dom (by intro k h1; refine ⟨trivial, ?_, h1.2⟩; replace h1 := h1.1; intro x hxm; have hi := hbi.hi x hxm; have lo := hbi.lo x hxm; (try dsimp only at h1); (repeat' first | (guard_hyp h1 : _ ∨ _; refine Or.elim h1 (fun h1 => ?_) (fun h1 => ?_)) | (guard_hyp h1 : _ ∧ _; have hx := h1.2; replace h1 := h1.1)) <;> first | contradiction | omega | exact hx.1 x hxm))⟩
 ·intro σ β w1 hE1 hbi hk
  refine ⟨[], (agree_nil _), ?_⟩
  have h130 := ((h97.ext hE106).ext hE1)
  refine WL.load_box rfl rfl rfl h130 Ty.agg29 ?_
  exact dq hbi rfl
 ·intro σ β w1 hE1 hbi hk
  have hz1 := hE1.size
  refine ⟨[(116, .agg (tcells qc2 (.slice a1 qc2.subs.length cap1)).toArray)], (ak hk 10 (agree_nil _)), ?_⟩
  have h131 := ((h98.ext hE106).ext hE1)
  refine WL.call rfl rfl rfl Ty.ent23 (rep_ok _ _ _ qc2 1 1 h131) ?_
  rintro _ w134 ⟨l132, rfl, hr132, hE133⟩
  have hzhE133 := hE133.size
  refine ⟨_, rfl, ?_⟩
  have hn132 := hr132.lt
  obtain ⟨a132, cap132, rfl, hts132, hlen132⟩ := hn132.op2
  exact dqE hbi hE133 ⟨_, rfl, (hr132.lt.dom (by intro k h1; refine ⟨trivial, ?_, h1.2⟩; replace h1 := h1.1; intro x hxm; have hi := hbi.hi x hxm; have lo := hbi.lo x hxm; (try dsimp only at h1); (repeat' first | (guard_hyp h1 : _ ∨ _; refine Or.elim h1 (fun h1 => ?_) (fun h1 => ?_)) | (guard_hyp h1 : _ ∧ _; have hx := h1.2; replace h1 := h1.1)) <;> first | contradiction | omega | exact hx.1 x hxm))⟩
 ·intro σ β w1 hE1 hbi hk
  refine ⟨[], (agree_nil _), ?_⟩
  have h130 := ((h97.ext hE106).ext hE1)
  refine WL.load_box rfl rfl rfl h130 Ty.agg29 ?_
  exact dq hbi rfl
 ·intro σ β w1 hE1 hbi hk
  have hz1 := hE1.size
  refine ⟨[(118, .agg (tcells qc2 (.slice a1 qc2.subs.length cap1)).toArray)], (ak hk 12 (agree_nil _)), ?_⟩
  have h131 := ((h98.ext hE106).ext hE1)
  refine WL.call rfl rfl rfl Ty.ent23 (rep_ok _ _ _ qc2 3 2 h131) ?_
  rintro _ w134 ⟨l132, rfl, hr132, hE133⟩
  have hzhE133 := hE133.size
  refine ⟨_, rfl, ?_⟩
  have hn132 := hr132.lt
  obtain ⟨a132, cap132, rfl, hts132, hlen132⟩ := hn132.op2
  exact dqE hbi hE133 ⟨_, rfl, (hr132.lt.dom (by intro k h1; refine ⟨trivial, ?_, h1.2⟩; replace h1 := h1.1; intro x hxm; have hi := hbi.hi x hxm; have lo := hbi.lo x hxm; (try dsimp only at h1); (repeat' first | (guard_hyp h1 : _ ∨ _; refine Or.elim h1 (fun h1 => ?_) (fun h1 => ?_)) | (guard_hyp h1 : _ ∧ _; have hx := h1.2; replace h1 := h1.1)) <;> first | contradiction | omega | exact hx.1 x hxm))⟩
 ·intro σ β w1 hE1 hbi hk
  have hz1 := hE1.size
  refine ⟨[], (agree_nil _), ?_⟩
  refine WL.call rfl rfl rfl Ty.ent20 (class_ok _ ([]) (by first | decide | exact Nd.lettersS_len _)) ?_
  rintro _ w132 ⟨l130, rfl, hr130, hE131⟩
  refine ⟨_, rfl, ?_⟩
  have hn130 := hr130.lt
  obtain ⟨a130, cap130, rfl, hts130, hlen130⟩ := hn130.op2
  exact dqE hbi hE131 ⟨_, rfl, (hr130.off0 hbi (fun k hk => Nat.le_trans hE1.size hk))⟩
 ·intro σ β w1 hE1 hbi hk
  refine ⟨[], (agree_nil _), ?_⟩
  refine WL.fieldAddr rfl rfl Ty.fld29_1 rfl ?_
  exact dq hbi rfl
 ·intro σ β w1 hE1 hbi hk
  refine ⟨[(121, pt b11 1)], (ak hk 15 (agree_nil _)), ?_⟩
  have h131 := ((h97.ext hE106).ext hE1)
  refine WL.load_part 4 rfl rfl rfl h131 rfl Ty.agg26 ?_
  exact dq hbi rfl
 ·intro σ β w1 hE1 hbi hk
  refine ⟨[(122, .agg #[.int .u64 qc2.set.a, .int .u64 qc2.set.b, .int .u64 qc2.set.c, .int .u64 qc2.set.d])], (ak hk 16 (agree_nil _)), ?_⟩
  refine WL.build (l := [.int .u8 2, .int .u64 qc2.set.a, .int .u64 qc2.set.b, .int .u64 qc2.set.c, .int .u64 qc2.set.d, .int .i64 1, .int .i64 0, .slice none 0 0]) rfl rfl Ty.zero29 Ty.st29 ⟨⟨rfl, rfl⟩, (by kernel_rfl)⟩ ?_
  have hn131 : NodeL _ w1 [.int .u8 2, .int .u64 qc2.set.a, .int .u64 qc2.set.b, .int .u64 qc2.set.c, .int .u64 qc2.set.d, .int .i64 1, .int .i64 0, .slice none 0 0] (Nd.mk 2 (qc2.set) 1 0 ([])) := NodeL.shut (k := 2) (s := qc2.set) (mn := 1) (mx := 0) (sl := .slice none 0 0) (ts := []) (NodesV.nil (fun _ => False) _ none 0)
  have hn131 := hn131.lt
  exact dq hbi rfl
 ·intro σ β w1 hE1 hbi hk
  have hz1 := hE1.size
  obtain ⟨_, hv130, l130, rfl, hn130⟩ := kn hk 2 rfl rfl
  have hn130 := hn130.lt
  obtain ⟨a130, cap130, rfl, hts130, hlen130⟩ := hn130.op2
  obtain ⟨_, hv131, l131, rfl, hn131⟩ := kn hk 9 rfl rfl
  have hn131 := hn131.lt
  obtain ⟨a131, cap131, rfl, hts131, hlen131⟩ := hn131.op2
  obtain ⟨_, hv132, l132, rfl, hn132⟩ := kn hk 11 rfl rfl
  have hn132 := hn132.lt
  obtain ⟨a132, cap132, rfl, hts132, hlen132⟩ := hn132.op2
  obtain ⟨_, hv133, l133, rfl, hn133⟩ := kn hk 13 rfl rfl
  have hn133 := hn133.lt
  obtain ⟨a133, cap133, rfl, hts133, hlen133⟩ := hn133.op2
  obtain ⟨_, hv134, l134, rfl, hn134⟩ := kn hk 14 rfl rfl
  have hn134 := hn134.lt
  obtain ⟨a134, cap134, rfl, hts134, hlen134⟩ := hn134.op2
  have hn136 : NodeL _ w1 [.int .u8 2, .int .u64 qc2.set.a, .int .u64 qc2.set.b, .int .u64 qc2.set.c, .int .u64 qc2.set.d, .int .i64 1, .int .i64 0, .slice none 0 0] (Nd.mk 2 (qc2.set) 1 0 ([])) := NodeL.shut (k := 2) (s := qc2.set) (mn := 1) (mx := 0) (sl := .slice none 0 0) (ts := []) (NodesV.nil (fun _ => False) _ none 0)
  have hn136 := hn136.lt
  refine ⟨[(108, .agg (tcells qc11 (.slice a130 qc11.subs.length cap130)).toArray), (115, .agg (tcells qc16 (.slice a131 qc16.subs.length cap131)).toArray), (117, .agg (tcells qc9 (.slice a132 qc9.subs.length cap132)).toArray), (119, .agg (tcells qc10 (.slice a133 qc10.subs.length cap133)).toArray), (120, .agg (tcells qc1 (.slice a134 qc1.subs.length cap134)).toArray), (123, .agg #[.int .u8 2, .int .u64 qc2.set.a, .int .u64 qc2.set.b, .int .u64 qc2.set.c, .int .u64 qc2.set.d, .int .i64 1, .int .i64 0, .slice none 0 0])], (ag hv130 (ag hv131 (ag hv132 (ag hv133 (ag hv134 (ak hk 17 (agree_nil _))))))), ?_⟩
  refine WL.buildSlice (vs := [.agg (tcells qc11 (.slice a130 qc11.subs.length cap130)).toArray, .agg (tcells qc16 (.slice a131 qc16.subs.length cap131)).toArray, .agg (tcells qc9 (.slice a132 qc9.subs.length cap132)).toArray, .agg (tcells qc10 (.slice a133 qc10.subs.length cap133)).toArray, .agg (tcells qc1 (.slice a134 qc1.subs.length cap134)).toArray, .agg #[.int .u8 2, .int .u64 qc2.set.a, .int .u64 qc2.set.b, .int .u64 qc2.set.c, .int .u64 qc2.set.d, .int .i64 1, .int .i64 0, .slice none 0 0]]) (cells := (tcells qc11 (.slice a130 qc11.subs.length cap130) ++ tcells qc16 (.slice a131 qc16.subs.length cap131) ++ tcells qc9 (.slice a132 qc9.subs.length cap132) ++ tcells qc10 (.slice a133 qc10.subs.length cap133) ++ tcells qc1 (.slice a134 qc1.subs.length cap134) ++ [.int .u8 2, .int .u64 qc2.set.a, .int .u64 qc2.set.b, .int .u64 qc2.set.c, .int .u64 qc2.set.d, .int .i64 1, .int .i64 0, .slice none 0 0])) rfl rfl Ty.slice27 Ty.zero29 rfl rfl rfl rfl rfl rfl (fun b137 w142 hb138 hE141 hs139 hR140 => ?_)
  have hts137 := (NodesV.lit (n := 6) (ts := [qc11, qc16, qc9, qc10, qc1, (Nd.mk 2 (qc2.set) 1 0 ([]))]) hR140 (RowsL.cons (hn130.ext hE141) (RowsL.cons (hn131.ext hE141) (RowsL.cons (hn132.ext hE141) (RowsL.cons (hn133.ext hE141) (RowsL.cons (hn134.ext hE141) (RowsL.cons (hn136.ext hE141) (RowsL.nil' _))))))) rfl rfl (by decide)).lt
  exact dqE hbi hE141 ⟨_, _, rfl, (hts137.dom (by intro k h1; refine ⟨trivial, ?_, h1.2⟩; replace h1 := h1.1; intro x hxm; have hi := hbi.hi x hxm; have lo := hbi.lo x hxm; (try dsimp only at h1); (repeat' first | (guard_hyp h1 : _ ∨ _; refine Or.elim h1 (fun h1 => ?_) (fun h1 => ?_)) | (guard_hyp h1 : _ ∧ _; have hx := h1.2; replace h1 := h1.1)) <;> first | contradiction | omega | exact hx.1 x hxm))⟩
 ·intro σ β w1 hE1 hbi hk
  obtain ⟨_, hv130, a130, cap130, rfl, hts130⟩ := kn hk 18 rfl rfl
  have hts130 := hts130.lt
  have hlen130 := hts130.len
  refine ⟨[(124, .slice a130 (([qc11, qc16, qc9, qc10, qc1, (Nd.mk 2 (qc2.set) 1 0 ([]))]).length) cap130)], (ag hv130 (agree_nil _)), ?_⟩
  refine WL.len rfl rfl Try.underlying27 rfl ?_
  exact dq hbi rfl
 ·intro σ β w1 hE1 hbi hk
  refine ⟨[], (agree_nil _), ?_⟩
  refine mv ?_
  exact dq hbi rfl
 intro σ β w110 hE110 hbi110 hk
 have hz110 := hE110.size
 have hbi := hbi110
 obtain ⟨_, hv111, a111, cap111, rfl, hts111⟩ := hk 18 (by decide) _ _ rfl rfl
 have hts111 := hts111.lt
 have hlen111 := hts111.len
 refine WL.know [(124, .slice a111 (([qc11, qc16, qc9, qc10, qc1, (Nd.mk 2 (qc2.set) 1 0 ([]))]).length) cap111), (125, .int .i64 6), (126, .int .i64 0)] (ag hv111 (aj hk 19 (aj hk 20 (agree_nil _)))) ?_
 refine WL.dn ?_
 refine WC.block ?_
 have hall : ∀ t ∈ [qc11, qc16, qc9, qc10, qc1, (Nd.mk 2 (qc2.set) 1 0 ([]))], Nd.clean t = false := fun t ht => by have hq : (([qc11, qc16, qc9, qc10, qc1, (Nd.mk 2 (qc2.set) 1 0 ([]))]).all fun t => !t.clean) = true := (by kernel_rfl); have := List.all_eq_true.1 hq t ht; simpa using this
 refine WC.weaken (r' := [(124, .slice a111 (([qc11, qc16, qc9, qc10, qc1, (Nd.mk 2 (qc2.set) 1 0 ([]))]).length) cap111), (125, .int .i64 6), (126, .int .i64 0)]) (sr rfl (sr rfl (sr rfl (subReg_nil _)))) ?_
 refine WC.loop (σ := Nat) (fun k r_ w_ => r_ = [(124, .slice a111 (([qc11, qc16, qc9, qc10, qc1, (Nd.mk 2 (qc2.set) 1 0 ([]))]).length) cap111), (125, .int .i64 6), (126, .int .i64 (k : Int))] ∧ Ext w110 w_ ∧ k ≤ 6) (fun k => 6 - k) 0 ⟨rfl, (Ext.refl _), (Nat.zero_le _)⟩ ?_
 rintro k r_ w116 ⟨rfl, hE114, hI115⟩
 have hzhE114 := hE114.size
 have hk := hI115
 refine sq ?_
 cases hc117 : decide (((k : Int) : Int) < 6) with
 | false =>
  refine WL.lss rfl rfl rfl rfl hc117 ?_
  have hp117 := of_decide_eq_false hc117
  refine WL.dn ?_
  refine WC.seqk ?_
  refine cF ?_
  refine WC.exit (fun a_ ha => ?_)
  refine exit_then ?_
  refine exit_then ?_
  refine exit_here ?_
  refine WC.at ?_ ha
  refine sq ?_
  refine asg ?_
  refine WL.dn ?_
  refine WC.ret (fun a_ ha => ?_)
  exact bodyPost_tmp rfl ha rfl ⟨rfl, (((((((((((((hB66.onto (hB63.onto ((hB48.onto (hB44.onto (hB40.onto (hB36.onto ((((((hE2.trans hE5).trans hE8).trans hE15).trans hE21).trans hE27).trans hE33) (by omega)) (by omega)) (by omega)) (by omega)).trans hE57) (by omega)) (by omega)).trans hE69).trans hE72).trans hE75).trans hE78).trans hE82).trans hE84).trans hE88).trans hE90).trans hE94).trans hE106).trans hE110).trans hE114)⟩
 | true =>
  refine WL.lss rfl rfl rfl rfl hc117 ?_
  have hp117 := of_decide_eq_true hc117
  refine WL.dn ?_
  refine WC.seqk ?_
  refine cT ?_
  refine WC.sk ?_
  refine WC.seqk ?_
  refine WC.block ?_
  refine sq ?_
  obtain ⟨t118, ht118⟩ : ∃ t, [qc11, qc16, qc9, qc10, qc1, (Nd.mk 2 (qc2.set) 1 0 ([]))][k]? = some t := ⟨_, List.getElem?_eq_getElem (by first | decide | (show k < 6; omega))⟩
  obtain ⟨eb118, eo118, el118, hea118, hD118, her118, hn118⟩ := (hts111.ext hE114).at ht118
  obtain ⟨a118, cap118, rfl, hts118, hlen118⟩ := hn118.op2
  subst hea118
  refine WL.indexAddr (i := k) rfl rfl Ty.slice27 rfl rfl rfl (by first | decide | (show k < 6; omega)) ?_
  refine WL.load_agg (l := tcells t118 (.slice a118 t118.subs.length cap118)) rfl rfl Ty.agg29 rfl her118 ?_
  refine WL.alloc rfl rfl Ty.zero29 rfl (fun b119 w124 hb120 hE123 hs121 hR122 => ?_)
  refine WL.store_box rfl rfl rfl hR122 Ty.agg29 rfl rfl (fun w127 hB126 hR125 => ?_)
  have hzhB126 := hB126.size
  refine WL.dn ?_
  refine sq ?_
  refine WL.load_box rfl rfl rfl hR125 Ty.agg29 ?_
  have h128 := ((hn118.ext hE123).bu hB126)
  refine WL.call rfl rfl rfl Ty.ent12 (clean_ok _ _ _ _ h128) ?_
  rintro _ w130 ⟨he, hE129⟩
  have hq : (Nd.clean t118) = false := (hall _ (List.mem_of_getElem? ht118))
  rw [hq] at he
  subst he
  clear hq
  have hzhE129 := hE129.size
  refine ⟨_, rfl, ?_⟩
  refine WL.dn ?_
  refine cF ?_
  refine WC.sk ?_
  refine WC.region ?_
  refine WL.add (v := (k : Int) + 1) rfl rfl rfl rfl (IntWalk.i64_in _ (by omega)) ?_
  refine mv ?_
  refine WL.nil (fun a_ ha => ?_)
  exact ⟨k + 1, _, ha.weaken (sr rfl (sr rfl (sr rfl (subReg_nil _)))), ⟨rfl, ((hB126.onto (hE114.trans hE123) (by omega)).trans hE129), (by omega)⟩, by first | omega | (dsimp only; omega)⟩
end Go.Proofs.Ytaggidjijekpbaa
namespace Go.Proofs.Ytaggidjijekpbaa
open Go.RowKit
theorem sliceB_elem {P : Program} {t e n : Nat} (h : sliceB P t e n = true) : P.underlying t = some (.slice (P.elem t)) ∧ ∀ w, (sizeOf (P.elem t)).run P w = .ok n w := by
  obtain ⟨hu, q, hq, hs⟩ := sliceB_u h
  have he : P.elem t = e := by simp [Program.elem, hu]
  rw [he]
  exact ⟨hu, fun w => by simp [sizeOf, typeInfo, hq, hs]⟩
theorem add0 (a : Option Addr) (n : Nat) : a.map (·.add (0 * n)) = a := by
  cases a with
  | none => rfl
  | some a => obtain ⟨b, o, p⟩ := a; cases p <;> simp [Addr.add]
section
variable {P : Program} {ro : Option Nat} {all : Array Oper} {Q : Exit → Act → World → Prop} {N : Nat} {ds : List Deferred} {r : Reg} {w : World} {rest : List Oper}
  {ty : TypeId} {pos : String} {aft : Array Edge} {g : Option (Nat × Bool)}
theorem WL.slice_h {d : Nat} {t e s : Nat} {x y : Operand} {a : Option Addr} {n cap m : Nat} {k : IntKind} {j : Int} (hw : want all r g = some true) (hd : Nat.blt d N = true) (ht : sliceB P t e s = true)
    (hx : ev r x = some (.slice a n cap)) (hy : ev r y = some (.int k j)) (hj : j = m) (hm : m ≤ cap)
    (next : WL ro P all Q N ds rest ((d, .slice a m cap) :: r) w) : WL ro P all Q N ds (⟨some d, .slice t x none (some y) none, ty, pos, aft, g⟩ :: rest) r w := by
  obtain ⟨he, hsz⟩ := sliceB_elem ht
  subst hj
  refine WL.val hw hd (by intro c h; cases h) (fun ac ha => ?_) next
  simp only [execOp, ha.ev hx, ha.ev hy, Option.map_some, Option.map_none, Sem.run_bind, run_sliceAt_slice w t _ _ _ _ he, run_slice_h w t a n cap he k m (by omega) (by omega), hsz, Result.andThen_ok, sliced, Int.toNat_natCast, Nat.sub_zero, add0, ite_self, Sem.run_pure]
theorem WL.slice_hm {d : Nat} {t e s : Nat} {x y z : Operand} {a : Option Addr} {n cap m : Nat} {k k' : IntKind} {j j' : Int} (hw : want all r g = some true) (hd : Nat.blt d N = true) (ht : sliceB P t e s = true)
    (hx : ev r x = some (.slice a n cap)) (hy : ev r y = some (.int k j)) (hz : ev r z = some (.int k' j')) (hj : j = m) (hj' : j' = m) (hm : m ≤ cap)
    (next : WL ro P all Q N ds rest ((d, .slice a m m) :: r) w) : WL ro P all Q N ds (⟨some d, .slice t x none (some y) (some z), ty, pos, aft, g⟩ :: rest) r w := by
  obtain ⟨he, hsz⟩ := sliceB_elem ht
  subst hj; subst hj'
  refine WL.val hw hd (by intro c h; cases h) (fun ac ha => ?_) next
  simp only [execOp, ha.ev hx, ha.ev hy, ha.ev hz, Option.map_some, Option.map_none, Sem.run_bind, run_sliceAt_slice w t _ _ _ _ he, run_slice_hm w t a n cap he k k' m m (by omega) (by omega) (by omega), hsz, Result.andThen_ok, sliced, Int.toNat_natCast, Nat.sub_zero, add0, ite_self, Sem.run_pure]
theorem WL.slice_l {d : Nat} {t e s : Nat} {x y : Operand} {a : Option Addr} {n cap m : Nat} {k : IntKind} {j : Int} (hw : want all r g = some true) (hd : Nat.blt d N = true) (ht : sliceB P t e s = true)
    (hx : ev r x = some (.slice a n cap)) (hy : ev r y = some (.int k j)) (hj : j = m) (hm : m ≤ n)
    (next : WL ro P all Q N ds rest ((d, .slice (if cap = m then a else a.map (·.add (m * s))) (n - m) (cap - m)) :: r) w) : WL ro P all Q N ds (⟨some d, .slice t x (some y) none none, ty, pos, aft, g⟩ :: rest) r w := by
  obtain ⟨he, hsz⟩ := sliceB_elem ht
  subst hj
  refine WL.val hw hd (by intro c h; cases h) (fun ac ha => ?_) next
  simp only [execOp, ha.ev hx, ha.ev hy, Option.map_some, Option.map_none, Sem.run_bind, run_sliceAt_slice w t _ _ _ _ he, run_slice_l w t a n cap he k m (by omega) (by omega), hsz, Result.andThen_ok, sliced, Int.toNat_natCast, Sem.run_pure]
theorem NodesV.take {D : Nat → Prop} {w : World} {a : Option Addr} {n cap m c : Nat} {ts : List Nd} (h : NodesV D w (.slice a n cap) ts) (hm : m ≤ ts.length) (hc : m ≤ c) : NodesV D w (.slice a m c) (ts.take m) := by
  obtain ⟨ls, ⟨a', cap', he, hcap, hn, h⟩, h2, h3⟩ := h
  cases he
  refine ⟨ls.take m, ⟨a, c, by rw [List.length_take, Nat.min_eq_left (by omega)], by rw [List.length_take]; omega, fun l hl => hn l (List.mem_of_mem_take hl), ?_⟩, by simp [h2], ?_⟩
  · rcases h with h | ⟨b, o, ha, hb, hr⟩
    · left; rw [h]; simp
    · right
      refine ⟨b, o, ha, hb, fun i l hl => hr i l ?_⟩
      rw [List.getElem?_take] at hl
      split at hl
      · exact hl
      · cases hl
  · intro i l t hl ht
    rw [List.getElem?_take] at hl ht
    split at hl
    · rw [if_pos (by assumption)] at ht; exact h3 i l t hl ht
    · cases hl
theorem NodesV.drop1 {D : Nat → Prop} {w : World} {a : Option Addr} {n cap : Nat} {ts : List Nd} (h : NodesV D w (.slice a n cap) ts) (h1 : 1 ≤ ts.length) : NodesV D w (.slice (if cap = 1 then a else a.map (·.add (1 * 8))) (n - 1) (cap - 1)) (ts.drop 1) := by
  obtain ⟨ls, ⟨a', cap', he, hcap, hn, h⟩, h2, h3⟩ := h
  cases he
  refine ⟨ls.drop 1, ⟨_, cap - 1, by rw [List.length_drop], by rw [List.length_drop]; omega, fun l hl => hn l (List.mem_of_mem_drop hl), ?_⟩, by simp [h2], ?_⟩
  · rcases h with h | ⟨b, o, ha, hb, hr⟩
    · left; rw [h]; simp
    · by_cases hc : cap = 1
      · left; apply List.eq_nil_of_length_eq_zero; rw [List.length_drop]; omega
      · right
        refine ⟨b, o + 8, by rw [if_neg hc, ha]; rfl, hb, fun i l hl => ?_⟩
        rw [List.getElem?_drop] at hl
        have := hr (1 + i) l hl
        have e : o + (1 + i) * 8 = o + 8 + i * 8 := by omega
        rw [← e]; exact this
  · intro i l t hl ht
    rw [List.getElem?_drop] at hl ht
    exact h3 (1 + i) l t hl ht
theorem run_append_full {w : World} {D D2 : Nat → Prop} {t ty e : TypeId} {z : Value} {ts us : List Nd} {a a2 : Option Addr} {n c2 n2 : Nat} (ht : sliceB P t e 8 = true) (hz : zeroB P e z) (hzs : z.cells.size = 8) (hby : smallB P e = true)
    (hts : NodesV D w (.slice a n n) ts) (hus : NodesV D2 w (.slice a2 n2 c2) us) (hus1 : us ≠ []) (hnil : a = none → n = 0) (hlen : ts.length + us.length ≤ 1000000000) :
    ∃ v' w', (Builtin.append_ #[t, t] ty #[.slice a n n, .slice a2 n2 c2]).run P w = .ok v' w' ∧ OwnV e w.heap.size (fun k => D k ∨ D2 k) w' v' (ts ++ us) ∧ Ext w w' := by
  obtain ⟨hu, q, hq, hs⟩ := sliceB_u ht
  have hbt : q.bytes ≤ 128 := by unfold smallB at hby; rw [hq] at hby; simp at hby; exact hby.1
  have hzz : q.zero = some z := by unfold zeroB at hz; rw [hq] at hz; exact hz
  obtain ⟨us', hR2, rfl, hr2⟩ := hus.lt.rows
  obtain ⟨b2, o2, rfl, hd2, hrd2⟩ : ∃ b o, a2 = some ⟨b, o, none⟩ ∧ (D2 b ∧ b < w.heap.size) ∧ Reads w b o us'.flatten := by
    rcases hr2 with h | h
    · exact absurd h hus1
    · exact h
  have hlen8 := len_flatten us' hR2.eight
  obtain ⟨ls, hR1, rfl, hr1⟩ := hts.lt.rows
  have hlen1 := len_flatten ls hR1.eight
  have hpos : 0 < us.length := by cases us with | nil => exact absurd rfl hus1 | cons x l => simp
  have fin : ∀ (v' : Value) (w' : World), w'.ownsRow w.heap.size e 8 v' (ts.length + us.length) (ls.flatten ++ us'.flatten) → GrownD w w' none → OwnV e w.heap.size (fun k => D k ∨ D2 k) w' v' (ts ++ us) ∧ Ext w w' := by
    intro v' w' h1 h2
    have hE : Ext w w' := grown_below h2 (Ext.refl _) (by intro k hk; cases hk)
    have hnb : ∀ k, k < w.heap.size → v'.ownBlock ≠ some k := by
      intro k hk hh
      rcases h1.2 with ⟨rfl, _⟩ | ⟨g', cap', cur', rfl, hg', _⟩
      · cases hh
      · simp only [Value.ownBlock, Option.some.injEq] at hh; omega
    refine ⟨⟨ls ++ us', by simpa using h1, RowsL.append (hR1.step (fun l t hn => (hn.ext hE).dom (fun k hk => ⟨.inl hk.1, Nat.lt_of_lt_of_le hk.2 hE.size, hnb k hk.2⟩))) (hR2.step (fun l t hn => (hn.ext hE).dom (fun k hk => ⟨.inr hk.1, Nat.lt_of_lt_of_le hk.2 hE.size, hnb k hk.2⟩))), by simpa using hlen⟩, hE⟩
  cases a with
  | none =>
    have h0 := hnil rfl
    have hts0 : ts = [] := List.eq_nil_of_length_eq_zero h0
    subst hts0
    have : ls = [] := List.eq_nil_of_length_eq_zero (by simpa using hR1.1)
    subst this
    obtain ⟨v', w', h1, h2, h3, _⟩ := run_append_own_at (P := P) w w.heap.size t ty e q z 8 q.bytes hu hq hzz hs rfl hzs (by omega) (.slice none 0 0) 0 [] ⟨rfl, .inl ⟨rfl, rfl⟩⟩ ⟨b2, o2, none⟩ us.length c2 us'.flatten (by rw [hlen8, hR2.1]) (fun j u hj => (addr_add b2 o2 j) ▸ hrd2 j u hj) hR2.one (by simp only [maxLen]; simp at hlen; omega) (by
        have := Nat.mul_le_mul hlen hbt
        simp at this ⊢; omega) (Nat.le_refl _)
    exact ⟨v', w', h1, fin v' w' (by simpa using h2) ⟨h3, run_drawn _ h1⟩⟩
  | some ad =>
    obtain ⟨v', w', h1, h2, h3⟩ := run_append_arg_grows (P := P) w t ty e q z 8 q.bytes hu hq hzz hs rfl hzs (by omega) ad ts.length ts.length ls.flatten (by rw [hlen1, hR1.1]) (by
        intro j u hj
        rcases hr1 with h | ⟨b, o, h, _, hrd⟩
        · subst h
          have : ls = [] := List.eq_nil_of_length_eq_zero (by simpa using hR1.1)
          subst this; simp at hj
        · cases h; exact (addr_add b o j) ▸ hrd j u hj) ⟨b2, o2, none⟩ us.length c2 us'.flatten (by rw [hlen8, hR2.1]) (fun j u hj => (addr_add b2 o2 j) ▸ hrd2 j u hj) (by omega) (by simp only [maxLen]; omega) (by
        have := Nat.mul_le_mul hlen hbt
        omega)
    exact ⟨v', w', h1, fin v' w' h2 ⟨h3, run_drawn _ h1⟩⟩
theorem WL.appendFull {d : Nat} {t e : TypeId} {D D2 : Nat → Prop} {x y : Operand} {z : Value} {ts us : List Nd} {a a2 : Option Addr} {n n2 c2 : Nat} (hw : want all r g = some true) (hd : Nat.blt d N = true) (ht : sliceB P t e 8 = true) (hz : zeroB P e z) (hzs : z.cells.size = 8) (hby : smallB P e = true)
    (hx : ev r x = some (.slice a n n)) (hy : ev r y = some (.slice a2 n2 c2)) (hts : NodesV D w (.slice a n n) ts) (hus : NodesV D2 w (.slice a2 n2 c2) us) (hus1 : us ≠ []) (hnil : a = none → n = 0) (hlen : ts.length + us.length ≤ 1000000000)
    (next : ∀ v' w', OwnV e w.heap.size (fun k => D k ∨ D2 k) w' v' (ts ++ us) → Ext w w' → WL ro P all Q N ds rest ((d, v') :: r) w') :
    WL ro P all Q N ds (⟨some d, .call ⟨.builtin .append, #[x, y], #[t, t]⟩, ty, pos, aft, g⟩ :: rest) r w := by
  obtain ⟨v', w', h1, h2, h3⟩ := run_append_full (P := P) (ty := ty) ht hz hzs hby hts hus hus1 hnil hlen
  exact WL.val hw hd (by intro c h; cases h) (fun ac ha => by simp [execOp, resolve, invoke, builtin, ha.ev hx, ha.ev hy, h1]) (next v' w' h2 h3)
end
theorem OwnV.rebase {e : TypeId} {base base' : Nat} {D : Nat → Prop} {w : World} {v : Value} {ts : List Nd} (h : OwnV e base D w v ts) (hb : base' ≤ base) : OwnV e base' D w v ts := by
  obtain ⟨ls, ⟨hl, h⟩, h2⟩ := h
  refine ⟨ls, ⟨hl, ?_⟩, h2⟩
  rcases h with h | ⟨g, cap, cur, he, hg, h⟩
  · exact .inl h
  · exact .inr ⟨g, cap, cur, he, Nat.le_trans hb hg, h⟩
def pown (e base : Nat) (D : Nat → Prop) (ts : List Nd) : Post := fun v w _ => OwnV e base D w v ts
theorem KW_pown (e base : Nat) (D : Nat → Prop) (ts : List Nd) : KW (pown e base D ts) := fun _ _ _ _ _ E _ h => OwnV.ext h E
end Go.Proofs.Ytaggidjijekpbaa
namespace Go.Proofs.Ytaggidjijekpbaa
namespace Nd
structure M3 where
  pile : List Nd
  u : Int
  g : Int
def top (l : List Nd) : Nd := l[l.length - 1]?.getD none
def top2 (l : List Nd) : Nd := l[l.length - 2]?.getD none
def mostM (least most : Int) : Int := bif decide (most < least) || (most == 0) || ((least == 1) && (most == 1)) then -1 else most
def max3 (a b c : Int) : Int := if (if a < b then b else a) < c then c else (if a < b then b else a)
def stepM (s : M3) (x : Int × Int × Int) : M3 :=
  let k := x.1.tmod 12
  let n : Int := s.pile.length
  bif decide (k < 4) then { s with pile := s.pile ++ [classS (lettersS x.2.1)] }
  else bif k == 4 then { s with pile := s.pile ++ [empty] }
  else bif decide (k < 7) && decide (1 < n) then { s with pile := s.pile.take (s.pile.length - 2) ++ [joins 3 (top2 s.pile) (top s.pile)] }
  else bif decide (k < 9) && decide (1 < n) then { s with pile := s.pile.take (s.pile.length - 2) ++ [joins 4 (top2 s.pile) (top s.pile)] }
  else bif (k == 9) && decide (0 < n) && decide (s.g < 9) then { s with pile := s.pile.set (s.pile.length - 1) (mk 6 zero 0 0 [top s.pile]), g := s.g + 1 }
  else bif decide (9 < k) && decide (0 < n) && ((top s.pile).kind != 1) then
    bif decide (s.u * max3 (x.2.1.tmod 3) (mostM (x.2.1.tmod 3) (x.2.2.tmod 4)) 1 ≤ 16) then
      { s with pile := s.pile.set (s.pile.length - 1) (mk 5 zero (x.2.1.tmod 3) (mostM (x.2.1.tmod 3) (x.2.2.tmod 4)) [top s.pile]), u := s.u * max3 (x.2.1.tmod 3) (mostM (x.2.1.tmod 3) (x.2.2.tmod 4)) 1 }
    else s
  else s
def madeSt (l : List (Int × Int × Int)) : M3 := l.foldl stepM ⟨[], 1, 0⟩
def madeEnd (p : List Nd) : Nd := match p with | [] => classS [97] | t :: ts => ts.foldl (joins 4) t
def made (l : List (Int × Int × Int)) : Nd := madeEnd (madeSt (l.take 25)).pile
theorem madeSt_succ {l : List (Int × Int × Int)} {k : Nat} {x : Int × Int × Int} (h : l[k]? = some x) : madeSt (l.take (k + 1)) = stepM (madeSt (l.take k)) x := by
  have h1 : l.take (k + 1) = l.take k ++ [x] := by rw [List.take_add_one, h]; rfl
  rw [h1]; simp [madeSt]
theorem top_at {l : List Nd} {t : Nd} (h : l[l.length - 1]? = some t) : top l = t := by unfold top; rw [h]; rfl
theorem top2_at {l : List Nd} {t : Nd} (h : l[l.length - 2]? = some t) : top2 l = t := by unfold top2; rw [h]; rfl
theorem mul_bd {u m : Int} (h1 : 1 ≤ u) (h2 : u ≤ 16) (h3 : 1 ≤ m ∧ m ≤ 16) : 1 ≤ u * m ∧ u * m ≤ 256 := by
  have a := Int.mul_le_mul h2 h3.2 (by omega) (by omega)
  have b := Int.mul_pos (show 0 < u by omega) (show 0 < m by omega)
  omega
theorem madeEnd_at {p : List Nd} {t : Nd} (h : p[0]? = some t) : madeEnd p = (p.drop 1).foldl (joins 4) t := by
  cases p with
  | nil => simp at h
  | cons x p => simp at h; subst h; rfl
theorem madeEnd_nil {p : List Nd} (h : p.length = 0) : madeEnd p = classS [97] := by
  rw [List.eq_nil_of_length_eq_zero h]; rfl
theorem made_eq {xs : List (Int × Int × Int)} {k : Nat} {m : M3} (hst : m = madeSt ((xs.take 25).take k)) (hk : (xs.take 25).length ≤ k) : made xs = madeEnd m.pile := by
  rw [List.take_of_length_le hk] at hst
  rw [hst]; rfl
theorem size_mk (k : Int) (s : S4) (a b : Int) (ts : List Nd) : (mk k s a b ts).size = 1 + sizeL ts := rfl
theorem flatJ1_size (kind : Int) (x : Nd) : sizeL (flatJ1 kind x) ≤ x.size := by
  unfold flatJ1
  have h1 := size_subs x
  cases (x.kind == kind) <;> cases ((kind == 3) && (x.kind == 1)) <;> simp [sizeL] <;> omega
theorem flatJ_size (kind : Int) (l : List Nd) : sizeL (flatJ kind l) ≤ sizeL l := by
  induction l with
  | nil => simp [flatJ, sizeL]
  | cons x l ih => have := flatJ1_size kind x; simp only [flatJ, List.flatMap_cons, sizeL_append, sizeL] at *; omega
theorem joinsL_size (kind : Int) (l : List Nd) : (joinsL kind l).size ≤ 1 + sizeL l := by
  unfold joinsL
  cases h0 : ((l.length : Int) == 0)
  · cases h1 : ((l.length : Int) == 1)
    · simp [size_mk]
    · simp only [cond_true, cond_false]
      cases l with
      | nil => simp at h0
      | cons x l => simp [sizeL]; omega
  · simp [empty, size_mk, sizeL]
theorem joins_size (kind : Int) (a b : Nd) : (joins kind a b).size ≤ 1 + a.size + b.size := by
  have h1 := joinsL_size kind (flatJ kind [a, b])
  have h2 := flatJ_size kind [a, b]
  simp only [sizeL] at h2
  unfold joins; omega
theorem foldl_size (l : List Nd) : ∀ t : Nd, (l.foldl (joins 4) t).size ≤ t.size + sizeL l + l.length := by
  induction l with
  | nil => intro t; simp
  | cons x l ih => intro t; have h1 := ih (joins 4 t x); have h2 := joins_size 4 t x; simp only [List.foldl_cons, sizeL, List.length_cons]; omega
theorem sizeL_take_le (l : List Nd) (k : Nat) : sizeL (l.take k) ≤ sizeL l := by
  have : sizeL (l.take k) + sizeL (l.drop k) = sizeL l := by rw [← sizeL_append, List.take_append_drop]
  omega
theorem sizeL_drop1 {l : List Nd} {t : Nd} (h : l[0]? = some t) : t.size + sizeL (l.drop 1) = sizeL l := by
  cases l with
  | nil => simp at h
  | cons x l => simp at h; subst h; simp [sizeL]
theorem top_size {l : List Nd} (h : 0 < l.length) : sizeL (l.take (l.length - 1)) + (top l).size = sizeL l := by
  have hl : l[l.length - 1]? = some (l[l.length - 1]'(by omega)) := by simp
  have : sizeL (l.take (l.length - 1 + 1)) = sizeL l := by rw [List.take_of_length_le (by omega)]
  rw [List.take_add_one, hl, sizeL_append] at this
  simp only [Option.toList_some, sizeL] at this
  unfold top
  rw [hl, Option.getD_some]; omega
theorem top2_size {l : List Nd} (h : 1 < l.length) : sizeL (l.take (l.length - 2)) + (top2 l).size + (top l).size = sizeL l := by
  have h1 := top_size (l := l) (by omega)
  have hl : l[l.length - 2]? = some (l[l.length - 2]'(by omega)) := by simp
  have e : l.length - 1 = l.length - 2 + 1 := by omega
  rw [e, List.take_add_one, hl, sizeL_append] at h1
  simp only [Option.toList_some, sizeL] at h1
  have : top2 l = l[l.length - 2]'(by omega) := by unfold top2; rw [hl]; rfl
  rw [this]; omega
theorem set_top_size {l : List Nd} (h : 0 < l.length) (t : Nd) : sizeL (l.set (l.length - 1) t) + (top l).size = sizeL l + t.size := by
  have h1 := top_size h
  have e : l.set (l.length - 1) t = l.take (l.length - 1) ++ [t] := by
    rw [List.set_eq_take_append_cons_drop]
    rw [if_pos (by omega), List.drop_of_length_le (by omega)]
  rw [e, sizeL_append]; simp only [sizeL]; omega
structure MB (s : M3) (k : Nat) : Prop where
  len : s.pile.length ≤ k
  size : sizeL s.pile ≤ k
  u1 : 1 ≤ s.u
  u2 : s.u ≤ 16
  g1 : 0 ≤ s.g
  g2 : s.g ≤ 9
theorem max3_pos (a b : Int) : 1 ≤ max3 a b 1 := by unfold max3; (repeat' split) <;> omega
theorem MB_step {s : M3} {k : Nat} (h : MB s k) (x : Int × Int × Int) : MB (stepM s x) (k + 1) := by
  obtain ⟨h1, h2, h3, h4, h5, h6⟩ := h
  unfold stepM
  dsimp only
  generalize x.1.tmod 12 = kk
  generalize mostM (x.2.1.tmod 3) (x.2.2.tmod 4) = mx
  generalize x.2.1.tmod 3 = mn
  have triv : MB s (k + 1) := ⟨by omega, by omega, h3, h4, h5, h6⟩
  have add : ∀ t : Nd, t.size = 1 → MB { s with pile := s.pile ++ [t] } (k + 1) := fun t ht => ⟨by simp; omega, by simp [sizeL_append, sizeL, ht]; omega, h3, h4, h5, h6⟩
  cases c1 : decide (kk < 4) with
  | true => exact add _ (by simp [classS, size_mk, sizeL])
  | false =>
    cases c2 : (kk == 4) with
    | true => exact add _ (by simp [empty, size_mk, sizeL])
    | false =>
      simp only [cond_false]
      cases c3 : (decide (kk < 7) && decide (1 < (s.pile.length : Int))) with
      | true =>
        simp only [Bool.and_eq_true, decide_eq_true_eq] at c3
        have h7 := top2_size (l := s.pile) (by omega)
        have h8 := joins_size 3 (top2 s.pile) (top s.pile)
        exact ⟨by simp; omega, by simp [sizeL_append, sizeL]; omega, h3, h4, h5, h6⟩
      | false =>
        simp only [cond_false]
        cases c4 : (decide (kk < 9) && decide (1 < (s.pile.length : Int))) with
        | true =>
          simp only [Bool.and_eq_true, decide_eq_true_eq] at c4
          have h7 := top2_size (l := s.pile) (by omega)
          have h8 := joins_size 4 (top2 s.pile) (top s.pile)
          exact ⟨by simp; omega, by simp [sizeL_append, sizeL]; omega, h3, h4, h5, h6⟩
        | false =>
          simp only [cond_false]
          cases c5 : ((kk == 9) && decide (0 < (s.pile.length : Int)) && decide (s.g < 9)) with
          | true =>
            simp only [Bool.and_eq_true, decide_eq_true_eq] at c5
            have h7 := set_top_size (l := s.pile) (by omega) (mk 6 zero 0 0 [top s.pile])
            simp only [size_mk, sizeL] at h7
            exact ⟨by simp; omega, by simp only [cond_true]; omega, h3, h4, by simp only [cond_true]; omega, by simp only [cond_true]; omega⟩
          | false =>
            simp only [cond_false]
            cases c6 : (decide (9 < kk) && decide (0 < (s.pile.length : Int)) && ((top s.pile).kind != 1)) with
            | true =>
              simp only [Bool.and_eq_true, decide_eq_true_eq] at c6
              simp only [cond_true]
              cases c7 : decide (s.u * max3 mn mx 1 ≤ 16) with
              | true =>
                simp only [decide_eq_true_eq] at c7
                have h7 := set_top_size (l := s.pile) (by omega) (mk 5 zero mn mx [top s.pile])
                simp only [size_mk, sizeL] at h7
                have h8 : 1 ≤ s.u * max3 mn mx 1 := Int.mul_pos (by omega) (by have := max3_pos mn mx; omega)
                exact ⟨by simp; omega, by simp only [cond_true]; omega, by simp only [cond_true]; exact h8, by simp only [cond_true]; exact c7, h5, h6⟩
              | false => exact triv
            | false => exact triv
theorem madeSt_bd : ∀ (l : List (Int × Int × Int)), MB (madeSt l) l.length := by
  have key : ∀ (l : List (Int × Int × Int)) (s : M3) (k : Nat), MB s k → MB (l.foldl stepM s) (k + l.length) := by
    intro l
    induction l with
    | nil => intro s k h; exact h
    | cons x l ih => intro s k h; have := ih _ _ (MB_step h x); simp only [List.foldl_cons, List.length_cons]; rw [show k + (l.length + 1) = k + 1 + l.length by omega]; exact this
  intro l
  have := key l ⟨[], 1, 0⟩ 0 ⟨by simp, by simp [sizeL], by simp, by simp, by simp, by simp⟩
  simpa [madeSt] using this
end Nd
end Go.Proofs.Ytaggidjijekpbaa
namespace Go.Proofs.Ytaggidjijekpbaa
open Go.RowKit
abbrev cells3 (x : Int × Int × Int) : List Value := [.int .u8 x.1, .int .u8 x.2.1, .int .u8 x.2.2]
def SmallV (D : Nat → Prop) (w : World) (sl : Value) (xs : List (Int × Int × Int)) : Prop :=
  (∃ a cap, sl = .slice a xs.length cap ∧ (xs.length ≤ cap ∧ xs.length ≤ 9223372036854775807) ∧
    (xs = [] ∨ ∃ b o, a = some ⟨b, o, none⟩ ∧ D b ∧ ∀ (i : Nat) (x : Int × Int × Int), xs[i]? = some x → Reads w b (o + i * 3) (cells3 x))) ∧
  ∀ x ∈ xs, (0 ≤ x.1 ∧ x.1 ≤ 255) ∧ (0 ≤ x.2.1 ∧ x.2.1 ≤ 255) ∧ 0 ≤ x.2.2 ∧ x.2.2 ≤ 255
theorem SmallV.ext {D : Nat → Prop} {w w' : World} {sl : Value} {xs : List (Int × Int × Int)} (h : SmallV D w sl xs) (e : Ext w w') : SmallV D w' sl xs := by
  obtain ⟨⟨a, cap, h1, h2, h3⟩, h4⟩ := h
  refine ⟨⟨a, cap, h1, h2, ?_⟩, h4⟩
  rcases h3 with h | ⟨b, o, ha, hd, hr⟩
  · exact .inl h
  · exact .inr ⟨b, o, ha, hd, fun i x hx => (hr i x hx).ext e⟩
theorem SmallV.len {D : Nat → Prop} {w : World} {a : Option Addr} {n cap : Nat} {xs : List (Int × Int × Int)} (h : SmallV D w (.slice a n cap) xs) : n = xs.length ∧ xs.length ≤ cap ∧ xs.length ≤ 9223372036854775807 := by
  obtain ⟨⟨a', cap', he, hc, _⟩, _⟩ := h
  cases he
  exact ⟨rfl, hc⟩
theorem SmallV.at {D : Nat → Prop} {w : World} {a : Option Addr} {n cap : Nat} {xs : List (Int × Int × Int)} (h : SmallV D w (.slice a n cap) xs) {i : Nat} {x : Int × Int × Int} (hx : xs[i]? = some x) :
    ∃ b o, a = some ⟨b, o, none⟩ ∧ Reads w b (o + i * 3) (cells3 x) ∧ (0 ≤ x.1 ∧ x.1 ≤ 255) ∧ (0 ≤ x.2.1 ∧ x.2.1 ≤ 255) ∧ 0 ≤ x.2.2 ∧ x.2.2 ≤ 255 := by
  obtain ⟨⟨a', cap', he, hc, h⟩, hb⟩ := h
  cases he
  rcases h with h | ⟨b, o, ha, _, hr⟩
  · rw [h] at hx; simp at hx
  · exact ⟨b, o, ha, hr i _ hx, hb x (List.mem_of_getElem? hx)⟩
theorem SmallV.take {D : Nat → Prop} {w : World} {a : Option Addr} {n cap m : Nat} {xs : List (Int × Int × Int)} (h : SmallV D w (.slice a n cap) xs) (hm : m ≤ xs.length) : SmallV D w (.slice a m cap) (xs.take m) := by
  obtain ⟨⟨a', cap', he, hc, h⟩, hb⟩ := h
  cases he
  refine ⟨⟨a, cap, by rw [List.length_take, Nat.min_eq_left hm], by rw [List.length_take]; omega, ?_⟩, fun x hx => hb x (List.mem_of_mem_take hx)⟩
  rcases h with h | ⟨b, o, ha, hd, hr⟩
  · left; rw [h]; simp
  · right
    refine ⟨b, o, ha, hd, fun i l hl => hr i l ?_⟩
    rw [List.getElem?_take] at hl
    split at hl
    · exact hl
    · cases hl
theorem SmallV.take25 {D : Nat → Prop} {w : World} {a : Option Addr} {n cap : Nat} {xs : List (Int × Int × Int)} (h : SmallV D w (.slice a n cap) xs) : SmallV D w (.slice a (xs.take 25).length cap) (xs.take 25) := by
  have h1 := h.take (m := (xs.take 25).length) (by rw [List.length_take]; omega)
  have e : xs.take (xs.take 25).length = xs.take 25 := by
    rw [List.length_take]
    rcases Nat.le_total 25 xs.length with h | h
    · rw [Nat.min_eq_left h]
    · rw [Nat.min_eq_right h, List.take_of_length_le (Nat.le_refl _), List.take_of_length_le h]
  rw [e] at h1; exact h1
theorem min25 (xs : List (Int × Int × Int)) : minI (xs.length : Int) 25 = ((xs.take 25).length : Int) := by
  rw [List.length_take]; unfold minI; split <;> omega
end Go.Proofs.Ytaggidjijekpbaa
