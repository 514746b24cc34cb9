/- Part 2 of the proof: walks through the program's functions, and what they compute in plain Lean. -/
import Derived.Test.YteenegaadlhjdaaOd1
import Derived.Maps.AppendAt
import Derived.Laws.OwnMore
import Derived.Lib.LazyBuf
import Derived.KernelRfl
import Derived.Laws.StructEq
set_option linter.all false
namespace Go.Proofs.Yteenegaadlhjdaa
open Go.RowKit
def smallB (P : Program) (e : TypeId) : Bool := match P.info? e with | some q => Nat.ble q.bytes 128 && Nat.blt 0 q.bytes | none => false
theorem NodeL.one {D : Nat → Prop} {w : World} {l : List Value} {T : Nd} (h : NodeL D w l T) : ∀ u ∈ l, u.oneCell' = true := by
  cases h with
  | mk k s mn mx sl ls ts hsl hlen _ =>
    obtain ⟨a, cap, rfl, _⟩ := hsl
    intro u hu
    simp only [ncells, List.mem_cons, List.not_mem_nil, or_false] at hu
    rcases hu with rfl | rfl | rfl | rfl | rfl | rfl | rfl | rfl <;> rfl
def RowsL (D : Nat → Prop) (w : World) (ls : List (List Value)) (ts : List Nd) : Prop :=
  ls.length = ts.length ∧ ∀ (i : Nat) (l : List Value) (t : Nd), ls[i]? = some l → ts[i]? = some t → NodeL D w l t
theorem RowsL.step {D D' : Nat → Prop} {w w' : World} {ls ts} (h : RowsL D w ls ts) (hs : ∀ l t, NodeL D w l t → NodeL D' w' l t) : RowsL D' w' ls ts :=
  ⟨h.1, fun i l t h1 h2 => hs l t (h.2 i l t h1 h2)⟩
theorem RowsL.eight {D : Nat → Prop} {w : World} {ls ts} (h : RowsL D w ls ts) : ∀ l ∈ ls, l.length = 8 := by
  intro l hl
  obtain ⟨i, hi, rfl⟩ := List.mem_iff_getElem.1 hl
  have : i < ts.length := by rw [← h.1]; exact hi
  exact (h.2 i _ ts[i] (by simp [hi]) (by simp [this])).length
theorem RowsL.one {D : Nat → Prop} {w : World} {ls ts} (h : RowsL D w ls ts) : ∀ u ∈ ls.flatten, u.oneCell' = true := by
  intro u hu
  obtain ⟨l, hl, hu⟩ := List.mem_flatten.1 hu
  obtain ⟨i, hi, rfl⟩ := List.mem_iff_getElem.1 hl
  have : i < ts.length := by rw [← h.1]; exact hi
  exact (h.2 i _ ts[i] (by simp [hi]) (by simp [this])).one u hu
theorem RowsL.append {D : Nat → Prop} {w : World} {ls ls' ts ts'} (h : RowsL D w ls ts) (h' : RowsL D w ls' ts') : RowsL D w (ls ++ ls') (ts ++ ts') := by
  refine ⟨by simp [h.1, h'.1], fun i l t h1 h2 => ?_⟩
  rcases Nat.lt_or_ge i ls.length with hi | hi
  · rw [List.getElem?_append_left hi] at h1
    rw [List.getElem?_append_left (by rw [← h.1]; exact hi)] at h2
    exact h.2 i l t h1 h2
  · rw [List.getElem?_append_right hi] at h1
    rw [List.getElem?_append_right (by rw [← h.1]; exact hi), ← h.1] at h2
    exact h'.2 _ l t h1 h2
theorem RowsL.nil (D : Nat → Prop) (w : World) : RowsL D w [] [] := ⟨rfl, fun i l t h => by simp at h⟩
theorem RowsL.single {D : Nat → Prop} {w : World} {l t} (h : NodeL D w l t) : RowsL D w [l] [t] := by
  refine ⟨rfl, fun i l' t' h1 h2 => ?_⟩
  cases i with
  | zero => simp at h1 h2; subst h1; subst h2; exact h
  | succ i => simp at h1
theorem len_flatten {n : Nat} : ∀ (ls : List (List Value)), (∀ l ∈ ls, l.length = n) → ls.flatten.length = ls.length * n := by
  intro ls
  induction ls with
  | nil => intro _; simp
  | cons x l ih => intro h; simp only [List.flatten_cons, List.length_append, List.length_cons, h x (by simp), ih (fun q hq => h q (by simp [hq])), Nat.add_mul, Nat.one_mul]; omega
theorem flatten_get {n : Nat} {l : List Value} {j : Nat} {v : Value} (hj : l[j]? = some v) : ∀ (ls : List (List Value)), (∀ l ∈ ls, l.length = n) → ∀ i, ls[i]? = some l → ls.flatten[i * n + j]? = some v := by
  intro ls
  induction ls with
  | nil => intro _ i h; simp at h
  | cons x ls ih =>
    intro h8 i hi
    have hx := h8 x (by simp)
    simp only [List.flatten_cons]
    cases i with
    | zero =>
      simp at hi; subst hi
      have : j < x.length := (List.getElem?_eq_some_iff.1 hj).1
      rw [List.getElem?_append_left (by omega)]; simpa using hj
    | succ i =>
      rw [List.getElem?_append_right (by rw [hx, Nat.add_mul]; omega)]
      have : (i + 1) * n + j - x.length = i * n + j := by rw [Nat.add_mul]; omega
      rw [this]
      exact ih (fun l hl => h8 l (by simp [hl])) i (by simpa using hi)
theorem NodesV.rows {D : Nat → Prop} {w : World} {a : Option Addr} {n cap : Nat} {ts : List Nd} (h : NodesV D w (.slice a n cap) ts) : ∃ ls, RowsL D w ls ts ∧ n = ts.length ∧ (ts = [] ∨ ∃ b o, a = some ⟨b, o, none⟩ ∧ D b ∧ Reads w b o ls.flatten) := by
  obtain ⟨ls, ⟨a', cap', he, _, hn, h⟩, h2, h3⟩ := h
  cases he
  refine ⟨ls, ⟨h2, h3⟩, h2, ?_⟩
  rcases h with h | ⟨b, o, ha, hb, hr⟩
  · subst h; left; exact List.eq_nil_of_length_eq_zero (by simpa using h2.symm)
  · right
    refine ⟨b, o, ha, hb, fun j v hj => ?_⟩
    have hlt : j < ls.length * 8 := by rw [← len_flatten ls hn]; exact (List.getElem?_eq_some_iff.1 hj).1
    have hq : j / 8 < ls.length := by omega
    have hl8 := hn (ls[j / 8]) (List.getElem_mem hq)
    have hm : j % 8 < (ls[j / 8]).length := by omega
    have h1 := flatten_get (l := ls[j / 8]) (j := j % 8) (v := (ls[j / 8])[j % 8]) (List.getElem?_eq_getElem hm) ls hn (j / 8) (List.getElem?_eq_getElem hq)
    have e : j / 8 * 8 + j % 8 = j := by omega
    rw [e, hj] at h1
    cases h1
    have := hr (j / 8) _ (List.getElem?_eq_getElem hq) (j % 8) _ (List.getElem?_eq_getElem hm)
    have e2 : o + j / 8 * 8 + j % 8 = o + j := by omega
    rw [e2] at this; exact this
def OwnV (e : TypeId) (base : Nat) (D : Nat → Prop) (w : World) (v : Value) (ts : List Nd) : Prop :=
  ∃ ls, w.ownsRow base e 8 v ts.length ls.flatten ∧ RowsL (fun k => D k ∧ k < w.heap.size ∧ v.ownBlock ≠ some k) w ls ts ∧ ts.length ≤ 1000000000
theorem OwnV.nil (e : TypeId) (base : Nat) (D : Nat → Prop) (w : World) : OwnV e base D w (.slice none 0 0) [] := ⟨[], ⟨rfl, .inl ⟨rfl, rfl⟩⟩, RowsL.nil _ _, by simp⟩
theorem OwnV.cases {e : TypeId} {base : Nat} {D : Nat → Prop} {w : World} {v : Value} {ts : List Nd} (h : OwnV e base D w v ts) : ∃ a cap, v = .slice a ts.length cap ∧ (a = none → ts = [] ∧ cap = 0) ∧ ∀ x, a = some x → base ≤ x.block ∧ x.block < w.heap.size ∧ v.ownBlock = some x.block := by
  obtain ⟨ls, ⟨_, h⟩, _, _⟩ := h
  rcases h with ⟨rfl, h0⟩ | ⟨g, cap, cur, rfl, hg, hrow, _⟩
  · have : ts = [] := List.eq_nil_of_length_eq_zero h0
    subst this
    exact ⟨none, 0, rfl, fun _ => ⟨rfl, rfl⟩, fun x h => by cases h⟩
  · exact ⟨_, cap, rfl, (fun h => by cases h), (fun x h => by cases h; exact ⟨hg, (Array.getElem?_eq_some_iff.1 hrow).1, rfl⟩)⟩
theorem OwnV.nodes {e : TypeId} {base : Nat} {D : Nat → Prop} {w : World} {v : Value} {ts : List Nd} (h : OwnV e base D w v ts) : NodesV (fun k => D k ∨ (base ≤ k ∧ v.ownBlock = some k)) w v ts := by
  obtain ⟨ls, ⟨hl, h⟩, h2, h3⟩ := h
  rcases h with ⟨rfl, h0⟩ | ⟨g, cap, cur, rfl, hg, hrow, hn, hcm, hcs, htake⟩
  · have : ts = [] := List.eq_nil_of_length_eq_zero h0
    subst this
    exact NodesV.nil _ _ _ _
  · refine NodesV.row (ls := ls) (more := cur.toList.drop (ts.length * 8)) (ty := e) ?_ (.inr ⟨hg, rfl⟩) h2.1 (by have := h2.1; omega) h2.eight (fun i l t h1 h' => (h2.2 i l t h1 h').dom (fun k hk => .inl hk.1))
    simp only [Row]
    rw [hrow, ← htake, List.take_append_drop]
theorem OwnV.dom {e : TypeId} {base : Nat} {D D' : Nat → Prop} {w : World} {v : Value} {ts : List Nd} (h : OwnV e base D w v ts) (hd : ∀ k, D k → k < w.heap.size → v.ownBlock ≠ some k → D' k) : OwnV e base D' w v ts := by
  obtain ⟨ls, h1, h2, h3⟩ := h
  exact ⟨ls, h1, h2.step (fun l t hn => hn.dom (fun k hk => ⟨hd k hk.1 hk.2.1 hk.2.2, hk.2⟩)), h3⟩
theorem OwnV.to {e : TypeId} {base : Nat} {D : Nat → Prop} {w w' : World} {v : Value} {ts : List Nd} (h : OwnV e base D w v ts) (hsz : w.heap.size ≤ w'.heap.size) (hb : ∀ k, k < w.heap.size → (D k ∨ v.ownBlock = some k) → w'.heap[k]? = w.heap[k]?) : OwnV e base D w' v ts := by
  obtain ⟨ls, ⟨hl, h⟩, h2, h3⟩ := h
  refine ⟨ls, ⟨hl, ?_⟩, h2.step (fun l t hn => hn.step (fun k hk => ⟨hk.1, by omega, hk.2.2⟩) (fun b o l hk hr j u hj => ?_)), h3⟩
  · rcases h with h | ⟨g, cap, cur, rfl, hg, hrow, h⟩
    · exact .inl h
    · exact .inr ⟨g, cap, cur, rfl, hg, by rw [hb g (Array.getElem?_eq_some_iff.1 hrow).1 (.inr rfl)]; exact hrow, h⟩
  · have := hr j u hj
    rw [← this]
    exact World.cell?_of_block (hb b hk.2.1 (.inl hk.1))
theorem OwnV.ext {e : TypeId} {base : Nat} {D : Nat → Prop} {w w' : World} {v : Value} {ts : List Nd} (h : OwnV e base D w v ts) (E : Ext w w') : OwnV e base D w' v ts := h.to E.size (fun k hk _ => E.block k hk)
theorem OwnV.but {e : TypeId} {base : Nat} {D : Nat → Prop} {w w' : World} {v : Value} {ts : List Nd} {b : Nat} (h : OwnV e base D w v ts) (E : But b w w') (h1 : ¬ D b) (h2 : v.ownBlock ≠ some b) : OwnV e base D w' v ts :=
  h.to (by rw [E.size]; exact Nat.le_refl _) (fun k _ hk => E.block k (fun he => by subst he; rcases hk with hk | hk; exact h1 hk; exact h2 hk))
theorem OwnV.own {e : TypeId} {base : Nat} {D : Nat → Prop} {w : World} {v : Value} {ts : List Nd} (h : OwnV e base D w v ts) : ∀ k, v.ownBlock = some k → base ≤ k ∧ k < w.heap.size := by
  obtain ⟨a, cap, rfl, h1, h2⟩ := h.cases
  intro k hk
  cases a with
  | none => simp [Value.ownBlock] at hk
  | some x => simp only [Value.ownBlock, Option.some.injEq] at hk; subst hk; exact ⟨(h2 x rfl).1, (h2 x rfl).2.1⟩
theorem OwnV.le {e : TypeId} {base : Nat} {D : Nat → Prop} {w : World} {v : Value} {ts : List Nd} (h : OwnV e base D w v ts) : ts.length ≤ 1000000000 := by
  obtain ⟨_, _, _, h⟩ := h; exact h
def MixV (e : TypeId) (base : Nat) (DD : Nat → Nat → Prop) (w : World) (v : Value) (ts : List Nd) : Prop :=
  ∃ ls : List (List Value), w.ownsRow base e 8 v ts.length ls.flatten ∧ ls.length = ts.length ∧ (∀ (i : Nat) (l : List Value) (t : Nd), ls[i]? = some l → ts[i]? = some t → NodeL (fun k => DD i k ∧ k < w.heap.size ∧ v.ownBlock ≠ some k) w l t) ∧ ts.length ≤ 1000000000
theorem OwnV.mix {e : TypeId} {base : Nat} {D : Nat → Prop} {w : World} {v : Value} {ts : List Nd} (h : OwnV e base D w v ts) : MixV e base (fun _ => D) w v ts := by
  obtain ⟨ls, h1, h2, h3⟩ := h; exact ⟨ls, h1, h2.1, h2.2, h3⟩
theorem MixV.own {e : TypeId} {base : Nat} {DD : Nat → Nat → Prop} {D : Nat → Prop} {w : World} {v : Value} {ts : List Nd} (h : MixV e base DD w v ts) (hd : ∀ i k, i < ts.length → DD i k → k < w.heap.size → v.ownBlock ≠ some k → D k) : OwnV e base D w v ts := by
  obtain ⟨ls, h1, h2, h3, h4⟩ := h
  exact ⟨ls, h1, ⟨h2, fun i l t hl ht => (h3 i l t hl ht).dom (fun k hk => ⟨hd i k (List.getElem?_eq_some_iff.1 ht).1 hk.1 hk.2.1 hk.2.2, hk.2⟩)⟩, h4⟩
theorem MixV.dom {e : TypeId} {base : Nat} {DD DD' : Nat → Nat → Prop} {w : World} {v : Value} {ts : List Nd} (h : MixV e base DD w v ts) (hd : ∀ i k, i < ts.length → DD i k → k < w.heap.size → v.ownBlock ≠ some k → DD' i k) : MixV e base DD' w v ts := by
  obtain ⟨ls, h1, h2, h3, h4⟩ := h
  exact ⟨ls, h1, h2, fun i l t hl ht => (h3 i l t hl ht).dom (fun k hk => ⟨hd i k (List.getElem?_eq_some_iff.1 ht).1 hk.1 hk.2.1 hk.2.2, hk.2⟩), h4⟩
theorem MixV.at {e : TypeId} {base : Nat} {DD : Nat → Nat → Prop} {w : World} {a : Option Addr} {n cap : Nat} {ts : List Nd} (h : MixV e base DD w (.slice a n cap) ts) {i : Nat} {t : Nd} (ht : ts[i]? = some t) :
    ∃ g l, a = some ⟨g, 0, none⟩ ∧ base ≤ g ∧ g < w.heap.size ∧ Reads w g (0 + i * 8) l ∧ NodeL (fun k => (DD i k ∧ k ≠ g) ∧ k < w.heap.size) w l t := by
  obtain ⟨ls, ⟨hl, h⟩, h2, h3, h4⟩ := h
  have hi : i < ls.length := by rw [h2]; exact (List.getElem?_eq_some_iff.1 ht).1
  rcases h with ⟨he, h0⟩ | ⟨g, cap', cur, he, hg, hrow, hn, hcm, hcs, htake⟩
  · rw [h2, h0] at hi; exact absurd hi (Nat.not_lt_zero _)
  · cases he
    have hli : ls[i]? = some ls[i] := by simp [hi]
    have hN := h3 i _ t hli ht
    refine ⟨g, ls[i], rfl, hg, (Array.getElem?_eq_some_iff.1 hrow).1, ?_, hN.dom (fun k hk => ⟨⟨hk.1, fun hh => hk.2.2 (by simp [Value.ownBlock, hh])⟩, hk.2.1⟩)⟩
    intro j u hj
    have h8 : ∀ l ∈ ls, l.length = 8 := by
      intro l hl
      obtain ⟨q, hq, rfl⟩ := List.mem_iff_getElem.1 hl
      exact (h3 q _ (ts[q]'(by omega)) (by simp [hq]) (by simp)).length
    have hf := flatten_get hj ls h8 i hli
    rw [← htake, List.getElem?_take] at hf
    split at hf
    · rw [cell_of_row w g _ cur e (0, 0) hrow]; simpa using hf
    · cases hf
theorem MixV.ext {e : TypeId} {base : Nat} {DD : Nat → Nat → Prop} {w w' : World} {v : Value} {ts : List Nd} (h : MixV e base DD w v ts) (E : Ext w w') : MixV e base DD w' v ts := by
  obtain ⟨ls, ⟨hl, h⟩, h2, h3, h4⟩ := h
  refine ⟨ls, ⟨hl, ?_⟩, h2, fun i l t h1 ht => (h3 i l t h1 ht).step (fun k hk => ⟨hk.1, Nat.lt_of_lt_of_le hk.2.1 E.size, hk.2.2⟩) (fun b o l hk hr => hr.ext E), h4⟩
  rcases h with h | ⟨g, cap, cur, rfl, hg, hrow, h⟩
  · exact .inl h
  · exact .inr ⟨g, cap, cur, rfl, hg, by rw [E.block g (Array.getElem?_eq_some_iff.1 hrow).1]; exact hrow, h⟩
theorem MixV.but {e : TypeId} {base : Nat} {DD : Nat → Nat → Prop} {w w' : World} {v : Value} {ts : List Nd} {b : Nat} (h : MixV e base DD w v ts) (E : But b w w') (h1 : ∀ i, i < ts.length → ¬ (DD i b ∧ b < w.heap.size)) (hb : v.ownBlock ≠ some b) : MixV e base DD w' v ts := by
  obtain ⟨ls, ⟨hl, h⟩, h2, h3, h4⟩ := h
  refine ⟨ls, ⟨hl, ?_⟩, h2, fun i l t h1' ht => (h3 i l t h1' ht).step (fun k hk => ⟨hk.1, by rw [E.size]; exact hk.2.1, hk.2.2⟩) (fun c o l hk hr => E.reads hr (fun he => h1 i (List.getElem?_eq_some_iff.1 ht).1 (by subst he; exact ⟨hk.1, hk.2.1⟩))), h4⟩
  rcases h with h | ⟨g, cap, cur, rfl, hg, hrow, h⟩
  · exact .inl h
  · exact .inr ⟨g, cap, cur, rfl, hg, by rw [E.block g (fun he => hb (by simp [Value.ownBlock, he]))]; exact hrow, h⟩
theorem MixV.block {e : TypeId} {base : Nat} {DD : Nat → Nat → Prop} {w : World} {v : Value} {ts : List Nd} (h : MixV e base DD w v ts) : ∀ k, v.ownBlock = some k → base ≤ k ∧ k < w.heap.size := by
  obtain ⟨ls, ⟨hl, h⟩, h2, h3, h4⟩ := h
  intro k hk
  rcases h with ⟨rfl, _⟩ | ⟨g, cap, cur, rfl, hg, hrow, _⟩
  · simp [Value.ownBlock] at hk
  · simp only [Value.ownBlock, Option.some.injEq] at hk; subst hk; exact ⟨hg, (Array.getElem?_eq_some_iff.1 hrow).1⟩
theorem RowsL.cons {D1 D2 : Nat → Prop} {w : World} {l : List Value} {t : Nd} {ls ts} (h : NodeL D1 w l t) (hs : RowsL D2 w ls ts) : RowsL (fun k => D1 k ∨ D2 k) w (l :: ls) (t :: ts) := by
  refine ⟨by simp [hs.1], fun i l' t' h1 h2 => ?_⟩
  cases i with
  | zero => simp at h1 h2; subst h1; subst h2; exact h.dom (fun k hk => .inl hk)
  | succ i => exact (hs.2 i l' t' (by simpa using h1) (by simpa using h2)).dom (fun k hk => .inr hk)
theorem RowsL.nil' (w : World) : RowsL (fun _ => False) w [] [] := RowsL.nil _ _
theorem NodesV.lit {D : Nat → Prop} {w : World} {b n : Nat} {cells : List Value} {ls : List (List Value)} {ts : List Nd} {ty : TypeId} (hR : Row w b cells ty) (h : RowsL D w ls ts) (hc : cells = ls.flatten) (hn : ts.length = n) (hle : n ≤ 1000) : NodesV (fun k => D k ∨ k = b) w (.slice (some ⟨b, 0, none⟩) n n) ts := by
  subst hn; subst hc
  exact NodesV.row (ls := ls) (more := []) (by simpa using hR) (.inr rfl) h.1 (by have := h.1; omega) h.eight (fun i l t h1 h2 => (h.2 i l t h1 h2).dom (fun k hk => .inl hk))
structure GrownD (w w' : World) (row : Option Nat) : Prop extends World.grownBy w w' row where
  drawn : w.drawn ≤ w'.drawn
theorem grown_row {w w' : World} {row : Option Nat} {b : Nat} {l : List Value} {t : TypeId} (h : GrownD w w' row) (hR : Row w b l t) (hne : row ≠ some b) : Row w' b l t :=
  (h.block b hR.lt (fun hh => hne hh.symm)).trans hR
theorem NodeL.grown {D : Nat → Prop} {w w' : World} {row : Option Nat} {l : List Value} {T : Nd} (hn : NodeL D w l T) (h : GrownD w w' row) (hd : ∀ k, D k → k < w.heap.size → row ≠ some k) : NodeL D w' l T :=
  hn.lt.step (fun k hk => hk.1) (fun b o l hk hr j u hj => by rw [← hr j u hj]; exact World.cell?_of_block (h.block b hk.2 (fun hh => hd b hk.1 hk.2 hh.symm)))
theorem NodesV.grown {D : Nat → Prop} {w w' : World} {row : Option Nat} {sl : Value} {ts : List Nd} (hn : NodesV D w sl ts) (h : GrownD w w' row) (hd : ∀ k, D k → k < w.heap.size → row ≠ some k) : NodesV D w' sl ts :=
  hn.lt.step (fun k hk => hk.1) (fun b o l hk hr j u hj => by rw [← hr j u hj]; exact World.cell?_of_block (h.block b hk.2 (fun hh => hd b hk.1 hk.2 hh.symm)))
theorem NodesV.none {D : Nat → Prop} {w : World} {n cap : Nat} {ts : List Nd} (h : NodesV D w (.slice none n cap) ts) : ts = [] := by
  obtain ⟨ls, _, _, h⟩ := h.rows
  rcases h with h | ⟨b, o, h, _⟩
  · exact h
  · cases h
theorem NodeL.off0 {D : Nat → Prop} {w0 w w' : World} {β : Boxes} {l : List Value} {T : Nd} (h : NodeL (fun k => w.heap.size ≤ k) w' l T) (hb : BInv w0 w β) (hD : ∀ k, w.heap.size ≤ k → D k) : NodeL (Off D w' β) w' l T :=
  h.lt.dom (fun k hk => ⟨hD k hk.1, fun x hx => by have := hb.hi x hx; have := hk.1; omega, hk.2⟩)
theorem MixV.base {e : TypeId} {base base' : Nat} {DD : Nat → Nat → Prop} {w : World} {v : Value} {ts : List Nd} (h : MixV e base DD w v ts) (hb : base' ≤ base) : MixV e base' DD w v ts := by
  obtain ⟨ls, ⟨hl, h⟩, h2⟩ := h
  refine ⟨ls, ⟨hl, ?_⟩, h2⟩
  rcases h with h | ⟨g, cap, cur, he, hg, h⟩
  · exact .inl h
  · exact .inr ⟨g, cap, cur, he, Nat.le_trans hb hg, h⟩
theorem set_self {ts : List Nd} {i : Nat} {t : Nd} (h : ts[i]? = some t) : ts.set i t = ts := by
  apply List.ext_getElem?
  intro j
  by_cases hj : i = j
  · subst hj; rw [List.getElem?_set_self (List.getElem?_eq_some_iff.1 h).1, h]
  · rw [List.getElem?_set_ne hj]
section
variable {P : Program}
theorem run_append_none_any {w : World} (base : Nat) (t ty e : TypeId) (i : TypeInfo) (size c : Nat) (ht : P.underlying t = some (.slice e)) (hi : P.info? e = some i)
    (v : Value) (n : Nat) (xs : List Value) (hown : w.ownsRow base e size v n xs) :
    (Builtin.append_ #[t, t] ty #[v, .slice none 0 c]).run P w = .ok v w := by
  rcases hown.2 with ⟨rfl, rfl⟩ | ⟨g, cap, cur, rfl, _, _, hnc, _⟩
  · simp [Builtin.append_, run_underlying ht, sizeOf, typeInfo, hi, Builtin.lenOf, Builtin.firstCells]
  · simp [Builtin.append_, run_underlying ht, sizeOf, typeInfo, hi, Builtin.lenOf, Builtin.firstCells, hnc, storeCells]
theorem run_appendR {w : World} {base : Nat} {D D2 : Nat → Prop} {t ty e : TypeId} {z v : Value} {ts us : List Nd} {us' : List (List Value)} {a : Option Addr} {c : Nat} (ht : sliceB P t e 8 = true) (hz : zeroB P e z) (hzs : z.cells.size = 8) (hby : smallB P e = true)
    (hown : OwnV e base D w v ts) (hus0 : RowsL D2 w us' us) (hr : us = [] ∨ ∃ b o, a = some ⟨b, o, none⟩ ∧ Reads w b o us'.flatten) (hap : ∀ k, D2 k → v.ownBlock ≠ some k) (hlen : ts.length + us.length ≤ 1000000000) (hbase : base ≤ w.heap.size) :
    ∃ v' w', (Builtin.append_ #[t, t] ty #[v, .slice a us.length c]).run P w = .ok v' w' ∧ OwnV e base (fun k => D k ∨ D2 k) w' v' (ts ++ us) ∧ GrownD w w' v.ownBlock ∧ (v'.ownBlock = v.ownBlock ∨ v'.ownBlock = some w.heap.size) := by
  obtain ⟨hu, q, hq, hs⟩ := sliceB_u ht
  obtain ⟨ls, hrow, hls, hle⟩ := hown
  have hbt : q.bytes ≤ 128 := by unfold smallB at hby; rw [hq] at hby; simp at hby; exact hby.1
  have hus' : RowsL (fun k => D2 k ∧ k < w.heap.size) w us' us := hus0.step (fun l t h => h.lt)
  have hzz : q.zero = some z := by unfold zeroB at hz; rw [hq] at hz; exact hz
  have fin : ∀ (v' : Value) (w' : World), w'.ownsRow base e 8 v' (ts.length + us.length) (ls.flatten ++ us'.flatten) → w.grownBy w' v.ownBlock → (v'.ownBlock = v.ownBlock ∨ v'.ownBlock = some w.heap.size) → OwnV e base (fun k => D k ∨ D2 k) w' v' (ts ++ us) := by
    intro v' w' h1 h2 h3
    refine ⟨ls ++ us', by simpa using h1, RowsL.append (hls.step (fun l t hn => hn.step (fun k hk => ?_) ?_)) (hus'.step (fun l t hn => hn.step (fun k hk => ?_) ?_)), by simpa using hlen⟩
    · refine ⟨.inl hk.1, Nat.lt_of_lt_of_le hk.2.1 h2.size, ?_⟩
      rcases h3 with h3 | h3 <;> rw [h3]
      · exact hk.2.2
      · intro hh; cases hh; exact absurd hk.2.1 (Nat.lt_irrefl _)
    · intro b o l hk hrd j u hj
      rw [← hrd j u hj]; exact World.cell?_of_block (h2.block b hk.2.1 (fun hh => hk.2.2 hh.symm))
    · refine ⟨.inr hk.1, Nat.lt_of_lt_of_le hk.2 h2.size, ?_⟩
      rcases h3 with h3 | h3 <;> rw [h3]
      · exact hap k hk.1
      · intro hh; cases hh; exact absurd hk.2 (Nat.lt_irrefl _)
    · intro b o l hk hrd j u hj
      rw [← hrd j u hj]; exact World.cell?_of_block (h2.block b hk.2 (fun hh => hap b hk.1 hh.symm))
  have hlen8 := len_flatten us' hus'.eight
  cases a with
  | none =>
    have hnil : us = [] := by rcases hr with h | ⟨b, o, h, _⟩ <;> first | exact h | cases h
    subst hnil
    have : us' = [] := List.eq_nil_of_length_eq_zero (by simpa using hus'.1)
    subst this
    refine ⟨v, w, run_append_none_any base t ty e q 8 c hu hq v _ _ hrow, ?_, ⟨⟨rfl, rfl, rfl, Nat.le_refl _, fun _ _ _ => rfl⟩, Nat.le_refl _⟩, .inl rfl⟩
    exact fin v w (by simpa using hrow) ⟨rfl, rfl, rfl, Nat.le_refl _, fun _ _ _ => rfl⟩ (.inl rfl)
  | some ad =>
    obtain ⟨v', w', h1, h2, h3, _, h5⟩ := run_append_own_at (P := P) w base t ty e q z 8 q.bytes hu hq hzz hs rfl hzs (by omega) v ts.length ls.flatten hrow ad us.length c us'.flatten (by rw [hlen8, hus'.1]) (by
      intro j u hj
      rcases hr with h | ⟨b, o, h, hrd⟩
      · subst h
        have : us' = [] := List.eq_nil_of_length_eq_zero (by simpa using hus'.1)
        subst this; simp at hj
      · cases h; exact (addr_add b o j) ▸ hrd j u hj) hus'.one (by simp only [maxLen]; omega) (by
        have := Nat.mul_le_mul hlen hbt
        omega) hbase
    exact ⟨v', w', h1, fin v' w' h2 h3 h5, ⟨h3, run_drawn _ h1⟩, h5⟩
theorem run_appendV {w : World} {base : Nat} {D D2 : Nat → Prop} {t ty e : TypeId} {z v : Value} {ts us : List Nd} {a : Option Addr} {n c : Nat} (ht : sliceB P t e 8 = true) (hz : zeroB P e z) (hzs : z.cells.size = 8) (hby : smallB P e = true)
    (hown : OwnV e base D w v ts) (hus : NodesV D2 w (.slice a n c) us) (hap : ∀ k, D2 k → v.ownBlock ≠ some k) (hlen : ts.length + us.length ≤ 1000000000) (hbase : base ≤ w.heap.size) :
    ∃ v' w', (Builtin.append_ #[t, t] ty #[v, .slice a n c]).run P w = .ok v' w' ∧ OwnV e base (fun k => D k ∨ D2 k) w' v' (ts ++ us) ∧ GrownD w w' v.ownBlock ∧ (v'.ownBlock = v.ownBlock ∨ v'.ownBlock = some w.heap.size) := by
  obtain ⟨us', h1, rfl, h2⟩ := hus.rows
  exact run_appendR ht hz hzs hby hown h1 (h2.imp (fun h => h) (fun ⟨b, o, h1, _, h2⟩ => ⟨b, o, h1, h2⟩)) hap hlen hbase
variable {ro : Option Nat} {all : Array Oper} {Q : Exit → Act → World → Prop} {N : Nat} {ds : List Deferred} {r : Reg} {w : World} {rest : List Oper}
  {ty : TypeId} {pos : String} {aft : Array Edge} {g : Option (Nat × Bool)}
theorem WL.appendV {d : Nat} {t e : TypeId} {base : Nat} {D D2 : Nat → Prop} {x y : Operand} {z v : Value} {ts us : List Nd} {a : Option Addr} {n c : Nat} (hw : want all r g = some true) (hd : Nat.blt d N = true) (ht : sliceB P t e 8 = true) (hz : zeroB P e z) (hzs : z.cells.size = 8) (hby : smallB P e = true)
    (hx : ev r x = some v) (hy : ev r y = some (.slice a n c)) (hown : OwnV e base D w v ts) (hus : NodesV D2 w (.slice a n c) us) (hap : ∀ k, D2 k → v.ownBlock ≠ some k) (hlen : ts.length + us.length ≤ 1000000000) (hbase : base ≤ w.heap.size)
    (next : ∀ v' w', GrownD w w' v.ownBlock → OwnV e base (fun k => D k ∨ D2 k) w' v' (ts ++ us) → (v'.ownBlock = v.ownBlock ∨ v'.ownBlock = some w.heap.size) → WL ro P all Q N ds rest ((d, v') :: r) w') :
    WL ro P all Q N ds (⟨some d, .call ⟨.builtin .append, #[x, y], #[t, t]⟩, ty, pos, aft, g⟩ :: rest) r w := by
  obtain ⟨v', w', h1, h2, h3, h4⟩ := run_appendV (ty := ty) ht hz hzs hby hown hus hap hlen hbase
  exact WL.val hw hd (by intro c h; cases h) (fun a ha => by simp [execOp, resolve, invoke, builtin, ha.ev hx, ha.ev hy, h1]) (next v' w' h3 h2 h4)
theorem WL.append1 {d : Nat} {t e t' : TypeId} {base b c : Nat} {D D2 : Nat → Prop} {x y : Operand} {z v : Value} {ts : List Nd} {l : List Value} {T : Nd} (hw : want all r g = some true) (hd : Nat.blt d N = true) (ht : sliceB P t e 8 = true) (hz : zeroB P e z) (hzs : z.cells.size = 8) (hby : smallB P e = true)
    (hx : ev r x = some v) (hy : ev r y = some (.slice (some ⟨b, 0, none⟩) 1 c)) (hown : OwnV e base D w v ts) (hR : Row w b l t') (hl : NodeL D2 w l T) (hap : ∀ k, D2 k → v.ownBlock ≠ some k) (hlen : ts.length + 1 ≤ 1000000000) (hbase : base ≤ w.heap.size)
    (next : ∀ v' w', GrownD w w' v.ownBlock → OwnV e base (fun k => D k ∨ D2 k) w' v' (ts ++ [T]) → (v'.ownBlock = v.ownBlock ∨ v'.ownBlock = some w.heap.size) → WL ro P all Q N ds rest ((d, v') :: r) w') :
    WL ro P all Q N ds (⟨some d, .call ⟨.builtin .append, #[x, y], #[t, t]⟩, ty, pos, aft, g⟩ :: rest) r w := by
  obtain ⟨v', w', h1, h2, h3, h4⟩ := run_appendR (P := P) (ty := ty) (a := some ⟨b, 0, none⟩) (c := c) ht hz hzs hby hown (RowsL.single hl) (.inr ⟨b, 0, rfl, by simpa using hR.reads0⟩) hap (by simpa using hlen) hbase
  exact WL.val hw hd (by intro c h; cases h) (fun a ha => by simp only [List.length_singleton] at h1; simp [execOp, resolve, invoke, builtin, ha.ev hx, ha.ev hy, h1]) (next v' w' h3 h2 h4)
theorem WL.indexS {d : Nat} {t : Nat} {x y : Operand} {bs : List UInt8} {i : Nat} {k : IntKind} {j : Int} {b : UInt8} (hw : want all r g = some true) (hd : Nat.blt d N = true) (ht : P.underlying t = some .string)
    (hx : ev r x = some (.string ⟨bs.toArray⟩)) (hy : ev r y = some (.int k j)) (hj : j = i) (hv : bs[i]? = some b)
    (next : WL ro P all Q N ds rest ((d, .int .u8 b.toNat) :: r) w) : WL ro P all Q N ds (⟨some d, .index t x y, ty, pos, aft, g⟩ :: rest) r w := by
  subst hj
  refine WL.val hw hd (by intro c h; cases h) (fun a ha => ?_) next
  have hi : i < bs.length := (List.getElem?_eq_some_iff.1 hv).1
  have hb : (⟨bs.toArray⟩ : ByteArray)[i]? = some b := by
    have e : bs[i] = b := by rw [List.getElem?_eq_getElem hi] at hv; exact Option.some.inj hv
    rw [getElem?_pos (⟨bs.toArray⟩ : ByteArray) i hi, ← e]; rfl
  simp [execOp, ha.ev hx, ha.ev hy, Instr.index, asIntOf, run_underlying ht, hb]
theorem WL.lenS {d : Nat} {t : TypeId} {x : Operand} {bs : List UInt8} (hw : want all r g = some true) (hd : Nat.blt d N = true) (ht : P.underlying t = some .string) (hx : ev r x = some (.string ⟨bs.toArray⟩))
    (next : WL ro P all Q N ds rest ((d, .int .i64 bs.length) :: r) w) : WL ro P all Q N ds (⟨some d, .call ⟨.builtin .len, #[x], #[t]⟩, ty, pos, aft, g⟩ :: rest) r w := WL.lens hw hd ht hx next
theorem scells_get (s : S4) (i : Nat) (h : i < 4) : (scells s)[0 + i * 1]? = some (.int .u64 (Nd.S4get s i)) := by
  have hi : i = 0 ∨ i = 1 ∨ i = 2 ∨ i = 3 := by omega
  rcases hi with rfl | rfl | rfl | rfl <;> rfl
theorem scells_put (s : S4) (i : Nat) (v : Int) (h : i < 4) : (scells s).take (0 + i * 1) ++ [.int .u64 v] ++ (scells s).drop (0 + i * 1 + 1) = scells (Nd.S4put s i v) := by
  have hi : i = 0 ∨ i = 1 ∨ i = 2 ∨ i = 3 := by omega
  rcases hi with rfl | rfl | rfl | rfl <;> rfl
theorem WL.sliceNil {d : Nat} {t e : TypeId} {x y : Operand} {a : Option Addr} {n c : Nat} {b : Bool} {t2 : TypeId} (hw : want all r g = some true) (hd : Nat.blt d N = true) (ht : P.underlying t = some (.slice e)) (hx : ev r x = some (.slice a n c)) (hy : ev r y = some (.slice none 0 0)) (hb : a.isNone = b)
    (next : WL ro P all Q N ds rest ((d, .bool b) :: r) w) : WL ro P all Q N ds (⟨some d, .binOp .eql t x y t2, ty, pos, aft, g⟩ :: rest) r w := by
  refine WL.val hw hd (by intro c h; cases h) (fun ac ha => ?_) next
  have hg : ∀ u v, (eqGuard .eql t u v (.slice a n c) (.slice none 0 0)).run P w = .ok () w := by intro u v; simp [eqGuard]
  simp only [execOp, ha.ev hx, ha.ev hy, hg, Sem.run_bind, Sem.run_pure, Result.andThen_ok, run_eql_slice_nil w t e _ _ _ ht, hb]
theorem WL.storeV {t e : TypeId} {base : Nat} {DD : Nat → Nat → Prop} {D' : Nat → Prop} {x y : Operand} {b i n cap : Nat} {l : List Value} {T : Nd} {ts : List Nd} (hw : want all r g = some true) (ht : aggB P t 8 = true)
    (hx : ev r x = some (.pointer (some ⟨b, 0 + i * 8, none⟩))) (hy : ev r y = some (.agg l.toArray)) (hM : MixV e base DD w (.slice (some ⟨b, 0, none⟩) n cap) ts) (hi : i < ts.length) (hl : NodeL D' w l T) (hap : ∀ k, D' k → k < w.heap.size → k ≠ b)
    (next : ∀ w', But b w w' → MixV e base (fun j k => (j = i ∧ D' k) ∨ (j ≠ i ∧ DD j k)) w' (.slice (some ⟨b, 0, none⟩) n cap) (ts.set i T) → WL ro P all Q N ds rest r w') :
    WL ro P all Q N ds (⟨none, .store t x y, ty, pos, aft, g⟩ :: rest) r w := by
  obtain ⟨ls, ⟨hlen, h⟩, h2, h3, h4⟩ := hM
  have h8 : ∀ l ∈ ls, l.length = 8 := by
    intro l hl
    obtain ⟨q, hq, rfl⟩ := List.mem_iff_getElem.1 hl
    exact (h3 q _ (ts[q]'(by omega)) (by simp [hq]) (by simp)).length
  rcases h with ⟨he, _⟩ | ⟨g', cap', cur, he, hg, hrow, hn, hcm, hcs, htake⟩
  · cases he
  · cases he
    have hcl : cur.toList.length = cap * 8 := by simpa using hcs
    have hl8 := hl.length
    refine WL.store (n := 8) (vl := l) hw hx hy (by simpa [Row] using hrow : Row w b cur.toList e) (run_sizeOf_agg ht) rfl hl8 (by omega) (List.all_eq_true.2 hl.one) (fun w' hB hR => next w' hB ?_)
    have key : ∀ (q : Nat), q ≠ i → ∀ l t, ls[q]? = some l → ts[q]? = some t → NodeL (fun k => ((q = i ∧ D' k) ∨ (q ≠ i ∧ DD q k)) ∧ k < w'.heap.size ∧ (Value.slice (some ⟨b, 0, none⟩) ts.length cap).ownBlock ≠ some k) w' l t := fun q hq l t hl' ht' =>
      (h3 q l t hl' ht').step (fun k hk => ⟨.inr ⟨hq, hk.1⟩, by rw [hB.size]; exact hk.2.1, hk.2.2⟩) (fun c o l' hk hr => hB.reads hr (fun he => hk.2.2 (by simp [Value.ownBlock, he])))
    refine ⟨ls.set i l, ⟨?_, .inr ⟨b, cap, (cur.toList.take (0 + i * 8) ++ l ++ cur.toList.drop (0 + i * 8 + 8)).toArray, by simp, hg, by simpa [Row] using hR, by simpa using hn, hcm, by simp [hl8]; omega, ?_⟩⟩, by simpa using h2, ?_, by simpa using h4⟩
    · rw [len_flatten _ (fun q hq => by rcases List.mem_or_eq_of_mem_set hq with h | h; exact h8 q h; rw [h]; exact hl8)]; simp [h2]
    · have hfl : ∀ (ls : List (List Value)) (cur : List Value) (i : Nat), (∀ l ∈ ls, l.length = 8) → i < ls.length → cur.take (ls.length * 8) = ls.flatten → (cur.take (i * 8) ++ l ++ cur.drop (i * 8 + 8)).take (ls.length * 8) = (ls.set i l).flatten := by
        clear h3 key hB hR next hl hy
        intro ls
        induction ls with
        | nil => intro cur i _ hi; simp at hi
        | cons x ls ih =>
          intro cur i h8 hi he
          have hx8 := h8 x (by simp)
          have hc1 : cur.take 8 = x := by
            have := congrArg (List.take 8) he
            rw [List.take_take, List.flatten_cons, List.take_left' hx8, List.length_cons, Nat.min_eq_left (by omega)] at this
            exact this
          have hc2 : (cur.drop 8).take (ls.length * 8) = ls.flatten := by
            have := congrArg (List.drop 8) he
            rw [List.drop_take, List.flatten_cons, List.drop_left' hx8, List.length_cons] at this
            rw [← this]; congr 1; omega
          cases i with
          | zero =>
            simp only [Nat.zero_mul, List.take_zero, List.nil_append, Nat.zero_add, List.set_cons_zero, List.flatten_cons, List.length_cons]
            have e : (ls.length + 1) * 8 = l.length + ls.length * 8 := by omega
            rw [e, List.take_length_add_append, hc2]
          | succ i =>
            simp only [List.set_cons_succ, List.flatten_cons, List.length_cons]
            have := ih (cur.drop 8) i (fun q hq => h8 q (by simp [hq])) (by simpa using hi) hc2
            rw [← this]
            have hcur : cur = x ++ cur.drop 8 := by conv => lhs; rw [← List.take_append_drop 8 cur, hc1]
            have e1 : (i + 1) * 8 = x.length + i * 8 := by omega
            have e2 : (ls.length + 1) * 8 = x.length + ls.length * 8 := by omega
            have e3 : x.length + i * 8 + 8 = x.length + (i * 8 + 8) := by omega
            rw [e1, e2, e3]
            generalize cur.drop 8 = c2 at hcur
            rw [hcur, List.take_length_add_append, List.append_assoc, List.append_assoc, List.take_length_add_append, List.append_assoc]
            congr 3
            rw [← List.drop_drop, List.drop_left]
      have hln : ts.length = ls.length := h2.symm
      have := hfl ls cur.toList i h8 (by omega) (by rw [← hln]; exact htake)
      simpa [hln] using this
    · intro q l' t' h1 ht'
      by_cases hq : q = i
      · subst hq
        rw [List.getElem?_set_self (by omega)] at h1 ht'
        cases h1; cases ht'
        have hl2 := hl.lt
        refine hl2.step (fun k hk => ⟨.inl ⟨rfl, hk.1⟩, by rw [hB.size]; exact hk.2, ?_⟩) (fun c o l' hk hr => hB.reads hr (hap c hk.1 hk.2))
        intro hh
        simp only [Value.ownBlock, Option.some.injEq] at hh
        exact hap k hk.1 hk.2 hh.symm
      · rw [List.getElem?_set_ne (fun h => hq h.symm)] at h1 ht'
        simpa using key q hq l' t' h1 ht'
theorem WL.buildSlice0 {d : Nat} {t e n : Nat} (hw : want all r g = some true) (hd : Nat.blt d N = true) (ht : sliceB P t e n = true)
    (next : ∀ b w', b = w.heap.size → Ext w w' → w'.heap.size = w.heap.size + 1 → w'.heap[b]? = some (.cells #[] e (0, 0)) → WL ro P all Q N ds rest ((d, .slice (some ⟨b, 0, none⟩) 0 0) :: r) w') :
    WL ro P all Q N ds (⟨some d, .buildSlice t 0 #[], ty, pos, aft, g⟩ :: rest) r w := by
  obtain ⟨hu, q, hq, hs⟩ := sliceB_u ht
  refine WL.val hw hd (by intro c h; cases h) (w' := w.alloc (.cells #[] e)) (v := .slice (some ⟨w.heap.size, 0, none⟩) 0 0) (fun a ha => ?_) (next _ _ rfl (Ext.alloc _ _) (by simp) (World.alloc_heap_new w _))
  simp [execOp, Instr.buildSlice, run_underlying hu, sizeOf, typeInfo, hq, Instr.fill, newRow]
  have h0 : Array.range 0 = #[] := by apply Array.ext <;> simp
  rw [h0, Array.map_empty]
theorem OwnV.empty {e : TypeId} {base : Nat} {D : Nat → Prop} {w : World} {b : Nat} (hb : base ≤ b) (h : w.heap[b]? = some (.cells #[] e (0, 0))) : OwnV e base D w (.slice (some ⟨b, 0, none⟩) 0 0) [] :=
  ⟨[], ⟨rfl, .inr ⟨b, 0, #[], rfl, hb, h, Nat.le_refl _, by simp [maxLen], rfl, rfl⟩⟩, RowsL.nil _ _, by simp⟩
theorem grown_below {w w' a : World} {row : Option Nat} (h : GrownD w w' row) (e : Ext a w) (hr : ∀ k, row = some k → a.heap.size ≤ k) : Ext a w' :=
  ⟨⟨h.os.trans e.os, h.tape.trans e.tape, h.output.trans e.output, Nat.le_trans e.size h.size, fun k hk => (h.block k (Nat.lt_of_lt_of_le hk e.size) (fun hh => by have := hr k hh.symm; omega)).trans (e.block k hk)⟩, Nat.le_trans e.drawn h.drawn⟩
end
end Go.Proofs.Yteenegaadlhjdaa
namespace Go.Proofs.Yteenegaadlhjdaa
open Go.Proofs Go.RowKit
theorem small_node : smallB Try.prog 30 = true := by kernel_rfl
set_option maxRecDepth 20000 in
set_option maxHeartbeats 4000000 in
theorem clone_ok (D : Nat → Prop) (w : World) (a : Option Addr) (cap : Nat) (ts : List Nd) (hts : NodesV D w (.slice a ts.length cap) ts) (hD : ∀ k, D k → k < w.heap.size) (hle : ts.length ≤ 1000000000) :
  Calls Try.prog 48 #[.slice a ts.length cap] w fun e w' => ∃ v, e = .returned v ∧ OwnV 30 w.heap.size D w' v ts ∧ Ext w w' := by
 refine Calls.enter (args := [.slice a ts.length cap]) Try.func48 rfl rfl rfl rfl ?_
 refine sq ?_
 refine asg ?_
 refine WL.dn ?_
 refine WC.seqk ?_
 refine sq ?_
 refine mv ?_
 cases a with
 | none =>
  refine WL.sliceNil rfl rfl Try.underlying24 rfl rfl rfl ?_
  refine WL.dn ?_
  refine cT ?_
  refine sq ?_
  refine asg ?_
  refine WL.dn ?_
  refine WC.ret (fun a_ ha => ?_)
  refine ret_then ?_
  exact bodyPost_tmp rfl ha rfl ⟨_, rfl, (by have := hts.none; subst this; exact OwnV.nil _ _ _ _), (Ext.refl _)⟩
 | some ad =>
  refine WL.sliceNil rfl rfl Try.underlying24 rfl rfl rfl ?_
  refine WL.dn ?_
  refine cF ?_
  refine WC.sk ?_
  refine sq ?_
  refine WL.buildSlice0 rfl rfl Ty.slice24 (fun b51 w56 hb52 hE55 hs53 hR54 => ?_)
  refine mv ?_
  have hO57 := OwnV.empty (base := w.heap.size) (D := fun _ => False) (Nat.le_of_eq hb52.symm) hR54
  have hol58 := hO57.own
  refine WL.appendV rfl rfl Ty.slice24 Ty.zero30 rfl small_node rfl rfl hO57 (hts.ext hE55) (by intro k h1 hh; have := hD k h1; have := hol58 _ hh; first | omega | ((try dsimp only at h1); (repeat' first | (guard_hyp h1 : _ ∨ _; refine Or.elim h1 (fun h1 => ?_) (fun h1 => ?_)) | (guard_hyp h1 : _ ∧ _; have hx := h1.2; replace h1 := h1.1)) <;> first | contradiction | omega)) (by simp; omega) (by omega) ?_
  intro v58 w58 hG58 hO58 hv58
  have hE58 := grown_below hG58 hE55 (by intro k hk; have := hol58 _ hk; omega)
  have hz58 := hE58.size
  have hzz58 := hG58.size
  refine asg ?_
  refine WL.dn ?_
  refine WC.ret (fun a_ ha => ?_)
  exact bodyPost_tmp rfl ha rfl ⟨_, rfl, hO58.dom (by rintro k (h | h) _ _ <;> first | exact h.elim | exact h), hE58⟩
set_option maxRecDepth 20000 in
set_option maxHeartbeats 4000000 in
theorem copied_ok (T : Nd) : ∀ (D : Nat → Prop) (w : World) (l : List Value) (hT : NodeL D w l T) (hsz : T.size ≤ 10000),
  Calls Try.prog 37 #[.agg l.toArray] w fun e w' => ∃ l', e = .returned (.agg l'.toArray) ∧ NodeL (fun k => w.heap.size ≤ k) w' l' T ∧ Ext w w' := by
 induction T using Nd.ind with
 | h kd st mn mx tsx ih =>
 intro D w l hT hsz
 replace ih : ∀ t, t ∈ (Nd.mk kd st mn mx tsx).subs → _ := ih
 generalize Nd.mk kd st mn mx tsx = T at *
 clear kd st mn mx tsx
 have hT := hT.lt
 obtain ⟨a, cap, rfl, hts, hlen⟩ := hT.op2
 have hls := Nd.length_le_sizeL T.subs
 have hss := Nd.size_subs T
 refine Calls.enter (args := [.agg (tcells T (.slice a T.subs.length cap)).toArray]) Try.func37 rfl rfl rfl rfl ?_
 refine sq ?_
 refine WL.box_agg rfl rfl rfl (fun b1 w6 hb2 hE5 hs3 hR4 => ?_)
 refine WL.alloc rfl rfl Ty.zero30 rfl (fun b7 w12 hb8 hE11 hs9 hR10 => ?_)
 refine WL.dn ?_
 refine sq ?_
 refine WL.fieldAddr rfl rfl Ty.fld30_4 rfl ?_
 refine WL.load_fld rfl rfl Ty.flat24 rfl (hR4.ext hE11) rfl ?_
 have h14 := ((hts.ext hE5).ext hE11)
 refine WL.call rfl rfl rfl Ty.ent48 (clone_ok _ _ _ _ T.subs h14 (fun k hk => by have := hk.2; omega) (by omega)) ?_
 rintro _ w16 ⟨v13, rfl, hO13, hE15⟩
 have hzhE15 := hE15.size
 refine ⟨_, rfl, ?_⟩
 obtain ⟨a13, cap13, rfl, hn13, hx13⟩ := hO13.cases
 have hM13 : MixV 30 w12.heap.size (fun i b => ((i < 0 ∧ w12.heap.size ≤ b) ∨ (¬ i < 0 ∧ b < w.heap.size)) ∧ b < w12.heap.size) _ _ _ := hO13.mix.dom (by rintro i k _ ⟨h1, h2⟩ h3 _; (try dsimp only); omega)
 refine WL.fieldAddr rfl rfl Ty.fld30_4 rfl ?_
 have h19 := ((hR4.ext hE11).ext hE15)
 refine WL.store_fld rfl Ty.flat24 rfl rfl h19 rfl rfl (Nat.le_of_ble_eq_true rfl) rfl (fun w20 hB18 hR17 => ?_)
 have hzhB18 := hB18.size
 refine WL.dn ?_
 refine WC.seqk ?_
 refine sq ?_
 refine WL.fieldAddr rfl rfl Ty.fld30_4 rfl ?_
 refine WL.load_fld rfl rfl Ty.flat24 rfl hR17 rfl ?_
 refine WL.len rfl rfl Try.underlying24 rfl ?_
 refine mv ?_
 refine WL.dn ?_
 refine WC.block ?_
 have h21 := (hB18.row (hR10.ext hE15) (by omega))
 refine WC.weaken (r' := [(1, pt b1 0), (2, pt b7 0), (10, .slice a13 T.subs.length cap13), (11, .int .i64 T.subs.length), (12, .int .i64 0)]) (s4 (sr rfl (subReg_nil _))) ?_
 refine WC.loop (σ := Nat) (fun k r_ w_ => r_ = [(1, pt b1 0), (2, pt b7 0), (10, .slice a13 T.subs.length cap13), (11, .int .i64 T.subs.length), (12, .int .i64 (k : Int))] ∧ Ext w w_ ∧ (k ≤ T.subs.length ∧ Row w_ b1 (tcells T (.slice a13 T.subs.length cap13)) 30 ∧ Row w_ b7 (zc 0 0 0 (.slice none 0 0)) 30 ∧ MixV 30 w12.heap.size (fun i b => ((i < k ∧ w12.heap.size ≤ b) ∨ (¬ i < k ∧ b < w.heap.size))) w_ (.slice a13 T.subs.length cap13) T.subs)) (fun k => T.subs.length - k) 0 ⟨rfl, (hB18.onto ((hE5.trans hE11).trans hE15) (by omega)), ⟨Nat.zero_le _, hR17, h21, (hM13.but hB18 (by rintro i hi ⟨h1, h2⟩; first | omega | (dsimp only at h1; omega) | ((try dsimp only at h1); (repeat' first | (guard_hyp h1 : _ ∨ _; refine Or.elim h1 (fun h1 => ?_) (fun h1 => ?_)) | (guard_hyp h1 : _ ∧ _; have hx := h1.2; replace h1 := h1.1)) <;> first | contradiction | omega)) (fun hk => by have := hM13.block _ hk; omega)).dom (fun i k _ h _ _ => h.1)⟩⟩ ?_
 rintro k r_ w24 ⟨rfl, hE22, hI23⟩
 have hzhE22 := hE22.size
 obtain ⟨hk, hR1, hR2, hM⟩ := hI23
 have hM := hM.dom (DD' := fun i b => (((i < k ∧ w12.heap.size ≤ b) ∨ (¬ i < k ∧ b < w.heap.size)) ∧ b < w24.heap.size)) (fun i b _ h hlt _ => ⟨h, hlt⟩)
 have hMb := hM.block
 refine sq ?_
 cases hc25 : decide (((k : Int) : Int) < T.subs.length) with
 | false =>
  refine WL.lss rfl rfl rfl rfl hc25 ?_
  have hp25 := of_decide_eq_false hc25
  refine WL.dn ?_
  refine WC.seqk ?_
  refine cF ?_
  refine WC.exit (fun a_ ha => ?_)
  refine exit_then ?_
  refine exit_then ?_
  refine exit_here ?_
  refine WC.at ?_ ha
  refine sq ?_
  refine WL.load_box rfl rfl rfl hR1 Ty.agg30 ?_
  refine WL.store_box rfl rfl rfl hR2 Ty.agg30 rfl rfl (fun w28 hB27 hR26 => ?_)
  have hzhB27 := hB27.size
  refine WL.dn ?_
  refine WC.ret (fun a_ ha => ?_)
  exact bodyPost_cell (l := (tcells T (.slice a13 T.subs.length cap13))) rfl ha rfl Ty.agg30 hR26 ⟨_, rfl, NodeL.mk' (((hM.but hB27 (by rintro i hi ⟨h1, h2⟩; first | omega | (dsimp only at h1; omega) | ((try dsimp only at h1); (repeat' first | (guard_hyp h1 : _ ∨ _; refine Or.elim h1 (fun h1 => ?_) (fun h1 => ?_)) | (guard_hyp h1 : _ ∧ _; have hx := h1.2; replace h1 := h1.1)) <;> first | contradiction | omega)) (fun hk => by have := hM.block _ hk; have := hMb _ hk; omega)).own (D := fun k => w.heap.size ≤ k) (by rintro i b hi h1 h2 h3; (try dsimp only at h1); omega)).nodes.dom (by rintro b (h | h) <;> omega)), (hB27.onto hE22 (by omega))⟩
 | true =>
  refine WL.lss rfl rfl rfl rfl hc25 ?_
  have hp25 := of_decide_eq_true hc25
  refine WL.dn ?_
  refine WC.seqk ?_
  refine cT ?_
  refine WC.sk ?_
  refine WC.seqk ?_
  refine WC.block ?_
  refine sq ?_
  refine mv ?_
  obtain ⟨t26, ht26⟩ : ∃ t, T.subs[k]? = some t := ⟨_, List.getElem?_eq_getElem (by omega)⟩
  obtain ⟨eb26, el26, hea26, hgb26, hgl26, her26, hn26⟩ := hM.at ht26
  obtain ⟨a26, cap26, rfl, hts26, hlen26⟩ := hn26.op2
  subst hea26
  refine WL.indexAddr (i := k) rfl rfl Ty.slice24 rfl rfl rfl (by omega) ?_
  refine WL.load_agg (l := tcells t26 (.slice a26 t26.subs.length cap26)) rfl rfl Ty.agg30 rfl her26 ?_
  refine WL.alloc rfl rfl Ty.zero30 rfl (fun b27 w32 hb28 hE31 hs29 hR30 => ?_)
  refine asg ?_
  refine WL.store_box rfl rfl rfl hR30 Ty.agg30 rfl rfl (fun w35 hB34 hR33 => ?_)
  have hzhB34 := hB34.size
  refine WL.dn ?_
  have h36 := ((hM.ext hE31).but hB34 (by rintro i hi ⟨h1, h2⟩; first | omega | (dsimp only at h1; omega) | ((try dsimp only at h1); (repeat' first | (guard_hyp h1 : _ ∨ _; refine Or.elim h1 (fun h1 => ?_) (fun h1 => ?_)) | (guard_hyp h1 : _ ∧ _; have hx := h1.2; replace h1 := h1.1)) <;> first | contradiction | omega)) (fun hk => by have := (hM.ext hE31).block _ hk; have := hMb _ hk; omega))
  have h37 := ((hn26.ext hE31).bu hB34)
  have h38 := (hB34.row (hR1.ext hE31) (by omega))
  have h39 := (hB34.row (hR2.ext hE31) (by omega))
  refine WC.weaken (r' := [(1, pt b1 0), (2, pt b7 0), (10, .slice (some ⟨eb26, 0, none⟩) T.subs.length cap13), (11, .int .i64 T.subs.length), (12, .int .i64 (k : Int)), (13, .bool true), (14, .int .i64 (k : Int)), (15, pt eb26 (0 + k * 8)), (16, .agg (tcells t26 (.slice a26 t26.subs.length cap26)).toArray), (4, pt b27 0), (3, .int .i64 (k : Int))]) (s4 (s4 (sr rfl (sr rfl (sr rfl (subReg_nil _)))))) ?_
  refine WC.draw 5 [17, 18, 19, 20, 21] [pc (pt b1 7), pc (.slice (some ⟨eb26, 0, none⟩) T.subs.length cap13), pc (.int .i64 (k : Int)), pc (.agg (tcells t26 (.slice a26 t26.subs.length cap26)).toArray), pnode (fun k => w35.heap.size ≤ k) t26] (by kernel_rfl) (by kernel_rfl) (k4 ⟨KW_pnode _ _, trivial⟩) rfl rfl rfl (sc4 ?_ ?_ ?_ ?_ (sc ?_ (StepsOn.nil _))) ?_
  ·intro σ β w1 hE1 hbi hk
   refine ⟨[], (agree_nil _), ?_⟩
   refine WL.fieldAddr rfl rfl Ty.fld30_4 rfl ?_
   exact dq hbi rfl
  ·intro σ β w1 hE1 hbi hk
   refine ⟨[(17, pt b1 7)], (ak hk 0 (agree_nil _)), ?_⟩
   refine WL.load_fld rfl rfl Ty.flat24 rfl (h38.ext hE1) rfl ?_
   exact dq hbi rfl
  ·intro σ β w1 hE1 hbi hk
   refine ⟨[], (agree_nil _), ?_⟩
   refine mv ?_
   exact dq hbi rfl
  ·intro σ β w1 hE1 hbi hk
   refine ⟨[], (agree_nil _), ?_⟩
   refine WL.load_box rfl rfl rfl (hR33.ext hE1) Ty.agg30 ?_
   exact dq hbi rfl
  ·intro σ β w1 hE1 hbi hk
   have hz1 := hE1.size
   refine ⟨[(20, .agg (tcells t26 (.slice a26 t26.subs.length cap26)).toArray)], (ak hk 3 (agree_nil _)), ?_⟩
   refine WL.call rfl rfl rfl Ty.ent37 (ih t26 (List.mem_of_getElem? ht26) _ _ _ (h37.ext hE1) (by have := Nd.size_le_sizeL (List.mem_of_getElem? ht26); have := Nd.size_subs T; omega)) ?_
   rintro _ w63 ⟨l61, rfl, hr61, hE62⟩
   refine ⟨_, rfl, ?_⟩
   have hn61 := hr61.lt
   obtain ⟨a61, cap61, rfl, hts61, hlen61⟩ := hn61.op2
   exact dqE hbi hE62 ⟨_, rfl, (hr61.off0 hbi (fun k hk => Nat.le_trans hE1.size hk))⟩
  intro σ β w40 hE40 hbi40 hk
  have hz40 := hE40.size
  have hbi := hbi40
  obtain ⟨_, hv43, l43, rfl, hn43⟩ := hk 4 (by decide) _ _ rfl rfl
  have hn43 := hn43.lt
  obtain ⟨a43, cap43, rfl, hts43, hlen43⟩ := hn43.op2
  refine WL.know [(18, .slice (some ⟨eb26, 0, none⟩) T.subs.length cap13), (19, .int .i64 (k : Int)), (21, .agg (tcells t26 (.slice a43 t26.subs.length cap43)).toArray)] (aj hk 1 (aj hk 2 (ag hv43 (agree_nil _)))) ?_
  refine WL.indexAddr (i := k) rfl rfl Ty.slice24 rfl rfl rfl (by omega) ?_
  refine WL.storeV (i := k) (T := t26) rfl Ty.agg30 rfl rfl (h36.ext hE40) (by omega) hn43 (by first | (rintro k ⟨h1, h2⟩ h3; first | omega | (dsimp only at h1; omega)) | (intro k h1 h3; (try dsimp only at h1); (repeat' first | (guard_hyp h1 : _ ∨ _; refine Or.elim h1 (fun h1 => ?_) (fun h1 => ?_)) | (guard_hyp h1 : _ ∧ _; have hx := h1.2; replace h1 := h1.1)) <;> first | contradiction | omega)) (fun w46 hB45 hM44 => ?_)
  have hzhB45 := hB45.size
  refine WL.dn ?_
  refine WC.region ?_
  refine WL.add (v := (k : Int) + 1) rfl rfl rfl rfl (IntWalk.i64_in _ (by omega)) ?_
  refine mv ?_
  refine WL.nil (fun a_ ha => ?_)
  have h47 := (hB45.row (h38.ext hE40) (by omega))
  have h48 := (hB45.row (h39.ext hE40) (by omega))
  exact ⟨k + 1, _, ha.weaken (s4 (sr rfl (subReg_nil _))), ⟨rfl, (hB45.onto ((hB34.onto (hE22.trans hE31) (by omega)).trans hE40) (by omega)), ⟨by omega, h47, h48, (by have hq := hM44; rw [set_self ht26] at hq; exact hq.dom (by rintro j b hj h1 h2 h3; (try dsimp only at h1 ⊢); omega))⟩⟩, by first | omega | (dsimp only; omega)⟩
end Go.Proofs.Yteenegaadlhjdaa
namespace Go.Proofs.Yteenegaadlhjdaa
open Go.Proofs Go.RowKit
abbrev qa1 : Nd := (Nd.mk 0 Nd.zero 0 0 ([]))
set_option maxRecDepth 20000 in
set_option maxHeartbeats 4000000 in
theorem checked_ok (D : Nat → Prop) (w : World) (l : List Value) (T : Nd) (hT : NodeL D w l T) :
  Calls Try.prog 34 #[.agg l.toArray] w fun e w' => ∃ l', e = .returned (.agg l'.toArray) ∧ NodeL (fun k => w.heap.size ≤ k) w' l' T.checked ∧ Ext w w' := by
 have hT := hT.lt
 obtain ⟨a, cap, rfl, hts, hlen⟩ := hT.op2
 refine Calls.enter (args := [.agg (tcells T (.slice a T.subs.length cap)).toArray]) Try.func34 rfl rfl rfl rfl ?_
 refine sq ?_
 refine WL.box_agg rfl rfl rfl (fun b1 w6 hb2 hE5 hs3 hR4 => ?_)
 refine WL.alloc rfl rfl Ty.zero30 rfl (fun b7 w12 hb8 hE11 hs9 hR10 => ?_)
 refine WL.dn ?_
 refine WC.seqk ?_
 refine sq ?_
 refine WL.load_box rfl rfl rfl (hR4.ext hE11) Ty.agg30 ?_
 have h13 := ((hT.ext hE5).ext hE11)
 refine WL.call rfl rfl rfl Ty.ent25 (clean_ok _ _ _ _ h13) ?_
 rintro _ w15 ⟨rfl, hE14⟩
 have hzhE14 := hE14.size
 refine ⟨_, rfl, ?_⟩
 cases hc16 : Nd.clean T with
 | false =>
  refine WL.not rfl rfl rfl ?_
  refine WL.dn ?_
  refine cT ?_
  refine sq ?_
  refine WL.build0 (l := (zc 0 0 0 (.slice none 0 0))) rfl rfl Ty.zero30 Ty.agg30 rfl Ty.bz30 ?_
  have hn17 : NodeL _ w15 (zc 0 0 0 (.slice none 0 0)) qa1 := NodeL.shut (k := 0) (s := Nd.zero) (mn := 0) (mx := 0) (sl := .slice none 0 0) (ts := []) (NodesV.nil (fun _ => False) _ none 0)
  have hn17 := hn17.lt
  refine WL.store_box rfl rfl rfl (hR10.ext hE14) Ty.agg30 rfl rfl (fun w20 hB19 hR18 => ?_)
  have hzhB19 := hB19.size
  refine WL.dn ?_
  refine WC.ret (fun a_ ha => ?_)
  refine ret_then ?_
  exact bodyPost_cell (l := (zc 0 0 0 (.slice none 0 0))) rfl ha rfl Ty.agg30 hR18 ⟨_, rfl, (by simp only [Nd.checked, hc16, cond_true, cond_false, Bool.not_true, Bool.not_false, Bool.or_true, Bool.true_or, Bool.or_false, Bool.false_or, Bool.and_true, Bool.true_and, Bool.and_false, Bool.false_and]; exact ((hn17.bu hB19).dom (by intro k hk; (try dsimp only at hk); first | omega | exact hk.1.elim))), (hB19.onto ((hE5.trans hE11).trans hE14) (by omega))⟩
 | true =>
  refine WL.not rfl rfl rfl ?_
  refine WL.dn ?_
  refine cF ?_
  refine WC.sk ?_
  refine sq ?_
  have h17 := ((hR4.ext hE11).ext hE14)
  refine WL.load_box rfl rfl rfl h17 Ty.agg30 ?_
  refine WL.call rfl rfl rfl Ty.ent37 (copied_ok T _ _ _ (h13.ext hE14) (Nd.clean_size hc16)) ?_
  rintro _ w20 ⟨l18, rfl, hr18, hE19⟩
  have hzhE19 := hE19.size
  refine ⟨_, rfl, ?_⟩
  have hn18 := hr18.lt
  obtain ⟨a18, cap18, rfl, hts18, hlen18⟩ := hn18.op2
  have h23 := ((hR10.ext hE14).ext hE19)
  refine WL.store_box rfl rfl rfl h23 Ty.agg30 rfl rfl (fun w24 hB22 hR21 => ?_)
  have hzhB22 := hB22.size
  refine WL.dn ?_
  refine WC.ret (fun a_ ha => ?_)
  exact bodyPost_cell (l := (tcells T (.slice a18 T.subs.length cap18))) rfl ha rfl Ty.agg30 hR21 ⟨_, rfl, (by simp only [Nd.checked, hc16, cond_true, cond_false, Bool.not_true, Bool.not_false, Bool.or_true, Bool.true_or, Bool.or_false, Bool.false_or, Bool.and_true, Bool.true_and, Bool.and_false, Bool.false_and]; exact ((hn18.bu hB22).dom (by intro k hk; (try dsimp only at hk); first | omega | exact hk.1.elim))), (hB22.onto (((hE5.trans hE11).trans hE14).trans hE19) (by omega))⟩
set_option maxRecDepth 20000 in
set_option maxHeartbeats 4000000 in
theorem good_ok (D : Nat → Prop) (w : World) (l : List Value) (T : Nd) (hT : NodeL D w l T) :
  Calls Try.prog 29 #[.agg l.toArray] w fun e w' => e = .returned (.bool T.good) ∧ Ext w w' := by
 have hT := hT.lt
 obtain ⟨a, cap, rfl, hts, hlen⟩ := hT.op2
 refine Calls.enter (args := [.agg (tcells T (.slice a T.subs.length cap)).toArray]) Try.func29 rfl rfl rfl rfl ?_
 refine sq ?_
 refine WL.box_agg rfl rfl rfl (fun b1 w6 hb2 hE5 hs3 hR4 => ?_)
 refine asg ?_
 refine WL.dn ?_
 refine sq ?_
 refine WL.load_box rfl rfl rfl hR4 Ty.agg30 ?_
 refine WL.build0 (l := (zc 0 0 0 (.slice none 0 0))) rfl rfl Ty.zero30 Ty.agg30 rfl Ty.bz30 ?_
 have hn7 : NodeL _ w6 (zc 0 0 0 (.slice none 0 0)) qa1 := NodeL.shut (k := 0) (s := Nd.zero) (mn := 0) (mx := 0) (sl := .slice none 0 0) (ts := []) (NodesV.nil (fun _ => False) _ none 0)
 have hn7 := hn7.lt
 refine WL.call rfl rfl rfl Ty.ent33 (same_ok T _ _ _ _ _ qa1 (hT.ext hE5) hn7) ?_
 rintro _ w9 ⟨rfl, hE8⟩
 have hzhE8 := hE8.size
 refine ⟨_, rfl, ?_⟩
 cases hc10 : T.same qa1 with
 | false =>
  refine mv ?_
  refine WL.load_box rfl rfl rfl (hR4.ext hE8) Ty.agg30 ?_
  have h11 := ((hT.ext hE5).ext hE8)
  refine WL.call rfl rfl rfl Ty.ent25 (clean_ok _ _ _ _ h11) ?_
  rintro _ w13 ⟨rfl, hE12⟩
  have hzhE12 := hE12.size
  refine ⟨_, rfl, ?_⟩
  refine pF ?_
  refine asg ?_
  refine WL.dn ?_
  refine WC.ret (fun a_ ha => ?_)
  exact bodyPost_tmp rfl ha rfl ⟨(by congr 2; have hcn := hc10; change _ = (T.same Nd.none || T.clean); change T.same Nd.none = _ at hcn; rw [hcn]; simp), ((hE5.trans hE8).trans hE12)⟩
 | true =>
  refine mv ?_
  refine ps ?_
  refine ps ?_
  refine pT ?_
  refine asg ?_
  refine WL.dn ?_
  refine WC.ret (fun a_ ha => ?_)
  exact bodyPost_tmp rfl ha rfl ⟨(by congr 2; have hcn := hc10; change _ = (T.same Nd.none || T.clean); change T.same Nd.none = _ at hcn; rw [hcn]; simp), (hE5.trans hE8)⟩
set_option maxRecDepth 20000 in
set_option maxHeartbeats 4000000 in
theorem flat_ok (D : Nat → Prop) (w : World) (kind without : Int) (a : Option Addr) (cap : Nat) (ts : List Nd) (hts : NodesV D w (.slice a ts.length cap) ts) (hD : ∀ k, D k → k < w.heap.size) (hle : Nd.sizeL ts ≤ 100000000) :
  Calls Try.prog 31 #[.int .u8 kind, .int .u8 without, .slice a ts.length cap] w fun e w' => ∃ v, e = .returned v ∧ OwnV 30 w.heap.size D w' v (Nd.flat kind without ts) ∧ Ext w w' := by
 have hlen := hts.len
 have hts := hts.lt
 refine Calls.enter (args := [.int .u8 kind, .int .u8 without, .slice a ts.length cap]) Try.func31 rfl rfl rfl rfl ?_
 refine sq ?_
 refine asg ?_
 refine WL.dn ?_
 refine sq ?_
 refine asg ?_
 refine WL.dn ?_
 refine WC.seqk ?_
 refine sq ?_
 refine mv ?_
 refine WL.len rfl rfl Try.underlying24 rfl ?_
 refine mv ?_
 refine WL.dn ?_
 refine WC.block ?_
 refine WC.weaken (r' := [(0, .int .u8 kind), (1, .int .u8 without), (10, .slice a ts.length cap), (11, .int .i64 ts.length), (12, .int .i64 0), (7, .slice none 0 0)]) (s4 (sr rfl (sr rfl (subReg_nil _)))) ?_
 refine WC.loop (σ := Nat × Value) (fun s r_ w_ => r_ = [(0, .int .u8 kind), (1, .int .u8 without), (10, .slice a ts.length cap), (11, .int .i64 ts.length), (12, .int .i64 (s.1 : Int)), (7, s.2)] ∧ Ext w w_ ∧ (s.1 ≤ ts.length ∧ OwnV 30 w.heap.size D w_ s.2 (Nd.flat kind without (ts.take s.1)))) (fun s => ts.length - s.1) (0, .slice none 0 0) ⟨rfl, (Ext.refl _), ⟨Nat.zero_le _, OwnV.nil _ _ _ _⟩⟩ ?_
 rintro ⟨k, v⟩ r_ w3 ⟨rfl, hE1, hI2⟩
 have hzhE1 := hE1.size
 dsimp only at hI2
 obtain ⟨hk, hO⟩ := hI2
 have hol := hO.own
 refine WC.weaken (r' := [(0, .int .u8 kind), (1, .int .u8 without), (10, .slice a ts.length cap), (11, .int .i64 ts.length), (12, .int .i64 (k : Int)), (7, v)]) (s4 (sr rfl (sr rfl (subReg_nil _)))) ?_
 refine sq ?_
 cases hc4 : decide (((k : Int) : Int) < ts.length) with
 | false =>
  refine WL.lss rfl rfl rfl rfl hc4 ?_
  have hp4 := of_decide_eq_false hc4
  refine WL.dn ?_
  refine WC.seqk ?_
  refine cF ?_
  refine WC.exit (fun a_ ha => ?_)
  refine exit_then ?_
  refine exit_then ?_
  refine exit_here ?_
  refine WC.at ?_ ha
  refine sq ?_
  refine mv ?_
  refine asg ?_
  refine WL.dn ?_
  refine WC.ret (fun a_ ha => ?_)
  exact bodyPost_tmp rfl ha rfl ⟨_, rfl, (by have hkk : k = ts.length := (by omega); have hq := hO; subst hkk; rw [List.take_length] at hq; exact hq), hE1⟩
 | true =>
  refine WL.lss rfl rfl rfl rfl hc4 ?_
  have hp4 := of_decide_eq_true hc4
  refine WL.dn ?_
  refine WC.seqk ?_
  refine cT ?_
  refine WC.sk ?_
  refine WC.seqk ?_
  refine WC.block ?_
  refine sq ?_
  obtain ⟨t5, ht5⟩ : ∃ t, ts[k]? = some t := ⟨_, List.getElem?_eq_getElem (by omega)⟩
  obtain ⟨eb5, eo5, el5, hea5, hD5, her5, hn5⟩ := (hts.ext hE1).at ht5
  obtain ⟨a5, cap5, rfl, hts5, hlen5⟩ := hn5.op2
  subst hea5
  refine WL.indexAddr (i := k) rfl rfl Ty.slice24 rfl rfl rfl (by omega) ?_
  refine WL.load_agg (l := tcells t5 (.slice a5 t5.subs.length cap5)) rfl rfl Ty.agg30 rfl her5 ?_
  refine WL.alloc rfl rfl Ty.zero30 rfl (fun b6 w11 hb7 hE10 hs8 hR9 => ?_)
  refine WL.store_box rfl rfl rfl hR9 Ty.agg30 rfl rfl (fun w14 hB13 hR12 => ?_)
  have hzhB13 := hB13.size
  refine WL.dn ?_
  refine sq ?_
  refine WL.fieldAddr rfl rfl Ty.fld30_0 rfl ?_
  refine WL.load_fld rfl rfl Ty.flat5 rfl hR12 rfl ?_
  refine WL.dn ?_
  refine WC.block ?_
  refine sq ?_
  refine mv ?_
  cases hc15 : ((t5.kind : Int) == kind) with
  | false =>
   refine WL.eql rfl rfl rfl rfl hc15 ?_
   have hp15 := beq_eq_false_iff_ne.1 hc15
   refine asg ?_
   refine WL.dn ?_
   refine cF ?_
   refine sq ?_
   refine mv ?_
   cases hc16 : ((t5.kind : Int) == without) with
   | false =>
    refine WL.eql rfl rfl rfl rfl hc16 ?_
    have hp16 := beq_eq_false_iff_ne.1 hc16
    refine asg ?_
    refine WL.dn ?_
    refine cF ?_
    refine WC.region ?_
    refine mv ?_
    refine WL.load_box rfl rfl rfl hR12 Ty.agg30 ?_
    have h17 := ((hn5.ext hE10).bu hB13)
    refine WL.buildSlice (vs := [.agg (tcells t5 (.slice a5 t5.subs.length cap5)).toArray]) (cells := (tcells t5 (.slice a5 t5.subs.length cap5))) rfl rfl Ty.slice24 Ty.zero30 rfl rfl rfl rfl rfl rfl (fun b18 w23 hb19 hE22 hs20 hR21 => ?_)
    have hts18 := (NodesV.lit (n := 1) (ts := [t5]) hR21 (RowsL.cons (h17.ext hE22) (RowsL.nil' _)) rfl rfl (by decide)).lt
    have h24 := (((hO.ext hE10).but hB13 (fun h1 => by have := hD _ h1; first | omega | (dsimp only at h1; omega)) (fun hk => by have := (hO.ext hE10).own _ hk; have := hol _ hk; omega)).ext hE22)
    have hol25 := h24.own
    refine WL.append1 rfl rfl Ty.slice24 Ty.zero30 rfl small_node rfl rfl h24 hR21 (h17.ext hE22) (by intro k h1 hh; have := hol25 _ hh; have := hol _ hh; first | omega | ((try dsimp only at h1); (repeat' first | (guard_hyp h1 : _ ∨ _; refine Or.elim h1 (fun h1 => ?_) (fun h1 => ?_)) | (guard_hyp h1 : _ ∧ _; have hx := h1.2; replace h1 := h1.1)) <;> first | contradiction | omega)) (by have h1 := Nd.sizeL_take ht5; have h2 := Nd.flat_len kind without (ts.take k); have h3 := Nd.size_subs t5; have h4 := Nd.length_le_sizeL t5.subs; omega) (by omega) ?_
    intro v25 w25 hG25 hO25 hv25
    have hE25 := grown_below hG25 ((hB13.onto (hE1.trans hE10) (by omega)).trans hE22) (by intro k hk; have := hol25 _ hk; omega)
    have hz25 := hE25.size
    have hzz25 := hG25.size
    refine asg ?_
    refine WL.dn ?_
    refine WC.region ?_
    refine WL.add (v := (k : Int) + 1) rfl rfl rfl rfl (IntWalk.i64_in _ (by omega)) ?_
    refine mv ?_
    refine WL.nil (fun a_ ha => ?_)
    exact ⟨(k + 1, v25), _, ha.weaken (s4 (sr rfl (sr rfl (subReg_nil _)))), ⟨rfl, hE25, ⟨by first | omega | (dsimp only; omega), (by dsimp only; simp only [Nd.flat_succ _ _ ht5, Nd.flat1, hc15, hc16, cond_true, cond_false, List.append_nil]; exact hO25.dom (by first | exact fun _ h _ _ => h | (rintro k h _ _; rcases h with h | h; exact h; first | exact h | exact h.1)))⟩⟩, by first | omega | (dsimp only; omega)⟩
   | true =>
    refine WL.eql rfl rfl rfl rfl hc16 ?_
    have hp16 := beq_iff_eq.1 hc16
    refine asg ?_
    refine WL.dn ?_
    refine cT ?_
    refine WC.sk ?_
    refine WC.region ?_
    refine WL.add (v := (k : Int) + 1) rfl rfl rfl rfl (IntWalk.i64_in _ (by omega)) ?_
    refine mv ?_
    refine WL.nil (fun a_ ha => ?_)
    have h17 := ((hO.ext hE10).but hB13 (fun h1 => by have := hD _ h1; first | omega | (dsimp only at h1; omega)) (fun hk => by have := (hO.ext hE10).own _ hk; have := hol _ hk; omega))
    exact ⟨(k + 1, v), _, ha.weaken (s4 (sr rfl (sr rfl (subReg_nil _)))), ⟨rfl, (hB13.onto (hE1.trans hE10) (by omega)), ⟨by first | omega | (dsimp only; omega), (by dsimp only; simp only [Nd.flat_succ _ _ ht5, Nd.flat1, hc15, hc16, cond_true, cond_false, List.append_nil]; exact h17.dom (by first | exact fun _ h _ _ => h | (rintro k h _ _; rcases h with h | h; exact h; first | exact h | exact h.1)))⟩⟩, by first | omega | (dsimp only; omega)⟩
  | true =>
   refine WL.eql rfl rfl rfl rfl hc15 ?_
   have hp15 := beq_iff_eq.1 hc15
   refine asg ?_
   refine WL.dn ?_
   refine cT ?_
   refine WC.region ?_
   refine mv ?_
   refine WL.fieldAddr rfl rfl Ty.fld30_4 rfl ?_
   refine WL.load_fld rfl rfl Ty.flat24 rfl hR12 rfl ?_
   have h16 := ((hO.ext hE10).but hB13 (fun h1 => by have := hD _ h1; first | omega | (dsimp only at h1; omega)) (fun hk => by have := (hO.ext hE10).own _ hk; have := hol _ hk; omega))
   have hol17 := h16.own
   have h18 := ((hts5.ext hE10).bu hB13)
   refine WL.appendV rfl rfl Ty.slice24 Ty.zero30 rfl small_node rfl rfl h16 h18 (by intro k h1 hh; have := hol17 _ hh; have := hol _ hh; first | omega | ((try dsimp only at h1); (repeat' first | (guard_hyp h1 : _ ∨ _; refine Or.elim h1 (fun h1 => ?_) (fun h1 => ?_)) | (guard_hyp h1 : _ ∧ _; have hx := h1.2; replace h1 := h1.1)) <;> first | contradiction | omega)) (by have h1 := Nd.sizeL_take ht5; have h2 := Nd.flat_len kind without (ts.take k); have h3 := Nd.size_subs t5; have h4 := Nd.length_le_sizeL t5.subs; omega) (by omega) ?_
   intro v17 w17 hG17 hO17 hv17
   have hE17 := grown_below hG17 (hB13.onto (hE1.trans hE10) (by omega)) (by intro k hk; have := hol17 _ hk; omega)
   have hz17 := hE17.size
   have hzz17 := hG17.size
   refine asg ?_
   refine WL.dn ?_
   refine WC.region ?_
   refine WL.add (v := (k : Int) + 1) rfl rfl rfl rfl (IntWalk.i64_in _ (by omega)) ?_
   refine mv ?_
   refine WL.nil (fun a_ ha => ?_)
   exact ⟨(k + 1, v17), _, ha.weaken (s4 (sr rfl (sr rfl (subReg_nil _)))), ⟨rfl, hE17, ⟨by first | omega | (dsimp only; omega), (by dsimp only; simp only [Nd.flat_succ _ _ ht5, Nd.flat1, hc15, cond_true, cond_false, List.append_nil]; exact hO17.dom (by first | exact fun _ h _ _ => h | (rintro k h _ _; rcases h with h | h; exact h; first | exact h | exact h.1)))⟩⟩, by first | omega | (dsimp only; omega)⟩
set_option maxRecDepth 20000 in
set_option maxHeartbeats 4000000 in
theorem joined_ok (D : Nat → Prop) (w : World) (kind : Int) (a : Option Addr) (cap : Nat) (ts : List Nd) (l2 : List Value) (U : Nd) (hts : NodesV D w (.slice a ts.length cap) ts) (hU : NodeL (fun _ => False) w l2 U) :
  Calls Try.prog 30 #[.int .u8 kind, .slice a ts.length cap, .agg l2.toArray] w fun e w' => ∃ l', e = .returned (.agg l'.toArray) ∧ NodeL (fun k => w.heap.size ≤ k) w' l' (Nd.joined kind ts U) ∧ Ext w w' := by
 have hlen := hts.len
 have hts := hts.lt
 have hU := hU.lt
 obtain ⟨a2, cap2, rfl, hts2, hlen2⟩ := hU.op2
 refine Calls.enter (args := [.int .u8 kind, .slice a ts.length cap, .agg (tcells U (.slice a2 U.subs.length cap2)).toArray]) Try.func30 rfl rfl rfl rfl ?_
 refine sq ?_
 refine WL.box_agg rfl rfl rfl (fun b1 w6 hb2 hE5 hs3 hR4 => ?_)
 refine WL.alloc rfl rfl Ty.zero30 rfl (fun b7 w12 hb8 hE11 hs9 hR10 => ?_)
 refine WL.dn ?_
 refine WC.seqk ?_
 refine sq ?_
 refine mv ?_
 refine WL.len rfl rfl Try.underlying24 rfl ?_
 refine WL.dn ?_
 refine WC.block ?_
 refine sq ?_
 cases hc13 : ((ts.length : Int) == 0) with
 | false =>
  refine WL.eql rfl rfl rfl rfl hc13 ?_
  have hp13 := beq_eq_false_iff_ne.1 hc13
  refine asg ?_
  refine WL.dn ?_
  refine cF ?_
  refine sq ?_
  cases hc14 : ((ts.length : Int) == 1) with
  | false =>
   refine WL.eql rfl rfl rfl rfl hc14 ?_
   have hp14 := beq_eq_false_iff_ne.1 hc14
   refine asg ?_
   refine WL.dn ?_
   refine cF ?_
   refine WC.sk ?_
   refine sq ?_
   refine mv ?_
   refine mv ?_
   refine WL.build (l := (zc kind 0 0 (.slice a ts.length cap))) rfl rfl Ty.zero30 Ty.st30 ⟨⟨rfl, rfl⟩, (by kernel_rfl)⟩ ?_
   have h16 := ((hts.ext hE5).ext hE11)
   have hn15 : NodeL _ w12 (zc kind 0 0 (.slice a ts.length cap)) (Nd.mk kind Nd.zero 0 0 ts) := NodeL.shut (k := kind) (s := Nd.zero) (mn := 0) (mx := 0) (sl := .slice a ts.length cap) (ts := ts) h16
   have hn15 := hn15.lt
   refine WL.call rfl rfl rfl Ty.ent34 (checked_ok _ _ _ _ hn15) ?_
   rintro _ w19 ⟨l17, rfl, hr17, hE18⟩
   have hzhE18 := hE18.size
   refine ⟨_, rfl, ?_⟩
   have hn17 := hr17.lt
   obtain ⟨a17, cap17, rfl, hts17, hlen17⟩ := hn17.op2
   refine WL.store_box rfl rfl rfl (hR10.ext hE18) Ty.agg30 rfl rfl (fun w22 hB21 hR20 => ?_)
   have hzhB21 := hB21.size
   refine WL.dn ?_
   refine WC.ret (fun a_ ha => ?_)
   exact bodyPost_cell (l := (tcells ((Nd.mk kind Nd.zero 0 0 ts).checked) (.slice a17 ((Nd.mk kind Nd.zero 0 0 ts).checked).subs.length cap17))) rfl ha rfl Ty.agg30 hR20 ⟨_, rfl, (by simp only [Nd.joined, hc13, hc14, cond_true, cond_false]; exact ((hn17.bu hB21).dom (by intro k hk; (try dsimp only at hk); first | omega | exact hk.1.elim))), (hB21.onto ((hE5.trans hE11).trans hE18) (by omega))⟩
  | true =>
   refine WL.eql rfl rfl rfl rfl hc14 ?_
   have hp14 := beq_iff_eq.1 hc14
   refine asg ?_
   refine WL.dn ?_
   refine cT ?_
   refine sq ?_
   refine mv ?_
   have h15 := ((hts.ext hE5).ext hE11)
   obtain ⟨t16, ht16⟩ : ∃ t, ts[0]? = some t := ⟨_, List.getElem?_eq_getElem (by omega)⟩
   obtain ⟨eb16, eo16, el16, hea16, hD16, her16, hn16⟩ := h15.at ht16
   obtain ⟨a16, cap16, rfl, hts16, hlen16⟩ := hn16.op2
   subst hea16
   refine WL.indexAddr (i := 0) rfl rfl Ty.slice24 rfl rfl rfl (by omega) ?_
   refine WL.load_agg (l := tcells t16 (.slice a16 t16.subs.length cap16)) rfl rfl Ty.agg30 rfl her16 ?_
   refine WL.call rfl rfl rfl Ty.ent34 (checked_ok _ _ _ _ hn16) ?_
   rintro _ w19 ⟨l17, rfl, hr17, hE18⟩
   have hzhE18 := hE18.size
   refine ⟨_, rfl, ?_⟩
   have hn17 := hr17.lt
   obtain ⟨a17, cap17, rfl, hts17, hlen17⟩ := hn17.op2
   refine WL.store_box rfl rfl rfl (hR10.ext hE18) Ty.agg30 rfl rfl (fun w22 hB21 hR20 => ?_)
   have hzhB21 := hB21.size
   refine WL.dn ?_
   refine WC.ret (fun a_ ha => ?_)
   refine ret_block ?_
   refine ret_then ?_
   exact bodyPost_cell (l := [.int .u8 t16.checked.kind, .int .u64 t16.checked.set.a, .int .u64 t16.checked.set.b, .int .u64 t16.checked.set.c, .int .u64 t16.checked.set.d, .int .i64 t16.checked.least, .int .i64 t16.checked.most, .slice a17 t16.checked.subs.length cap17]) rfl ha rfl Ty.agg30 hR20 ⟨_, rfl, (by simp only [Nd.joined, hc13, hc14, ht16, Option.getD_some, cond_true, cond_false]; exact ((hn17.bu hB21).dom (by intro k hk; (try dsimp only at hk); first | omega | exact hk.1.elim))), (hB21.onto ((hE5.trans hE11).trans hE18) (by omega))⟩
 | true =>
  refine WL.eql rfl rfl rfl rfl hc13 ?_
  have hp13 := beq_iff_eq.1 hc13
  refine asg ?_
  refine WL.dn ?_
  refine cT ?_
  refine sq ?_
  refine WL.load_box rfl rfl rfl (hR4.ext hE11) Ty.agg30 ?_
  refine WL.store_box rfl rfl rfl hR10 Ty.agg30 rfl rfl (fun w16 hB15 hR14 => ?_)
  have hzhB15 := hB15.size
  refine WL.dn ?_
  refine WC.ret (fun a_ ha => ?_)
  refine ret_block ?_
  refine ret_then ?_
  have h17 := (((hU.ext hE5).ext hE11).bu hB15)
  exact bodyPost_cell (l := (tcells U (.slice a2 U.subs.length cap2))) rfl ha rfl Ty.agg30 hR14 ⟨_, rfl, (by simp only [Nd.joined, hc13, cond_true, cond_false]; exact (h17.dom (by intro k hk; (try dsimp only at hk); first | omega | exact hk.1.elim))), (hB15.onto (hE5.trans hE11) (by omega))⟩
set_option maxRecDepth 20000 in
set_option maxHeartbeats 4000000 in
theorem seq_ok (D : Nat → Prop) (w : World) (a : Option Addr) (cap : Nat) (ts : List Nd) (hts : NodesV D w (.slice a ts.length cap) ts) (hle : ts.length ≤ 10000) :
  Calls Try.prog 15 #[.slice a ts.length cap] w fun e w' => ∃ l', e = .returned (.agg l'.toArray) ∧ NodeL (fun k => w.heap.size ≤ k) w' l' (Nd.seq ts) ∧ Ext w w' := by
 have hlen := hts.len
 have hts := hts.lt
 refine Calls.enter (args := [.slice a ts.length cap]) Try.func15 rfl rfl rfl rfl ?_
 refine sq ?_
 refine WL.alloc rfl rfl Ty.zero30 rfl (fun b1 w6 hb2 hE5 hs3 hR4 => ?_)
 refine WL.dn ?_
 refine WC.seqk ?_
 refine sq ?_
 refine mv ?_
 refine WL.len rfl rfl Try.underlying24 rfl ?_
 refine mv ?_
 refine WL.dn ?_
 refine WC.block ?_
 refine WC.weaken (r' := [(0, .slice a ts.length cap), (2, pt b1 0), (5, .slice a ts.length cap), (6, .int .i64 ts.length), (7, .int .i64 0)]) (s4 (sr rfl (subReg_nil _))) ?_
 refine WC.loop (σ := Nat) (fun k r_ w_ => r_ = [(0, .slice a ts.length cap), (2, pt b1 0), (5, .slice a ts.length cap), (6, .int .i64 ts.length), (7, .int .i64 (k : Int))] ∧ Ext w6 w_ ∧ (k ≤ ts.length ∧ ∀ (m : Nat) (t : Nd), m < k → ts[m]? = some t → Nd.bad0 t = false)) (fun k => ts.length - k) 0 ⟨rfl, (Ext.refl _), ⟨Nat.zero_le _, fun m t h => by omega⟩⟩ ?_
 rintro k r_ w9 ⟨rfl, hE7, hI8⟩
 have hzhE7 := hE7.size
 obtain ⟨hk, hI0⟩ := hI8
 refine sq ?_
 cases hc10 : decide (((k : Int) : Int) < ts.length) with
 | false =>
  refine WL.lss rfl rfl rfl rfl hc10 ?_
  have hp10 := of_decide_eq_false hc10
  refine WL.dn ?_
  refine WC.seqk ?_
  refine cF ?_
  refine WC.exit (fun a_ ha => ?_)
  refine exit_then ?_
  refine exit_then ?_
  refine exit_here ?_
  refine WC.at ?_ ha
  refine sq ?_
  refine mv ?_
  have h12 := ((hts.ext hE5).ext hE7)
  refine WL.call rfl rfl rfl Ty.ent31 (flat_ok _ _ _ _ _ _ ts h12 (fun k hk => by have := hk.2; omega) (by have := Nd.sizeL_le (l := ts) (fun t ht => by obtain ⟨i, hi, rfl⟩ := List.mem_iff_getElem.1 ht; have := hI0 i _ (by omega) (List.getElem?_eq_getElem hi); simp [Nd.bad0] at this; exact Nd.clean_size this.2); omega)) ?_
  rintro _ w14 ⟨v11, rfl, hO11, hE13⟩
  have hzhE13 := hE13.size
  refine ⟨_, rfl, ?_⟩
  obtain ⟨a11, cap11, rfl, hnn11, hx11⟩ := hO11.cases
  have hts11 := hO11.nodes.lt
  refine WL.build (l := (zc 1 0 0 (.slice none 0 0))) rfl rfl Ty.zero30 Ty.st30 ⟨⟨rfl, rfl⟩, (by kernel_rfl)⟩ ?_
  have hn15 : NodeL _ w14 (zc 1 0 0 (.slice none 0 0)) (Nd.mk 1 Nd.zero 0 0 ([])) := NodeL.shut (k := 1) (s := Nd.zero) (mn := 0) (mx := 0) (sl := .slice none 0 0) (ts := []) (NodesV.nil (fun _ => False) _ none 0)
  have hn15 := hn15.lt
  refine WL.call rfl rfl rfl Ty.ent30 (joined_ok _ _ _ _ _ (Nd.flat 3 1 ts) _ (Nd.mk 1 Nd.zero 0 0 ([])) hts11 (hn15.dom (by rintro k ⟨h1, h2⟩; exact h1))) ?_
  rintro _ w18 ⟨l16, rfl, hr16, hE17⟩
  have hzhE17 := hE17.size
  refine ⟨_, rfl, ?_⟩
  have hn16 := hr16.lt
  obtain ⟨a16, cap16, rfl, hts16, hlen16⟩ := hn16.op2
  have h21 := (((hR4.ext hE7).ext hE13).ext hE17)
  refine WL.store_box rfl rfl rfl h21 Ty.agg30 rfl rfl (fun w22 hB20 hR19 => ?_)
  have hzhB20 := hB20.size
  refine WL.dn ?_
  refine WC.ret (fun a_ ha => ?_)
  exact bodyPost_cell (l := (tcells (Nd.joined 3 (Nd.flat 3 1 ts) (Nd.mk 1 Nd.zero 0 0 ([]))) (.slice a16 (Nd.joined 3 (Nd.flat 3 1 ts) (Nd.mk 1 Nd.zero 0 0 ([]))).subs.length cap16))) rfl ha rfl Ty.agg30 hR19 ⟨_, rfl, (by rw [show Nd.seq ts = _ from by simp only [Nd.seq, Nd.any_no (p := Nd.bad0) (show ts.length ≤ k by omega) hI0, cond_false]; rfl]; exact ((hn16.bu hB20).dom (by intro k hk; (try dsimp only at hk); first | omega | exact hk.1.elim))), (hB20.onto (((hE5.trans hE7).trans hE13).trans hE17) (by omega))⟩
 | true =>
  refine WL.lss rfl rfl rfl rfl hc10 ?_
  have hp10 := of_decide_eq_true hc10
  refine WL.dn ?_
  refine WC.seqk ?_
  refine cT ?_
  refine WC.sk ?_
  refine WC.seqk ?_
  refine WC.block ?_
  refine sq ?_
  have h11 := ((hts.ext hE5).ext hE7)
  obtain ⟨t12, ht12⟩ : ∃ t, ts[k]? = some t := ⟨_, List.getElem?_eq_getElem (by omega)⟩
  obtain ⟨eb12, eo12, el12, hea12, hD12, her12, hn12⟩ := h11.at ht12
  obtain ⟨a12, cap12, rfl, hts12, hlen12⟩ := hn12.op2
  subst hea12
  refine WL.indexAddr (i := k) rfl rfl Ty.slice24 rfl rfl rfl (by omega) ?_
  refine WL.load_agg (l := tcells t12 (.slice a12 t12.subs.length cap12)) rfl rfl Ty.agg30 rfl her12 ?_
  refine WL.alloc rfl rfl Ty.zero30 rfl (fun b13 w18 hb14 hE17 hs15 hR16 => ?_)
  refine WL.store_box rfl rfl rfl hR16 Ty.agg30 rfl rfl (fun w21 hB20 hR19 => ?_)
  have hzhB20 := hB20.size
  refine WL.dn ?_
  refine sq ?_
  refine WL.fieldAddr rfl rfl Ty.fld30_0 rfl ?_
  refine WL.load_fld rfl rfl Ty.flat5 rfl hR19 rfl ?_
  cases hc22 : ((t12.kind : Int) == 0) with
  | false =>
   refine WL.eql rfl rfl rfl rfl hc22 ?_
   have hp22 := beq_eq_false_iff_ne.1 hc22
   refine mv ?_
   refine WL.load_box rfl rfl rfl hR19 Ty.agg30 ?_
   have h23 := ((hn12.ext hE17).bu hB20)
   refine WL.call rfl rfl rfl Ty.ent25 (clean_ok _ _ _ _ h23) ?_
   rintro _ w25 ⟨rfl, hE24⟩
   have hzhE24 := hE24.size
   refine ⟨_, rfl, ?_⟩
   cases hc26 : Nd.clean t12 with
   | false =>
    refine WL.not rfl rfl rfl ?_
    refine pF ?_
    refine WL.dn ?_
    refine cT ?_
    refine sq ?_
    refine WL.build0 (l := (zc 0 0 0 (.slice none 0 0))) rfl rfl Ty.zero30 Ty.agg30 rfl Ty.bz30 ?_
    have hn27 : NodeL _ w25 (zc 0 0 0 (.slice none 0 0)) qa1 := NodeL.shut (k := 0) (s := Nd.zero) (mn := 0) (mx := 0) (sl := .slice none 0 0) (ts := []) (NodesV.nil (fun _ => False) _ none 0)
    have hn27 := hn27.lt
    have h30 := ((hB20.row ((hR4.ext hE7).ext hE17) (by omega)).ext hE24)
    refine WL.store_box rfl rfl rfl h30 Ty.agg30 rfl rfl (fun w31 hB29 hR28 => ?_)
    have hzhB29 := hB29.size
    refine WL.dn ?_
    refine WC.ret (fun a_ ha => ?_)
    refine ret_block ?_
    refine ret_then ?_
    refine ret_then ?_
    refine ret_block ?_
    refine ret_then ?_
    exact bodyPost_cell (l := (zc 0 0 0 (.slice none 0 0))) rfl ha rfl Ty.agg30 hR28 ⟨_, rfl, (by rw [show Nd.seq ts = Nd.none from by simp only [Nd.seq, Nd.any_at ht12 (p := Nd.bad0) (by simp only [Nd.bad0, hc22, hc26] <;> rfl), cond_true]]; exact ((hn27.bu hB29).dom (by intro k hk; (try dsimp only at hk); first | omega | exact hk.1.elim))), (hB29.onto ((hB20.onto ((hE5.trans hE7).trans hE17) (by omega)).trans hE24) (by omega))⟩
   | true =>
    refine WL.not rfl rfl rfl ?_
    refine pF ?_
    refine WL.dn ?_
    refine cF ?_
    refine WC.sk ?_
    refine WC.region ?_
    refine WL.add (v := (k : Int) + 1) rfl rfl rfl rfl (IntWalk.i64_in _ (by omega)) ?_
    refine mv ?_
    refine WL.nil (fun a_ ha => ?_)
    exact ⟨k + 1, _, ha.weaken (s4 (sr rfl (subReg_nil _))), ⟨rfl, ((hB20.onto (hE7.trans hE17) (by omega)).trans hE24), ⟨by omega, by
   intro m t hm ht
   rcases Nat.lt_or_ge m k with h | h
   ·exact hI0 m t h ht
   ·obtain rfl : m = k := by omega
    rw [ht] at ht12; cases ht12; exact (by simp only [Nd.bad0, hc22, hc26]; rfl)⟩⟩, by first | omega | (dsimp only; omega)⟩
  | true =>
   refine WL.eql rfl rfl rfl rfl hc22 ?_
   have hp22 := beq_iff_eq.1 hc22
   refine mv ?_
   refine ps ?_
   refine ps ?_
   refine ps ?_
   refine pT ?_
   refine WL.dn ?_
   refine cT ?_
   refine sq ?_
   refine WL.build0 (l := (zc 0 0 0 (.slice none 0 0))) rfl rfl Ty.zero30 Ty.agg30 rfl Ty.bz30 ?_
   have hn23 : NodeL _ w21 (zc 0 0 0 (.slice none 0 0)) qa1 := NodeL.shut (k := 0) (s := Nd.zero) (mn := 0) (mx := 0) (sl := .slice none 0 0) (ts := []) (NodesV.nil (fun _ => False) _ none 0)
   have hn23 := hn23.lt
   have h26 := (hB20.row ((hR4.ext hE7).ext hE17) (by omega))
   refine WL.store_box rfl rfl rfl h26 Ty.agg30 rfl rfl (fun w27 hB25 hR24 => ?_)
   have hzhB25 := hB25.size
   refine WL.dn ?_
   refine WC.ret (fun a_ ha => ?_)
   refine ret_block ?_
   refine ret_then ?_
   refine ret_then ?_
   refine ret_block ?_
   refine ret_then ?_
   exact bodyPost_cell (l := (zc 0 0 0 (.slice none 0 0))) rfl ha rfl Ty.agg30 hR24 ⟨_, rfl, (by rw [show Nd.seq ts = Nd.none from by simp only [Nd.seq, Nd.any_at ht12 (p := Nd.bad0) (by simp only [Nd.bad0, hc22] <;> rfl), cond_true]]; exact ((hn23.bu hB25).dom (by intro k hk; (try dsimp only at hk); first | omega | exact hk.1.elim))), (hB25.onto (hB20.onto ((hE5.trans hE7).trans hE17) (by omega)) (by omega))⟩
set_option maxRecDepth 20000 in
set_option maxHeartbeats 4000000 in
theorem or_ok (D : Nat → Prop) (w : World) (a : Option Addr) (cap : Nat) (ts : List Nd) (hts : NodesV D w (.slice a ts.length cap) ts) (hle : ts.length ≤ 10000) :
  Calls Try.prog 10 #[.slice a ts.length cap] w fun e w' => ∃ l', e = .returned (.agg l'.toArray) ∧ NodeL (fun k => w.heap.size ≤ k) w' l' (Nd.or ts) ∧ Ext w w' := by
 have hlen := hts.len
 have hts := hts.lt
 refine Calls.enter (args := [.slice a ts.length cap]) Try.func10 rfl rfl rfl rfl ?_
 refine sq ?_
 refine WL.alloc rfl rfl Ty.zero30 rfl (fun b1 w6 hb2 hE5 hs3 hR4 => ?_)
 refine WL.dn ?_
 refine WC.seqk ?_
 refine sq ?_
 refine mv ?_
 refine WL.len rfl rfl Try.underlying24 rfl ?_
 refine mv ?_
 refine WL.dn ?_
 refine WC.block ?_
 refine WC.weaken (r' := [(0, .slice a ts.length cap), (2, pt b1 0), (5, .slice a ts.length cap), (6, .int .i64 ts.length), (7, .int .i64 0)]) (s4 (sr rfl (subReg_nil _))) ?_
 refine WC.loop (σ := Nat) (fun k r_ w_ => r_ = [(0, .slice a ts.length cap), (2, pt b1 0), (5, .slice a ts.length cap), (6, .int .i64 ts.length), (7, .int .i64 (k : Int))] ∧ Ext w6 w_ ∧ (k ≤ ts.length ∧ ∀ (m : Nat) (t : Nd), m < k → ts[m]? = some t → (fun x => !Nd.good x) t = false)) (fun k => ts.length - k) 0 ⟨rfl, (Ext.refl _), ⟨Nat.zero_le _, fun m t h => by omega⟩⟩ ?_
 rintro k r_ w9 ⟨rfl, hE7, hI8⟩
 have hzhE7 := hE7.size
 obtain ⟨hk, hI0⟩ := hI8
 refine sq ?_
 cases hc10 : decide (((k : Int) : Int) < ts.length) with
 | false =>
  refine WL.lss rfl rfl rfl rfl hc10 ?_
  have hp10 := of_decide_eq_false hc10
  refine WL.dn ?_
  refine WC.seqk ?_
  refine cF ?_
  refine WC.exit (fun a_ ha => ?_)
  refine exit_then ?_
  refine exit_then ?_
  refine exit_here ?_
  refine WC.at ?_ ha
  refine sq ?_
  refine mv ?_
  have h12 := ((hts.ext hE5).ext hE7)
  refine WL.call rfl rfl rfl Ty.ent31 (flat_ok _ _ _ _ _ _ ts h12 (fun k hk => by have := hk.2; omega) (by have := Nd.sizeL_le (l := ts) (fun t ht => by obtain ⟨i, hi, rfl⟩ := List.mem_iff_getElem.1 ht; have := hI0 i _ (by omega) (List.getElem?_eq_getElem hi); exact Nd.good_size (by simpa using this)); omega)) ?_
  rintro _ w14 ⟨v11, rfl, hO11, hE13⟩
  have hzhE13 := hE13.size
  refine ⟨_, rfl, ?_⟩
  obtain ⟨a11, cap11, rfl, hnn11, hx11⟩ := hO11.cases
  have hts11 := hO11.nodes.lt
  refine WL.build0 (l := (zc 0 0 0 (.slice none 0 0))) rfl rfl Ty.zero30 Ty.agg30 rfl Ty.bz30 ?_
  have hn15 : NodeL _ w14 (zc 0 0 0 (.slice none 0 0)) qa1 := NodeL.shut (k := 0) (s := Nd.zero) (mn := 0) (mx := 0) (sl := .slice none 0 0) (ts := []) (NodesV.nil (fun _ => False) _ none 0)
  have hn15 := hn15.lt
  refine WL.call rfl rfl rfl Ty.ent30 (joined_ok _ _ _ _ _ (Nd.flat 4 0 ts) _ qa1 hts11 (hn15.dom (by rintro k ⟨h1, h2⟩; exact h1))) ?_
  rintro _ w18 ⟨l16, rfl, hr16, hE17⟩
  have hzhE17 := hE17.size
  refine ⟨_, rfl, ?_⟩
  have hn16 := hr16.lt
  obtain ⟨a16, cap16, rfl, hts16, hlen16⟩ := hn16.op2
  have h21 := (((hR4.ext hE7).ext hE13).ext hE17)
  refine WL.store_box rfl rfl rfl h21 Ty.agg30 rfl rfl (fun w22 hB20 hR19 => ?_)
  have hzhB20 := hB20.size
  refine WL.dn ?_
  refine WC.ret (fun a_ ha => ?_)
  exact bodyPost_cell (l := (tcells (Nd.joined 4 (Nd.flat 4 0 ts) qa1) (.slice a16 (Nd.joined 4 (Nd.flat 4 0 ts) qa1).subs.length cap16))) rfl ha rfl Ty.agg30 hR19 ⟨_, rfl, (by rw [show Nd.or ts = _ from by simp only [Nd.or, Nd.any_no (p := (fun x => !Nd.good x)) (show ts.length ≤ k by omega) hI0, cond_false]; rfl]; exact ((hn16.bu hB20).dom (by intro k hk; (try dsimp only at hk); first | omega | exact hk.1.elim))), (hB20.onto (((hE5.trans hE7).trans hE13).trans hE17) (by omega))⟩
 | true =>
  refine WL.lss rfl rfl rfl rfl hc10 ?_
  have hp10 := of_decide_eq_true hc10
  refine WL.dn ?_
  refine WC.seqk ?_
  refine cT ?_
  refine WC.sk ?_
  refine WC.seqk ?_
  refine WC.block ?_
  refine sq ?_
  have h11 := ((hts.ext hE5).ext hE7)
  obtain ⟨t12, ht12⟩ : ∃ t, ts[k]? = some t := ⟨_, List.getElem?_eq_getElem (by omega)⟩
  obtain ⟨eb12, eo12, el12, hea12, hD12, her12, hn12⟩ := h11.at ht12
  obtain ⟨a12, cap12, rfl, hts12, hlen12⟩ := hn12.op2
  subst hea12
  refine WL.indexAddr (i := k) rfl rfl Ty.slice24 rfl rfl rfl (by omega) ?_
  refine WL.load_agg (l := tcells t12 (.slice a12 t12.subs.length cap12)) rfl rfl Ty.agg30 rfl her12 ?_
  refine WL.alloc rfl rfl Ty.zero30 rfl (fun b13 w18 hb14 hE17 hs15 hR16 => ?_)
  refine WL.store_box rfl rfl rfl hR16 Ty.agg30 rfl rfl (fun w21 hB20 hR19 => ?_)
  have hzhB20 := hB20.size
  refine WL.dn ?_
  refine sq ?_
  refine WL.load_box rfl rfl rfl hR19 Ty.agg30 ?_
  have h22 := ((hn12.ext hE17).bu hB20)
  refine WL.call rfl rfl rfl Ty.ent29 (good_ok _ _ _ _ h22) ?_
  rintro _ w24 ⟨rfl, hE23⟩
  have hzhE23 := hE23.size
  refine ⟨_, rfl, ?_⟩
  cases hc25 : Nd.good t12 with
  | false =>
   refine WL.not rfl rfl rfl ?_
   refine WL.dn ?_
   refine cT ?_
   refine sq ?_
   refine WL.build0 (l := (zc 0 0 0 (.slice none 0 0))) rfl rfl Ty.zero30 Ty.agg30 rfl Ty.bz30 ?_
   have hn26 : NodeL _ w24 (zc 0 0 0 (.slice none 0 0)) qa1 := NodeL.shut (k := 0) (s := Nd.zero) (mn := 0) (mx := 0) (sl := .slice none 0 0) (ts := []) (NodesV.nil (fun _ => False) _ none 0)
   have hn26 := hn26.lt
   have h29 := ((hB20.row ((hR4.ext hE7).ext hE17) (by omega)).ext hE23)
   refine WL.store_box rfl rfl rfl h29 Ty.agg30 rfl rfl (fun w30 hB28 hR27 => ?_)
   have hzhB28 := hB28.size
   refine WL.dn ?_
   refine WC.ret (fun a_ ha => ?_)
   refine ret_block ?_
   refine ret_then ?_
   refine ret_then ?_
   refine ret_block ?_
   refine ret_then ?_
   exact bodyPost_cell (l := (zc 0 0 0 (.slice none 0 0))) rfl ha rfl Ty.agg30 hR27 ⟨_, rfl, (by rw [show Nd.or ts = Nd.none from by simp only [Nd.or, Nd.any_at ht12 (p := (fun x => !Nd.good x)) (by simp only [Nd.bad0, hc25] <;> rfl), cond_true]]; exact ((hn26.bu hB28).dom (by intro k hk; (try dsimp only at hk); first | omega | exact hk.1.elim))), (hB28.onto ((hB20.onto ((hE5.trans hE7).trans hE17) (by omega)).trans hE23) (by omega))⟩
  | true =>
   refine WL.not rfl rfl rfl ?_
   refine WL.dn ?_
   refine cF ?_
   refine WC.sk ?_
   refine WC.region ?_
   refine WL.add (v := (k : Int) + 1) rfl rfl rfl rfl (IntWalk.i64_in _ (by omega)) ?_
   refine mv ?_
   refine WL.nil (fun a_ ha => ?_)
   exact ⟨k + 1, _, ha.weaken (s4 (sr rfl (subReg_nil _))), ⟨rfl, ((hB20.onto (hE7.trans hE17) (by omega)).trans hE23), ⟨by omega, by
   intro m t hm ht
   rcases Nat.lt_or_ge m k with h | h
   ·exact hI0 m t h ht
   ·obtain rfl : m = k := by omega
    rw [ht] at ht12; cases ht12; exact (by simp only [Nd.bad0, hc25]; rfl)⟩⟩, by first | omega | (dsimp only; omega)⟩
end Go.Proofs.Yteenegaadlhjdaa
namespace Go.Proofs.Yteenegaadlhjdaa
open Go.Proofs Go.RowKit
abbrev qb1 : Nd := (Nd.mk 0 Nd.zero 0 0 ([]))
abbrev qb2 : Nd := (Nd.mk 1 Nd.zero 0 0 ([]))
set_option maxRecDepth 20000 in
set_option maxHeartbeats 4000000 in
theorem times_ok (D : Nat → Prop) (w : World) (l : List Value) (T : Nd) (mn mx : Int) (hT : NodeL D w l T) :
  Calls Try.prog 17 #[.agg l.toArray, .int .i64 mn, .int .i64 mx] w fun e w' => ∃ l', e = .returned (.agg l'.toArray) ∧ NodeL (fun k => w.heap.size ≤ k) w' l' (Nd.times T mn mx) ∧ Ext w w' := by
 have hT := hT.lt
 obtain ⟨a, cap, rfl, hts, hlen⟩ := hT.op2
 refine Calls.enter (args := [.agg (tcells T (.slice a T.subs.length cap)).toArray, .int .i64 mn, .int .i64 mx]) Try.func17 rfl rfl rfl rfl ?_
 refine sq ?_
 refine WL.box_agg rfl rfl rfl (fun b1 w6 hb2 hE5 hs3 hR4 => ?_)
 refine WL.alloc rfl rfl Ty.zero30 rfl (fun b7 w12 hb8 hE11 hs9 hR10 => ?_)
 refine WL.dn ?_
 refine sq ?_
 refine mv ?_
 cases hc13 : ((mn : Int) == 0) with
 | false =>
  refine WL.eql rfl rfl rfl rfl hc13 ?_
  have hp13 := beq_eq_false_iff_ne.1 hc13
  refine mv ?_
  refine ps ?_
  refine ps ?_
  refine pF ?_
  refine mv ?_
  cases hc14 : ((mn : Int) == 1) with
  | false =>
   refine WL.eql rfl rfl rfl rfl hc14 ?_
   have hp14 := beq_eq_false_iff_ne.1 hc14
   refine mv ?_
   refine ps ?_
   refine ps ?_
   refine pF ?_
   refine asg ?_
   refine asg ?_
   refine WL.dn ?_
   refine WC.seqk ?_
   refine WC.block ?_
   refine WC.seqk ?_
   refine WC.weaken (r' := [(1, .int .i64 mn), (2, .int .i64 mx), (3, pt b1 0), (6, pt b7 0), (7, .bool false), (8, .bool false)]) (s4 (sr rfl (sr rfl (subReg_nil _)))) ?_
   refine WC.region ?_
   refine WL.load_box rfl rfl rfl (hR4.ext hE11) Ty.agg30 ?_
   have h15 := ((hT.ext hE5).ext hE11)
   refine WL.call rfl rfl rfl Ty.ent29 (good_ok _ _ _ _ h15) ?_
   rintro _ w17 ⟨rfl, hE16⟩
   have hzhE16 := hE16.size
   refine ⟨_, rfl, ?_⟩
   cases hc18 : Nd.good T with
   | false =>
    refine WL.not rfl rfl rfl ?_
    refine mv ?_
    refine ps ?_
    refine ps ?_
    refine ps ?_
    refine ps ?_
    refine ps ?_
    refine ps ?_
    refine ps ?_
    refine ps ?_
    refine ps ?_
    refine ps ?_
    refine ps ?_
    refine ps ?_
    refine pT ?_
    refine asg ?_
    refine WL.dn ?_
    refine cT ?_
    refine WC.seqk ?_
    refine WC.weaken (r' := [(1, .int .i64 mn), (2, .int .i64 mx), (3, pt b1 0), (6, pt b7 0), (7, .bool false), (8, .bool false), (21, .bool true)]) (s4 (sr rfl (sr rfl (sr rfl (subReg_nil _))))) ?_
    refine WC.region ?_
    refine WL.build0 (l := (zc 0 0 0 (.slice none 0 0))) rfl rfl Ty.zero30 Ty.agg30 rfl Ty.bz30 ?_
    have hn19 : NodeL _ w17 (zc 0 0 0 (.slice none 0 0)) qb1 := NodeL.shut (k := 0) (s := Nd.zero) (mn := 0) (mx := 0) (sl := .slice none 0 0) (ts := []) (NodesV.nil (fun _ => False) _ none 0)
    have hn19 := hn19.lt
    refine WL.store_box rfl rfl rfl (hR10.ext hE16) Ty.agg30 rfl rfl (fun w22 hB21 hR20 => ?_)
    have hzhB21 := hB21.size
    refine WL.dn ?_
    refine WC.ret (fun a_ ha => ?_)
    refine ret_block ?_
    refine ret_then ?_
    exact bodyPost_cell (l := (zc 0 0 0 (.slice none 0 0))) rfl ha rfl Ty.agg30 hR20 ⟨_, rfl, (by simp only [Nd.times, hc13, hc14, hc18, cond_true, cond_false, Bool.not_true, Bool.not_false, Bool.or_true, Bool.true_or, Bool.or_false, Bool.false_or, Bool.and_true, Bool.true_and, Bool.and_false, Bool.false_and]; exact ((hn19.bu hB21).dom (by intro k hk; (try dsimp only at hk); first | omega | exact hk.1.elim))), (hB21.onto ((hE5.trans hE11).trans hE16) (by omega))⟩
   | true =>
    refine WL.not rfl rfl rfl ?_
    refine mv ?_
    refine mv ?_
    refine WL.not rfl rfl rfl ?_
    refine mv ?_
    refine mv ?_
    refine WL.not rfl rfl rfl ?_
    refine pT ?_
    refine mv ?_
    refine mv ?_
    refine mv ?_
    refine WL.call rfl rfl rfl Ty.ent36 (bounds_ok mn mx _) ?_
    rintro _ w20 ⟨rfl, hE19⟩
    have hzhE19 := hE19.size
    refine ⟨_, rfl, ?_⟩
    cases hc21 : Nd.bounds mn mx with
    | false =>
     refine WL.not rfl rfl rfl ?_
     refine pT ?_
     refine pF ?_
     refine asg ?_
     refine WL.dn ?_
     refine cT ?_
     refine WC.seqk ?_
     refine WC.weaken (r' := [(1, .int .i64 mn), (2, .int .i64 mx), (3, pt b1 0), (6, pt b7 0), (7, .bool false), (8, .bool false), (21, .bool true)]) (s4 (sr rfl (sr rfl (sr rfl (subReg_nil _))))) ?_
     refine WC.region ?_
     refine WL.build0 (l := (zc 0 0 0 (.slice none 0 0))) rfl rfl Ty.zero30 Ty.agg30 rfl Ty.bz30 ?_
     have hn22 : NodeL _ w20 (zc 0 0 0 (.slice none 0 0)) qb1 := NodeL.shut (k := 0) (s := Nd.zero) (mn := 0) (mx := 0) (sl := .slice none 0 0) (ts := []) (NodesV.nil (fun _ => False) _ none 0)
     have hn22 := hn22.lt
     have h25 := ((hR10.ext hE16).ext hE19)
     refine WL.store_box rfl rfl rfl h25 Ty.agg30 rfl rfl (fun w26 hB24 hR23 => ?_)
     have hzhB24 := hB24.size
     refine WL.dn ?_
     refine WC.ret (fun a_ ha => ?_)
     refine ret_block ?_
     refine ret_then ?_
     exact bodyPost_cell (l := (zc 0 0 0 (.slice none 0 0))) rfl ha rfl Ty.agg30 hR23 ⟨_, rfl, (by simp only [Nd.times, hc13, hc14, hc18, hc21, cond_true, cond_false, Bool.not_true, Bool.not_false, Bool.or_true, Bool.true_or, Bool.or_false, Bool.false_or, Bool.and_true, Bool.true_and, Bool.and_false, Bool.false_and]; exact ((hn22.bu hB24).dom (by intro k hk; (try dsimp only at hk); first | omega | exact hk.1.elim))), (hB24.onto (((hE5.trans hE11).trans hE16).trans hE19) (by omega))⟩
    | true =>
     refine WL.not rfl rfl rfl ?_
     refine pT ?_
     refine pF ?_
     refine asg ?_
     refine WL.dn ?_
     refine cF ?_
     refine WC.seqk ?_
     refine WC.weaken (r' := [(1, .int .i64 mn), (2, .int .i64 mx), (3, pt b1 0), (6, pt b7 0), (7, .bool false), (8, .bool false), (21, .bool false)]) (s4 (sr rfl (sr rfl (sr rfl (subReg_nil _))))) ?_
     refine WC.region ?_
     refine WL.fieldAddr rfl rfl Ty.fld30_0 rfl ?_
     have h22 := (((hR4.ext hE11).ext hE16).ext hE19)
     refine WL.load_fld rfl rfl Ty.flat5 rfl h22 rfl ?_
     cases hc23 : ((T.kind : Int) == 0) with
     | false =>
      refine WL.eql rfl rfl rfl rfl hc23 ?_
      have hp23 := beq_eq_false_iff_ne.1 hc23
      refine mv ?_
      refine ps ?_
      refine ps ?_
      refine pF ?_
      refine asg ?_
      refine WL.dn ?_
      refine cF ?_
      refine WC.seqk ?_
      refine WC.weaken (r' := [(1, .int .i64 mn), (2, .int .i64 mx), (3, pt b1 0), (6, pt b7 0), (7, .bool false), (8, .bool false), (21, .bool false), (40, .bool false)]) (s4 (s4 (subReg_nil _))) ?_
      refine WC.region ?_
      refine mv ?_
      refine mv ?_
      refine WL.fieldAddr rfl rfl Ty.fld30_0 rfl ?_
      refine WL.load_fld rfl rfl Ty.flat5 rfl h22 rfl ?_
      refine WL.eql (b := false) rfl rfl rfl rfl hc23 ?_
      refine pF ?_
      refine mv ?_
      refine WL.fieldAddr rfl rfl Ty.fld30_0 rfl ?_
      refine WL.load_fld rfl rfl Ty.flat5 rfl h22 rfl ?_
      cases hc24 : ((T.kind : Int) == 1) with
      | false =>
       refine WL.eql rfl rfl rfl rfl hc24 ?_
       have hp24 := beq_eq_false_iff_ne.1 hc24
       refine pF ?_
       refine asg ?_
       refine WL.dn ?_
       refine cF ?_
       refine WC.seqk ?_
       refine WC.weaken (r' := [(1, .int .i64 mn), (2, .int .i64 mx), (3, pt b1 0), (6, pt b7 0), (8, .bool false), (21, .bool false), (40, .bool false), (49, .bool false)]) (s4 (s4 (subReg_nil _))) ?_
       refine WC.region ?_
       refine mv ?_
       refine asg ?_
       refine WL.dn ?_
       refine cF ?_
       refine WC.sk ?_
       refine sq ?_
       refine mv ?_
       refine mv ?_
       refine WL.load_box rfl rfl rfl h22 Ty.agg30 ?_
       have h25 := ((h15.ext hE16).ext hE19)
       refine WL.buildSlice (vs := [.agg (tcells T (.slice a T.subs.length cap)).toArray]) (cells := (tcells T (.slice a T.subs.length cap))) rfl rfl Ty.slice24 Ty.zero30 rfl rfl rfl rfl rfl rfl (fun b26 w31 hb27 hE30 hs28 hR29 => ?_)
       have hts26 := (NodesV.lit (n := 1) (ts := [T]) hR29 (RowsL.cons (h25.ext hE30) (RowsL.nil' _)) rfl rfl (by decide)).lt
       refine WL.build (l := (zc 5 mn mx (.slice (some ⟨b26, 0, none⟩) 1 1))) rfl rfl Ty.zero30 Ty.st30 ⟨⟨rfl, rfl⟩, (by kernel_rfl)⟩ ?_
       have hn32 : NodeL _ w31 (zc 5 mn mx (.slice (some ⟨b26, 0, none⟩) 1 1)) (Nd.mk 5 Nd.zero mn mx ([T])) := NodeL.shut (k := 5) (s := Nd.zero) (mn := mn) (mx := mx) (sl := .slice (some ⟨b26, 0, none⟩) 1 1) (ts := [T]) hts26
       have hn32 := hn32.lt
       refine WL.call rfl rfl rfl Ty.ent34 (checked_ok _ _ _ _ hn32) ?_
       rintro _ w35 ⟨l33, rfl, hr33, hE34⟩
       have hzhE34 := hE34.size
       refine ⟨_, rfl, ?_⟩
       have hn33 := hr33.lt
       obtain ⟨a33, cap33, rfl, hts33, hlen33⟩ := hn33.op2
       have h38 := ((((hR10.ext hE16).ext hE19).ext hE30).ext hE34)
       refine WL.store_box rfl rfl rfl h38 Ty.agg30 rfl rfl (fun w39 hB37 hR36 => ?_)
       have hzhB37 := hB37.size
       refine WL.dn ?_
       refine WC.ret (fun a_ ha => ?_)
       exact bodyPost_cell (l := (tcells ((Nd.mk 5 Nd.zero mn mx ([T])).checked) (.slice a33 ((Nd.mk 5 Nd.zero mn mx ([T])).checked).subs.length cap33))) rfl ha rfl Ty.agg30 hR36 ⟨_, rfl, (by simp only [Nd.times, hc13, hc14, hc18, hc21, hc23, hc24, cond_true, cond_false, Bool.not_true, Bool.not_false, Bool.or_true, Bool.true_or, Bool.or_false, Bool.false_or, Bool.and_true, Bool.true_and, Bool.and_false, Bool.false_and]; exact ((hn33.bu hB37).dom (by intro k hk; (try dsimp only at hk); first | omega | exact hk.1.elim))), (hB37.onto (((((hE5.trans hE11).trans hE16).trans hE19).trans hE30).trans hE34) (by omega))⟩
      | true =>
       refine WL.eql rfl rfl rfl rfl hc24 ?_
       have hp24 := beq_iff_eq.1 hc24
       refine pF ?_
       refine asg ?_
       refine WL.dn ?_
       refine cT ?_
       refine WC.seqk ?_
       refine WC.weaken (r' := [(1, .int .i64 mn), (2, .int .i64 mx), (3, pt b1 0), (6, pt b7 0), (8, .bool false), (21, .bool false), (40, .bool false), (49, .bool true)]) (s4 (s4 (subReg_nil _))) ?_
       refine WC.region ?_
       refine WL.build (l := (zc 1 0 0 (.slice none 0 0))) rfl rfl Ty.zero30 Ty.st30 ⟨⟨rfl, rfl⟩, (by kernel_rfl)⟩ ?_
       have hn25 : NodeL _ w20 (zc 1 0 0 (.slice none 0 0)) qb2 := NodeL.shut (k := 1) (s := Nd.zero) (mn := 0) (mx := 0) (sl := .slice none 0 0) (ts := []) (NodesV.nil (fun _ => False) _ none 0)
       have hn25 := hn25.lt
       have h28 := ((hR10.ext hE16).ext hE19)
       refine WL.store_box rfl rfl rfl h28 Ty.agg30 rfl rfl (fun w29 hB27 hR26 => ?_)
       have hzhB27 := hB27.size
       refine WL.dn ?_
       refine WC.ret (fun a_ ha => ?_)
       refine ret_block ?_
       refine ret_then ?_
       exact bodyPost_cell (l := (zc 1 0 0 (.slice none 0 0))) rfl ha rfl Ty.agg30 hR26 ⟨_, rfl, (by simp only [Nd.times, hc13, hc14, hc18, hc21, hc23, hc24, cond_true, cond_false, Bool.not_true, Bool.not_false, Bool.or_true, Bool.true_or, Bool.or_false, Bool.false_or, Bool.and_true, Bool.true_and, Bool.and_false, Bool.false_and]; exact ((hn25.bu hB27).dom (by intro k hk; (try dsimp only at hk); first | omega | exact hk.1.elim))), (hB27.onto (((hE5.trans hE11).trans hE16).trans hE19) (by omega))⟩
     | true =>
      refine WL.eql rfl rfl rfl rfl hc23 ?_
      have hp23 := beq_iff_eq.1 hc23
      refine mv ?_
      refine mv ?_
      cases hc24 : decide ((0 : Int) < mn) with
      | false =>
       refine WL.gtr rfl rfl rfl rfl hc24 ?_
       have hp24 := of_decide_eq_false hc24
       refine pT ?_
       refine asg ?_
       refine WL.dn ?_
       refine cF ?_
       refine WC.seqk ?_
       refine WC.weaken (r' := [(1, .int .i64 mn), (2, .int .i64 mx), (3, pt b1 0), (6, pt b7 0), (7, .bool false), (8, .bool false), (21, .bool false), (40, .bool false)]) (s4 (s4 (subReg_nil _))) ?_
       refine WC.region ?_
       refine mv ?_
       refine mv ?_
       refine WL.fieldAddr rfl rfl Ty.fld30_0 rfl ?_
       refine WL.load_fld rfl rfl Ty.flat5 rfl h22 rfl ?_
       refine WL.eql (b := true) rfl rfl rfl rfl hc23 ?_
       refine pF ?_
       refine mv ?_
       refine ps ?_
       refine ps ?_
       refine ps ?_
       refine pT ?_
       refine asg ?_
       refine WL.dn ?_
       refine cT ?_
       refine WC.seqk ?_
       refine WC.weaken (r' := [(1, .int .i64 mn), (2, .int .i64 mx), (3, pt b1 0), (6, pt b7 0), (8, .bool false), (21, .bool false), (40, .bool false), (49, .bool true)]) (s4 (s4 (subReg_nil _))) ?_
       refine WC.region ?_
       refine WL.build (l := (zc 1 0 0 (.slice none 0 0))) rfl rfl Ty.zero30 Ty.st30 ⟨⟨rfl, rfl⟩, (by kernel_rfl)⟩ ?_
       have hn25 : NodeL _ w20 (zc 1 0 0 (.slice none 0 0)) qb2 := NodeL.shut (k := 1) (s := Nd.zero) (mn := 0) (mx := 0) (sl := .slice none 0 0) (ts := []) (NodesV.nil (fun _ => False) _ none 0)
       have hn25 := hn25.lt
       have h28 := ((hR10.ext hE16).ext hE19)
       refine WL.store_box rfl rfl rfl h28 Ty.agg30 rfl rfl (fun w29 hB27 hR26 => ?_)
       have hzhB27 := hB27.size
       refine WL.dn ?_
       refine WC.ret (fun a_ ha => ?_)
       refine ret_block ?_
       refine ret_then ?_
       exact bodyPost_cell (l := (zc 1 0 0 (.slice none 0 0))) rfl ha rfl Ty.agg30 hR26 ⟨_, rfl, (by simp only [Nd.times, hc13, hc14, hc18, hc21, hc23, hc24, cond_true, cond_false, Bool.not_true, Bool.not_false, Bool.or_true, Bool.true_or, Bool.or_false, Bool.false_or, Bool.and_true, Bool.true_and, Bool.and_false, Bool.false_and]; exact ((hn25.bu hB27).dom (by intro k hk; (try dsimp only at hk); first | omega | exact hk.1.elim))), (hB27.onto (((hE5.trans hE11).trans hE16).trans hE19) (by omega))⟩
      | true =>
       refine WL.gtr rfl rfl rfl rfl hc24 ?_
       have hp24 := of_decide_eq_true hc24
       refine pT ?_
       refine asg ?_
       refine WL.dn ?_
       refine cT ?_
       refine WC.seqk ?_
       refine WC.weaken (r' := [(1, .int .i64 mn), (2, .int .i64 mx), (3, pt b1 0), (6, pt b7 0), (7, .bool false), (8, .bool false), (21, .bool false), (40, .bool true)]) (s4 (s4 (subReg_nil _))) ?_
       refine WC.region ?_
       refine WL.build0 (l := (zc 0 0 0 (.slice none 0 0))) rfl rfl Ty.zero30 Ty.agg30 rfl Ty.bz30 ?_
       have hn25 : NodeL _ w20 (zc 0 0 0 (.slice none 0 0)) qb1 := NodeL.shut (k := 0) (s := Nd.zero) (mn := 0) (mx := 0) (sl := .slice none 0 0) (ts := []) (NodesV.nil (fun _ => False) _ none 0)
       have hn25 := hn25.lt
       have h28 := ((hR10.ext hE16).ext hE19)
       refine WL.store_box rfl rfl rfl h28 Ty.agg30 rfl rfl (fun w29 hB27 hR26 => ?_)
       have hzhB27 := hB27.size
       refine WL.dn ?_
       refine WC.ret (fun a_ ha => ?_)
       refine ret_block ?_
       refine ret_then ?_
       exact bodyPost_cell (l := (zc 0 0 0 (.slice none 0 0))) rfl ha rfl Ty.agg30 hR26 ⟨_, rfl, (by simp only [Nd.times, hc13, hc14, hc18, hc21, hc23, hc24, cond_true, cond_false, Bool.not_true, Bool.not_false, Bool.or_true, Bool.true_or, Bool.or_false, Bool.false_or, Bool.and_true, Bool.true_and, Bool.and_false, Bool.false_and]; exact ((hn25.bu hB27).dom (by intro k hk; (try dsimp only at hk); first | omega | exact hk.1.elim))), (hB27.onto (((hE5.trans hE11).trans hE16).trans hE19) (by omega))⟩
  | true =>
   refine WL.eql rfl rfl rfl rfl hc14 ?_
   have hp14 := beq_iff_eq.1 hc14
   refine mv ?_
   refine mv ?_
   cases hc15 : ((mx : Int) == 1) with
   | false =>
    refine WL.eql rfl rfl rfl rfl hc15 ?_
    have hp15 := beq_eq_false_iff_ne.1 hc15
    refine pT ?_
    refine asg ?_
    refine asg ?_
    refine WL.dn ?_
    refine WC.seqk ?_
    refine WC.block ?_
    refine WC.seqk ?_
    refine WC.weaken (r' := [(1, .int .i64 mn), (2, .int .i64 mx), (3, pt b1 0), (6, pt b7 0), (7, .bool false), (8, .bool false)]) (s4 (sr rfl (sr rfl (subReg_nil _)))) ?_
    refine WC.region ?_
    refine WL.load_box rfl rfl rfl (hR4.ext hE11) Ty.agg30 ?_
    have h16 := ((hT.ext hE5).ext hE11)
    refine WL.call rfl rfl rfl Ty.ent29 (good_ok _ _ _ _ h16) ?_
    rintro _ w18 ⟨rfl, hE17⟩
    have hzhE17 := hE17.size
    refine ⟨_, rfl, ?_⟩
    cases hc19 : Nd.good T with
    | false =>
     refine WL.not rfl rfl rfl ?_
     refine mv ?_
     refine ps ?_
     refine ps ?_
     refine ps ?_
     refine ps ?_
     refine ps ?_
     refine ps ?_
     refine ps ?_
     refine ps ?_
     refine ps ?_
     refine ps ?_
     refine ps ?_
     refine ps ?_
     refine pT ?_
     refine asg ?_
     refine WL.dn ?_
     refine cT ?_
     refine WC.seqk ?_
     refine WC.weaken (r' := [(1, .int .i64 mn), (2, .int .i64 mx), (3, pt b1 0), (6, pt b7 0), (7, .bool false), (8, .bool false), (21, .bool true)]) (s4 (sr rfl (sr rfl (sr rfl (subReg_nil _))))) ?_
     refine WC.region ?_
     refine WL.build0 (l := (zc 0 0 0 (.slice none 0 0))) rfl rfl Ty.zero30 Ty.agg30 rfl Ty.bz30 ?_
     have hn20 : NodeL _ w18 (zc 0 0 0 (.slice none 0 0)) qb1 := NodeL.shut (k := 0) (s := Nd.zero) (mn := 0) (mx := 0) (sl := .slice none 0 0) (ts := []) (NodesV.nil (fun _ => False) _ none 0)
     have hn20 := hn20.lt
     refine WL.store_box rfl rfl rfl (hR10.ext hE17) Ty.agg30 rfl rfl (fun w23 hB22 hR21 => ?_)
     have hzhB22 := hB22.size
     refine WL.dn ?_
     refine WC.ret (fun a_ ha => ?_)
     refine ret_block ?_
     refine ret_then ?_
     exact bodyPost_cell (l := (zc 0 0 0 (.slice none 0 0))) rfl ha rfl Ty.agg30 hR21 ⟨_, rfl, (by simp only [Nd.times, hc13, hc14, hc15, hc19, cond_true, cond_false, Bool.not_true, Bool.not_false, Bool.or_true, Bool.true_or, Bool.or_false, Bool.false_or, Bool.and_true, Bool.true_and, Bool.and_false, Bool.false_and]; exact ((hn20.bu hB22).dom (by intro k hk; (try dsimp only at hk); first | omega | exact hk.1.elim))), (hB22.onto ((hE5.trans hE11).trans hE17) (by omega))⟩
    | true =>
     refine WL.not rfl rfl rfl ?_
     refine mv ?_
     refine mv ?_
     refine WL.not rfl rfl rfl ?_
     refine mv ?_
     refine mv ?_
     refine WL.not rfl rfl rfl ?_
     refine pT ?_
     refine mv ?_
     refine mv ?_
     refine mv ?_
     refine WL.call rfl rfl rfl Ty.ent36 (bounds_ok mn mx _) ?_
     rintro _ w21 ⟨rfl, hE20⟩
     have hzhE20 := hE20.size
     refine ⟨_, rfl, ?_⟩
     cases hc22 : Nd.bounds mn mx with
     | false =>
      refine WL.not rfl rfl rfl ?_
      refine pT ?_
      refine pF ?_
      refine asg ?_
      refine WL.dn ?_
      refine cT ?_
      refine WC.seqk ?_
      refine WC.weaken (r' := [(1, .int .i64 mn), (2, .int .i64 mx), (3, pt b1 0), (6, pt b7 0), (7, .bool false), (8, .bool false), (21, .bool true)]) (s4 (sr rfl (sr rfl (sr rfl (subReg_nil _))))) ?_
      refine WC.region ?_
      refine WL.build0 (l := (zc 0 0 0 (.slice none 0 0))) rfl rfl Ty.zero30 Ty.agg30 rfl Ty.bz30 ?_
      have hn23 : NodeL _ w21 (zc 0 0 0 (.slice none 0 0)) qb1 := NodeL.shut (k := 0) (s := Nd.zero) (mn := 0) (mx := 0) (sl := .slice none 0 0) (ts := []) (NodesV.nil (fun _ => False) _ none 0)
      have hn23 := hn23.lt
      have h26 := ((hR10.ext hE17).ext hE20)
      refine WL.store_box rfl rfl rfl h26 Ty.agg30 rfl rfl (fun w27 hB25 hR24 => ?_)
      have hzhB25 := hB25.size
      refine WL.dn ?_
      refine WC.ret (fun a_ ha => ?_)
      refine ret_block ?_
      refine ret_then ?_
      exact bodyPost_cell (l := (zc 0 0 0 (.slice none 0 0))) rfl ha rfl Ty.agg30 hR24 ⟨_, rfl, (by simp only [Nd.times, hc13, hc14, hc15, hc19, hc22, cond_true, cond_false, Bool.not_true, Bool.not_false, Bool.or_true, Bool.true_or, Bool.or_false, Bool.false_or, Bool.and_true, Bool.true_and, Bool.and_false, Bool.false_and]; exact ((hn23.bu hB25).dom (by intro k hk; (try dsimp only at hk); first | omega | exact hk.1.elim))), (hB25.onto (((hE5.trans hE11).trans hE17).trans hE20) (by omega))⟩
     | true =>
      refine WL.not rfl rfl rfl ?_
      refine pT ?_
      refine pF ?_
      refine asg ?_
      refine WL.dn ?_
      refine cF ?_
      refine WC.seqk ?_
      refine WC.weaken (r' := [(1, .int .i64 mn), (2, .int .i64 mx), (3, pt b1 0), (6, pt b7 0), (7, .bool false), (8, .bool false), (21, .bool false)]) (s4 (sr rfl (sr rfl (sr rfl (subReg_nil _))))) ?_
      refine WC.region ?_
      refine WL.fieldAddr rfl rfl Ty.fld30_0 rfl ?_
      have h23 := (((hR4.ext hE11).ext hE17).ext hE20)
      refine WL.load_fld rfl rfl Ty.flat5 rfl h23 rfl ?_
      cases hc24 : ((T.kind : Int) == 0) with
      | false =>
       refine WL.eql rfl rfl rfl rfl hc24 ?_
       have hp24 := beq_eq_false_iff_ne.1 hc24
       refine mv ?_
       refine ps ?_
       refine ps ?_
       refine pF ?_
       refine asg ?_
       refine WL.dn ?_
       refine cF ?_
       refine WC.seqk ?_
       refine WC.weaken (r' := [(1, .int .i64 mn), (2, .int .i64 mx), (3, pt b1 0), (6, pt b7 0), (7, .bool false), (8, .bool false), (21, .bool false), (40, .bool false)]) (s4 (s4 (subReg_nil _))) ?_
       refine WC.region ?_
       refine mv ?_
       refine mv ?_
       refine WL.fieldAddr rfl rfl Ty.fld30_0 rfl ?_
       refine WL.load_fld rfl rfl Ty.flat5 rfl h23 rfl ?_
       refine WL.eql (b := false) rfl rfl rfl rfl hc24 ?_
       refine pF ?_
       refine mv ?_
       refine WL.fieldAddr rfl rfl Ty.fld30_0 rfl ?_
       refine WL.load_fld rfl rfl Ty.flat5 rfl h23 rfl ?_
       cases hc25 : ((T.kind : Int) == 1) with
       | false =>
        refine WL.eql rfl rfl rfl rfl hc25 ?_
        have hp25 := beq_eq_false_iff_ne.1 hc25
        refine pF ?_
        refine asg ?_
        refine WL.dn ?_
        refine cF ?_
        refine WC.seqk ?_
        refine WC.weaken (r' := [(1, .int .i64 mn), (2, .int .i64 mx), (3, pt b1 0), (6, pt b7 0), (8, .bool false), (21, .bool false), (40, .bool false), (49, .bool false)]) (s4 (s4 (subReg_nil _))) ?_
        refine WC.region ?_
        refine mv ?_
        refine asg ?_
        refine WL.dn ?_
        refine cF ?_
        refine WC.sk ?_
        refine sq ?_
        refine mv ?_
        refine mv ?_
        refine WL.load_box rfl rfl rfl h23 Ty.agg30 ?_
        have h26 := ((h16.ext hE17).ext hE20)
        refine WL.buildSlice (vs := [.agg (tcells T (.slice a T.subs.length cap)).toArray]) (cells := (tcells T (.slice a T.subs.length cap))) rfl rfl Ty.slice24 Ty.zero30 rfl rfl rfl rfl rfl rfl (fun b27 w32 hb28 hE31 hs29 hR30 => ?_)
        have hts27 := (NodesV.lit (n := 1) (ts := [T]) hR30 (RowsL.cons (h26.ext hE31) (RowsL.nil' _)) rfl rfl (by decide)).lt
        refine WL.build (l := (zc 5 mn mx (.slice (some ⟨b27, 0, none⟩) 1 1))) rfl rfl Ty.zero30 Ty.st30 ⟨⟨rfl, rfl⟩, (by kernel_rfl)⟩ ?_
        have hn33 : NodeL _ w32 (zc 5 mn mx (.slice (some ⟨b27, 0, none⟩) 1 1)) (Nd.mk 5 Nd.zero mn mx ([T])) := NodeL.shut (k := 5) (s := Nd.zero) (mn := mn) (mx := mx) (sl := .slice (some ⟨b27, 0, none⟩) 1 1) (ts := [T]) hts27
        have hn33 := hn33.lt
        refine WL.call rfl rfl rfl Ty.ent34 (checked_ok _ _ _ _ hn33) ?_
        rintro _ w36 ⟨l34, rfl, hr34, hE35⟩
        have hzhE35 := hE35.size
        refine ⟨_, rfl, ?_⟩
        have hn34 := hr34.lt
        obtain ⟨a34, cap34, rfl, hts34, hlen34⟩ := hn34.op2
        have h39 := ((((hR10.ext hE17).ext hE20).ext hE31).ext hE35)
        refine WL.store_box rfl rfl rfl h39 Ty.agg30 rfl rfl (fun w40 hB38 hR37 => ?_)
        have hzhB38 := hB38.size
        refine WL.dn ?_
        refine WC.ret (fun a_ ha => ?_)
        exact bodyPost_cell (l := (tcells ((Nd.mk 5 Nd.zero mn mx ([T])).checked) (.slice a34 ((Nd.mk 5 Nd.zero mn mx ([T])).checked).subs.length cap34))) rfl ha rfl Ty.agg30 hR37 ⟨_, rfl, (by simp only [Nd.times, hc13, hc14, hc15, hc19, hc22, hc24, hc25, cond_true, cond_false, Bool.not_true, Bool.not_false, Bool.or_true, Bool.true_or, Bool.or_false, Bool.false_or, Bool.and_true, Bool.true_and, Bool.and_false, Bool.false_and]; exact ((hn34.bu hB38).dom (by intro k hk; (try dsimp only at hk); first | omega | exact hk.1.elim))), (hB38.onto (((((hE5.trans hE11).trans hE17).trans hE20).trans hE31).trans hE35) (by omega))⟩
       | true =>
        refine WL.eql rfl rfl rfl rfl hc25 ?_
        have hp25 := beq_iff_eq.1 hc25
        refine pF ?_
        refine asg ?_
        refine WL.dn ?_
        refine cT ?_
        refine WC.seqk ?_
        refine WC.weaken (r' := [(1, .int .i64 mn), (2, .int .i64 mx), (3, pt b1 0), (6, pt b7 0), (8, .bool false), (21, .bool false), (40, .bool false), (49, .bool true)]) (s4 (s4 (subReg_nil _))) ?_
        refine WC.region ?_
        refine WL.build (l := (zc 1 0 0 (.slice none 0 0))) rfl rfl Ty.zero30 Ty.st30 ⟨⟨rfl, rfl⟩, (by kernel_rfl)⟩ ?_
        have hn26 : NodeL _ w21 (zc 1 0 0 (.slice none 0 0)) qb2 := NodeL.shut (k := 1) (s := Nd.zero) (mn := 0) (mx := 0) (sl := .slice none 0 0) (ts := []) (NodesV.nil (fun _ => False) _ none 0)
        have hn26 := hn26.lt
        have h29 := ((hR10.ext hE17).ext hE20)
        refine WL.store_box rfl rfl rfl h29 Ty.agg30 rfl rfl (fun w30 hB28 hR27 => ?_)
        have hzhB28 := hB28.size
        refine WL.dn ?_
        refine WC.ret (fun a_ ha => ?_)
        refine ret_block ?_
        refine ret_then ?_
        exact bodyPost_cell (l := (zc 1 0 0 (.slice none 0 0))) rfl ha rfl Ty.agg30 hR27 ⟨_, rfl, (by simp only [Nd.times, hc13, hc14, hc15, hc19, hc22, hc24, hc25, cond_true, cond_false, Bool.not_true, Bool.not_false, Bool.or_true, Bool.true_or, Bool.or_false, Bool.false_or, Bool.and_true, Bool.true_and, Bool.and_false, Bool.false_and]; exact ((hn26.bu hB28).dom (by intro k hk; (try dsimp only at hk); first | omega | exact hk.1.elim))), (hB28.onto (((hE5.trans hE11).trans hE17).trans hE20) (by omega))⟩
      | true =>
       refine WL.eql rfl rfl rfl rfl hc24 ?_
       have hp24 := beq_iff_eq.1 hc24
       refine mv ?_
       refine mv ?_
       have hc25 : decide ((0 : Int) < mn) = true := decide_eq_true (by omega)
       refine WL.gtr rfl rfl rfl rfl hc25 ?_
       refine pT ?_
       refine asg ?_
       refine WL.dn ?_
       refine cT ?_
       refine WC.seqk ?_
       refine WC.weaken (r' := [(1, .int .i64 mn), (2, .int .i64 mx), (3, pt b1 0), (6, pt b7 0), (7, .bool false), (8, .bool false), (21, .bool false), (40, .bool true)]) (s4 (s4 (subReg_nil _))) ?_
       refine WC.region ?_
       refine WL.build0 (l := (zc 0 0 0 (.slice none 0 0))) rfl rfl Ty.zero30 Ty.agg30 rfl Ty.bz30 ?_
       have hn26 : NodeL _ w21 (zc 0 0 0 (.slice none 0 0)) qb1 := NodeL.shut (k := 0) (s := Nd.zero) (mn := 0) (mx := 0) (sl := .slice none 0 0) (ts := []) (NodesV.nil (fun _ => False) _ none 0)
       have hn26 := hn26.lt
       have h29 := ((hR10.ext hE17).ext hE20)
       refine WL.store_box rfl rfl rfl h29 Ty.agg30 rfl rfl (fun w30 hB28 hR27 => ?_)
       have hzhB28 := hB28.size
       refine WL.dn ?_
       refine WC.ret (fun a_ ha => ?_)
       refine ret_block ?_
       refine ret_then ?_
       exact bodyPost_cell (l := (zc 0 0 0 (.slice none 0 0))) rfl ha rfl Ty.agg30 hR27 ⟨_, rfl, (by simp only [Nd.times, hc13, hc14, hc15, hc19, hc22, hc24, hc25, cond_true, cond_false, Bool.not_true, Bool.not_false, Bool.or_true, Bool.true_or, Bool.or_false, Bool.false_or, Bool.and_true, Bool.true_and, Bool.and_false, Bool.false_and]; exact ((hn26.bu hB28).dom (by intro k hk; (try dsimp only at hk); first | omega | exact hk.1.elim))), (hB28.onto (((hE5.trans hE11).trans hE17).trans hE20) (by omega))⟩
   | true =>
    refine WL.eql rfl rfl rfl rfl hc15 ?_
    have hp15 := beq_iff_eq.1 hc15
    refine pT ?_
    refine asg ?_
    refine asg ?_
    refine WL.dn ?_
    refine WC.seqk ?_
    refine WC.block ?_
    refine WC.seqk ?_
    refine WC.weaken (r' := [(1, .int .i64 mn), (2, .int .i64 mx), (3, pt b1 0), (6, pt b7 0), (7, .bool false), (8, .bool true)]) (s4 (sr rfl (sr rfl (subReg_nil _)))) ?_
    refine WC.region ?_
    refine WL.load_box rfl rfl rfl (hR4.ext hE11) Ty.agg30 ?_
    have h16 := ((hT.ext hE5).ext hE11)
    refine WL.call rfl rfl rfl Ty.ent29 (good_ok _ _ _ _ h16) ?_
    rintro _ w18 ⟨rfl, hE17⟩
    have hzhE17 := hE17.size
    refine ⟨_, rfl, ?_⟩
    cases hc19 : Nd.good T with
    | false =>
     refine WL.not rfl rfl rfl ?_
     refine mv ?_
     refine ps ?_
     refine ps ?_
     refine ps ?_
     refine ps ?_
     refine ps ?_
     refine ps ?_
     refine ps ?_
     refine ps ?_
     refine ps ?_
     refine ps ?_
     refine ps ?_
     refine ps ?_
     refine pT ?_
     refine asg ?_
     refine WL.dn ?_
     refine cT ?_
     refine WC.seqk ?_
     refine WC.weaken (r' := [(1, .int .i64 mn), (2, .int .i64 mx), (3, pt b1 0), (6, pt b7 0), (7, .bool false), (8, .bool true), (21, .bool true)]) (s4 (sr rfl (sr rfl (sr rfl (subReg_nil _))))) ?_
     refine WC.region ?_
     refine WL.build0 (l := (zc 0 0 0 (.slice none 0 0))) rfl rfl Ty.zero30 Ty.agg30 rfl Ty.bz30 ?_
     have hn20 : NodeL _ w18 (zc 0 0 0 (.slice none 0 0)) qb1 := NodeL.shut (k := 0) (s := Nd.zero) (mn := 0) (mx := 0) (sl := .slice none 0 0) (ts := []) (NodesV.nil (fun _ => False) _ none 0)
     have hn20 := hn20.lt
     refine WL.store_box rfl rfl rfl (hR10.ext hE17) Ty.agg30 rfl rfl (fun w23 hB22 hR21 => ?_)
     have hzhB22 := hB22.size
     refine WL.dn ?_
     refine WC.ret (fun a_ ha => ?_)
     refine ret_block ?_
     refine ret_then ?_
     exact bodyPost_cell (l := (zc 0 0 0 (.slice none 0 0))) rfl ha rfl Ty.agg30 hR21 ⟨_, rfl, (by simp only [Nd.times, hc13, hc14, hc15, hc19, cond_true, cond_false, Bool.not_true, Bool.not_false, Bool.or_true, Bool.true_or, Bool.or_false, Bool.false_or, Bool.and_true, Bool.true_and, Bool.and_false, Bool.false_and]; exact ((hn20.bu hB22).dom (by intro k hk; (try dsimp only at hk); first | omega | exact hk.1.elim))), (hB22.onto ((hE5.trans hE11).trans hE17) (by omega))⟩
    | true =>
     refine WL.not rfl rfl rfl ?_
     refine mv ?_
     refine mv ?_
     refine WL.not rfl rfl rfl ?_
     refine mv ?_
     refine mv ?_
     refine WL.not rfl rfl rfl ?_
     refine pT ?_
     refine mv ?_
     refine ps ?_
     refine ps ?_
     refine ps ?_
     refine ps ?_
     refine pF ?_
     refine pF ?_
     refine asg ?_
     refine WL.dn ?_
     refine cF ?_
     refine WC.seqk ?_
     refine WC.weaken (r' := [(1, .int .i64 mn), (2, .int .i64 mx), (3, pt b1 0), (6, pt b7 0), (7, .bool false), (8, .bool true), (21, .bool false)]) (s4 (sr rfl (sr rfl (sr rfl (subReg_nil _))))) ?_
     refine WC.region ?_
     refine WL.fieldAddr rfl rfl Ty.fld30_0 rfl ?_
     have h20 := ((hR4.ext hE11).ext hE17)
     refine WL.load_fld rfl rfl Ty.flat5 rfl h20 rfl ?_
     cases hc21 : ((T.kind : Int) == 0) with
     | false =>
      refine WL.eql rfl rfl rfl rfl hc21 ?_
      have hp21 := beq_eq_false_iff_ne.1 hc21
      refine mv ?_
      refine ps ?_
      refine ps ?_
      refine pF ?_
      refine asg ?_
      refine WL.dn ?_
      refine cF ?_
      refine WC.seqk ?_
      refine WC.weaken (r' := [(1, .int .i64 mn), (2, .int .i64 mx), (3, pt b1 0), (6, pt b7 0), (7, .bool false), (8, .bool true), (21, .bool false), (40, .bool false)]) (s4 (s4 (subReg_nil _))) ?_
      refine WC.region ?_
      refine mv ?_
      refine mv ?_
      refine WL.fieldAddr rfl rfl Ty.fld30_0 rfl ?_
      refine WL.load_fld rfl rfl Ty.flat5 rfl h20 rfl ?_
      refine WL.eql (b := false) rfl rfl rfl rfl hc21 ?_
      refine pF ?_
      refine mv ?_
      refine WL.fieldAddr rfl rfl Ty.fld30_0 rfl ?_
      refine WL.load_fld rfl rfl Ty.flat5 rfl h20 rfl ?_
      cases hc22 : ((T.kind : Int) == 1) with
      | false =>
       refine WL.eql rfl rfl rfl rfl hc22 ?_
       have hp22 := beq_eq_false_iff_ne.1 hc22
       refine pF ?_
       refine asg ?_
       refine WL.dn ?_
       refine cF ?_
       refine WC.seqk ?_
       refine WC.weaken (r' := [(1, .int .i64 mn), (2, .int .i64 mx), (3, pt b1 0), (6, pt b7 0), (8, .bool true), (21, .bool false), (40, .bool false), (49, .bool false)]) (s4 (s4 (subReg_nil _))) ?_
       refine WC.region ?_
       refine mv ?_
       refine asg ?_
       refine WL.dn ?_
       refine cT ?_
       refine sq ?_
       refine WL.load_box rfl rfl rfl h20 Ty.agg30 ?_
       refine WL.call rfl rfl rfl Ty.ent37 (copied_ok T _ _ _ (h16.ext hE17) (Nd.good_size (by assumption))) ?_
       rintro _ w25 ⟨l23, rfl, hr23, hE24⟩
       have hzhE24 := hE24.size
       refine ⟨_, rfl, ?_⟩
       have hn23 := hr23.lt
       obtain ⟨a23, cap23, rfl, hts23, hlen23⟩ := hn23.op2
       have h28 := ((hR10.ext hE17).ext hE24)
       refine WL.store_box rfl rfl rfl h28 Ty.agg30 rfl rfl (fun w29 hB27 hR26 => ?_)
       have hzhB27 := hB27.size
       refine WL.dn ?_
       refine WC.ret (fun a_ ha => ?_)
       refine ret_block ?_
       refine ret_then ?_
       exact bodyPost_cell (l := (tcells T (.slice a23 T.subs.length cap23))) rfl ha rfl Ty.agg30 hR26 ⟨_, rfl, (by simp only [Nd.times, hc13, hc14, hc15, hc19, hc21, hc22, cond_true, cond_false, Bool.not_true, Bool.not_false, Bool.or_true, Bool.true_or, Bool.or_false, Bool.false_or, Bool.and_true, Bool.true_and, Bool.and_false, Bool.false_and]; exact ((hn23.bu hB27).dom (by intro k hk; (try dsimp only at hk); first | omega | exact hk.1.elim))), (hB27.onto (((hE5.trans hE11).trans hE17).trans hE24) (by omega))⟩
      | true =>
       refine WL.eql rfl rfl rfl rfl hc22 ?_
       have hp22 := beq_iff_eq.1 hc22
       refine pF ?_
       refine asg ?_
       refine WL.dn ?_
       refine cT ?_
       refine WC.seqk ?_
       refine WC.weaken (r' := [(1, .int .i64 mn), (2, .int .i64 mx), (3, pt b1 0), (6, pt b7 0), (8, .bool true), (21, .bool false), (40, .bool false), (49, .bool true)]) (s4 (s4 (subReg_nil _))) ?_
       refine WC.region ?_
       refine WL.build (l := (zc 1 0 0 (.slice none 0 0))) rfl rfl Ty.zero30 Ty.st30 ⟨⟨rfl, rfl⟩, (by kernel_rfl)⟩ ?_
       have hn23 : NodeL _ w18 (zc 1 0 0 (.slice none 0 0)) qb2 := NodeL.shut (k := 1) (s := Nd.zero) (mn := 0) (mx := 0) (sl := .slice none 0 0) (ts := []) (NodesV.nil (fun _ => False) _ none 0)
       have hn23 := hn23.lt
       refine WL.store_box rfl rfl rfl (hR10.ext hE17) Ty.agg30 rfl rfl (fun w26 hB25 hR24 => ?_)
       have hzhB25 := hB25.size
       refine WL.dn ?_
       refine WC.ret (fun a_ ha => ?_)
       refine ret_block ?_
       refine ret_then ?_
       exact bodyPost_cell (l := (zc 1 0 0 (.slice none 0 0))) rfl ha rfl Ty.agg30 hR24 ⟨_, rfl, (by simp only [Nd.times, hc13, hc14, hc15, hc19, hc21, hc22, cond_true, cond_false, Bool.not_true, Bool.not_false, Bool.or_true, Bool.true_or, Bool.or_false, Bool.false_or, Bool.and_true, Bool.true_and, Bool.and_false, Bool.false_and]; exact ((hn23.bu hB25).dom (by intro k hk; (try dsimp only at hk); first | omega | exact hk.1.elim))), (hB25.onto ((hE5.trans hE11).trans hE17) (by omega))⟩
     | true =>
      refine WL.eql rfl rfl rfl rfl hc21 ?_
      have hp21 := beq_iff_eq.1 hc21
      refine mv ?_
      refine mv ?_
      have hc22 : decide ((0 : Int) < mn) = true := decide_eq_true (by omega)
      refine WL.gtr rfl rfl rfl rfl hc22 ?_
      refine pT ?_
      refine asg ?_
      refine WL.dn ?_
      refine cT ?_
      refine WC.seqk ?_
      refine WC.weaken (r' := [(1, .int .i64 mn), (2, .int .i64 mx), (3, pt b1 0), (6, pt b7 0), (7, .bool false), (8, .bool true), (21, .bool false), (40, .bool true)]) (s4 (s4 (subReg_nil _))) ?_
      refine WC.region ?_
      refine WL.build0 (l := (zc 0 0 0 (.slice none 0 0))) rfl rfl Ty.zero30 Ty.agg30 rfl Ty.bz30 ?_
      have hn23 : NodeL _ w18 (zc 0 0 0 (.slice none 0 0)) qb1 := NodeL.shut (k := 0) (s := Nd.zero) (mn := 0) (mx := 0) (sl := .slice none 0 0) (ts := []) (NodesV.nil (fun _ => False) _ none 0)
      have hn23 := hn23.lt
      refine WL.store_box rfl rfl rfl (hR10.ext hE17) Ty.agg30 rfl rfl (fun w26 hB25 hR24 => ?_)
      have hzhB25 := hB25.size
      refine WL.dn ?_
      refine WC.ret (fun a_ ha => ?_)
      refine ret_block ?_
      refine ret_then ?_
      exact bodyPost_cell (l := (zc 0 0 0 (.slice none 0 0))) rfl ha rfl Ty.agg30 hR24 ⟨_, rfl, (by simp only [Nd.times, hc13, hc14, hc15, hc19, hc21, hc22, cond_true, cond_false, Bool.not_true, Bool.not_false, Bool.or_true, Bool.true_or, Bool.or_false, Bool.false_or, Bool.and_true, Bool.true_and, Bool.and_false, Bool.false_and]; exact ((hn23.bu hB25).dom (by intro k hk; (try dsimp only at hk); first | omega | exact hk.1.elim))), (hB25.onto ((hE5.trans hE11).trans hE17) (by omega))⟩
 | true =>
  refine WL.eql rfl rfl rfl rfl hc13 ?_
  have hp13 := beq_iff_eq.1 hc13
  refine mv ?_
  refine mv ?_
  cases hc14 : ((mx : Int) == 0) with
  | false =>
   refine WL.eql rfl rfl rfl rfl hc14 ?_
   have hp14 := beq_eq_false_iff_ne.1 hc14
   refine pT ?_
   refine mv ?_
   have hc15 : ((mn : Int) == 1) = false := beq_eq_false_iff_ne.2 (by omega)
   refine WL.eql rfl rfl rfl rfl hc15 ?_
   refine mv ?_
   refine ps ?_
   refine ps ?_
   refine pF ?_
   refine asg ?_
   refine asg ?_
   refine WL.dn ?_
   refine WC.seqk ?_
   refine WC.block ?_
   refine WC.seqk ?_
   refine WC.weaken (r' := [(1, .int .i64 mn), (2, .int .i64 mx), (3, pt b1 0), (6, pt b7 0), (7, .bool false), (8, .bool false)]) (s4 (sr rfl (sr rfl (subReg_nil _)))) ?_
   refine WC.region ?_
   refine WL.load_box rfl rfl rfl (hR4.ext hE11) Ty.agg30 ?_
   have h16 := ((hT.ext hE5).ext hE11)
   refine WL.call rfl rfl rfl Ty.ent29 (good_ok _ _ _ _ h16) ?_
   rintro _ w18 ⟨rfl, hE17⟩
   have hzhE17 := hE17.size
   refine ⟨_, rfl, ?_⟩
   cases hc19 : Nd.good T with
   | false =>
    refine WL.not rfl rfl rfl ?_
    refine mv ?_
    refine ps ?_
    refine ps ?_
    refine ps ?_
    refine ps ?_
    refine ps ?_
    refine ps ?_
    refine ps ?_
    refine ps ?_
    refine ps ?_
    refine ps ?_
    refine ps ?_
    refine ps ?_
    refine pT ?_
    refine asg ?_
    refine WL.dn ?_
    refine cT ?_
    refine WC.seqk ?_
    refine WC.weaken (r' := [(1, .int .i64 mn), (2, .int .i64 mx), (3, pt b1 0), (6, pt b7 0), (7, .bool false), (8, .bool false), (21, .bool true)]) (s4 (sr rfl (sr rfl (sr rfl (subReg_nil _))))) ?_
    refine WC.region ?_
    refine WL.build0 (l := (zc 0 0 0 (.slice none 0 0))) rfl rfl Ty.zero30 Ty.agg30 rfl Ty.bz30 ?_
    have hn20 : NodeL _ w18 (zc 0 0 0 (.slice none 0 0)) qb1 := NodeL.shut (k := 0) (s := Nd.zero) (mn := 0) (mx := 0) (sl := .slice none 0 0) (ts := []) (NodesV.nil (fun _ => False) _ none 0)
    have hn20 := hn20.lt
    refine WL.store_box rfl rfl rfl (hR10.ext hE17) Ty.agg30 rfl rfl (fun w23 hB22 hR21 => ?_)
    have hzhB22 := hB22.size
    refine WL.dn ?_
    refine WC.ret (fun a_ ha => ?_)
    refine ret_block ?_
    refine ret_then ?_
    exact bodyPost_cell (l := (zc 0 0 0 (.slice none 0 0))) rfl ha rfl Ty.agg30 hR21 ⟨_, rfl, (by simp only [Nd.times, hc13, hc14, hc15, hc19, cond_true, cond_false, Bool.not_true, Bool.not_false, Bool.or_true, Bool.true_or, Bool.or_false, Bool.false_or, Bool.and_true, Bool.true_and, Bool.and_false, Bool.false_and]; exact ((hn20.bu hB22).dom (by intro k hk; (try dsimp only at hk); first | omega | exact hk.1.elim))), (hB22.onto ((hE5.trans hE11).trans hE17) (by omega))⟩
   | true =>
    refine WL.not rfl rfl rfl ?_
    refine mv ?_
    refine mv ?_
    refine WL.not rfl rfl rfl ?_
    refine mv ?_
    refine mv ?_
    refine WL.not rfl rfl rfl ?_
    refine pT ?_
    refine mv ?_
    refine mv ?_
    refine mv ?_
    refine WL.call rfl rfl rfl Ty.ent36 (bounds_ok mn mx _) ?_
    rintro _ w21 ⟨rfl, hE20⟩
    have hzhE20 := hE20.size
    refine ⟨_, rfl, ?_⟩
    cases hc22 : Nd.bounds mn mx with
    | false =>
     refine WL.not rfl rfl rfl ?_
     refine pT ?_
     refine pF ?_
     refine asg ?_
     refine WL.dn ?_
     refine cT ?_
     refine WC.seqk ?_
     refine WC.weaken (r' := [(1, .int .i64 mn), (2, .int .i64 mx), (3, pt b1 0), (6, pt b7 0), (7, .bool false), (8, .bool false), (21, .bool true)]) (s4 (sr rfl (sr rfl (sr rfl (subReg_nil _))))) ?_
     refine WC.region ?_
     refine WL.build0 (l := (zc 0 0 0 (.slice none 0 0))) rfl rfl Ty.zero30 Ty.agg30 rfl Ty.bz30 ?_
     have hn23 : NodeL _ w21 (zc 0 0 0 (.slice none 0 0)) qb1 := NodeL.shut (k := 0) (s := Nd.zero) (mn := 0) (mx := 0) (sl := .slice none 0 0) (ts := []) (NodesV.nil (fun _ => False) _ none 0)
     have hn23 := hn23.lt
     have h26 := ((hR10.ext hE17).ext hE20)
     refine WL.store_box rfl rfl rfl h26 Ty.agg30 rfl rfl (fun w27 hB25 hR24 => ?_)
     have hzhB25 := hB25.size
     refine WL.dn ?_
     refine WC.ret (fun a_ ha => ?_)
     refine ret_block ?_
     refine ret_then ?_
     exact bodyPost_cell (l := (zc 0 0 0 (.slice none 0 0))) rfl ha rfl Ty.agg30 hR24 ⟨_, rfl, (by simp only [Nd.times, hc13, hc14, hc15, hc19, hc22, cond_true, cond_false, Bool.not_true, Bool.not_false, Bool.or_true, Bool.true_or, Bool.or_false, Bool.false_or, Bool.and_true, Bool.true_and, Bool.and_false, Bool.false_and]; exact ((hn23.bu hB25).dom (by intro k hk; (try dsimp only at hk); first | omega | exact hk.1.elim))), (hB25.onto (((hE5.trans hE11).trans hE17).trans hE20) (by omega))⟩
    | true =>
     refine WL.not rfl rfl rfl ?_
     refine pT ?_
     refine pF ?_
     refine asg ?_
     refine WL.dn ?_
     refine cF ?_
     refine WC.seqk ?_
     refine WC.weaken (r' := [(1, .int .i64 mn), (2, .int .i64 mx), (3, pt b1 0), (6, pt b7 0), (7, .bool false), (8, .bool false), (21, .bool false)]) (s4 (sr rfl (sr rfl (sr rfl (subReg_nil _))))) ?_
     refine WC.region ?_
     refine WL.fieldAddr rfl rfl Ty.fld30_0 rfl ?_
     have h23 := (((hR4.ext hE11).ext hE17).ext hE20)
     refine WL.load_fld rfl rfl Ty.flat5 rfl h23 rfl ?_
     cases hc24 : ((T.kind : Int) == 0) with
     | false =>
      refine WL.eql rfl rfl rfl rfl hc24 ?_
      have hp24 := beq_eq_false_iff_ne.1 hc24
      refine mv ?_
      refine ps ?_
      refine ps ?_
      refine pF ?_
      refine asg ?_
      refine WL.dn ?_
      refine cF ?_
      refine WC.seqk ?_
      refine WC.weaken (r' := [(1, .int .i64 mn), (2, .int .i64 mx), (3, pt b1 0), (6, pt b7 0), (7, .bool false), (8, .bool false), (21, .bool false), (40, .bool false)]) (s4 (s4 (subReg_nil _))) ?_
      refine WC.region ?_
      refine mv ?_
      refine mv ?_
      refine WL.fieldAddr rfl rfl Ty.fld30_0 rfl ?_
      refine WL.load_fld rfl rfl Ty.flat5 rfl h23 rfl ?_
      refine WL.eql (b := false) rfl rfl rfl rfl hc24 ?_
      refine pF ?_
      refine mv ?_
      refine WL.fieldAddr rfl rfl Ty.fld30_0 rfl ?_
      refine WL.load_fld rfl rfl Ty.flat5 rfl h23 rfl ?_
      cases hc25 : ((T.kind : Int) == 1) with
      | false =>
       refine WL.eql rfl rfl rfl rfl hc25 ?_
       have hp25 := beq_eq_false_iff_ne.1 hc25
       refine pF ?_
       refine asg ?_
       refine WL.dn ?_
       refine cF ?_
       refine WC.seqk ?_
       refine WC.weaken (r' := [(1, .int .i64 mn), (2, .int .i64 mx), (3, pt b1 0), (6, pt b7 0), (8, .bool false), (21, .bool false), (40, .bool false), (49, .bool false)]) (s4 (s4 (subReg_nil _))) ?_
       refine WC.region ?_
       refine mv ?_
       refine asg ?_
       refine WL.dn ?_
       refine cF ?_
       refine WC.sk ?_
       refine sq ?_
       refine mv ?_
       refine mv ?_
       refine WL.load_box rfl rfl rfl h23 Ty.agg30 ?_
       have h26 := ((h16.ext hE17).ext hE20)
       refine WL.buildSlice (vs := [.agg (tcells T (.slice a T.subs.length cap)).toArray]) (cells := (tcells T (.slice a T.subs.length cap))) rfl rfl Ty.slice24 Ty.zero30 rfl rfl rfl rfl rfl rfl (fun b27 w32 hb28 hE31 hs29 hR30 => ?_)
       have hts27 := (NodesV.lit (n := 1) (ts := [T]) hR30 (RowsL.cons (h26.ext hE31) (RowsL.nil' _)) rfl rfl (by decide)).lt
       refine WL.build (l := (zc 5 mn mx (.slice (some ⟨b27, 0, none⟩) 1 1))) rfl rfl Ty.zero30 Ty.st30 ⟨⟨rfl, rfl⟩, (by kernel_rfl)⟩ ?_
       have hn33 : NodeL _ w32 (zc 5 mn mx (.slice (some ⟨b27, 0, none⟩) 1 1)) (Nd.mk 5 Nd.zero mn mx ([T])) := NodeL.shut (k := 5) (s := Nd.zero) (mn := mn) (mx := mx) (sl := .slice (some ⟨b27, 0, none⟩) 1 1) (ts := [T]) hts27
       have hn33 := hn33.lt
       refine WL.call rfl rfl rfl Ty.ent34 (checked_ok _ _ _ _ hn33) ?_
       rintro _ w36 ⟨l34, rfl, hr34, hE35⟩
       have hzhE35 := hE35.size
       refine ⟨_, rfl, ?_⟩
       have hn34 := hr34.lt
       obtain ⟨a34, cap34, rfl, hts34, hlen34⟩ := hn34.op2
       have h39 := ((((hR10.ext hE17).ext hE20).ext hE31).ext hE35)
       refine WL.store_box rfl rfl rfl h39 Ty.agg30 rfl rfl (fun w40 hB38 hR37 => ?_)
       have hzhB38 := hB38.size
       refine WL.dn ?_
       refine WC.ret (fun a_ ha => ?_)
       exact bodyPost_cell (l := (tcells ((Nd.mk 5 Nd.zero mn mx ([T])).checked) (.slice a34 ((Nd.mk 5 Nd.zero mn mx ([T])).checked).subs.length cap34))) rfl ha rfl Ty.agg30 hR37 ⟨_, rfl, (by simp only [Nd.times, hc13, hc14, hc15, hc19, hc22, hc24, hc25, cond_true, cond_false, Bool.not_true, Bool.not_false, Bool.or_true, Bool.true_or, Bool.or_false, Bool.false_or, Bool.and_true, Bool.true_and, Bool.and_false, Bool.false_and]; exact ((hn34.bu hB38).dom (by intro k hk; (try dsimp only at hk); first | omega | exact hk.1.elim))), (hB38.onto (((((hE5.trans hE11).trans hE17).trans hE20).trans hE31).trans hE35) (by omega))⟩
      | true =>
       refine WL.eql rfl rfl rfl rfl hc25 ?_
       have hp25 := beq_iff_eq.1 hc25
       refine pF ?_
       refine asg ?_
       refine WL.dn ?_
       refine cT ?_
       refine WC.seqk ?_
       refine WC.weaken (r' := [(1, .int .i64 mn), (2, .int .i64 mx), (3, pt b1 0), (6, pt b7 0), (8, .bool false), (21, .bool false), (40, .bool false), (49, .bool true)]) (s4 (s4 (subReg_nil _))) ?_
       refine WC.region ?_
       refine WL.build (l := (zc 1 0 0 (.slice none 0 0))) rfl rfl Ty.zero30 Ty.st30 ⟨⟨rfl, rfl⟩, (by kernel_rfl)⟩ ?_
       have hn26 : NodeL _ w21 (zc 1 0 0 (.slice none 0 0)) qb2 := NodeL.shut (k := 1) (s := Nd.zero) (mn := 0) (mx := 0) (sl := .slice none 0 0) (ts := []) (NodesV.nil (fun _ => False) _ none 0)
       have hn26 := hn26.lt
       have h29 := ((hR10.ext hE17).ext hE20)
       refine WL.store_box rfl rfl rfl h29 Ty.agg30 rfl rfl (fun w30 hB28 hR27 => ?_)
       have hzhB28 := hB28.size
       refine WL.dn ?_
       refine WC.ret (fun a_ ha => ?_)
       refine ret_block ?_
       refine ret_then ?_
       exact bodyPost_cell (l := (zc 1 0 0 (.slice none 0 0))) rfl ha rfl Ty.agg30 hR27 ⟨_, rfl, (by simp only [Nd.times, hc13, hc14, hc15, hc19, hc22, hc24, hc25, cond_true, cond_false, Bool.not_true, Bool.not_false, Bool.or_true, Bool.true_or, Bool.or_false, Bool.false_or, Bool.and_true, Bool.true_and, Bool.and_false, Bool.false_and]; exact ((hn26.bu hB28).dom (by intro k hk; (try dsimp only at hk); first | omega | exact hk.1.elim))), (hB28.onto (((hE5.trans hE11).trans hE17).trans hE20) (by omega))⟩
     | true =>
      refine WL.eql rfl rfl rfl rfl hc24 ?_
      have hp24 := beq_iff_eq.1 hc24
      refine mv ?_
      refine mv ?_
      have hc25 : decide ((0 : Int) < mn) = false := decide_eq_false (by omega)
      refine WL.gtr rfl rfl rfl rfl hc25 ?_
      refine pT ?_
      refine asg ?_
      refine WL.dn ?_
      refine cF ?_
      refine WC.seqk ?_
      refine WC.weaken (r' := [(1, .int .i64 mn), (2, .int .i64 mx), (3, pt b1 0), (6, pt b7 0), (7, .bool false), (8, .bool false), (21, .bool false), (40, .bool false)]) (s4 (s4 (subReg_nil _))) ?_
      refine WC.region ?_
      refine mv ?_
      refine mv ?_
      refine WL.fieldAddr rfl rfl Ty.fld30_0 rfl ?_
      refine WL.load_fld rfl rfl Ty.flat5 rfl h23 rfl ?_
      refine WL.eql (b := true) rfl rfl rfl rfl hc24 ?_
      refine pF ?_
      refine mv ?_
      refine ps ?_
      refine ps ?_
      refine ps ?_
      refine pT ?_
      refine asg ?_
      refine WL.dn ?_
      refine cT ?_
      refine WC.seqk ?_
      refine WC.weaken (r' := [(1, .int .i64 mn), (2, .int .i64 mx), (3, pt b1 0), (6, pt b7 0), (8, .bool false), (21, .bool false), (40, .bool false), (49, .bool true)]) (s4 (s4 (subReg_nil _))) ?_
      refine WC.region ?_
      refine WL.build (l := (zc 1 0 0 (.slice none 0 0))) rfl rfl Ty.zero30 Ty.st30 ⟨⟨rfl, rfl⟩, (by kernel_rfl)⟩ ?_
      have hn26 : NodeL _ w21 (zc 1 0 0 (.slice none 0 0)) qb2 := NodeL.shut (k := 1) (s := Nd.zero) (mn := 0) (mx := 0) (sl := .slice none 0 0) (ts := []) (NodesV.nil (fun _ => False) _ none 0)
      have hn26 := hn26.lt
      have h29 := ((hR10.ext hE17).ext hE20)
      refine WL.store_box rfl rfl rfl h29 Ty.agg30 rfl rfl (fun w30 hB28 hR27 => ?_)
      have hzhB28 := hB28.size
      refine WL.dn ?_
      refine WC.ret (fun a_ ha => ?_)
      refine ret_block ?_
      refine ret_then ?_
      exact bodyPost_cell (l := (zc 1 0 0 (.slice none 0 0))) rfl ha rfl Ty.agg30 hR27 ⟨_, rfl, (by simp only [Nd.times, hc13, hc14, hc15, hc19, hc22, hc24, hc25, cond_true, cond_false, Bool.not_true, Bool.not_false, Bool.or_true, Bool.true_or, Bool.or_false, Bool.false_or, Bool.and_true, Bool.true_and, Bool.and_false, Bool.false_and]; exact ((hn26.bu hB28).dom (by intro k hk; (try dsimp only at hk); first | omega | exact hk.1.elim))), (hB28.onto (((hE5.trans hE11).trans hE17).trans hE20) (by omega))⟩
  | true =>
   refine WL.eql rfl rfl rfl rfl hc14 ?_
   have hp14 := beq_iff_eq.1 hc14
   refine pT ?_
   refine mv ?_
   have hc15 : ((mn : Int) == 1) = false := beq_eq_false_iff_ne.2 (by omega)
   refine WL.eql rfl rfl rfl rfl hc15 ?_
   refine mv ?_
   refine ps ?_
   refine ps ?_
   refine pF ?_
   refine asg ?_
   refine asg ?_
   refine WL.dn ?_
   refine WC.seqk ?_
   refine WC.block ?_
   refine WC.seqk ?_
   refine WC.weaken (r' := [(1, .int .i64 mn), (2, .int .i64 mx), (3, pt b1 0), (6, pt b7 0), (7, .bool true), (8, .bool false)]) (s4 (sr rfl (sr rfl (subReg_nil _)))) ?_
   refine WC.region ?_
   refine WL.load_box rfl rfl rfl (hR4.ext hE11) Ty.agg30 ?_
   have h16 := ((hT.ext hE5).ext hE11)
   refine WL.call rfl rfl rfl Ty.ent29 (good_ok _ _ _ _ h16) ?_
   rintro _ w18 ⟨rfl, hE17⟩
   have hzhE17 := hE17.size
   refine ⟨_, rfl, ?_⟩
   cases hc19 : Nd.good T with
   | false =>
    refine WL.not rfl rfl rfl ?_
    refine mv ?_
    refine ps ?_
    refine ps ?_
    refine ps ?_
    refine ps ?_
    refine ps ?_
    refine ps ?_
    refine ps ?_
    refine ps ?_
    refine ps ?_
    refine ps ?_
    refine ps ?_
    refine ps ?_
    refine pT ?_
    refine asg ?_
    refine WL.dn ?_
    refine cT ?_
    refine WC.seqk ?_
    refine WC.weaken (r' := [(1, .int .i64 mn), (2, .int .i64 mx), (3, pt b1 0), (6, pt b7 0), (7, .bool true), (8, .bool false), (21, .bool true)]) (s4 (sr rfl (sr rfl (sr rfl (subReg_nil _))))) ?_
    refine WC.region ?_
    refine WL.build0 (l := (zc 0 0 0 (.slice none 0 0))) rfl rfl Ty.zero30 Ty.agg30 rfl Ty.bz30 ?_
    have hn20 : NodeL _ w18 (zc 0 0 0 (.slice none 0 0)) qb1 := NodeL.shut (k := 0) (s := Nd.zero) (mn := 0) (mx := 0) (sl := .slice none 0 0) (ts := []) (NodesV.nil (fun _ => False) _ none 0)
    have hn20 := hn20.lt
    refine WL.store_box rfl rfl rfl (hR10.ext hE17) Ty.agg30 rfl rfl (fun w23 hB22 hR21 => ?_)
    have hzhB22 := hB22.size
    refine WL.dn ?_
    refine WC.ret (fun a_ ha => ?_)
    refine ret_block ?_
    refine ret_then ?_
    exact bodyPost_cell (l := (zc 0 0 0 (.slice none 0 0))) rfl ha rfl Ty.agg30 hR21 ⟨_, rfl, (by simp only [Nd.times, hc13, hc14, hc15, hc19, cond_true, cond_false, Bool.not_true, Bool.not_false, Bool.or_true, Bool.true_or, Bool.or_false, Bool.false_or, Bool.and_true, Bool.true_and, Bool.and_false, Bool.false_and]; exact ((hn20.bu hB22).dom (by intro k hk; (try dsimp only at hk); first | omega | exact hk.1.elim))), (hB22.onto ((hE5.trans hE11).trans hE17) (by omega))⟩
   | true =>
    refine WL.not rfl rfl rfl ?_
    refine mv ?_
    refine mv ?_
    refine WL.not rfl rfl rfl ?_
    refine mv ?_
    refine ps ?_
    refine ps ?_
    refine pF ?_
    refine mv ?_
    refine ps ?_
    refine ps ?_
    refine ps ?_
    refine ps ?_
    refine pF ?_
    refine pF ?_
    refine asg ?_
    refine WL.dn ?_
    refine cF ?_
    refine WC.seqk ?_
    refine WC.weaken (r' := [(1, .int .i64 mn), (2, .int .i64 mx), (3, pt b1 0), (6, pt b7 0), (7, .bool true), (8, .bool false), (21, .bool false)]) (s4 (sr rfl (sr rfl (sr rfl (subReg_nil _))))) ?_
    refine WC.region ?_
    refine WL.fieldAddr rfl rfl Ty.fld30_0 rfl ?_
    have h20 := ((hR4.ext hE11).ext hE17)
    refine WL.load_fld rfl rfl Ty.flat5 rfl h20 rfl ?_
    cases hc21 : ((T.kind : Int) == 0) with
    | false =>
     refine WL.eql rfl rfl rfl rfl hc21 ?_
     have hp21 := beq_eq_false_iff_ne.1 hc21
     refine mv ?_
     refine ps ?_
     refine ps ?_
     refine pF ?_
     refine asg ?_
     refine WL.dn ?_
     refine cF ?_
     refine WC.seqk ?_
     refine WC.weaken (r' := [(1, .int .i64 mn), (2, .int .i64 mx), (3, pt b1 0), (6, pt b7 0), (7, .bool true), (8, .bool false), (21, .bool false), (40, .bool false)]) (s4 (s4 (subReg_nil _))) ?_
     refine WC.region ?_
     refine mv ?_
     refine mv ?_
     refine ps ?_
     refine ps ?_
     refine ps ?_
     refine pT ?_
     refine mv ?_
     refine ps ?_
     refine ps ?_
     refine ps ?_
     refine pT ?_
     refine asg ?_
     refine WL.dn ?_
     refine cT ?_
     refine WC.seqk ?_
     refine WC.weaken (r' := [(1, .int .i64 mn), (2, .int .i64 mx), (3, pt b1 0), (6, pt b7 0), (8, .bool false), (21, .bool false), (40, .bool false), (49, .bool true)]) (s4 (s4 (subReg_nil _))) ?_
     refine WC.region ?_
     refine WL.build (l := (zc 1 0 0 (.slice none 0 0))) rfl rfl Ty.zero30 Ty.st30 ⟨⟨rfl, rfl⟩, (by kernel_rfl)⟩ ?_
     have hn22 : NodeL _ w18 (zc 1 0 0 (.slice none 0 0)) qb2 := NodeL.shut (k := 1) (s := Nd.zero) (mn := 0) (mx := 0) (sl := .slice none 0 0) (ts := []) (NodesV.nil (fun _ => False) _ none 0)
     have hn22 := hn22.lt
     refine WL.store_box rfl rfl rfl (hR10.ext hE17) Ty.agg30 rfl rfl (fun w25 hB24 hR23 => ?_)
     have hzhB24 := hB24.size
     refine WL.dn ?_
     refine WC.ret (fun a_ ha => ?_)
     refine ret_block ?_
     refine ret_then ?_
     exact bodyPost_cell (l := (zc 1 0 0 (.slice none 0 0))) rfl ha rfl Ty.agg30 hR23 ⟨_, rfl, (by simp only [Nd.times, hc13, hc14, hc15, hc19, hc21, cond_true, cond_false, Bool.not_true, Bool.not_false, Bool.or_true, Bool.true_or, Bool.or_false, Bool.false_or, Bool.and_true, Bool.true_and, Bool.and_false, Bool.false_and]; exact ((hn22.bu hB24).dom (by intro k hk; (try dsimp only at hk); first | omega | exact hk.1.elim))), (hB24.onto ((hE5.trans hE11).trans hE17) (by omega))⟩
    | true =>
     refine WL.eql rfl rfl rfl rfl hc21 ?_
     have hp21 := beq_iff_eq.1 hc21
     refine mv ?_
     refine mv ?_
     have hc22 : decide ((0 : Int) < mn) = false := decide_eq_false (by omega)
     refine WL.gtr rfl rfl rfl rfl hc22 ?_
     refine pT ?_
     refine asg ?_
     refine WL.dn ?_
     refine cF ?_
     refine WC.seqk ?_
     refine WC.weaken (r' := [(1, .int .i64 mn), (2, .int .i64 mx), (3, pt b1 0), (6, pt b7 0), (7, .bool true), (8, .bool false), (21, .bool false), (40, .bool false)]) (s4 (s4 (subReg_nil _))) ?_
     refine WC.region ?_
     refine mv ?_
     refine mv ?_
     refine ps ?_
     refine ps ?_
     refine ps ?_
     refine pT ?_
     refine mv ?_
     refine ps ?_
     refine ps ?_
     refine ps ?_
     refine pT ?_
     refine asg ?_
     refine WL.dn ?_
     refine cT ?_
     refine WC.seqk ?_
     refine WC.weaken (r' := [(1, .int .i64 mn), (2, .int .i64 mx), (3, pt b1 0), (6, pt b7 0), (8, .bool false), (21, .bool false), (40, .bool false), (49, .bool true)]) (s4 (s4 (subReg_nil _))) ?_
     refine WC.region ?_
     refine WL.build (l := (zc 1 0 0 (.slice none 0 0))) rfl rfl Ty.zero30 Ty.st30 ⟨⟨rfl, rfl⟩, (by kernel_rfl)⟩ ?_
     have hn23 : NodeL _ w18 (zc 1 0 0 (.slice none 0 0)) qb2 := NodeL.shut (k := 1) (s := Nd.zero) (mn := 0) (mx := 0) (sl := .slice none 0 0) (ts := []) (NodesV.nil (fun _ => False) _ none 0)
     have hn23 := hn23.lt
     refine WL.store_box rfl rfl rfl (hR10.ext hE17) Ty.agg30 rfl rfl (fun w26 hB25 hR24 => ?_)
     have hzhB25 := hB25.size
     refine WL.dn ?_
     refine WC.ret (fun a_ ha => ?_)
     refine ret_block ?_
     refine ret_then ?_
     exact bodyPost_cell (l := (zc 1 0 0 (.slice none 0 0))) rfl ha rfl Ty.agg30 hR24 ⟨_, rfl, (by simp only [Nd.times, hc13, hc14, hc15, hc19, hc21, hc22, cond_true, cond_false, Bool.not_true, Bool.not_false, Bool.or_true, Bool.true_or, Bool.or_false, Bool.false_or, Bool.and_true, Bool.true_and, Bool.and_false, Bool.false_and]; exact ((hn23.bu hB25).dom (by intro k hk; (try dsimp only at hk); first | omega | exact hk.1.elim))), (hB25.onto ((hE5.trans hE11).trans hE17) (by omega))⟩
set_option maxRecDepth 20000 in
set_option maxHeartbeats 4000000 in
theorem capture_ok (D : Nat → Prop) (w : World) (l : List Value) (T : Nd) (hT : NodeL D w l T) :
  Calls Try.prog 13 #[.agg l.toArray] w fun e w' => ∃ l', e = .returned (.agg l'.toArray) ∧ NodeL (fun k => w.heap.size ≤ k) w' l' (Nd.capture T) ∧ Ext w w' := by
 have hT := hT.lt
 obtain ⟨a, cap, rfl, hts, hlen⟩ := hT.op2
 refine Calls.enter (args := [.agg (tcells T (.slice a T.subs.length cap)).toArray]) Try.func13 rfl rfl rfl rfl ?_
 refine sq ?_
 refine WL.box_agg rfl rfl rfl (fun b1 w6 hb2 hE5 hs3 hR4 => ?_)
 refine WL.alloc rfl rfl Ty.zero30 rfl (fun b7 w12 hb8 hE11 hs9 hR10 => ?_)
 refine WL.dn ?_
 refine sq ?_
 refine WL.load_box rfl rfl rfl (hR4.ext hE11) Ty.agg30 ?_
 have h13 := ((hT.ext hE5).ext hE11)
 refine WL.buildSlice (vs := [.agg (tcells T (.slice a T.subs.length cap)).toArray]) (cells := (tcells T (.slice a T.subs.length cap))) rfl rfl Ty.slice24 Ty.zero30 rfl rfl rfl rfl rfl rfl (fun b14 w19 hb15 hE18 hs16 hR17 => ?_)
 have hts14 := (NodesV.lit (n := 1) (ts := [T]) hR17 (RowsL.cons (h13.ext hE18) (RowsL.nil' _)) rfl rfl (by decide)).lt
 refine WL.build (l := (zc 6 0 0 (.slice (some ⟨b14, 0, none⟩) 1 1))) rfl rfl Ty.zero30 Ty.st30 ⟨⟨rfl, rfl⟩, (by kernel_rfl)⟩ ?_
 have hn20 : NodeL _ w19 (zc 6 0 0 (.slice (some ⟨b14, 0, none⟩) 1 1)) (Nd.mk 6 Nd.zero 0 0 ([T])) := NodeL.shut (k := 6) (s := Nd.zero) (mn := 0) (mx := 0) (sl := .slice (some ⟨b14, 0, none⟩) 1 1) (ts := [T]) hts14
 have hn20 := hn20.lt
 refine WL.call rfl rfl rfl Ty.ent34 (checked_ok _ _ _ _ hn20) ?_
 rintro _ w23 ⟨l21, rfl, hr21, hE22⟩
 have hzhE22 := hE22.size
 refine ⟨_, rfl, ?_⟩
 have hn21 := hr21.lt
 obtain ⟨a21, cap21, rfl, hts21, hlen21⟩ := hn21.op2
 have h26 := ((hR10.ext hE18).ext hE22)
 refine WL.store_box rfl rfl rfl h26 Ty.agg30 rfl rfl (fun w27 hB25 hR24 => ?_)
 have hzhB25 := hB25.size
 refine WL.dn ?_
 refine WC.ret (fun a_ ha => ?_)
 exact bodyPost_cell (l := (tcells ((Nd.mk 6 Nd.zero 0 0 ([T])).checked) (.slice a21 ((Nd.mk 6 Nd.zero 0 0 ([T])).checked).subs.length cap21))) rfl ha rfl Ty.agg30 hR24 ⟨_, rfl, (by change NodeL _ _ _ (Nd.checked _); exact ((hn21.bu hB25).dom (by intro k hk; (try dsimp only at hk); first | omega | exact hk.1.elim))), (hB25.onto (((hE5.trans hE11).trans hE18).trans hE22) (by omega))⟩
set_option maxRecDepth 20000 in
set_option maxHeartbeats 4000000 in
theorem of_ok (w : World) (s : S4) :
  Calls Try.prog 60 #[.agg #[.int .u64 s.a, .int .u64 s.b, .int .u64 s.c, .int .u64 s.d]] w fun e w' => ∃ l', e = .returned (.agg l'.toArray) ∧ NodeL (fun k => w.heap.size ≤ k) w' l' (Nd.ofS s) ∧ Ext w w' := by
 refine Calls.enter (args := [.agg #[.int .u64 s.a, .int .u64 s.b, .int .u64 s.c, .int .u64 s.d]]) Try.func60 rfl rfl rfl rfl ?_
 refine sq ?_
 refine WL.box_agg rfl rfl rfl (fun b1 w6 hb2 hE5 hs3 hR4 => ?_)
 refine WL.alloc rfl rfl Ty.zero30 rfl (fun b7 w12 hb8 hE11 hs9 hR10 => ?_)
 refine WL.dn ?_
 refine WC.seqk ?_
 refine sq ?_
 refine WL.load_box rfl rfl rfl (hR4.ext hE11) Ty.agg28 ?_
 refine WL.build0 (l := [.int .u64 0, .int .u64 0, .int .u64 0, .int .u64 0]) rfl rfl Ty.zero28 Ty.agg28 rfl Ty.bz28 ?_
 cases hc13 : (s == Nd.zero) with
 | false =>
  refine WL.seteql (s := s) (s' := Nd.zero) rfl rfl Ty.arr28 Ty.eqg28 Try.underlying26 rfl rfl hc13 ?_
  refine WL.dn ?_
  refine cF ?_
  refine WC.sk ?_
  refine sq ?_
  refine WL.load_box rfl rfl rfl (hR4.ext hE11) Ty.agg28 ?_
  refine WL.build (l := [.int .u8 2, .int .u64 s.a, .int .u64 s.b, .int .u64 s.c, .int .u64 s.d, .int .i64 0, .int .i64 0, .slice none 0 0]) rfl rfl Ty.zero30 Ty.st30 ⟨⟨rfl, rfl⟩, (by kernel_rfl)⟩ ?_
  have hn14 : NodeL _ w12 [.int .u8 2, .int .u64 s.a, .int .u64 s.b, .int .u64 s.c, .int .u64 s.d, .int .i64 0, .int .i64 0, .slice none 0 0] (Nd.mk 2 s 0 0 ([])) := NodeL.shut (k := 2) (s := s) (mn := 0) (mx := 0) (sl := .slice none 0 0) (ts := []) (NodesV.nil (fun _ => False) _ none 0)
  have hn14 := hn14.lt
  refine WL.store_box rfl rfl rfl hR10 Ty.agg30 rfl rfl (fun w17 hB16 hR15 => ?_)
  have hzhB16 := hB16.size
  refine WL.dn ?_
  refine WC.ret (fun a_ ha => ?_)
  exact bodyPost_cell (l := [.int .u8 2, .int .u64 s.a, .int .u64 s.b, .int .u64 s.c, .int .u64 s.d, .int .i64 0, .int .i64 0, .slice none 0 0]) rfl ha rfl Ty.agg30 hR15 ⟨_, rfl, (by simp only [Nd.ofS, hc13, cond_true, cond_false, Bool.not_true, Bool.not_false, Bool.or_true, Bool.true_or, Bool.or_false, Bool.false_or, Bool.and_true, Bool.true_and, Bool.and_false, Bool.false_and]; exact ((hn14.bu hB16).dom (by intro k hk; (try dsimp only at hk); first | omega | exact hk.1.elim))), (hB16.onto (hE5.trans hE11) (by omega))⟩
 | true =>
  refine WL.seteql (s := s) (s' := Nd.zero) rfl rfl Ty.arr28 Ty.eqg28 Try.underlying26 rfl rfl hc13 ?_
  refine WL.dn ?_
  refine cT ?_
  refine sq ?_
  refine WL.build0 (l := (zc 0 0 0 (.slice none 0 0))) rfl rfl Ty.zero30 Ty.agg30 rfl Ty.bz30 ?_
  have hn14 : NodeL _ w12 (zc 0 0 0 (.slice none 0 0)) qb1 := NodeL.shut (k := 0) (s := Nd.zero) (mn := 0) (mx := 0) (sl := .slice none 0 0) (ts := []) (NodesV.nil (fun _ => False) _ none 0)
  have hn14 := hn14.lt
  refine WL.store_box rfl rfl rfl hR10 Ty.agg30 rfl rfl (fun w17 hB16 hR15 => ?_)
  have hzhB16 := hB16.size
  refine WL.dn ?_
  refine WC.ret (fun a_ ha => ?_)
  refine ret_then ?_
  exact bodyPost_cell (l := (zc 0 0 0 (.slice none 0 0))) rfl ha rfl Ty.agg30 hR15 ⟨_, rfl, (by simp only [Nd.ofS, hc13, cond_true, cond_false, Bool.not_true, Bool.not_false, Bool.or_true, Bool.true_or, Bool.or_false, Bool.false_or, Bool.and_true, Bool.true_and, Bool.and_false, Bool.false_and]; exact ((hn14.bu hB16).dom (by intro k hk; (try dsimp only at hk); first | omega | exact hk.1.elim))), (hB16.onto (hE5.trans hE11) (by omega))⟩
set_option maxRecDepth 20000 in
set_option maxHeartbeats 4000000 in
theorem rep_ok (D : Nat → Prop) (w : World) (l : List Value) (T : Nd) (mn mx : Int) (hT : NodeL D w l T) :
  Calls Try.prog 24 #[.agg l.toArray, .int .i64 mn, .int .i64 mx] w fun e w' => ∃ l', e = .returned (.agg l'.toArray) ∧ NodeL (fun k => D k ∨ w.heap.size ≤ k) w' l' (Nd.mk 5 Nd.zero mn mx [T]) ∧ Ext w w' := by
 have hT := hT.lt
 obtain ⟨a, cap, rfl, hts, hlen⟩ := hT.op2
 refine Calls.enter (args := [.agg (tcells T (.slice a T.subs.length cap)).toArray, .int .i64 mn, .int .i64 mx]) Try.func24 rfl rfl rfl rfl ?_
 refine sq ?_
 refine WL.box_agg rfl rfl rfl (fun b1 w6 hb2 hE5 hs3 hR4 => ?_)
 refine WL.alloc rfl rfl Ty.zero30 rfl (fun b7 w12 hb8 hE11 hs9 hR10 => ?_)
 refine WL.dn ?_
 refine sq ?_
 refine mv ?_
 refine mv ?_
 refine WL.load_box rfl rfl rfl (hR4.ext hE11) Ty.agg30 ?_
 have h13 := ((hT.ext hE5).ext hE11)
 refine WL.buildSlice (vs := [.agg (tcells T (.slice a T.subs.length cap)).toArray]) (cells := (tcells T (.slice a T.subs.length cap))) rfl rfl Ty.slice24 Ty.zero30 rfl rfl rfl rfl rfl rfl (fun b14 w19 hb15 hE18 hs16 hR17 => ?_)
 have hts14 := (NodesV.lit (n := 1) (ts := [T]) hR17 (RowsL.cons (h13.ext hE18) (RowsL.nil' _)) rfl rfl (by decide)).lt
 refine WL.build (l := (zc 5 mn mx (.slice (some ⟨b14, 0, none⟩) 1 1))) rfl rfl Ty.zero30 Ty.st30 ⟨⟨rfl, rfl⟩, (by kernel_rfl)⟩ ?_
 have hn20 : NodeL _ w19 (zc 5 mn mx (.slice (some ⟨b14, 0, none⟩) 1 1)) (Nd.mk 5 Nd.zero mn mx ([T])) := NodeL.shut (k := 5) (s := Nd.zero) (mn := mn) (mx := mx) (sl := .slice (some ⟨b14, 0, none⟩) 1 1) (ts := [T]) hts14
 have hn20 := hn20.lt
 refine WL.store_box rfl rfl rfl (hR10.ext hE18) Ty.agg30 rfl rfl (fun w23 hB22 hR21 => ?_)
 have hzhB22 := hB22.size
 refine WL.dn ?_
 refine WC.ret (fun a_ ha => ?_)
 exact bodyPost_cell (l := (zc 5 mn mx (.slice (some ⟨b14, 0, none⟩) 1 1))) rfl ha rfl Ty.agg30 hR21 ⟨_, rfl, (hn20.bu hB22).dom (by intro k h1; (try dsimp only at h1); (repeat' first | (guard_hyp h1 : _ ∨ _; refine Or.elim h1 (fun h1 => ?_) (fun h1 => ?_)) | (guard_hyp h1 : _ ∧ _; have hx := h1.2; replace h1 := h1.1)) <;> first | contradiction | exact .inl h1 | exact .inr (by omega)), (hB22.onto ((hE5.trans hE11).trans hE18) (by omega))⟩
set_option maxRecDepth 20000 in
set_option maxHeartbeats 4000000 in
theorem group_ok (D : Nat → Prop) (w : World) (l : List Value) (T : Nd) (hT : NodeL D w l T) :
  Calls Try.prog 23 #[.agg l.toArray] w fun e w' => ∃ l', e = .returned (.agg l'.toArray) ∧ NodeL (fun k => D k ∨ w.heap.size ≤ k) w' l' (Nd.mk 6 Nd.zero 0 0 [T]) ∧ Ext w w' := by
 have hT := hT.lt
 obtain ⟨a, cap, rfl, hts, hlen⟩ := hT.op2
 refine Calls.enter (args := [.agg (tcells T (.slice a T.subs.length cap)).toArray]) Try.func23 rfl rfl rfl rfl ?_
 refine sq ?_
 refine WL.box_agg rfl rfl rfl (fun b1 w6 hb2 hE5 hs3 hR4 => ?_)
 refine WL.alloc rfl rfl Ty.zero30 rfl (fun b7 w12 hb8 hE11 hs9 hR10 => ?_)
 refine WL.dn ?_
 refine sq ?_
 refine WL.load_box rfl rfl rfl (hR4.ext hE11) Ty.agg30 ?_
 have h13 := ((hT.ext hE5).ext hE11)
 refine WL.buildSlice (vs := [.agg (tcells T (.slice a T.subs.length cap)).toArray]) (cells := (tcells T (.slice a T.subs.length cap))) rfl rfl Ty.slice24 Ty.zero30 rfl rfl rfl rfl rfl rfl (fun b14 w19 hb15 hE18 hs16 hR17 => ?_)
 have hts14 := (NodesV.lit (n := 1) (ts := [T]) hR17 (RowsL.cons (h13.ext hE18) (RowsL.nil' _)) rfl rfl (by decide)).lt
 refine WL.build (l := (zc 6 0 0 (.slice (some ⟨b14, 0, none⟩) 1 1))) rfl rfl Ty.zero30 Ty.st30 ⟨⟨rfl, rfl⟩, (by kernel_rfl)⟩ ?_
 have hn20 : NodeL _ w19 (zc 6 0 0 (.slice (some ⟨b14, 0, none⟩) 1 1)) (Nd.mk 6 Nd.zero 0 0 ([T])) := NodeL.shut (k := 6) (s := Nd.zero) (mn := 0) (mx := 0) (sl := .slice (some ⟨b14, 0, none⟩) 1 1) (ts := [T]) hts14
 have hn20 := hn20.lt
 refine WL.store_box rfl rfl rfl (hR10.ext hE18) Ty.agg30 rfl rfl (fun w23 hB22 hR21 => ?_)
 have hzhB22 := hB22.size
 refine WL.dn ?_
 refine WC.ret (fun a_ ha => ?_)
 exact bodyPost_cell (l := (zc 6 0 0 (.slice (some ⟨b14, 0, none⟩) 1 1))) rfl ha rfl Ty.agg30 hR21 ⟨_, rfl, (hn20.bu hB22).dom (by intro k h1; (try dsimp only at h1); (repeat' first | (guard_hyp h1 : _ ∨ _; refine Or.elim h1 (fun h1 => ?_) (fun h1 => ?_)) | (guard_hyp h1 : _ ∧ _; have hx := h1.2; replace h1 := h1.1)) <;> first | contradiction | exact .inl h1 | exact .inr (by omega)), (hB22.onto ((hE5.trans hE11).trans hE18) (by omega))⟩
end Go.Proofs.Yteenegaadlhjdaa
namespace Go.Proofs.Yteenegaadlhjdaa
namespace Nd
structure M3 where
  pile : List Nd
  u : Int
  g : Int
def top (l : List Nd) : Nd := l[l.length - 1]?.getD none
def top2 (l : List Nd) : Nd := l[l.length - 2]?.getD none
def mostM (least most : Int) : Int := bif decide (most < least) || (most == 0) || ((least == 1) && (most == 1)) then -1 else most
def max3 (a b c : Int) : Int := if (if a < b then b else a) < c then c else (if a < b then b else a)
def stepM (s : M3) (x : Int × Int × Int) : M3 :=
  let k := x.1.tmod 12
  let n : Int := s.pile.length
  bif decide (k < 4) then { s with pile := s.pile ++ [classS (lettersS x.2.1)] }
  else bif k == 4 then { s with pile := s.pile ++ [empty] }
  else bif decide (k < 7) && decide (1 < n) then { s with pile := s.pile.take (s.pile.length - 2) ++ [joins 3 (top2 s.pile) (top s.pile)] }
  else bif decide (k < 9) && decide (1 < n) then { s with pile := s.pile.take (s.pile.length - 2) ++ [joins 4 (top2 s.pile) (top s.pile)] }
  else bif (k == 9) && decide (0 < n) && decide (s.g < 9) then { s with pile := s.pile.set (s.pile.length - 1) (mk 6 zero 0 0 [top s.pile]), g := s.g + 1 }
  else bif decide (9 < k) && decide (0 < n) && ((top s.pile).kind != 1) then
    bif decide (s.u * max3 (x.2.1.tmod 3) (mostM (x.2.1.tmod 3) (x.2.2.tmod 4)) 1 ≤ 16) then
      { s with pile := s.pile.set (s.pile.length - 1) (mk 5 zero (x.2.1.tmod 3) (mostM (x.2.1.tmod 3) (x.2.2.tmod 4)) [top s.pile]), u := s.u * max3 (x.2.1.tmod 3) (mostM (x.2.1.tmod 3) (x.2.2.tmod 4)) 1 }
    else s
  else s
def madeSt (l : List (Int × Int × Int)) : M3 := l.foldl stepM ⟨[], 1, 0⟩
def madeEnd (p : List Nd) : Nd := match p with | [] => classS [97] | t :: ts => ts.foldl (joins 4) t
def made (l : List (Int × Int × Int)) : Nd := madeEnd (madeSt (l.take 25)).pile
theorem madeSt_succ {l : List (Int × Int × Int)} {k : Nat} {x : Int × Int × Int} (h : l[k]? = some x) : madeSt (l.take (k + 1)) = stepM (madeSt (l.take k)) x := by
  have h1 : l.take (k + 1) = l.take k ++ [x] := by rw [List.take_add_one, h]; rfl
  rw [h1]; simp [madeSt]
theorem top_at {l : List Nd} {t : Nd} (h : l[l.length - 1]? = some t) : top l = t := by unfold top; rw [h]; rfl
theorem top2_at {l : List Nd} {t : Nd} (h : l[l.length - 2]? = some t) : top2 l = t := by unfold top2; rw [h]; rfl
theorem mul_bd {u m : Int} (h1 : 1 ≤ u) (h2 : u ≤ 16) (h3 : 1 ≤ m ∧ m ≤ 16) : 1 ≤ u * m ∧ u * m ≤ 256 := by
  have a := Int.mul_le_mul h2 h3.2 (by omega) (by omega)
  have b := Int.mul_pos (show 0 < u by omega) (show 0 < m by omega)
  omega
theorem madeEnd_at {p : List Nd} {t : Nd} (h : p[0]? = some t) : madeEnd p = (p.drop 1).foldl (joins 4) t := by
  cases p with
  | nil => simp at h
  | cons x p => simp at h; subst h; rfl
theorem madeEnd_nil {p : List Nd} (h : p.length = 0) : madeEnd p = classS [97] := by
  rw [List.eq_nil_of_length_eq_zero h]; rfl
theorem made_eq {xs : List (Int × Int × Int)} {k : Nat} {m : M3} (hst : m = madeSt ((xs.take 25).take k)) (hk : (xs.take 25).length ≤ k) : made xs = madeEnd m.pile := by
  rw [List.take_of_length_le hk] at hst
  rw [hst]; rfl
theorem size_mk (k : Int) (s : S4) (a b : Int) (ts : List Nd) : (mk k s a b ts).size = 1 + sizeL ts := rfl
theorem flatJ1_size (kind : Int) (x : Nd) : sizeL (flatJ1 kind x) ≤ x.size := by
  unfold flatJ1
  have h1 := size_subs x
  cases (x.kind == kind) <;> cases ((kind == 3) && (x.kind == 1)) <;> simp [sizeL] <;> omega
theorem flatJ_size (kind : Int) (l : List Nd) : sizeL (flatJ kind l) ≤ sizeL l := by
  induction l with
  | nil => simp [flatJ, sizeL]
  | cons x l ih => have := flatJ1_size kind x; simp only [flatJ, List.flatMap_cons, sizeL_append, sizeL] at *; omega
theorem joinsL_size (kind : Int) (l : List Nd) : (joinsL kind l).size ≤ 1 + sizeL l := by
  unfold joinsL
  cases h0 : ((l.length : Int) == 0)
  · cases h1 : ((l.length : Int) == 1)
    · simp [size_mk]
    · simp only [cond_true, cond_false]
      cases l with
      | nil => simp at h0
      | cons x l => simp [sizeL]; omega
  · simp [empty, size_mk, sizeL]
theorem joins_size (kind : Int) (a b : Nd) : (joins kind a b).size ≤ 1 + a.size + b.size := by
  have h1 := joinsL_size kind (flatJ kind [a, b])
  have h2 := flatJ_size kind [a, b]
  simp only [sizeL] at h2
  unfold joins; omega
theorem foldl_size (l : List Nd) : ∀ t : Nd, (l.foldl (joins 4) t).size ≤ t.size + sizeL l + l.length := by
  induction l with
  | nil => intro t; simp
  | cons x l ih => intro t; have h1 := ih (joins 4 t x); have h2 := joins_size 4 t x; simp only [List.foldl_cons, sizeL, List.length_cons]; omega
theorem sizeL_take_le (l : List Nd) (k : Nat) : sizeL (l.take k) ≤ sizeL l := by
  have : sizeL (l.take k) + sizeL (l.drop k) = sizeL l := by rw [← sizeL_append, List.take_append_drop]
  omega
theorem sizeL_drop1 {l : List Nd} {t : Nd} (h : l[0]? = some t) : t.size + sizeL (l.drop 1) = sizeL l := by
  cases l with
  | nil => simp at h
  | cons x l => simp at h; subst h; simp [sizeL]
theorem top_size {l : List Nd} (h : 0 < l.length) : sizeL (l.take (l.length - 1)) + (top l).size = sizeL l := by
  have hl : l[l.length - 1]? = some (l[l.length - 1]'(by omega)) := by simp
  have : sizeL (l.take (l.length - 1 + 1)) = sizeL l := by rw [List.take_of_length_le (by omega)]
  rw [List.take_add_one, hl, sizeL_append] at this
  simp only [Option.toList_some, sizeL] at this
  unfold top
  rw [hl, Option.getD_some]; omega
theorem top2_size {l : List Nd} (h : 1 < l.length) : sizeL (l.take (l.length - 2)) + (top2 l).size + (top l).size = sizeL l := by
  have h1 := top_size (l := l) (by omega)
  have hl : l[l.length - 2]? = some (l[l.length - 2]'(by omega)) := by simp
  have e : l.length - 1 = l.length - 2 + 1 := by omega
  rw [e, List.take_add_one, hl, sizeL_append] at h1
  simp only [Option.toList_some, sizeL] at h1
  have : top2 l = l[l.length - 2]'(by omega) := by unfold top2; rw [hl]; rfl
  rw [this]; omega
theorem set_top_size {l : List Nd} (h : 0 < l.length) (t : Nd) : sizeL (l.set (l.length - 1) t) + (top l).size = sizeL l + t.size := by
  have h1 := top_size h
  have e : l.set (l.length - 1) t = l.take (l.length - 1) ++ [t] := by
    rw [List.set_eq_take_append_cons_drop]
    rw [if_pos (by omega), List.drop_of_length_le (by omega)]
  rw [e, sizeL_append]; simp only [sizeL]; omega
structure MB (s : M3) (k : Nat) : Prop where
  len : s.pile.length ≤ k
  size : sizeL s.pile ≤ k
  u1 : 1 ≤ s.u
  u2 : s.u ≤ 16
  g1 : 0 ≤ s.g
  g2 : s.g ≤ 9
theorem max3_pos (a b : Int) : 1 ≤ max3 a b 1 := by unfold max3; (repeat' split) <;> omega
theorem MB_step {s : M3} {k : Nat} (h : MB s k) (x : Int × Int × Int) : MB (stepM s x) (k + 1) := by
  obtain ⟨h1, h2, h3, h4, h5, h6⟩ := h
  unfold stepM
  dsimp only
  generalize x.1.tmod 12 = kk
  generalize mostM (x.2.1.tmod 3) (x.2.2.tmod 4) = mx
  generalize x.2.1.tmod 3 = mn
  have triv : MB s (k + 1) := ⟨by omega, by omega, h3, h4, h5, h6⟩
  have add : ∀ t : Nd, t.size = 1 → MB { s with pile := s.pile ++ [t] } (k + 1) := fun t ht => ⟨by simp; omega, by simp [sizeL_append, sizeL, ht]; omega, h3, h4, h5, h6⟩
  cases c1 : decide (kk < 4) with
  | true => exact add _ (by simp [classS, size_mk, sizeL])
  | false =>
    cases c2 : (kk == 4) with
    | true => exact add _ (by simp [empty, size_mk, sizeL])
    | false =>
      simp only [cond_false]
      cases c3 : (decide (kk < 7) && decide (1 < (s.pile.length : Int))) with
      | true =>
        simp only [Bool.and_eq_true, decide_eq_true_eq] at c3
        have h7 := top2_size (l := s.pile) (by omega)
        have h8 := joins_size 3 (top2 s.pile) (top s.pile)
        exact ⟨by simp; omega, by simp [sizeL_append, sizeL]; omega, h3, h4, h5, h6⟩
      | false =>
        simp only [cond_false]
        cases c4 : (decide (kk < 9) && decide (1 < (s.pile.length : Int))) with
        | true =>
          simp only [Bool.and_eq_true, decide_eq_true_eq] at c4
          have h7 := top2_size (l := s.pile) (by omega)
          have h8 := joins_size 4 (top2 s.pile) (top s.pile)
          exact ⟨by simp; omega, by simp [sizeL_append, sizeL]; omega, h3, h4, h5, h6⟩
        | false =>
          simp only [cond_false]
          cases c5 : ((kk == 9) && decide (0 < (s.pile.length : Int)) && decide (s.g < 9)) with
          | true =>
            simp only [Bool.and_eq_true, decide_eq_true_eq] at c5
            have h7 := set_top_size (l := s.pile) (by omega) (mk 6 zero 0 0 [top s.pile])
            simp only [size_mk, sizeL] at h7
            exact ⟨by simp; omega, by simp only [cond_true]; omega, h3, h4, by simp only [cond_true]; omega, by simp only [cond_true]; omega⟩
          | false =>
            simp only [cond_false]
            cases c6 : (decide (9 < kk) && decide (0 < (s.pile.length : Int)) && ((top s.pile).kind != 1)) with
            | true =>
              simp only [Bool.and_eq_true, decide_eq_true_eq] at c6
              simp only [cond_true]
              cases c7 : decide (s.u * max3 mn mx 1 ≤ 16) with
              | true =>
                simp only [decide_eq_true_eq] at c7
                have h7 := set_top_size (l := s.pile) (by omega) (mk 5 zero mn mx [top s.pile])
                simp only [size_mk, sizeL] at h7
                have h8 : 1 ≤ s.u * max3 mn mx 1 := Int.mul_pos (by omega) (by have := max3_pos mn mx; omega)
                exact ⟨by simp; omega, by simp only [cond_true]; omega, by simp only [cond_true]; exact h8, by simp only [cond_true]; exact c7, h5, h6⟩
              | false => exact triv
            | false => exact triv
theorem madeSt_bd : ∀ (l : List (Int × Int × Int)), MB (madeSt l) l.length := by
  have key : ∀ (l : List (Int × Int × Int)) (s : M3) (k : Nat), MB s k → MB (l.foldl stepM s) (k + l.length) := by
    intro l
    induction l with
    | nil => intro s k h; exact h
    | cons x l ih => intro s k h; have := ih _ _ (MB_step h x); simp only [List.foldl_cons, List.length_cons]; rw [show k + (l.length + 1) = k + 1 + l.length by omega]; exact this
  intro l
  have := key l ⟨[], 1, 0⟩ 0 ⟨by simp, by simp [sizeL], by simp, by simp, by simp, by simp⟩
  simpa [madeSt] using this
end Nd
end Go.Proofs.Yteenegaadlhjdaa
namespace Go.Proofs.Yteenegaadlhjdaa
namespace Nd
def nice (t : Nd) : Bool := t.pre.all right
theorem preL_all (p : Nd → Bool) (ts : List Nd) : (preL ts).all p = ts.all fun t => t.pre.all p := by
  induction ts with
  | nil => rfl
  | cons x l ih => simp [preL, ih]
theorem nice_eq (t : Nd) : t.nice = (t.right && t.subs.all nice) := by
  cases t with
  | mk k s mn mx ts => simp only [nice, pre, List.all_cons, preL_all, subs]; rfl
theorem clean_iff (t : Nd) : t.clean = true ↔ t.size ≤ 10000 ∧ t.nice = true := by simp [clean, light, nice]
theorem nice_right {t : Nd} (h : t.nice = true) : t.right = true := by rw [nice_eq] at h; simp at h; exact h.1
theorem nice_subs {t u : Nd} (h : t.nice = true) (hu : u ∈ t.subs) : u.nice = true := by rw [nice_eq] at h; simp at h; exact h.2 u hu
theorem nice_mk {t : Nd} (h : t.right = true) (hs : ∀ u ∈ t.subs, u.nice = true) : t.nice = true := by rw [nice_eq, h]; simpa using hs
theorem has_false {t : Nd} {k : Int} (h : t.has k = false) : ∀ u ∈ t.subs, u.kind ≠ k := by
  intro u hu he
  have : t.has k = true := List.any_eq_true.2 ⟨u, hu, by simp [he]⟩
  rw [this] at h; cases h
theorem has_no {t : Nd} {k : Int} (h : ∀ u ∈ t.subs, u.kind ≠ k) : t.has k = false := by
  unfold has; rw [List.any_eq_false]; intro u hu; simpa using h u hu
theorem right_kind {t : Nd} (h : t.right = true) : 1 ≤ t.kind ∧ t.kind ≤ 6 := by
  obtain ⟨k, s, mn, mx, ts⟩ := t
  simp only [right, kind, set, least, most, subs] at h
  show 1 ≤ k ∧ k ≤ 6
  by_cases h1 : k = 1
  · omega
  by_cases h2 : k = 2
  · omega
  by_cases h3 : k = 3
  · omega
  by_cases h4 : k = 4
  · omega
  by_cases h5 : k = 5
  · omega
  simp [h1, h2, h3, h4, h5] at h
  have := h.2.1
  omega
theorem right_three {t : Nd} {kd : Int} (h : t.right = true) (hk : t.kind = kd) (h5 : kd ≠ 5) (h2 : kd ≠ 2) : t.set = zero ∧ t.least = 0 ∧ t.most = 0 := by
  obtain ⟨k, s, mn, mx, ts⟩ := t
  simp only [right, kind, set, least, most, subs] at h hk ⊢
  subst hk
  simp [h5, h2] at h
  exact ⟨h.1.1.1, h.1.1.2⟩
theorem right_empty {t : Nd} (h : t.right = true) (hk : t.kind = 1) : t = empty := by
  obtain ⟨e1, e2, e3⟩ := right_three h hk (by decide) (by decide)
  obtain ⟨k, s, mn, mx, ts⟩ := t
  simp only [right, kind, set, least, most, subs] at h hk e1 e2 e3
  subst hk; subst e1; subst e2; subst e3
  simp at h
  subst h; rfl
theorem right_cat {t : Nd} (h : t.right = true) (hk : t.kind = 3) : 1 < t.subs.length ∧ t.has 1 = false ∧ t.has 3 = false := by
  obtain ⟨k, s, mn, mx, ts⟩ := t
  simp only [kind] at hk
  subst hk
  simp only [right, kind, set, least, most, subs] at h ⊢
  simp at h
  exact ⟨by have := of_decide_eq_true h.2.1.1; omega, h.2.1.2, h.2.2⟩
theorem right_alt {t : Nd} (h : t.right = true) (hk : t.kind = 4) : 1 < t.subs.length ∧ t.has 4 = false := by
  obtain ⟨k, s, mn, mx, ts⟩ := t
  simp only [kind] at hk
  subst hk
  simp only [right, kind, set, least, most, subs] at h ⊢
  simp at h
  exact ⟨by have := of_decide_eq_true h.2.1; omega, h.2.2⟩
def Two (kd wo : Int) (e : Nd) : Prop := (kd = 3 ∧ wo = 1 ∧ e = empty) ∨ (kd = 4 ∧ wo = 0 ∧ e = none)
def Norm (kd wo : Int) (l : List Nd) : Prop := ∀ t ∈ l, t.nice = true ∧ t.kind ≠ kd ∧ t.kind ≠ wo
def mkJ (kd : Int) (l : List Nd) (e : Nd) : Nd := match l with | [] => e | [x] => x | x :: y :: l => mk kd zero 0 0 (x :: y :: l)
theorem Norm.append {kd wo : Int} {l l' : List Nd} (h : Norm kd wo l) (h' : Norm kd wo l') : Norm kd wo (l ++ l') := by
  intro t ht
  rcases List.mem_append.1 ht with ht | ht
  · exact h t ht
  · exact h' t ht
theorem Norm.nil (kd wo : Int) : Norm kd wo [] := fun t h => by cases h
theorem Two.right {kd wo : Int} {e : Nd} (h2 : Two kd wo e) {l : List Nd} (hl : 1 < l.length) (h : Norm kd wo l) : (mk kd zero 0 0 l).right = true := by
  rcases h2 with ⟨rfl, rfl, rfl⟩ | ⟨rfl, rfl, rfl⟩
  · have a := has_no (t := mk 3 zero 0 0 l) (k := 1) (fun u hu => (h u hu).2.2)
    have b := has_no (t := mk 3 zero 0 0 l) (k := 3) (fun u hu => (h u hu).2.1)
    simp only [Nd.right, kind, set, least, most, subs, a, b]
    simp; exact decide_eq_true (by omega)
  · have a := has_no (t := mk 4 zero 0 0 l) (k := 4) (fun u hu => (h u hu).2.1)
    simp only [Nd.right, kind, set, least, most, subs, a]
    simp; exact decide_eq_true (by omega)
theorem Two.norm {kd wo : Int} {e : Nd} (h2 : Two kd wo e) {t : Nd} (h : t.nice = true) : Norm kd wo (flat1 kd wo t) := by
  have hr := nice_right h
  have hk := right_kind hr
  unfold flat1
  by_cases e1 : t.kind = kd
  · rw [show (t.kind == kd) = true by simpa using e1]
    simp only [cond_true]
    intro u hu
    refine ⟨nice_subs h hu, ?_⟩
    rcases h2 with ⟨rfl, rfl, rfl⟩ | ⟨rfl, rfl, rfl⟩
    · have := right_cat hr e1
      exact ⟨has_false this.2.2 u hu, has_false this.2.1 u hu⟩
    · have := right_alt hr e1
      refine ⟨has_false this.2 u hu, ?_⟩
      have := right_kind (nice_right (nice_subs h hu)); omega
  · rw [show (t.kind == kd) = false by simpa using e1]
    by_cases e2 : t.kind = wo
    · rw [show (t.kind == wo) = true by simpa using e2]; exact Norm.nil _ _
    · rw [show (t.kind == wo) = false by simpa using e2]
      simp only [cond_false]
      intro u hu
      simp at hu; subst hu
      exact ⟨h, e1, e2⟩
theorem Two.back {kd wo : Int} {e : Nd} (h2 : Two kd wo e) {t : Nd} (h : t.nice = true) : mkJ kd (flat1 kd wo t) e = t := by
  have hr := nice_right h
  have hk := right_kind hr
  unfold flat1
  by_cases e1 : t.kind = kd
  · rw [show (t.kind == kd) = true by simpa using e1]
    simp only [cond_true]
    have hl : 1 < t.subs.length := by
      rcases h2 with ⟨rfl, rfl, rfl⟩ | ⟨rfl, rfl, rfl⟩
      · exact (right_cat hr e1).1
      · exact (right_alt hr e1).1
    obtain ⟨q1, q2, q3⟩ := right_three hr e1 (by rcases h2 with ⟨rfl, _⟩ | ⟨rfl, _⟩ <;> decide) (by rcases h2 with ⟨rfl, _⟩ | ⟨rfl, _⟩ <;> decide)
    obtain ⟨k, s, mn, mx, ts⟩ := t
    simp only [kind, set, least, most, subs] at *
    subst e1; subst q1; subst q2; subst q3
    match ts, hl with
    | x :: y :: l, _ => rfl
  · rw [show (t.kind == kd) = false by simpa using e1]
    by_cases e2 : t.kind = wo
    · rw [show (t.kind == wo) = true by simpa using e2]
      simp only [cond_true, cond_false]
      rcases h2 with ⟨rfl, rfl, rfl⟩ | ⟨rfl, rfl, rfl⟩
      · exact (right_empty hr e2).symm
      · omega
    · rw [show (t.kind == wo) = false by simpa using e2]; rfl
theorem Two.flat1 {kd wo : Int} {e : Nd} (h2 : Two kd wo e) {l : List Nd} (h : Norm kd wo l) : flat1 kd wo (mkJ kd l e) = l := by
  match l, h with
  | [], _ => rcases h2 with ⟨rfl, rfl, rfl⟩ | ⟨rfl, rfl, rfl⟩ <;> rfl
  | [x], h =>
    have := h x (by simp)
    simp only [mkJ, Nd.flat1, show (x.kind == kd) = false by simpa using this.2.1, show (x.kind == wo) = false by simpa using this.2.2, cond_false]
  | x :: y :: l, _ => simp [mkJ, Nd.flat1, kind, subs]
theorem Two.nice {kd wo : Int} {e : Nd} (h2 : Two kd wo e) {l : List Nd} (h : Norm kd wo l) (hl : kd = 3 ∨ l ≠ []) : (mkJ kd l e).nice = true := by
  match l, h with
  | [], _ =>
    rcases h2 with ⟨rfl, rfl, rfl⟩ | ⟨rfl, rfl, rfl⟩
    · rfl
    · rcases hl with hl | hl
      · cases hl
      · exact absurd rfl hl
  | [x], h => exact (h x (by simp)).1
  | x :: y :: l, h => exact nice_mk (h2.right (by simp) h) (fun u hu => (h u hu).1)
theorem mkJ_size (kd : Int) (l : List Nd) {e : Nd} (he : e.size = 1) : (mkJ kd l e).size ≤ 1 + sizeL l := by
  match l with
  | [] => simp [mkJ, he, sizeL]
  | [x] => simp [mkJ, sizeL]
  | x :: y :: l => simp [mkJ, size_mk]
theorem flat1_size (kd wo : Int) (t : Nd) : sizeL (flat1 kd wo t) ≤ t.size := by
  unfold flat1
  have h1 := size_subs t
  cases (t.kind == kd) <;> cases (t.kind == wo) <;> simp [sizeL] <;> omega
theorem flat_size (kd wo : Int) (l : List Nd) : sizeL (flat kd wo l) ≤ sizeL l := by
  induction l with
  | nil => simp [flat]
  | cons x l ih => have := flat1_size kd wo x; simp only [flat, List.flatMap_cons, sizeL_append, sizeL] at *; omega
theorem Two.esize {kd wo : Int} {e : Nd} (h2 : Two kd wo e) : e.size = 1 := by rcases h2 with ⟨rfl, rfl, rfl⟩ | ⟨rfl, rfl, rfl⟩ <;> rfl
theorem checked_clean {t : Nd} (h : t.clean = true) : t.checked = t := by unfold checked; rw [h]; rfl
theorem Two.joined {kd wo : Int} {e : Nd} (h2 : Two kd wo e) {l : List Nd} (h : Norm kd wo l) (hs : sizeL l ≤ 9999) : Nd.joined kd l e = mkJ kd l e := by
  have hc : l ≠ [] → (mkJ kd l e).checked = mkJ kd l e := fun hl => checked_clean ((clean_iff _).2 ⟨by have := mkJ_size kd l h2.esize; omega, h2.nice h (.inr hl)⟩)
  match l, h, hc with
  | [], _, _ => rfl
  | [x], h, hc => exact hc (by simp)
  | x :: y :: l, h, hc =>
    have q := hc (by simp)
    have h0 : (((x :: y :: l).length : Int) == 0) = false := by rw [beq_eq_false_iff_ne]; simp only [List.length_cons]; omega
    have h1 : (((x :: y :: l).length : Int) == 1) = false := by rw [beq_eq_false_iff_ne]; simp only [List.length_cons]; omega
    unfold Nd.joined
    rw [h0, h1]; exact q
def Fine (t : Nd) : Prop := t.nice = true ∧ t.size ≤ 1000
theorem Fine.clean {t : Nd} (h : Fine t) : t.clean = true := (clean_iff t).2 ⟨by have := h.2; omega, h.1⟩
theorem Fine.light {t : Nd} (h : Fine t) : t.light = true := by have := h.2; simp [Nd.light]; omega
theorem Fine.kind {t : Nd} (h : Fine t) : 1 ≤ t.kind ∧ t.kind ≤ 6 := right_kind (nice_right h.1)
theorem Fine.bad0 {t : Nd} (h : Fine t) : t.bad0 = false := by
  unfold Nd.bad0; rw [h.clean]; have := h.kind; simp; omega
theorem Fine.good {t : Nd} (h : Fine t) : t.good = true := by unfold Nd.good; rw [h.clean]; simp
theorem Fine.empty : Fine Nd.empty := ⟨rfl, by decide⟩
theorem flat_norm {kd wo : Int} {e : Nd} (h2 : Two kd wo e) {l : List Nd} (h : ∀ t ∈ l, t.nice = true ∨ t = Nd.none ∧ wo = 0) : Norm kd wo (flat kd wo l) := by
  induction l with
  | nil => exact Norm.nil _ _
  | cons x l ih =>
    simp only [flat, List.flatMap_cons]
    refine Norm.append ?_ (ih (fun t ht => h t (by simp [ht])))
    rcases h x (by simp) with h | ⟨rfl, rfl⟩
    · exact h2.norm h
    · rcases h2 with ⟨rfl, h0, rfl⟩ | ⟨rfl, _, rfl⟩
      · cases h0
      · exact Norm.nil _ _
theorem seq_eq {l : List Nd} (h : ∀ t ∈ l, Fine t) (hs : sizeL l ≤ 9999) : Nd.seq l = mkJ 3 (flat 3 1 l) Nd.empty := by
  have hb : l.any Nd.bad0 = false := by rw [List.any_eq_false]; intro t ht; rw [(h t ht).bad0]; simp
  unfold Nd.seq
  rw [hb]
  have h2 : Two 3 1 Nd.empty := .inl ⟨rfl, rfl, rfl⟩
  exact h2.joined (flat_norm h2 (fun t ht => .inl (h t ht).1)) (Nat.le_trans (flat_size 3 1 l) hs)
theorem or_eq {l : List Nd} (h : ∀ t ∈ l, Fine t ∨ t = Nd.none) (hs : sizeL l ≤ 9999) : Nd.or l = mkJ 4 (flat 4 0 l) Nd.none := by
  have hb : l.any (fun x => !x.good) = false := by
    rw [List.any_eq_false]; intro t ht
    rcases h t ht with h | rfl
    · rw [h.good]; simp
    · decide
  unfold Nd.or
  rw [hb]
  have h2 : Two 4 0 Nd.none := .inr ⟨rfl, rfl, rfl⟩
  exact h2.joined (flat_norm h2 (fun t ht => (h t ht).elim (fun h => .inl h.1) (fun h => .inr ⟨h, rfl⟩))) (Nat.le_trans (flat_size 4 0 l) hs)
def gr (t : Nd) : Nat := (t.pre.filter fun x => x.kind == 6).length
def grL (ts : List Nd) : Nat := ((preL ts).filter fun x => x.kind == 6).length
theorem gr_mk (k : Int) (s : S4) (mn mx : Int) (ts : List Nd) : (mk k s mn mx ts).gr = (if k = 6 then 1 else 0) + grL ts := by
  unfold gr grL
  rw [pre, List.filter_cons]
  by_cases h : k = 6
  · simp [kind, h]; omega
  · simp [kind, h]
theorem grL_cons (t : Nd) (ts : List Nd) : grL (t :: ts) = t.gr + grL ts := by simp [grL, gr, preL]
theorem grL_append (a b : List Nd) : grL (a ++ b) = grL a + grL b := by simp [grL, preL_append]
theorem grL_nil : grL [] = 0 := rfl
theorem posn_mk (k : Int) (s : S4) (mn mx : Int) (ts : List Nd) : (mk k s mn mx ts).posn = minI (bif k == 5 then ((bif k == 2 then 1 else 0) + posnL ts) * minI (tms mn mx) 10001 else (bif k == 2 then 1 else 0) + posnL ts) 10001 := posn_eq _
theorem posn34 {kd : Int} (h : kd = 3 ∨ kd = 4) (ts : List Nd) : (mk kd zero 0 0 ts).posn = minI (posnL ts) 10001 := by
  rcases h with rfl | rfl <;> (rw [posn_mk]; simp)
theorem Two.kd {kd wo : Int} {e : Nd} (h2 : Two kd wo e) : kd = 3 ∨ kd = 4 := by rcases h2 with ⟨h, _⟩ | ⟨h, _⟩ <;> simp [h]
theorem Two.posn {kd wo : Int} {e : Nd} (h2 : Two kd wo e) {l : List Nd} (hp : posnL l ≤ 10001) : (mkJ kd l e).posn = posnL l := by
  match l, hp with
  | [], _ => rcases h2 with ⟨rfl, rfl, rfl⟩ | ⟨rfl, rfl, rfl⟩ <;> rfl
  | [x], _ => simp [mkJ, posnL]
  | x :: y :: l, hp => simp only [mkJ]; rw [posn34 h2.kd]; unfold minI; split <;> omega
theorem Two.posn1 {kd wo : Int} {e : Nd} (h2 : Two kd wo e) {t : Nd} (h : t.nice = true) (hp : t.posn ≤ 10000) : posnL (Nd.flat1 kd wo t) = t.posn := by
  have hb := h2.back h
  have hn := h2.norm h
  rcases Int.lt_or_le 10001 (posnL (Nd.flat1 kd wo t)) with hq | hq
  · exfalso
    generalize Nd.flat1 kd wo t = l at hb hn hq
    match l, hb with
    | [], _ => simp [posnL] at hq
    | [x], hb => have := posn_bd x; simp [posnL] at hq; omega
    | x :: y :: l, hb =>
      rw [← hb] at hp; simp only [mkJ] at hp; rw [posn34 h2.kd] at hp
      unfold minI at hp; rw [if_pos hq] at hp; omega
  · have := h2.posn hq
    rw [hb] at this; exact this.symm
theorem Two.gr {kd wo : Int} {e : Nd} (h2 : Two kd wo e) (l : List Nd) : (mkJ kd l e).gr = grL l := by
  match l with
  | [] => rcases h2 with ⟨rfl, rfl, rfl⟩ | ⟨rfl, rfl, rfl⟩ <;> rfl
  | [x] => simp [mkJ, grL_cons, grL_nil]
  | x :: y :: l => simp only [mkJ]; rw [gr_mk]; rw [if_neg (by rcases h2.kd with h | h <;> omega)]; omega
theorem Two.gr1 {kd wo : Int} {e : Nd} (h2 : Two kd wo e) {t : Nd} (h : t.nice = true) : grL (Nd.flat1 kd wo t) = t.gr := by
  rw [← h2.gr (Nd.flat1 kd wo t), h2.back h]
theorem flatJ1_eq {kd wo : Int} {e : Nd} (h2 : Two kd wo e) {t : Nd} (h : t.nice = true) : flatJ1 kd t = Nd.flat1 kd wo t := by
  have hk := right_kind (nice_right h)
  unfold flatJ1 Nd.flat1
  rcases h2 with ⟨rfl, rfl, rfl⟩ | ⟨rfl, rfl, rfl⟩
  · simp
  · have : (t.kind == 0) = false := by rw [beq_eq_false_iff_ne]; omega
    rw [this]; simp
theorem joinsL_eq (kd : Int) (l : List Nd) : joinsL kd l = mkJ kd l Nd.empty := by
  match l with
  | [] => rfl
  | [x] => rfl
  | x :: y :: l =>
    have h0 : (((x :: y :: l).length : Int) == 0) = false := by rw [beq_eq_false_iff_ne]; simp only [List.length_cons]; omega
    have h1 : (((x :: y :: l).length : Int) == 1) = false := by rw [beq_eq_false_iff_ne]; simp only [List.length_cons]; omega
    unfold joinsL
    rw [h0, h1]; rfl
theorem flat1_alt_ne {t : Nd} (h : t.nice = true) : Nd.flat1 4 0 t ≠ [] := by
  have h2 : Two 4 0 Nd.none := .inr ⟨rfl, rfl, rfl⟩
  intro h0
  have := h2.back h
  rw [h0] at this
  have hk := right_kind (nice_right h)
  rw [← this] at hk
  simp [mkJ, Nd.none, Nd.kind] at hk
theorem joins_eq {kd wo : Int} {e : Nd} (h2 : Two kd wo e) {a b : Nd} (ha : a.nice = true) (hb : b.nice = true) : joins kd a b = mkJ kd (Nd.flat1 kd wo a ++ Nd.flat1 kd wo b) e := by
  unfold joins flatJ
  simp only [List.flatMap_cons, List.flatMap_nil, List.append_nil]
  rw [flatJ1_eq h2 ha, flatJ1_eq h2 hb, joinsL_eq]
  rcases h2 with ⟨rfl, rfl, rfl⟩ | ⟨rfl, rfl, rfl⟩
  · rfl
  · have := flat1_alt_ne ha
    match hq : Nd.flat1 4 0 a ++ Nd.flat1 4 0 b with
    | [] => simp at hq; exact absurd hq.1 this
    | [x] => rfl
    | x :: y :: l => rfl
theorem joins_nice {kd wo : Int} {e : Nd} (h2 : Two kd wo e) {a b : Nd} (ha : a.nice = true) (hb : b.nice = true) : (joins kd a b).nice = true := by
  rw [joins_eq h2 ha hb]
  refine h2.nice ((h2.norm ha).append (h2.norm hb)) ?_
  rcases h2 with ⟨rfl, rfl, rfl⟩ | ⟨rfl, rfl, rfl⟩
  · exact .inl rfl
  · right; intro h0; simp at h0; exact flat1_alt_ne ha h0.1
theorem joins_gr {kd wo : Int} {e : Nd} (h2 : Two kd wo e) {a b : Nd} (ha : a.nice = true) (hb : b.nice = true) : (joins kd a b).gr = a.gr + b.gr := by
  rw [joins_eq h2 ha hb, h2.gr, grL_append, h2.gr1 ha, h2.gr1 hb]
theorem joins_posn {kd wo : Int} {e : Nd} (h2 : Two kd wo e) {a b : Nd} (ha : a.nice = true) (hb : b.nice = true) (hp : a.posn + b.posn ≤ 10000) : (joins kd a b).posn = a.posn + b.posn := by
  have p1 := posn_bd a
  have p2 := posn_bd b
  have q1 := h2.posn1 ha (by omega)
  have q2 := h2.posn1 hb (by omega)
  rw [joins_eq h2 ha hb, h2.posn (by rw [posnL_append]; omega), posnL_append, q1, q2]
end Nd
end Go.Proofs.Yteenegaadlhjdaa
namespace Go.Proofs.Yteenegaadlhjdaa
namespace Nd
def W64 (x : Int) : Prop := 0 ≤ x ∧ x < 18446744073709551616
def SOk (s : S4) : Prop := W64 s.a ∧ W64 s.b ∧ W64 s.c ∧ W64 s.d
instance (x : Int) : Decidable (W64 x) := by unfold W64; infer_instance
instance (s : S4) : Decidable (SOk s) := by unfold SOk; infer_instance
def wbit (x : Int) (i : Nat) : Bool := (BitVec.ofInt 64 x).getLsbD i
def sbit (s : S4) (c : Nat) : Bool := wbit (S4get s (c / 64)) (c % 64)
theorem S4get_ok {s : S4} (h : SOk s) (i : Nat) : W64 (S4get s i) := by
  unfold S4get
  split
  · exact h.1
  · exact h.2.1
  · exact h.2.2.1
  · exact h.2.2.2
theorem wrap64 (n : Int) (h : W64 n) : IntKind.u64.wrap n = n := by
  exact IntWalk.u64_in n ⟨h.1, by have := h.2; omega⟩
theorem bv_wrap (x : BitVec 64) : IntKind.u64.wrap (x.toNat : Int) = (x.toNat : Int) := wrap64 _ ⟨by omega, by have := x.isLt; omega⟩
theorem bv_ok (x : BitVec 64) : W64 (x.toNat : Int) := ⟨by omega, by have := x.isLt; omega⟩
theorem wbit_bv (x : BitVec 64) (i : Nat) : wbit (x.toNat : Int) i = x.getLsbD i := by
  unfold wbit
  have : BitVec.ofInt 64 (x.toNat : Int) = x := by
    apply BitVec.eq_of_toNat_eq
    rw [BitVec.toNat_ofInt]
    have := x.isLt
    omega
  rw [this]
theorem w_ext {x y : Int} (hx : W64 x) (hy : W64 y) (h : ∀ i, i < 64 → wbit x i = wbit y i) : x = y := by
  have e : BitVec.ofInt 64 x = BitVec.ofInt 64 y := BitVec.eq_of_getLsbD_eq (fun i hi => h i hi)
  have := congrArg BitVec.toNat e
  rw [BitVec.toNat_ofInt, BitVec.toNat_ofInt] at this
  unfold W64 at hx hy
  omega
theorem s_ext {s t : S4} (hs : SOk s) (ht : SOk t) (h : ∀ c, c < 256 → sbit s c = sbit t c) : s = t := by
  have key : ∀ i, i < 4 → S4get s i = S4get t i := by
    intro i hi
    refine w_ext (S4get_ok hs i) (S4get_ok ht i) (fun j hj => ?_)
    have := h (i * 64 + j) (by omega)
    unfold sbit at this
    rw [show (i * 64 + j) / 64 = i by omega, show (i * 64 + j) % 64 = j by omega] at this
    exact this
  have h0 := key 0 (by omega)
  have h1 := key 1 (by omega)
  have h2 := key 2 (by omega)
  have h3 := key 3 (by omega)
  cases s; cases t
  simp only [S4get] at h0 h1 h2 h3
  subst h0; subst h1; subst h2; subst h3; rfl
def andI (a b : Int) : Int := IntKind.u64.wrap ((BitVec.ofInt IntKind.u64.bits a &&& BitVec.ofInt IntKind.u64.bits b).toNat : Int)
def lessI (a b : Int) : Int := IntKind.u64.wrap ((BitVec.ofInt IntKind.u64.bits a &&& ~~~BitVec.ofInt IntKind.u64.bits b).toNat : Int)
theorem orI_bv (a b : Int) : orI a b = ((BitVec.ofInt 64 a ||| BitVec.ofInt 64 b).toNat : Int) := bv_wrap _
theorem lessI_bv (a b : Int) : lessI a b = ((BitVec.ofInt 64 a &&& ~~~BitVec.ofInt 64 b).toNat : Int) := bv_wrap _
theorem andI_bv (a b : Int) : andI a b = ((BitVec.ofInt 64 a &&& BitVec.ofInt 64 b).toNat : Int) := bv_wrap _
theorem wbit_or (a b : Int) (i : Nat) : wbit (orI a b) i = (wbit a i || wbit b i) := by rw [orI_bv, wbit_bv]; simp [wbit]
theorem wbit_less (a b : Int) {i : Nat} (hi : i < 64) : wbit (lessI a b) i = (wbit a i && !wbit b i) := by rw [lessI_bv, wbit_bv]; simp [wbit, hi]
def eachS (f : Int → Int → Int) (s t : S4) : S4 := ⟨f s.a t.a, f s.b t.b, f s.c t.c, f s.d t.d⟩
theorem S4get_each (f : Int → Int → Int) (s t : S4) (i : Nat) : S4get (eachS f s t) i = f (S4get s i) (S4get t i) := by
  unfold S4get eachS; split <;> rfl
def orS (s t : S4) : S4 := eachS orI s t
def lessS (s t : S4) : S4 := eachS lessI s t
theorem each_ok {f : Int → Int → Int} (hf : ∀ a b, W64 (f a b)) (s t : S4) : SOk (eachS f s t) := ⟨hf _ _, hf _ _, hf _ _, hf _ _⟩
theorem orI_ok (a b : Int) : W64 (orI a b) := by rw [orI_bv]; exact bv_ok _
theorem sbit_or (s t : S4) (c : Nat) : sbit (orS s t) c = (sbit s c || sbit t c) := by unfold sbit orS; rw [S4get_each, wbit_or]
theorem sbit_less (s t : S4) (c : Nat) : sbit (lessS s t) c = (sbit s c && !sbit t c) := by unfold sbit lessS; rw [S4get_each, wbit_less _ _ (by omega)]
theorem hasI {x : Int} (h : W64 x) {i : Nat} (hi : i < 64) : (andI (x.fdiv (2 ^ (min i IntKind.u64.bits))) 1 == 1) = wbit x i := by
  obtain ⟨n, rfl⟩ : ∃ n : Nat, x = n := ⟨x.toNat, by have := h.1; omega⟩
  have hn : n < 18446744073709551616 := by have := h.2; omega
  have e1 : min i IntKind.u64.bits = i := by simp [IntKind.bits]; omega
  have e2 : (n : Int).fdiv (2 ^ i) = ((n >>> i : Nat) : Int) := by
    rw [Int.fdiv_eq_ediv_of_nonneg _ (by exact Int.le_of_lt (Int.pow_pos (by decide)))]
    rw [Nat.shiftRight_eq_div_pow]
    simp
  have e3 : ∀ m : Nat, m < 18446744073709551616 → (BitVec.ofInt 64 (m : Int)).toNat = m := by
    intro m hm; rw [BitVec.toNat_ofInt]; omega
  rw [e1, e2, andI_bv]
  have h1 : n >>> i < 18446744073709551616 := Nat.lt_of_le_of_lt (Nat.shiftRight_le _ _) hn
  have e4 : (BitVec.ofInt 64 ((n >>> i : Nat) : Int) &&& BitVec.ofInt 64 1).toNat = (n >>> i) % 2 := by
    rw [BitVec.toNat_and, e3 _ h1]
    have : (BitVec.ofInt 64 1).toNat = 1 := rfl
    rw [this, Nat.and_one_is_mod]
  rw [e4]
  unfold wbit
  rw [← BitVec.testBit_toNat, e3 _ hn, Nat.testBit_eq_decide_div_mod_eq, Nat.shiftRight_eq_div_pow, Bool.eq_iff_iff]
  simp only [beq_iff_eq, decide_eq_true_eq]
  omega
def firstS (s : S4) : Option Nat := (List.range 256).find? (sbit s)
def cmpS (s t : S4) : Int := match firstS (orS (lessS s t) (lessS t s)) with | .none => 0 | .some c => if sbit s c then -1 else 1
def eachK (f : Int → Int → Int) (s t : S4) : Nat → S4
  | 0 => zero
  | k + 1 => S4put (eachK f s t k) k (f (S4get s k) (S4get t k))
theorem firstS_lt {s : S4} {c : Nat} (h : firstS s = some c) : c < 256 := by
  have := List.mem_of_find?_eq_some h; simpa using this
def bytes (s : S4) : List Nat := (List.range 256).filter (sbit s)
theorem firstS_eq (s : S4) : firstS s = (bytes s)[0]? := by
  unfold firstS bytes; rw [← List.head?_filter, List.head?_eq_getElem?]
def upTo (s : S4) (k : Nat) : Nat := ((List.range k).filter (sbit s)).length
theorem upTo_succ (s : S4) (k : Nat) : upTo s (k + 1) = upTo s k + (if sbit s k then 1 else 0) := by
  unfold upTo; rw [List.range_succ, List.filter_append, List.length_append]
  by_cases h : sbit s k <;> simp [h]
theorem bytes_at {s : S4} {k : Nat} (hk : k < 256) (h : sbit s k = true) : (bytes s)[upTo s k]? = some k := by
  have e : List.range 256 = List.range k ++ (k :: List.range' (k + 1) (255 - k)) := by
    rw [List.range_eq_range', List.range_eq_range', show 256 = k + (1 + (255 - k)) by omega, ← List.range'_append_1, ← List.range'_append_1]
    simp [List.range'_one]
  unfold bytes upTo
  rw [e, List.filter_append, List.getElem?_append_right (Nat.le_refl _), Nat.sub_self, List.filter_cons, if_pos h]; rfl
theorem and63 : ∀ c : Fin 256, IntKind.u8.wrap ((BitVec.ofInt IntKind.u8.bits (c.val : Int) &&& BitVec.ofInt IntKind.u8.bits 63).toNat : Int) = ((c.val % 64 : Nat) : Int) := by decide +kernel
theorem shr6 : ∀ c : Fin 256, (c.val : Int).fdiv (2 ^ (min 6 IntKind.u8.bits)) = ((c.val / 64 : Nat) : Int) := by decide +kernel
structure Ord3 {α : Type} (P : α → Prop) (cmp : α → α → Int) : Prop where
  bd : ∀ a b, P a → P b → -1 ≤ cmp a b ∧ cmp a b ≤ 1
  eq : ∀ a b, P a → P b → (cmp a b = 0 ↔ a = b)
  anti : ∀ a b, P a → P b → cmp b a = -cmp a b
  trans : ∀ a b c, P a → P b → P c → cmp a b ≤ 0 → cmp b c ≤ 0 → cmp a c ≤ 0
def cmpL {α : Type} (cmp : α → α → Int) : List α → List α → Int
  | [], [] => 0
  | [], _ :: _ => -1
  | _ :: _, [] => 1
  | x :: xs, y :: ys => if cmp x y ≠ 0 then cmp x y else cmpL cmp xs ys
theorem Ord3.lt {α : Type} {P : α → Prop} {cmp : α → α → Int} (h : Ord3 P cmp) {a b c : α} (ha : P a) (hb : P b) (hc : P c) (h1 : cmp a b ≤ 0) (h2 : cmp b c ≤ 0) (h3 : cmp a c = 0) : cmp a b = 0 ∧ cmp b c = 0 := by
  have e := (h.eq a c ha hc).1 h3
  subst e
  have := h.anti a b ha hb
  omega
theorem cmpL_ord {α : Type} {cmp : α → α → Int} {P : α → Prop} (h : Ord3 P cmp) : Ord3 (fun l : List α => ∀ x ∈ l, P x) (cmpL cmp) := by
  refine ⟨?_, ?_, ?_, ?_⟩
  · intro a
    induction a with
    | nil => intro b _ _; cases b <;> simp [cmpL]
    | cons x a ih =>
      intro b ha hb
      cases b with
      | nil => simp [cmpL]
      | cons y b =>
        simp only [cmpL]
        split
        · exact h.bd x y (ha x (by simp)) (hb y (by simp))
        · exact ih b (fun z hz => ha z (by simp [hz])) (fun z hz => hb z (by simp [hz]))
  · intro a
    induction a with
    | nil => intro b _ _; cases b <;> simp [cmpL]
    | cons x a ih =>
      intro b ha hb
      cases b with
      | nil => simp [cmpL]
      | cons y b =>
        have hx := h.eq x y (ha x (by simp)) (hb y (by simp))
        have hr := ih b (fun z hz => ha z (by simp [hz])) (fun z hz => hb z (by simp [hz]))
        simp only [cmpL]
        by_cases hc : cmp x y = 0
        · rw [if_neg (by simp [hc]), hr, hx.1 hc]; simp
        · rw [if_pos hc]
          constructor
          · intro h0; exact absurd h0 hc
          · intro he; simp only [List.cons.injEq] at he; exact absurd (hx.2 he.1) hc
  · intro a
    induction a with
    | nil => intro b _ _; cases b <;> simp [cmpL]
    | cons x a ih =>
      intro b ha hb
      cases b with
      | nil => simp [cmpL]
      | cons y b =>
        have hx := h.anti x y (ha x (by simp)) (hb y (by simp))
        have hr := ih b (fun z hz => ha z (by simp [hz])) (fun z hz => hb z (by simp [hz]))
        simp only [cmpL]
        by_cases hc : cmp x y = 0
        · have hc' : cmp y x = 0 := by rw [hx, hc]; rfl
          rw [if_neg (fun h => h hc'), if_neg (fun h => h hc)]; exact hr
        · have hc' : cmp y x ≠ 0 := by rw [hx]; omega
          rw [if_pos hc', if_pos hc]; exact hx
  · intro a
    induction a with
    | nil => intro b c _ _ _ _ _; cases c <;> simp [cmpL]
    | cons x a ih =>
      intro b c ha hb hc h1 h2
      cases b with
      | nil => simp [cmpL] at h1
      | cons y b =>
        cases c with
        | nil => simp [cmpL] at h2
        | cons z c =>
          have px := ha x (by simp)
          have py := hb y (by simp)
          have pz := hc z (by simp)
          have hr := ih b c (fun z hz => ha z (by simp [hz])) (fun z hz => hb z (by simp [hz])) (fun z hz => hc z (by simp [hz]))
          simp only [cmpL] at h1 h2 ⊢
          by_cases q1 : cmp x y = 0
          · have e := (h.eq x y px py).1 q1
            subst e
            rw [if_neg (by simp [q1])] at h1
            by_cases q2 : cmp x z = 0
            · rw [if_neg (by simp [q2])] at h2 ⊢; exact hr h1 h2
            · rw [if_pos q2] at h2 ⊢; exact h2
          · rw [if_pos q1] at h1
            by_cases q2 : cmp y z = 0
            · have e := (h.eq y z py pz).1 q2
              subst e
              rw [if_pos q1]; exact h1
            · rw [if_pos q2] at h2
              have q3 := h.trans x y z px py pz h1 h2
              by_cases q4 : cmp x z = 0
              · have := h.lt px py pz h1 h2 q4; exact absurd this.1 q1
              · rw [if_pos q4]; exact q3
theorem cmpL_step {α : Type} {cmp : α → α → Int} {ts us : List α} {k : Nat} {t u : α} (ht : ts[k]? = some t) (hu : us[k]? = some u) : cmpL cmp (ts.drop k) (us.drop k) = if cmp t u ≠ 0 then cmp t u else cmpL cmp (ts.drop (k + 1)) (us.drop (k + 1)) := by
  obtain ⟨h1, rfl⟩ := List.getElem?_eq_some_iff.1 ht
  obtain ⟨h2, rfl⟩ := List.getElem?_eq_some_iff.1 hu
  rw [List.drop_eq_getElem_cons h1, List.drop_eq_getElem_cons h2]; rfl
theorem cmpL_more {α : Type} {cmp : α → α → Int} {ts us : List α} {k : Nat} (h1 : k < ts.length) (h2 : us.length ≤ k) : cmpL cmp (ts.drop k) (us.drop k) = 1 := by
  rw [List.drop_eq_getElem_cons h1, List.drop_of_length_le h2]; rfl
theorem cmpL_less {α : Type} {cmp : α → α → Int} {ts us : List α} {k : Nat} (h1 : ts.length ≤ k) (h2 : k < us.length) : cmpL cmp (ts.drop k) (us.drop k) = -1 := by
  rw [List.drop_eq_getElem_cons h2, List.drop_of_length_le h1]; rfl
theorem cmpL_end {α : Type} {cmp : α → α → Int} {ts us : List α} {k : Nat} (h1 : ts.length ≤ k) (h2 : us.length ≤ k) : cmpL cmp (ts.drop k) (us.drop k) = 0 := by
  rw [List.drop_of_length_le h1, List.drop_of_length_le h2]; rfl
def pick2 (k : Nat) (x y : Int) : Int := if k = 0 then x else y
def cmpB (x y : Bool) : Int := if x = y then 0 else if x then -1 else 1
theorem cmpB_ord : Ord3 (fun _ => True) cmpB := by
  refine ⟨?_, ?_, ?_, ?_⟩
  · intro a b _ _; revert a b; decide
  · intro a b _ _; revert a b; decide
  · intro a b _ _; revert a b; decide
  · intro a b c _ _ _; revert a b c; decide
theorem find_cmp (s t : S4) (l : List Nat) : (match l.find? (fun c => sbit s c != sbit t c) with | .none => (0 : Int) | .some c => if sbit s c then -1 else 1) = cmpL cmpB (l.map (sbit s)) (l.map (sbit t)) := by
  induction l with
  | nil => rfl
  | cons x l ih =>
    simp only [List.find?_cons, List.map_cons, cmpL]
    by_cases h : sbit s x = sbit t x
    · have e : (sbit s x != sbit t x) = false := by rw [h]; simp
      have e2 : cmpB (sbit s x) (sbit t x) = 0 := by rw [h]; simp [cmpB]
      rw [e, if_neg (by simp [e2])]; exact ih
    · have e : (sbit s x != sbit t x) = true := by simpa using h
      have e2 : cmpB (sbit s x) (sbit t x) ≠ 0 := by unfold cmpB; rw [if_neg h]; split <;> decide
      rw [e, if_pos e2]
      unfold cmpB; rw [if_neg h]
theorem cmpS_eq (s t : S4) : cmpS s t = cmpL cmpB ((List.range 256).map (sbit s)) ((List.range 256).map (sbit t)) := by
  rw [← find_cmp]
  unfold cmpS firstS
  have : sbit (orS (lessS s t) (lessS t s)) = fun c => sbit s c != sbit t c := by
    funext c; rw [sbit_or, sbit_less, sbit_less]; cases sbit s c <;> cases sbit t c <;> rfl
  rw [this]
theorem cmpS_ord : Ord3 SOk cmpS := by
  have h := cmpL_ord cmpB_ord
  refine ⟨fun a b _ _ => ?_, fun a b ha hb => ?_, fun a b _ _ => ?_, fun a b c _ _ _ => ?_⟩
  · rw [cmpS_eq]; exact h.bd _ _ (fun _ _ => trivial) (fun _ _ => trivial)
  · rw [cmpS_eq, h.eq _ _ (fun _ _ => trivial) (fun _ _ => trivial)]
    constructor
    · intro he
      refine s_ext ha hb (fun c hc => ?_)
      have := List.map_inj_left.1 he c (by simpa using hc)
      exact this
    · rintro rfl; rfl
  · rw [cmpS_eq, cmpS_eq]; exact h.anti _ _ (fun _ _ => trivial) (fun _ _ => trivial)
  · rw [cmpS_eq, cmpS_eq, cmpS_eq]; exact h.trans _ _ _ (fun _ _ => trivial) (fun _ _ => trivial) (fun _ _ => trivial)
theorem cmpI_ord : Ord3 (fun _ => True) cmpI := by
  refine ⟨fun a b _ _ => ?_, fun a b _ _ => ?_, fun a b _ _ => ?_, fun a b c _ _ _ => ?_⟩
  · unfold cmpI; (repeat' split) <;> omega
  · unfold cmpI; (repeat' split) <;> omega
  · unfold cmpI; (repeat' split) <;> omega
  · unfold cmpI; (repeat' split) <;> omega
end Nd
end Go.Proofs.Yteenegaadlhjdaa
namespace Go.Proofs.Yteenegaadlhjdaa
namespace Nd
def Bytes (xs : List (Int × Int × Int)) : Prop := ∀ x ∈ xs, 0 ≤ x.1 ∧ 0 ≤ x.2.1 ∧ 0 ≤ x.2.2
theorem two3 : Two 3 1 Nd.empty := .inl ⟨rfl, rfl, rfl⟩
theorem two4 : Two 4 0 Nd.none := .inr ⟨rfl, rfl, rfl⟩
theorem L12_set : ∀ l ∈ L12, (setB l != zero) = true := by decide
theorem lettersS_mem (n : Int) : lettersS n ∈ L12 := by
  unfold lettersS
  have h : (n.tmod 12).toNat < 12 := by
    have h1 := Int.tmod_lt_of_pos n (show (0 : Int) < 12 by decide)
    omega
  have h2 : (n.tmod 12).toNat < L12.length := h
  rw [List.getElem?_eq_getElem h2]; exact List.getElem_mem h2
theorem class_nice (n : Int) : (classS (lettersS n)).nice = true := by
  refine nice_mk ?_ (fun u hu => by cases hu)
  have h := L12_set _ (lettersS_mem n)
  unfold classS right
  simp only [kind, set, least, most, subs, h]; simp
theorem class_gr (l : List UInt8) : (classS l).gr = 0 := by unfold classS; rw [gr_mk]; rfl
theorem class_posn (l : List UInt8) : (classS l).posn = 1 := by unfold classS; rw [posn_mk]; rfl
theorem group_nice {t : Nd} (h : t.nice = true) : (mk 6 zero 0 0 [t]).nice = true := nice_mk rfl (fun u hu => by simp [subs] at hu; subst hu; exact h)
theorem group_gr (t : Nd) : (mk 6 zero 0 0 [t]).gr = 1 + t.gr := by rw [gr_mk, grL_cons, grL_nil]; rfl
theorem group_posn (t : Nd) : (mk 6 zero 0 0 [t]).posn = t.posn := by
  rw [posn_mk]; have := posn_bd t; simp [posnL]; unfold minI; split <;> omega
theorem rep_nice {t : Nd} {mn mx : Int} (h : t.nice = true) (hk : t.kind ≠ 1) (hb : bounds mn mx = true) : (mk 5 zero mn mx [t]).nice = true := by
  refine nice_mk ?_ (fun u hu => by simp [subs] at hu; subst hu; exact h)
  have a := has_no (t := mk 5 zero mn mx [t]) (k := 1) (fun u hu => by simp [subs] at hu; subst hu; exact hk)
  unfold right
  simp only [kind, set, least, most, subs, a, hb]; simp
theorem rep_gr (t : Nd) (mn mx : Int) : (mk 5 zero mn mx [t]).gr = t.gr := by rw [gr_mk, grL_cons, grL_nil]; simp
theorem rep_posn (t : Nd) (mn mx : Int) : (mk 5 zero mn mx [t]).posn = minI (t.posn * minI (tms mn mx) 10001) 10001 := by
  rw [posn_mk]; simp [posnL]
theorem rep_posn_le {t : Nd} {mn mx m : Int} (hm : tms mn mx ≤ m) : (mk 5 zero mn mx [t]).posn ≤ t.posn * m := by
  rw [rep_posn]
  have h1 := posn_bd t
  have h2 : minI (tms mn mx) 10001 ≤ m := by unfold minI; split <;> omega
  have h3 := Int.mul_le_mul_of_nonneg_left h2 h1.1
  have h4 : ∀ z : Int, minI z 10001 ≤ z := fun z => by unfold minI; split <;> omega
  exact Int.le_trans (h4 _) h3
theorem bounds_most {a b : Int} (ha : 0 ≤ a ∧ a ≤ 2) (hb : 0 ≤ b ∧ b ≤ 3) : bounds a (mostM a b) = true ∧ tms a (mostM a b) ≤ max3 a (mostM a b) 1 := by
  have ea : a = 0 ∨ a = 1 ∨ a = 2 := by omega
  have eb : b = 0 ∨ b = 1 ∨ b = 2 ∨ b = 3 := by omega
  rcases ea with rfl | rfl | rfl <;> rcases eb with rfl | rfl | rfl | rfl <;> decide
theorem mod_bd {x n : Int} (hx : 0 ≤ x) (hn : 0 < n) : 0 ≤ x.tmod n ∧ x.tmod n ≤ n - 1 := by
  have := Int.tmod_lt_of_pos x hn
  have := Int.tmod_nonneg n hx
  omega
theorem max3_bd {a b : Int} (ha : a ≤ 2) (hb : b ≤ 3) : 1 ≤ max3 a b 1 ∧ max3 a b 1 ≤ 16 := by
  unfold max3; (repeat' split) <;> omega
theorem top_mem {l : List Nd} (h : 0 < l.length) : top l ∈ l := by
  unfold top; rw [List.getElem?_eq_getElem (by omega)]; exact List.getElem_mem _
theorem top2_mem {l : List Nd} (h : 1 < l.length) : top2 l ∈ l := by
  unfold top2; rw [List.getElem?_eq_getElem (by omega)]; exact List.getElem_mem _
theorem split1 {l : List Nd} (h : 0 < l.length) : l = l.take (l.length - 1) ++ [top l] := by
  have hl : l[l.length - 1]? = some (l[l.length - 1]'(by omega)) := by simp
  have e : l.take (l.length - 1 + 1) = l := List.take_of_length_le (by omega)
  rw [List.take_add_one, hl] at e
  unfold top; rw [hl]; exact e.symm
theorem split2 {l : List Nd} (h : 1 < l.length) : l = l.take (l.length - 2) ++ [top2 l, top l] := by
  have hl : l[l.length - 2]? = some (l[l.length - 2]'(by omega)) := by simp
  have h1 := split1 (l := l) (by omega)
  have e : l.length - 1 = l.length - 2 + 1 := by omega
  rw [e, List.take_add_one, hl] at h1
  have : top2 l = l[l.length - 2]'(by omega) := by unfold top2; rw [hl]; rfl
  rw [this]; simp only [Option.toList_some, List.append_assoc, List.cons_append, List.nil_append] at h1; exact h1
theorem set_top {l : List Nd} (h : 0 < l.length) (t : Nd) : l.set (l.length - 1) t = l.take (l.length - 1) ++ [t] := by
  rw [List.set_eq_take_append_cons_drop, if_pos (by omega), List.drop_of_length_le (by omega)]
theorem posnL_one (t : Nd) : posnL [t] = t.posn := by simp [posnL]
structure MN (s : M3) (k : Nat) : Prop where
  nice : ∀ t ∈ s.pile, t.nice = true
  gr : (grL s.pile : Int) ≤ s.g
  posn : posnL s.pile ≤ k * s.u
  ku : (k : Int) ≤ 25
theorem MN_step {s : M3} {k : Nat} (h0 : MB s k) (h : MN s k) (hk : k < 25) {x : Int × Int × Int} (hx : 0 ≤ x.1 ∧ 0 ≤ x.2.1 ∧ 0 ≤ x.2.2) : MN (stepM s x) (k + 1) := by
  obtain ⟨hn, hg, hp, hku⟩ := h
  obtain ⟨_, _, u1, u2, _, _⟩ := h0
  have ha := mod_bd (x := x.2.1) (n := 3) hx.2.1 (by decide)
  have hb := mod_bd (x := x.2.2) (n := 4) hx.2.2 (by decide)
  have hbd := bounds_most (a := x.2.1.tmod 3) (b := x.2.2.tmod 4) (by omega) (by omega)
  unfold stepM
  dsimp only
  generalize x.1.tmod 12 = kk
  generalize mostM (x.2.1.tmod 3) (x.2.2.tmod 4) = mx at hbd
  generalize x.2.1.tmod 3 = mn at hbd
  have hk1 : ((k + 1 : Nat) : Int) ≤ 25 := by omega
  have hku1 : ((k + 1 : Nat) : Int) * s.u = k * s.u + s.u := by rw [Int.natCast_add, Int.add_mul]; simp
  have triv : MN s (k + 1) := ⟨hn, hg, by omega, hk1⟩
  have add : ∀ t : Nd, t.nice = true → t.gr = 0 → t.posn ≤ 1 → MN { s with pile := s.pile ++ [t] } (k + 1) := fun t h1 h2 h3 =>
    ⟨fun u hu => by rcases List.mem_append.1 hu with hu | hu; exact hn u hu; simp at hu; subst hu; exact h1, by rw [grL_append, grL_cons, grL_nil]; simp only; omega, by rw [posnL_append, posnL_one]; simp only; omega, hk1⟩
  have hku16 : (k : Int) * s.u ≤ 400 := by
    have := Int.mul_le_mul hku u2 (by omega) (by omega); omega
  have join : ∀ kd wo e, Two kd wo e → 1 < s.pile.length → MN { s with pile := s.pile.take (s.pile.length - 2) ++ [joins kd (top2 s.pile) (top s.pile)] } (k + 1) := by
    intro kd wo e h2 hl
    have e1 := split2 hl
    have n1 := hn _ (top_mem (l := s.pile) (by omega))
    have n2 := hn _ (top2_mem hl)
    have g1 : grL s.pile = grL (s.pile.take (s.pile.length - 2)) + ((top2 s.pile).gr + (top s.pile).gr) := by
      conv => lhs; rw [e1]
      rw [grL_append, grL_cons, grL_cons, grL_nil]; omega
    have p1 : posnL s.pile = posnL (s.pile.take (s.pile.length - 2)) + ((top2 s.pile).posn + (top s.pile).posn) := by
      conv => lhs; rw [e1]
      rw [posnL_append]; simp [posnL]
    have p2 := posnL_bd (s.pile.take (s.pile.length - 2))
    have g2 := joins_gr h2 n2 n1
    have p3 := joins_posn h2 n2 n1 (by omega)
    refine ⟨fun u hu => ?_, ?_, ?_, hk1⟩
    · rcases List.mem_append.1 hu with hu | hu
      · exact hn u (List.mem_of_mem_take hu)
      · simp at hu; subst hu; exact joins_nice h2 n2 n1
    · simp only; rw [grL_append, grL_cons, grL_nil, g2]; omega
    · simp only; rw [posnL_append, posnL_one, p3]; omega
  have g1 : 0 < s.pile.length → grL s.pile = grL (s.pile.take (s.pile.length - 1)) + (top s.pile).gr := fun hl => by
    conv => lhs; rw [split1 hl]
    rw [grL_append, grL_cons, grL_nil]; omega
  have p1 : 0 < s.pile.length → posnL s.pile = posnL (s.pile.take (s.pile.length - 1)) + (top s.pile).posn := fun hl => by
    conv => lhs; rw [split1 hl]
    rw [posnL_append]; simp [posnL]
  cases c1 : decide (kk < 4) with
  | true => exact add _ (class_nice _) (class_gr _) (by rw [class_posn]; omega)
  | false =>
    cases c2 : (kk == 4) with
    | true => exact add _ rfl rfl (by decide)
    | false =>
      simp only [cond_false]
      cases c3 : (decide (kk < 7) && decide (1 < (s.pile.length : Int))) with
      | true =>
        simp only [Bool.and_eq_true, decide_eq_true_eq] at c3
        exact join 3 1 _ two3 (by omega)
      | false =>
        simp only [cond_false]
        cases c4 : (decide (kk < 9) && decide (1 < (s.pile.length : Int))) with
        | true =>
          simp only [Bool.and_eq_true, decide_eq_true_eq] at c4
          exact join 4 0 _ two4 (by omega)
        | false =>
          simp only [cond_false]
          cases c5 : ((kk == 9) && decide (0 < (s.pile.length : Int)) && decide (s.g < 9)) with
          | true =>
            simp only [Bool.and_eq_true, decide_eq_true_eq] at c5
            have hl : 0 < s.pile.length := by omega
            have q1 := g1 hl
            have q2 := p1 hl
            simp only [cond_true]
            refine ⟨fun u hu => ?_, ?_, ?_, hk1⟩
            · simp only [set_top hl] at hu
              rcases List.mem_append.1 hu with hu | hu
              · exact hn u (List.mem_of_mem_take hu)
              · simp at hu; subst hu; exact group_nice (hn _ (top_mem hl))
            · simp only [set_top hl]; rw [grL_append, grL_cons, grL_nil, group_gr]; omega
            · simp only [set_top hl]; rw [posnL_append, posnL_one, group_posn]; omega
          | false =>
            simp only [cond_false]
            cases c6 : (decide (9 < kk) && decide (0 < (s.pile.length : Int)) && ((top s.pile).kind != 1)) with
            | true =>
              simp only [Bool.and_eq_true, decide_eq_true_eq, bne_iff_ne] at c6
              simp only [cond_true]
              have hl : 0 < s.pile.length := by omega
              have q1 := g1 hl
              have q2 := p1 hl
              cases c7 : decide (s.u * max3 mn mx 1 ≤ 16) with
              | true =>
                simp only [cond_true]
                have hm := max3_pos mn mx
                have r1 := rep_posn_le (t := top s.pile) hbd.2
                have r2 := posnL_bd (s.pile.take (s.pile.length - 1))
                refine ⟨fun u hu => ?_, ?_, ?_, hk1⟩
                · simp only [set_top hl] at hu
                  rcases List.mem_append.1 hu with hu | hu
                  · exact hn u (List.mem_of_mem_take hu)
                  · simp at hu; subst hu; exact rep_nice (hn _ (top_mem hl)) c6.2 hbd.1
                · simp only [set_top hl]; rw [grL_append, grL_cons, grL_nil, rep_gr]; omega
                · simp only [set_top hl]; rw [posnL_append, posnL_one]
                  generalize max3 mn mx 1 = m at *
                  have r3 : posnL (s.pile.take (s.pile.length - 1)) * 1 ≤ posnL (s.pile.take (s.pile.length - 1)) * m := Int.mul_le_mul_of_nonneg_left hm r2.1
                  have r4 : (posnL s.pile) * m ≤ (k * s.u) * m := Int.mul_le_mul_of_nonneg_right hp (by omega)
                  rw [q2, Int.add_mul] at r4
                  have r5 : ((k + 1 : Nat) : Int) * (s.u * m) = (k * s.u) * m + s.u * m := by rw [Int.natCast_add, Int.add_mul, Int.mul_assoc]; simp
                  have r6 : 0 ≤ s.u * m := Int.mul_nonneg (by omega) (by omega)
                  rw [r5]; omega
              | false => exact triv
            | false => exact triv
theorem madeSt_mn {xs : List (Int × Int × Int)} (hb : Bytes xs) (hl : xs.length ≤ 25) : MN (madeSt xs) xs.length := by
  have key : ∀ (l : List (Int × Int × Int)) (s : M3) (k : Nat), Bytes l → k + l.length ≤ 25 → MB s k → MN s k → MN (l.foldl stepM s) (k + l.length) := by
    intro l
    induction l with
    | nil => intro s k _ _ _ h; exact h
    | cons x l ih =>
      intro s k hB hk h0 h
      simp only [List.length_cons] at hk
      have := ih _ _ (fun y hy => hB y (by simp [hy])) (by omega) (MB_step h0 x) (MN_step h0 h (by omega) (hB x (by simp)))
      simp only [List.foldl_cons, List.length_cons]; rw [show k + (l.length + 1) = k + 1 + l.length by omega]; exact this
  have := key xs ⟨[], 1, 0⟩ 0 hb (by omega) ⟨by simp, by simp [sizeL], by simp, by simp, by simp, by simp⟩ ⟨by simp, by simp [grL, preL], by simp [posnL], by simp⟩
  simpa [madeSt] using this
structure MadeOk (t : Nd) : Prop where
  nice : t.nice = true
  size : t.size ≤ 50
  gr : t.gr ≤ 9
  posn : t.posn ≤ 400
theorem made_ok' {xs : List (Int × Int × Int)} (hb : Bytes xs) : MadeOk (made xs) := by
  have hl : (xs.take 25).length ≤ 25 := List.length_take_le _ _
  have hB : Bytes (xs.take 25) := fun x hx => hb x (List.mem_of_mem_take hx)
  obtain ⟨n1, n2, n3, n4⟩ := madeSt_mn hB hl
  obtain ⟨m1, m2, m3, m4, m5, m6⟩ := madeSt_bd (xs.take 25)
  unfold made
  have hp : posnL (madeSt (xs.take 25)).pile ≤ 400 := by
    have := Int.mul_le_mul n4 m4 (by omega) (by omega); omega
  generalize madeSt (xs.take 25) = s at *
  obtain ⟨p, u, g⟩ := s
  simp only at *
  cases p with
  | nil => exact ⟨by decide, by decide, by decide, by decide⟩
  | cons t ts =>
    simp only [madeEnd]
    have key : ∀ (l : List Nd) (t : Nd), t.nice = true → (∀ u ∈ l, u.nice = true) → t.posn + posnL l ≤ 400 →
        (l.foldl (joins 4) t).nice = true ∧ (l.foldl (joins 4) t).gr = t.gr + grL l ∧ (l.foldl (joins 4) t).posn = t.posn + posnL l := by
      intro l
      induction l with
      | nil => intro t h _ _; exact ⟨h, by simp [grL, preL], by simp [posnL]⟩
      | cons x l ih =>
        intro t h hl hp
        simp only [posnL] at hp
        have b1 := posnL_bd l
        have e1 := joins_posn two4 h (hl x (by simp)) (by omega)
        have e2 := joins_gr two4 h (hl x (by simp))
        obtain ⟨i1, i2, i3⟩ := ih (joins 4 t x) (joins_nice two4 h (hl x (by simp))) (fun u hu => hl u (by simp [hu])) (by omega)
        simp only [List.foldl_cons]
        exact ⟨i1, by rw [i2, e2, grL_cons]; omega, by rw [i3, e1]; simp only [posnL]; omega⟩
    obtain ⟨k1, k2, k3⟩ := key ts t (n1 t (by simp)) (fun u hu => n1 u (by simp [hu])) (by simp only [posnL] at hp; omega)
    have hs := foldl_size ts t
    rw [grL_cons] at n2
    simp only [posnL] at hp
    simp only [sizeL, List.length_cons] at m1 m2
    exact ⟨k1, by omega, by rw [k2]; omega, by rw [k3]; exact hp⟩
theorem MadeOk.fine {t : Nd} (h : MadeOk t) : Fine t := ⟨h.nice, by have := h.size; omega⟩
end Nd
end Go.Proofs.Yteenegaadlhjdaa
namespace Go.Proofs.Yteenegaadlhjdaa
namespace Nd
theorem same_self (t : Nd) : t.same t = true := (same_iff t t).2 rfl
theorem Same_self {t : Nd} (h : t.light = true) : (t.light && t.light && t.same t) = true := by rw [h, same_self]; rfl
theorem bounds_iff (mn mx : Int) : bounds mn mx = true ↔ (0 ≤ mn ∧ mn ≤ 16) ∧ ¬ (mn = 1 ∧ mx = 1) ∧ (mx = -1 ∨ (1 ≤ mx ∧ mx ≤ 16 ∧ mn ≤ mx)) := by
  simp only [bounds, Bool.and_eq_true, Bool.or_eq_true, Bool.not_eq_true', decide_eq_true_eq, beq_iff_eq]
  rw [Bool.eq_false_iff]
  simp only [ne_eq, Bool.and_eq_true, beq_iff_eq]
  omega
theorem Fine.kind0 {t : Nd} (h : Fine t) : (t.kind == 0) = false := by rw [beq_eq_false_iff_ne]; have := h.kind; omega
theorem times_empty {t : Nd} {mn mx : Int} (h : Fine t) (hb : 0 ≤ mn ∧ mn ≤ 16 ∧ (mx = -1 ∨ mn ≤ mx ∧ mx ≤ 16)) (hk : t.kind = 1 ∨ mx = 0) : Nd.times t mn mx = Nd.empty := by
  unfold Nd.times
  dsimp only
  rw [h.good, h.kind0]
  by_cases h0 : mx = 0
  · have hm : mn = 0 := by omega
    subst h0; subst hm; rfl
  · have h1 : ((mn == 0) && (mx == 0)) = false := by rw [Bool.eq_false_iff]; simp only [ne_eq, Bool.and_eq_true, beq_iff_eq]; omega
    have hk1 : (t.kind == 1) = true := by rw [beq_iff_eq]; omega
    rw [h1, hk1]
    by_cases h11 : mn = 1 ∧ mx = 1
    · obtain ⟨rfl, rfl⟩ := h11; rfl
    · have h2 : ((mn == 1) && (mx == 1)) = false := by rw [Bool.eq_false_iff]; simp only [ne_eq, Bool.and_eq_true, beq_iff_eq]; exact h11
      have h3 : bounds mn mx = true := (bounds_iff _ _).2 (by omega)
      rw [h2, h3]; rfl
theorem times_rep {t : Nd} {mn mx : Int} (h : Fine t) (hb : 0 ≤ mn ∧ mn ≤ 16 ∧ (mx = -1 ∨ mn ≤ mx ∧ mx ≤ 16)) (hk : t.kind ≠ 1) (h0 : mx ≠ 0) (h11 : ¬ (mn = 1 ∧ mx = 1)) : Nd.times t mn mx = mk 5 zero mn mx [t] := by
  have h1 : ((mn == 0) && (mx == 0)) = false := by rw [Bool.eq_false_iff]; simp only [ne_eq, Bool.and_eq_true, beq_iff_eq]; omega
  have h2 : ((mn == 1) && (mx == 1)) = false := by rw [Bool.eq_false_iff]; simp only [ne_eq, Bool.and_eq_true, beq_iff_eq]; exact h11
  have h3 : bounds mn mx = true := (bounds_iff _ _).2 (by omega)
  have hk1 : (t.kind == 1) = false := by rw [beq_eq_false_iff_ne]; exact hk
  have hc : (mk 5 zero mn mx [t]).clean = true := (clean_iff _).2 ⟨by have := h.2; simp [size_mk, sizeL]; omega, rep_nice h.1 hk h3⟩
  unfold Nd.times
  dsimp only
  rw [h.good, h.kind0, h1, h2, h3, hk1]
  exact checked_clean hc
section together
variable {a b c : Nd}
theorem flat3 (kd wo : Int) (a b c : Nd) : flat kd wo [a, b, c] = Nd.flat1 kd wo a ++ (Nd.flat1 kd wo b ++ Nd.flat1 kd wo c) := by simp [flat]
def Small3 (t : Nd) : Prop := t.nice = true ∧ t.size ≤ 300
theorem Small3.fine (h : Small3 a) : Fine a := ⟨h.1, by have := h.2; omega⟩
theorem MadeOk.small (h : MadeOk a) : Small3 a := ⟨h.nice, by have := h.size; omega⟩
end together
end Nd
end Go.Proofs.Yteenegaadlhjdaa
namespace Go.Proofs.Yteenegaadlhjdaa
namespace Nd
def orC (a b : Int) : Int := if a ≠ 0 then a else b
theorem orC_pos {a b : Int} (h : a ≠ 0) : orC a b = a := by unfold orC; rw [if_pos h]
theorem orC_z {a b : Int} (h : a = 0) : orC a b = b := by unfold orC; rw [if_neg (fun q => q h)]
theorem orC_pick {k : Nat} {x y : Int} (hk : k < 2) (h0 : ∀ j, j < k → pick2 j x y = 0) (hne : pick2 k x y ≠ 0) : pick2 k x y = orC x y := by
  have e : k = 0 ∨ k = 1 := by omega
  rcases e with rfl | rfl
  · exact (orC_pos hne).symm
  · have := h0 0 (by omega)
    exact (orC_z this).symm
theorem orC_zero {x y : Int} (h0 : ∀ j, j < 2 → pick2 j x y = 0) : 0 = orC x y := by
  have h1 : x = 0 := h0 0 (by omega)
  have h2 : y = 0 := h0 1 (by omega)
  subst h1; subst h2; rfl
mutual
def cmpN : Nd → Nd → Int
  | mk k s mn mx ts, mk k' s' mn' mx' ts' =>
    if k ≠ k' then cmpI k k' else if k = 2 then cmpS s s' else
    if k = 5 then orC (orC (cmpI mn mn') (cmpI (mostI (mk k s mn mx ts)) (mostI (mk k' s' mn' mx' ts')))) (cmpNL ts ts') else if k = 0 ∨ k = 1 then 0 else cmpNL ts ts'
def cmpNL : List Nd → List Nd → Int
  | [], [] => 0
  | [], _ :: _ => -1
  | _ :: _, [] => 1
  | x :: xs, y :: ys => if cmpN x y ≠ 0 then cmpN x y else cmpNL xs ys
end
theorem cmpNL_eq (a b : List Nd) : cmpNL a b = cmpL cmpN a b := by
  induction a generalizing b with
  | nil => cases b <;> simp [cmpNL, cmpL]
  | cons x a ih => cases b <;> simp [cmpNL, cmpL, ih]
theorem cmpN_eq (a b : Nd) : cmpN a b = if a.kind ≠ b.kind then cmpI a.kind b.kind else if a.kind = 2 then cmpS a.set b.set else
    if a.kind = 5 then orC (orC (cmpI a.least b.least) (cmpI (mostI a) (mostI b))) (cmpL cmpN a.subs b.subs) else if a.kind = 0 ∨ a.kind = 1 then 0 else cmpL cmpN a.subs b.subs := by
  cases a; cases b
  rw [cmpN, cmpNL_eq]; rfl
def sok (t : Nd) : Bool := t.pre.all fun x => decide (SOk x.set)
theorem sok_eq (t : Nd) : t.sok = (decide (SOk t.set) && t.subs.all sok) := by
  cases t with
  | mk k s mn mx ts => simp only [sok, pre, List.all_cons, preL_all, subs]; rfl
theorem sok_set {t : Nd} (h : t.sok = true) : SOk t.set := by rw [sok_eq] at h; simp at h; exact h.1
theorem sok_subs {t u : Nd} (h : t.sok = true) (hu : u ∈ t.subs) : u.sok = true := by rw [sok_eq] at h; simp at h; exact h.2 u hu
theorem sok_mk {t : Nd} (h : SOk t.set) (hs : ∀ u ∈ t.subs, u.sok = true) : t.sok = true := by rw [sok_eq]; simpa using ⟨h, hs⟩
theorem sok_zero : SOk zero := by decide
theorem orC_assoc (a b c : Int) : orC (orC a b) c = orC a (orC b c) := by
  unfold orC
  by_cases h : a = 0
  · subst h; simp
  · simp [h]
theorem orC_ord {α β : Type} {P : α → Prop} {Q : β → Prop} {c1 : α → α → Int} {c2 : β → β → Int} (h1 : Ord3 P c1) (h2 : Ord3 Q c2) : Ord3 (fun x : α × β => P x.1 ∧ Q x.2) (fun x y => orC (c1 x.1 y.1) (c2 x.2 y.2)) := by
  refine ⟨fun a b ha hb => ?_, fun a b ha hb => ?_, fun a b ha hb => ?_, fun a b c ha hb hc q1 q2 => ?_⟩
  · unfold orC; split
    · exact h1.bd _ _ ha.1 hb.1
    · exact h2.bd _ _ ha.2 hb.2
  · have e1 := h1.eq _ _ ha.1 hb.1
    have e2 := h2.eq _ _ ha.2 hb.2
    unfold orC
    split
    · rename_i hne
      constructor
      · intro h; exact absurd h hne
      · rintro rfl; exact absurd (e1.2 rfl) hne
    · rename_i hne
      have h0 : c1 a.1 b.1 = 0 := Classical.byContradiction hne
      rw [e2]
      constructor
      · intro h; exact Prod.ext (e1.1 h0) h
      · rintro rfl; rfl
  · have e1 := h1.anti _ _ ha.1 hb.1
    have e2 := h2.anti _ _ ha.2 hb.2
    unfold orC
    by_cases h0 : c1 a.1 b.1 = 0
    · rw [if_neg (fun h => h (by omega)), if_neg (fun h => h h0)]; exact e2
    · rw [if_pos (by omega), if_pos h0]; exact e1
  · have e1 := h1.eq _ _ ha.1 hb.1
    have e2 := h1.eq _ _ hb.1 hc.1
    unfold orC at q1 q2 ⊢
    by_cases h0 : c1 a.1 b.1 = 0
    · rw [if_neg (fun h => h h0)] at q1
      rw [e1.1 h0]
      by_cases h3 : c1 b.1 c.1 = 0
      · rw [if_neg (fun h => h h3)] at q2 ⊢
        exact h2.trans _ _ _ ha.2 hb.2 hc.2 q1 q2
      · rw [if_pos h3] at q2 ⊢; exact q2
    · rw [if_pos h0] at q1
      by_cases h3 : c1 b.1 c.1 = 0
      · rw [← e2.1 h3, if_pos h0]; exact q1
      · rw [if_pos h3] at q2
        have q3 := h1.trans _ _ _ ha.1 hb.1 hc.1 q1 q2
        by_cases h4 : c1 a.1 c.1 = 0
        · have := h1.lt ha.1 hb.1 hc.1 q1 q2 h4; exact absurd this.1 h0
        · rw [if_pos h4]; exact q3
theorem Ord3.pull {α β : Type} {P : α → Prop} {Q : β → Prop} {c : β → β → Int} {cmp : α → α → Int} (h : Ord3 Q c) (f : α → β) (hP : ∀ a, P a → Q (f a)) (hinj : ∀ a b, P a → P b → f a = f b → a = b)
    (hc : ∀ a b, P a → P b → cmp a b = c (f a) (f b)) : Ord3 P cmp := by
  refine ⟨fun a b ha hb => ?_, fun a b ha hb => ?_, fun a b ha hb => ?_, fun a b d ha hb hd q1 q2 => ?_⟩
  · rw [hc a b ha hb]; exact h.bd _ _ (hP a ha) (hP b hb)
  · rw [hc a b ha hb, h.eq _ _ (hP a ha) (hP b hb)]
    exact ⟨hinj a b ha hb, fun e => by rw [e]⟩
  · rw [hc a b ha hb, hc b a hb ha]; exact h.anti _ _ (hP a ha) (hP b hb)
  · rw [hc a b ha hb] at q1; rw [hc b d hb hd] at q2; rw [hc a d ha hd]
    exact h.trans _ _ _ (hP a ha) (hP b hb) (hP d hd) q1 q2
def Ok2 (t : Nd) : Prop := t.nice = true ∧ t.sok = true
theorem Ok2.subs {t u : Nd} (h : Ok2 t) (hu : u ∈ t.subs) : Ok2 u := ⟨nice_subs h.1 hu, sok_subs h.2 hu⟩
theorem right_cases {t : Nd} (h : t.right = true) : (t.kind ≠ 2 → t.set = zero) ∧ (t.kind ≠ 5 → t.least = 0 ∧ t.most = 0) ∧ (t.kind < 3 → t.subs = []) ∧ (t.kind = 5 → bounds t.least t.most = true) := by
  obtain ⟨k, s, mn, mx, ts⟩ := t
  simp only [right, kind, set, least, most, subs, Bool.and_eq_true, Bool.not_eq_true', Bool.or_eq_false_iff, Bool.and_eq_false_iff] at h ⊢
  obtain ⟨⟨⟨h1, h2⟩, h3⟩, h4⟩ := h
  refine ⟨fun hk => ?_, fun hk => ?_, fun hk => ?_, fun hk => ?_⟩
  · rcases h1 with h1 | h1
    · exact absurd (by simpa using h1) hk
    · simpa using h1
  · rcases h2 with h2 | h2
    · exact absurd (by simpa using h2) hk
    · simpa using h2
  · rcases h3 with h3 | h3
    · have := of_decide_eq_false h3; omega
    · have := of_decide_eq_false h3
      exact List.eq_nil_of_length_eq_zero (by omega)
  · subst hk
    simp at h4
    exact h4.1.2
abbrev Key := Int × S4 × Int × Int × List Nd
def key (t : Nd) : Key := (t.kind, t.set, t.least, mostI t, t.subs)
theorem mostI_inj {a b : Nd} (ha : a.right = true) (hb : b.right = true) (h : mostI a = mostI b) : a.most = b.most := by
  have key : ∀ t : Nd, t.right = true → t.most = -1 ∨ (0 ≤ t.most ∧ t.most ≤ 16) := by
    intro t ht
    by_cases hk : t.kind = 5
    · have := (bounds_iff _ _).1 ((right_cases ht).2.2.2 hk); omega
    · have := ((right_cases ht).2.1 hk).2; omega
  have h1 := key a ha
  have h2 := key b hb
  unfold mostI at h
  split at h <;> split at h <;> omega
theorem cmpN_ord : Ord3 Ok2 cmpN := by
  have main : ∀ n : Nat, Ord3 (fun t => Ok2 t ∧ t.size ≤ n) cmpN := by
    intro n
    induction n with
    | zero =>
      have no : ∀ a : Nd, ¬ (Ok2 a ∧ a.size ≤ 0) := fun a h => by have := size_pos a; omega
      exact ⟨fun a _ h _ => absurd h (no a), fun a _ h _ => absurd h (no a), fun a _ h _ => absurd h (no a), fun a _ _ h _ _ => absurd h (no a)⟩
    | succ n ih =>
      have hl := cmpL_ord ih
      have h5 := orC_ord cmpI_ord (orC_ord cmpS_ord (orC_ord cmpI_ord (orC_ord cmpI_ord hl)))
      refine Ord3.pull (β := Key) (Q := fun x => True ∧ SOk x.2.1 ∧ True ∧ True ∧ ∀ t ∈ x.2.2.2.2, Ok2 t ∧ t.size ≤ n) h5 key (fun a ha => ?_) (fun a b ha hb he => ?_) (fun a b ha hb => ?_)
      · refine ⟨trivial, sok_set ha.1.2, trivial, trivial, fun u hu => ⟨ha.1.subs hu, ?_⟩⟩
        have h1 := size_subs a
        have h2 := size_le_sizeL (show u ∈ a.subs from hu)
        have h3 := ha.2
        omega
      · have hm := mostI_inj (nice_right ha.1.1) (nice_right hb.1.1) (by have := congrArg (fun x : Key => x.2.2.2.1) he; exact this)
        have e1 : a.kind = b.kind := congrArg (fun x : Key => x.1) he
        have e2 : a.set = b.set := congrArg (fun x : Key => x.2.1) he
        have e3 : a.least = b.least := congrArg (fun x : Key => x.2.2.1) he
        have e4 : a.subs = b.subs := congrArg (fun x : Key => x.2.2.2.2) he
        cases a; cases b
        simp only [kind, set, least, most, subs] at *
        subst e1; subst e2; subst e3; subst e4; subst hm; rfl
      · have ra := right_cases (nice_right ha.1.1)
        have rb := right_cases (nice_right hb.1.1)
        rw [cmpN_eq]
        show _ = orC (cmpI a.kind b.kind) (orC (cmpS a.set b.set) (orC (cmpI a.least b.least) (orC (cmpI (mostI a) (mostI b)) (cmpL cmpN a.subs b.subs))))
        have ki := (cmpI_ord).eq a.kind b.kind trivial trivial
        have cmp0 : ∀ x : Int, cmpI x x = 0 := fun x => ((cmpI_ord).eq x x trivial trivial).2 rfl
        have orC0 : ∀ x : Int, orC 0 x = x := fun x => by simp [orC]
        by_cases hk : a.kind = b.kind
        · rw [if_neg (fun h => h hk), hk, cmp0, orC0]
          by_cases k2 : b.kind = 2
          · rw [if_pos k2]
            have s1 := ra.2.2.1 (by omega)
            have s2 := rb.2.2.1 (by omega)
            have l1 := ra.2.1 (by omega)
            have l2 := rb.2.1 (by omega)
            have m1 : mostI a = mostI b := by unfold mostI; rw [l1.2, l2.2]
            rw [s1, s2, l1.1, l2.1, m1, cmp0, cmp0, orC0, orC0]
            simp only [cmpL]
            unfold orC; split <;> simp_all
          · rw [if_neg k2]
            have z1 := ra.1 (by omega)
            have z2 := rb.1 k2
            have cz : cmpS zero zero = 0 := ((cmpS_ord).eq zero zero sok_zero sok_zero).2 rfl
            rw [z1, z2, cz, orC0]
            by_cases k5 : b.kind = 5
            · rw [if_pos k5, orC_assoc]
            · rw [if_neg k5]
              have l1 := ra.2.1 (by omega)
              have l2 := rb.2.1 k5
              have m1 : mostI a = mostI b := by unfold mostI; rw [l1.2, l2.2]
              rw [l1.1, l2.1, m1, cmp0, cmp0, orC0, orC0]
              by_cases k0 : b.kind = 0 ∨ b.kind = 1
              · rw [if_pos k0, ra.2.2.1 (by omega), rb.2.2.1 (by omega)]; rfl
              · rw [if_neg k0]
        · rw [if_pos hk]
          have : cmpI a.kind b.kind ≠ 0 := fun h => hk (ki.1 h)
          unfold orC; rw [if_pos this]
  refine ⟨fun a b ha hb => ?_, fun a b ha hb => ?_, fun a b ha hb => ?_, fun a b c ha hb hc => ?_⟩
  · exact (main (max a.size b.size)).bd a b ⟨ha, by omega⟩ ⟨hb, by omega⟩
  · exact (main (max a.size b.size)).eq a b ⟨ha, by omega⟩ ⟨hb, by omega⟩
  · exact (main (max a.size b.size)).anti a b ⟨ha, by omega⟩ ⟨hb, by omega⟩
  · exact (main (max a.size (max b.size c.size))).trans a b c ⟨ha, by omega⟩ ⟨hb, by omega⟩ ⟨hc, by omega⟩
def compare (a b : Nd) : Int := if a.light && b.light then cmpN a b else 0
end Nd
end Go.Proofs.Yteenegaadlhjdaa
namespace Go.Proofs.Yteenegaadlhjdaa
namespace Nd
theorem right_five {t : Nd} (h : t.right = true) (hk : t.kind = 5) : t.subs.length = 1 ∧ bounds t.least t.most = true ∧ t.has 1 = false := by
  obtain ⟨k, s, mn, mx, ts⟩ := t
  simp only [kind] at hk
  subst hk
  simp only [right, kind, set, least, most, subs] at h ⊢
  simp at h
  exact ⟨by have := h.2.1.1; omega, h.2.1.2, h.2.2⟩
def plain (t : Nd) : Bool := t.pre.all fun x => x.kind != 6
theorem plain_eq (t : Nd) : t.plain = ((t.kind != 6) && !t.subs.any fun x => !x.plain) := by
  cases t with
  | mk k s mn mx ts =>
    simp only [plain, pre, List.all_cons, preL_all, subs, kind]
    congr 1
    rw [Bool.eq_iff_iff]; simp
mutual
def nullable : Nd → Bool
  | mk k _ mn _ ts => bif k == 1 then true else bif k == 2 then false else bif k == 4 then anyN ts else bif k == 5 then (mn == 0) || headN ts else allN ts
def anyN : List Nd → Bool
  | [] => false
  | t :: ts => t.nullable || anyN ts
def allN : List Nd → Bool
  | [] => true
  | t :: ts => t.nullable && allN ts
def headN : List Nd → Bool
  | [] => false
  | t :: _ => t.nullable
end
theorem anyN_eq (ts : List Nd) : anyN ts = ts.any nullable := by
  induction ts with
  | nil => rfl
  | cons x l ih => simp [anyN, ih]
theorem allN_eq (ts : List Nd) : allN ts = !ts.any fun x => !x.nullable := by
  induction ts with
  | nil => rfl
  | cons x l ih => simp [allN, ih]
theorem headN_at {ts : List Nd} {t : Nd} (h : ts[0]? = some t) : headN ts = t.nullable := by
  cases ts with
  | nil => simp at h
  | cons x l => simp at h; subst h; rfl
theorem nullable_eq (t : Nd) : t.nullable = bif t.kind == 1 then true else bif t.kind == 2 then false else bif t.kind == 4 then t.subs.any nullable else bif t.kind == 5 then (t.least == 0) || headN t.subs else !t.subs.any fun x => !x.nullable := by
  cases t
  rw [nullable, anyN_eq, allN_eq]; rfl
abbrev Bd := Int × Int
def opt : Bd := (0, 1)
def star : Bd := (0, -1)
def plus : Bd := (1, -1)
def bof (t : Nd) : Bd := (t.least, t.most)
def simple (b : Bd) : Bool := (b == opt) || (b == star) || (b == plus)
def sub0 (t : Nd) : Nd := t.subs[0]?.getD none
theorem sub0_at {t u : Nd} (h : t.subs[0]? = some u) : sub0 t = u := by unfold sub0; rw [h]; rfl
def timesB (t : Nd) (b : Bd) : Nd := times t b.1 b.2
def timesN (x : Nd) (b : Bd) : Nd :=
  bif ((timesB x b).kind != 5) || !x.plain then timesB x b
  else bif (b == opt) && x.nullable then x
  else bif ((x.kind == 5) && simple b) && simple (bof x) then timesB (sub0 x) (bif (b != bof x) || (b == star) then star else b)
  else bif (b == plus) && x.nullable then times x 0 (-1)
  else timesB x b
def Same2 (a b : Nd) : Bool := a.light && b.light && a.same b
def isStar (n f : Nd) : Bool := ((n.kind == 5) && (bof n == star)) && Same2 (sub0 n) f
def merged (x y : Nd) : Option Nd :=
  bif !x.plain || !y.plain then .none
  else bif isStar y x then some (timesN x plus)
  else bif isStar x y then some (timesN y plus)
  else bif (Same2 x y && (x.kind == 5)) && (bof x == star) then some x
  else .none
end Nd
end Go.Proofs.Yteenegaadlhjdaa
namespace Go.Proofs.Yteenegaadlhjdaa
open Go.RowKit
abbrev bcells (b : Nd.Bd) : List Value := [.int .i64 b.1, .int .i64 b.2]
def isI64 (P : Program) (t : TypeId) : Bool := match P.underlying t with | some (.int .i64) => true | _ => false
def pairFs (P : Program) : List Field → Bool
  | [f, g] => f.name != "_" && f.offset == 0 && isI64 P f.type && g.name != "_" && g.offset == 1 && isI64 P g.type
  | _ => false
def pairB (P : Program) (t : TypeId) : Bool := (match P.underlying t with | some (.struct _) => true | _ => false) && pairFs P (P.fieldsOf t).toList && !P.stoodInHeld t
theorem isI64_u {P : Program} {t : TypeId} (h : isI64 P t = true) : P.underlying t = some (.int .i64) := by
  unfold isI64 at h
  split at h
  · assumption
  · cases h
section
variable {ro : Option Nat} {P : Program} {all : Array Oper} {Q : Exit → Act → World → Prop} {N : Nat} {ds : List Deferred} {r : Reg} {w : World} {rest : List Oper}
  {ty : TypeId} {pos : String} {aft : Array Edge} {g : Option (Nat × Bool)}
theorem run_equal_pair {t : TypeId} (d : Nat) (ht : pairB P t = true) (b c : Nd.Bd) :
    (Op.equalIn (d + 2) t (.agg (bcells b).toArray) (.agg (bcells c).toArray)).run P w = .ok (b == c) w := by
  unfold pairB at ht
  simp only [Bool.and_eq_true, Bool.not_eq_true'] at ht
  obtain ⟨⟨h1, h2⟩, h3⟩ := ht
  have hu : P.underlying t = some (.struct (P.fieldsOf t)) := by
    unfold Program.fieldsOf
    split at h1
    · rename_i fs he; rw [he]
    · cases h1
  rw [run_equalIn_struct w (d + 1) t _ _ hu h3]
  generalize (P.fieldsOf t).toList = fs at h2
  match fs, h2 with
  | [f, g], h2 =>
    simp only [pairFs, Bool.and_eq_true, bne_iff_ne, ne_eq, beq_iff_eq] at h2
    obtain ⟨⟨⟨⟨⟨n1, o1⟩, i1⟩, n2⟩, o2⟩, i2⟩ := h2
    have u1 := isI64_u i1
    have u2 := isI64_u i2
    have a1 : (isAgg f.type).run P w = .ok false w := by unfold isAgg; rw [Sem.run_bind, run_underlying u1 w]; rfl
    have a2 : (isAgg g.type).run P w = .ok false w := by unfold isAgg; rw [Sem.run_bind, run_underlying u2 w]; rfl
    have p1 : ∀ x : Nd.Bd, (part f.type (bcells x).toArray f.offset).run P w = .ok (.int .i64 x.1) w := fun x => by rw [o1]; simp [part, a1]
    have p2 : ∀ x : Nd.Bd, (part g.type (bcells x).toArray g.offset).run P w = .ok (.int .i64 x.2) w := fun x => by rw [o2]; simp [part, a2]
    have e1 : ∀ x y : Int, (Op.equalIn (d + 1) f.type (.int .i64 x) (.int .i64 y)).run P w = .ok (x == y) w := fun x y => run_equalIn_int w d f.type .i64 .i64 x y u1
    have e2 : ∀ x y : Int, (Op.equalIn (d + 1) g.type (.int .i64 x) (.int .i64 y)).run P w = .ok (x == y) w := fun x y => run_equalIn_int w d g.type .i64 .i64 x y u2
    simp only [Op.eqFields, if_pos n1, if_pos n2, Sem.run_bind, p1, p2, e1, e2, Result.andThen_ok]
    obtain ⟨b1, b2⟩ := b
    obtain ⟨c1, c2⟩ := c
    by_cases q1 : b1 = c1
    · by_cases q2 : b2 = c2
      · subst q1; subst q2; simp [p2, e2]
      · subst q1; simp [p2, e2, q2]
    · simp [q1]
theorem bodyPost_celltmp {fn : Func} {R : Ending → World → Prop} {t u : Nat} {ct t' : TypeId} {b : Nat} {l : List Value} {x : Value} {a : Act} (hres : fn.results = #[.cell t ct, .tmp u]) (h : Fits N [] r a) (hl : look r t = some (.pointer (some ⟨b, 0, none⟩))) (hl2 : look r u = some x)
    (ht : aggB P ct l.length = true) (hr : Row w b l t') (hR : R (.returned (.tuple #[.agg l.toArray, x])) w) : bodyPost P fn R .ret a w :=
  ⟨h.defers, _, by simp [results, hres, h.get _ _ hl, h.get _ _ hl2, asAddr, run_loadVar_agg ht hr.reads0], hR⟩
theorem WL.paireql {d : Nat} {t t2 : TypeId} {x y : Operand} {p q : Nd.Bd} {b : Bool} (hw : want all r g = some true) (hd : Nat.blt d N = true) (ht : pairB P t = true) (hg : P.eqGuardType P.depth t = false)
    (hx : ev r x = some (.agg (bcells p).toArray)) (hy : ev r y = some (.agg (bcells q).toArray)) (hb : (p == q) = b)
    (next : WL ro P all Q N ds rest ((d, .bool b) :: r) w) : WL ro P all Q N ds (⟨some d, .binOp .eql t x y t2, ty, pos, aft, g⟩ :: rest) r w := by
  refine WL.val hw hd (by intro c h; cases h) (fun a ha => ?_) next
  simp only [execOp, ha.ev hx, ha.ev hy, Sem.run_bind, run_eqGuard_agg w _ _ _ _ _ _ hg, Result.andThen_ok, run_eql_struct]
  rw [run_equal_pair 9998 ht p q, hb]; rfl
theorem WL.pairneq {d : Nat} {t t2 : TypeId} {x y : Operand} {p q : Nd.Bd} {b : Bool} (hw : want all r g = some true) (hd : Nat.blt d N = true) (ht : pairB P t = true) (hg : P.eqGuardType P.depth t = false)
    (hx : ev r x = some (.agg (bcells p).toArray)) (hy : ev r y = some (.agg (bcells q).toArray)) (hb : (p != q) = b)
    (next : WL ro P all Q N ds rest ((d, .bool b) :: r) w) : WL ro P all Q N ds (⟨some d, .binOp .neq t x y t2, ty, pos, aft, g⟩ :: rest) r w := by
  refine WL.val hw hd (by intro c h; cases h) (fun a ha => ?_) next
  simp only [execOp, ha.ev hx, ha.ev hy, Sem.run_bind, run_eqGuard_agg w _ _ _ _ _ _ hg, Result.andThen_ok, run_neq_struct]
  rw [run_equal_pair 9998 ht p q, ← hb]; rfl
end
end Go.Proofs.Yteenegaadlhjdaa
namespace Go.Proofs.Yteenegaadlhjdaa
open Go.Proofs Go.RowKit
set_option maxRecDepth 20000 in
set_option maxHeartbeats 4000000 in
theorem opt_ok (w : World) :
  Calls Try.prog 52 #[] w fun e w' => e = .returned (.agg (bcells Nd.opt).toArray) ∧ Ext w w' := by
 refine Calls.enter (args := []) Try.func52 rfl rfl rfl rfl ?_
 refine sq ?_
 refine WL.alloc rfl rfl Ty.zero62 rfl (fun b1 w6 hb2 hE5 hs3 hR4 => ?_)
 refine WL.dn ?_
 refine sq ?_
 refine WL.build (l := [.int .i64 0, .int .i64 1]) rfl rfl Ty.zero62 Ty.st62 ⟨⟨rfl, rfl⟩, (by kernel_rfl)⟩ ?_
 refine WL.store_box rfl rfl rfl hR4 Ty.agg62 rfl rfl (fun w9 hB8 hR7 => ?_)
 have hzhB8 := hB8.size
 refine WL.dn ?_
 refine WC.ret (fun a_ ha => ?_)
 exact bodyPost_cell (l := [.int .i64 0, .int .i64 1]) rfl ha rfl Ty.agg62 hR7 ⟨rfl, (hB8.onto hE5 (by omega))⟩
set_option maxRecDepth 20000 in
set_option maxHeartbeats 4000000 in
theorem star_ok (w : World) :
  Calls Try.prog 54 #[] w fun e w' => e = .returned (.agg (bcells Nd.star).toArray) ∧ Ext w w' := by
 refine Calls.enter (args := []) Try.func54 rfl rfl rfl rfl ?_
 refine sq ?_
 refine WL.alloc rfl rfl Ty.zero62 rfl (fun b1 w6 hb2 hE5 hs3 hR4 => ?_)
 refine WL.dn ?_
 refine sq ?_
 refine WL.build (l := [.int .i64 0, .int .i64 (-1)]) rfl rfl Ty.zero62 Ty.st62 ⟨⟨rfl, rfl⟩, (by kernel_rfl)⟩ ?_
 refine WL.store_box rfl rfl rfl hR4 Ty.agg62 rfl rfl (fun w9 hB8 hR7 => ?_)
 have hzhB8 := hB8.size
 refine WL.dn ?_
 refine WC.ret (fun a_ ha => ?_)
 exact bodyPost_cell (l := [.int .i64 0, .int .i64 (-1)]) rfl ha rfl Ty.agg62 hR7 ⟨rfl, (hB8.onto hE5 (by omega))⟩
set_option maxRecDepth 20000 in
set_option maxHeartbeats 4000000 in
theorem plus_ok (w : World) :
  Calls Try.prog 55 #[] w fun e w' => e = .returned (.agg (bcells Nd.plus).toArray) ∧ Ext w w' := by
 refine Calls.enter (args := []) Try.func55 rfl rfl rfl rfl ?_
 refine sq ?_
 refine WL.alloc rfl rfl Ty.zero62 rfl (fun b1 w6 hb2 hE5 hs3 hR4 => ?_)
 refine WL.dn ?_
 refine sq ?_
 refine WL.build (l := [.int .i64 1, .int .i64 (-1)]) rfl rfl Ty.zero62 Ty.st62 ⟨⟨rfl, rfl⟩, (by kernel_rfl)⟩ ?_
 refine WL.store_box rfl rfl rfl hR4 Ty.agg62 rfl rfl (fun w9 hB8 hR7 => ?_)
 have hzhB8 := hB8.size
 refine WL.dn ?_
 refine WC.ret (fun a_ ha => ?_)
 exact bodyPost_cell (l := [.int .i64 1, .int .i64 (-1)]) rfl ha rfl Ty.agg62 hR7 ⟨rfl, (hB8.onto hE5 (by omega))⟩
set_option maxRecDepth 20000 in
set_option maxHeartbeats 4000000 in
theorem bof_ok (D : Nat → Prop) (w : World) (l : List Value) (T : Nd) (hT : NodeL D w l T) :
  Calls Try.prog 43 #[.agg l.toArray] w fun e w' => e = .returned (.agg (bcells (Nd.bof T)).toArray) ∧ Ext w w' := by
 have hT := hT.lt
 obtain ⟨a, cap, rfl, hts, hlen⟩ := hT.op2
 refine Calls.enter (args := [.agg (tcells T (.slice a T.subs.length cap)).toArray]) Try.func43 rfl rfl rfl rfl ?_
 refine sq ?_
 refine WL.box_agg rfl rfl rfl (fun b1 w6 hb2 hE5 hs3 hR4 => ?_)
 refine WL.alloc rfl rfl Ty.zero62 rfl (fun b7 w12 hb8 hE11 hs9 hR10 => ?_)
 refine WL.dn ?_
 refine sq ?_
 refine WL.fieldAddr rfl rfl Ty.fld30_2 rfl ?_
 refine WL.load_fld rfl rfl Ty.flat3 rfl (hR4.ext hE11) rfl ?_
 refine WL.fieldAddr rfl rfl Ty.fld30_3 rfl ?_
 refine WL.load_fld rfl rfl Ty.flat3 rfl (hR4.ext hE11) rfl ?_
 refine WL.build (l := [.int .i64 T.least, .int .i64 T.most]) rfl rfl Ty.zero62 Ty.st62 ⟨⟨rfl, rfl⟩, (by kernel_rfl)⟩ ?_
 refine WL.store_box rfl rfl rfl hR10 Ty.agg62 rfl rfl (fun w15 hB14 hR13 => ?_)
 have hzhB14 := hB14.size
 refine WL.dn ?_
 refine WC.ret (fun a_ ha => ?_)
 exact bodyPost_cell (l := [.int .i64 T.least, .int .i64 T.most]) rfl ha rfl Ty.agg62 hR13 ⟨rfl, (hB14.onto (hE5.trans hE11) (by omega))⟩
set_option maxRecDepth 20000 in
set_option maxHeartbeats 4000000 in
theorem simple_ok (w : World) (b : Nd.Bd) :
  Calls Try.prog 53 #[.agg #[.int .i64 b.1, .int .i64 b.2]] w fun e w' => e = .returned (.bool (Nd.simple b)) ∧ Ext w w' := by
 refine Calls.enter (args := [.agg #[.int .i64 b.1, .int .i64 b.2]]) Try.func53 rfl rfl rfl rfl ?_
 refine sq ?_
 refine WL.box_agg rfl rfl rfl (fun b1 w6 hb2 hE5 hs3 hR4 => ?_)
 refine asg ?_
 refine WL.dn ?_
 refine WC.seqk ?_
 cases hc7 : (b == Nd.opt) with
 | false =>
  cases hc8 : (b == Nd.star) with
  | false =>
   refine WC.weaken (r' := [(1, pt b1 0), (2, .bool false)]) (sr rfl (sr rfl (subReg_nil _))) ?_
   refine WC.draw 13 [3, 4, 5, 6, 7, 8, 9, 10, 11, 12, 13, 14, 15] [pc (.agg #[.int .i64 b.1, .int .i64 b.2]), pc (.agg #[.int .i64 Nd.opt.1, .int .i64 Nd.opt.2]), pc (.bool false), pc (.bool false), pc (.agg #[.int .i64 b.1, .int .i64 b.2]), pc (.agg #[.int .i64 Nd.star.1, .int .i64 Nd.star.2]), pc (.bool false), pc (.bool false), pc (.bool false), pc (.agg #[.int .i64 b.1, .int .i64 b.2]), pc (.agg #[.int .i64 Nd.plus.1, .int .i64 Nd.plus.2]), pc (.bool (b == Nd.plus)), pc (.bool (b == Nd.plus))] (by kernel_rfl) (by kernel_rfl) (k4 (k4 (k4 ⟨KW_pc _, trivial⟩))) rfl rfl rfl (sc4 ?_ ?_ ?_ ?_ (sc4 ?_ ?_ ?_ ?_ (sc4 ?_ ?_ ?_ ?_ (sc ?_ (StepsOn.nil _))))) ?_
   ·intro σ β w1 hE1 hbi hk
    refine ⟨[], (agree_nil _), ?_⟩
    refine WL.load_box rfl rfl rfl (hR4.ext hE1) Ty.agg62 ?_
    exact dq hbi rfl
   ·intro σ β w1 hE1 hbi hk
    refine ⟨[], (agree_nil _), ?_⟩
    refine WL.call rfl rfl rfl Ty.ent52 (opt_ok _) ?_
    rintro _ w30 ⟨rfl, hE29⟩
    refine ⟨_, rfl, ?_⟩
    exact dqE hbi hE29 rfl
   ·intro σ β w1 hE1 hbi hk
    refine ⟨[(3, .agg #[.int .i64 b.1, .int .i64 b.2]), (4, .agg #[.int .i64 Nd.opt.1, .int .i64 Nd.opt.2])], (ak hk 0 (ak hk 1 (agree_nil _))), ?_⟩
    refine WL.paireql (p := b) (q := Nd.opt) (b := false) rfl rfl (by kernel_rfl) (by kernel_rfl) rfl rfl hc7 ?_
    exact dq hbi rfl
   ·intro σ β w1 hE1 hbi hk
    refine ⟨[(5, .bool false)], (ak hk 2 (agree_nil _)), ?_⟩
    refine mv ?_
    exact dq hbi rfl
   ·intro σ β w1 hE1 hbi hk
    refine ⟨[(6, .bool false)], (ak hk 3 (agree_nil _)), ?_⟩
    refine WL.load_box rfl rfl rfl (hR4.ext hE1) Ty.agg62 ?_
    exact dq hbi rfl
   ·intro σ β w1 hE1 hbi hk
    refine ⟨[(6, .bool false)], (ak hk 3 (agree_nil _)), ?_⟩
    refine WL.call rfl rfl rfl Ty.ent54 (star_ok _) ?_
    rintro _ w31 ⟨rfl, hE30⟩
    refine ⟨_, rfl, ?_⟩
    exact dqE hbi hE30 rfl
   ·intro σ β w1 hE1 hbi hk
    refine ⟨[(6, .bool false), (7, .agg #[.int .i64 b.1, .int .i64 b.2]), (8, .agg #[.int .i64 Nd.star.1, .int .i64 Nd.star.2])], (ak hk 3 (ak hk 4 (ak hk 5 (agree_nil _)))), ?_⟩
    refine WL.paireql (p := b) (q := Nd.star) (b := false) rfl rfl (by kernel_rfl) (by kernel_rfl) rfl rfl hc8 ?_
    exact dq hbi rfl
   ·intro σ β w1 hE1 hbi hk
    refine ⟨[(6, .bool false), (9, .bool false)], (ak hk 3 (ak hk 6 (agree_nil _))), ?_⟩
    refine pF ?_
    exact dq hbi rfl
   ·intro σ β w1 hE1 hbi hk
    refine ⟨[(10, .bool false)], (ak hk 7 (agree_nil _)), ?_⟩
    refine mv ?_
    exact dq hbi rfl
   ·intro σ β w1 hE1 hbi hk
    refine ⟨[(11, .bool false)], (ak hk 8 (agree_nil _)), ?_⟩
    refine WL.load_box rfl rfl rfl (hR4.ext hE1) Ty.agg62 ?_
    exact dq hbi rfl
   ·intro σ β w1 hE1 hbi hk
    refine ⟨[(11, .bool false)], (ak hk 8 (agree_nil _)), ?_⟩
    refine WL.call rfl rfl rfl Ty.ent55 (plus_ok _) ?_
    rintro _ w31 ⟨rfl, hE30⟩
    refine ⟨_, rfl, ?_⟩
    exact dqE hbi hE30 rfl
   ·intro σ β w1 hE1 hbi hk
    refine ⟨[(11, .bool false), (12, .agg #[.int .i64 b.1, .int .i64 b.2]), (13, .agg #[.int .i64 Nd.plus.1, .int .i64 Nd.plus.2])], (ak hk 8 (ak hk 9 (ak hk 10 (agree_nil _)))), ?_⟩
    refine WL.paireql (p := b) (q := Nd.plus) rfl rfl (by kernel_rfl) (by kernel_rfl) rfl rfl rfl ?_
    exact dq hbi rfl
   ·intro σ β w1 hE1 hbi hk
    refine ⟨[(11, .bool false), (14, .bool (b == Nd.plus))], (ak hk 8 (ak hk 11 (agree_nil _))), ?_⟩
    refine pF ?_
    exact dq hbi rfl
   intro σ β w9 hE9 hbi9 hk
   have hz9 := hE9.size
   have hbi := hbi9
   refine WL.know [(15, .bool (b == Nd.plus))] (aj hk 12 (agree_nil _)) ?_
   refine asg ?_
   refine WL.dn ?_
   refine WC.ret (fun a_ ha => ?_)
   exact bodyPost_tmp rfl ha rfl ⟨(by congr 2; simp only [Nd.simple, hc7, hc8] <;> try simp), (hE5.trans hE9)⟩
  | true =>
   refine WC.weaken (r' := [(1, pt b1 0), (2, .bool false)]) (sr rfl (sr rfl (subReg_nil _))) ?_
   refine WC.draw 13 [3, 4, 5, 6, 7, 8, 9, 10, 11, 12, 13, 14, 15] [pc (.agg #[.int .i64 b.1, .int .i64 b.2]), pc (.agg #[.int .i64 Nd.opt.1, .int .i64 Nd.opt.2]), pc (.bool false), pc (.bool false), pc (.agg #[.int .i64 b.1, .int .i64 b.2]), pc (.agg #[.int .i64 Nd.star.1, .int .i64 Nd.star.2]), pc (.bool true), pc (.bool true), pc (.bool true), pc (undef), pc (undef), pc (undef), pc (.bool true)] (by kernel_rfl) (by kernel_rfl) (k4 (k4 (k4 ⟨KW_pc _, trivial⟩))) rfl rfl rfl (sc4 ?_ ?_ ?_ ?_ (sc4 ?_ ?_ ?_ ?_ (sc4 ?_ ?_ ?_ ?_ (sc ?_ (StepsOn.nil _))))) ?_
   ·intro σ β w1 hE1 hbi hk
    refine ⟨[], (agree_nil _), ?_⟩
    refine WL.load_box rfl rfl rfl (hR4.ext hE1) Ty.agg62 ?_
    exact dq hbi rfl
   ·intro σ β w1 hE1 hbi hk
    refine ⟨[], (agree_nil _), ?_⟩
    refine WL.call rfl rfl rfl Ty.ent52 (opt_ok _) ?_
    rintro _ w30 ⟨rfl, hE29⟩
    refine ⟨_, rfl, ?_⟩
    exact dqE hbi hE29 rfl
   ·intro σ β w1 hE1 hbi hk
    refine ⟨[(3, .agg #[.int .i64 b.1, .int .i64 b.2]), (4, .agg #[.int .i64 Nd.opt.1, .int .i64 Nd.opt.2])], (ak hk 0 (ak hk 1 (agree_nil _))), ?_⟩
    refine WL.paireql (p := b) (q := Nd.opt) (b := false) rfl rfl (by kernel_rfl) (by kernel_rfl) rfl rfl hc7 ?_
    exact dq hbi rfl
   ·intro σ β w1 hE1 hbi hk
    refine ⟨[(5, .bool false)], (ak hk 2 (agree_nil _)), ?_⟩
    refine mv ?_
    exact dq hbi rfl
   ·intro σ β w1 hE1 hbi hk
    refine ⟨[(6, .bool false)], (ak hk 3 (agree_nil _)), ?_⟩
    refine WL.load_box rfl rfl rfl (hR4.ext hE1) Ty.agg62 ?_
    exact dq hbi rfl
   ·intro σ β w1 hE1 hbi hk
    refine ⟨[(6, .bool false)], (ak hk 3 (agree_nil _)), ?_⟩
    refine WL.call rfl rfl rfl Ty.ent54 (star_ok _) ?_
    rintro _ w31 ⟨rfl, hE30⟩
    refine ⟨_, rfl, ?_⟩
    exact dqE hbi hE30 rfl
   ·intro σ β w1 hE1 hbi hk
    refine ⟨[(6, .bool false), (7, .agg #[.int .i64 b.1, .int .i64 b.2]), (8, .agg #[.int .i64 Nd.star.1, .int .i64 Nd.star.2])], (ak hk 3 (ak hk 4 (ak hk 5 (agree_nil _)))), ?_⟩
    refine WL.paireql (p := b) (q := Nd.star) (b := true) rfl rfl (by kernel_rfl) (by kernel_rfl) rfl rfl hc8 ?_
    exact dq hbi rfl
   ·intro σ β w1 hE1 hbi hk
    refine ⟨[(6, .bool false), (9, .bool true)], (ak hk 3 (ak hk 6 (agree_nil _))), ?_⟩
    refine pF ?_
    exact dq hbi rfl
   ·intro σ β w1 hE1 hbi hk
    refine ⟨[(10, .bool true)], (ak hk 7 (agree_nil _)), ?_⟩
    refine mv ?_
    exact dq hbi rfl
   ·intro σ β w1 hE1 hbi hk
    refine ⟨[(11, .bool true)], (ak hk 8 (agree_nil _)), ?_⟩
    refine ps ?_
    exact dq hbi rfl
   ·intro σ β w1 hE1 hbi hk
    refine ⟨[(11, .bool true)], (ak hk 8 (agree_nil _)), ?_⟩
    refine ps ?_
    exact dq hbi rfl
   ·intro σ β w1 hE1 hbi hk
    refine ⟨[(11, .bool true), (12, undef), (13, undef)], (ak hk 8 (ak hk 9 (ak hk 10 (agree_nil _)))), ?_⟩
    refine ps ?_
    exact dq hbi rfl
   ·intro σ β w1 hE1 hbi hk
    refine ⟨[(11, .bool true), (14, undef)], (ak hk 8 (ak hk 11 (agree_nil _))), ?_⟩
    refine pT ?_
    exact dq hbi rfl
   intro σ β w9 hE9 hbi9 hk
   have hz9 := hE9.size
   have hbi := hbi9
   refine WL.know [(15, .bool true)] (aj hk 12 (agree_nil _)) ?_
   refine asg ?_
   refine WL.dn ?_
   refine WC.ret (fun a_ ha => ?_)
   exact bodyPost_tmp rfl ha rfl ⟨(by congr 2; simp only [Nd.simple, hc7, hc8] <;> try simp), (hE5.trans hE9)⟩
 | true =>
  refine WC.weaken (r' := [(1, pt b1 0), (2, .bool false)]) (sr rfl (sr rfl (subReg_nil _))) ?_
  refine WC.draw 13 [3, 4, 5, 6, 7, 8, 9, 10, 11, 12, 13, 14, 15] [pc (.agg #[.int .i64 b.1, .int .i64 b.2]), pc (.agg #[.int .i64 Nd.opt.1, .int .i64 Nd.opt.2]), pc (.bool true), pc (.bool true), pc (undef), pc (undef), pc (undef), pc (.bool true), pc (.bool true), pc (undef), pc (undef), pc (undef), pc (.bool true)] (by kernel_rfl) (by kernel_rfl) (k4 (k4 (k4 ⟨KW_pc _, trivial⟩))) rfl rfl rfl (sc4 ?_ ?_ ?_ ?_ (sc4 ?_ ?_ ?_ ?_ (sc4 ?_ ?_ ?_ ?_ (sc ?_ (StepsOn.nil _))))) ?_
  ·intro σ β w1 hE1 hbi hk
   refine ⟨[], (agree_nil _), ?_⟩
   refine WL.load_box rfl rfl rfl (hR4.ext hE1) Ty.agg62 ?_
   exact dq hbi rfl
  ·intro σ β w1 hE1 hbi hk
   refine ⟨[], (agree_nil _), ?_⟩
   refine WL.call rfl rfl rfl Ty.ent52 (opt_ok _) ?_
   rintro _ w29 ⟨rfl, hE28⟩
   refine ⟨_, rfl, ?_⟩
   exact dqE hbi hE28 rfl
  ·intro σ β w1 hE1 hbi hk
   refine ⟨[(3, .agg #[.int .i64 b.1, .int .i64 b.2]), (4, .agg #[.int .i64 Nd.opt.1, .int .i64 Nd.opt.2])], (ak hk 0 (ak hk 1 (agree_nil _))), ?_⟩
   refine WL.paireql (p := b) (q := Nd.opt) (b := true) rfl rfl (by kernel_rfl) (by kernel_rfl) rfl rfl hc7 ?_
   exact dq hbi rfl
  ·intro σ β w1 hE1 hbi hk
   refine ⟨[(5, .bool true)], (ak hk 2 (agree_nil _)), ?_⟩
   refine mv ?_
   exact dq hbi rfl
  ·intro σ β w1 hE1 hbi hk
   refine ⟨[(6, .bool true)], (ak hk 3 (agree_nil _)), ?_⟩
   refine ps ?_
   exact dq hbi rfl
  ·intro σ β w1 hE1 hbi hk
   refine ⟨[(6, .bool true)], (ak hk 3 (agree_nil _)), ?_⟩
   refine ps ?_
   exact dq hbi rfl
  ·intro σ β w1 hE1 hbi hk
   refine ⟨[(6, .bool true), (7, undef), (8, undef)], (ak hk 3 (ak hk 4 (ak hk 5 (agree_nil _)))), ?_⟩
   refine ps ?_
   exact dq hbi rfl
  ·intro σ β w1 hE1 hbi hk
   refine ⟨[(6, .bool true), (9, undef)], (ak hk 3 (ak hk 6 (agree_nil _))), ?_⟩
   refine pT ?_
   exact dq hbi rfl
  ·intro σ β w1 hE1 hbi hk
   refine ⟨[(10, .bool true)], (ak hk 7 (agree_nil _)), ?_⟩
   refine mv ?_
   exact dq hbi rfl
  ·intro σ β w1 hE1 hbi hk
   refine ⟨[(11, .bool true)], (ak hk 8 (agree_nil _)), ?_⟩
   refine ps ?_
   exact dq hbi rfl
  ·intro σ β w1 hE1 hbi hk
   refine ⟨[(11, .bool true)], (ak hk 8 (agree_nil _)), ?_⟩
   refine ps ?_
   exact dq hbi rfl
  ·intro σ β w1 hE1 hbi hk
   refine ⟨[(11, .bool true), (12, undef), (13, undef)], (ak hk 8 (ak hk 9 (ak hk 10 (agree_nil _)))), ?_⟩
   refine ps ?_
   exact dq hbi rfl
  ·intro σ β w1 hE1 hbi hk
   refine ⟨[(11, .bool true), (14, undef)], (ak hk 8 (ak hk 11 (agree_nil _))), ?_⟩
   refine pT ?_
   exact dq hbi rfl
  intro σ β w8 hE8 hbi8 hk
  have hz8 := hE8.size
  have hbi := hbi8
  refine WL.know [(15, .bool true)] (aj hk 12 (agree_nil _)) ?_
  refine asg ?_
  refine WL.dn ?_
  refine WC.ret (fun a_ ha => ?_)
  exact bodyPost_tmp rfl ha rfl ⟨(by congr 2; simp only [Nd.simple, hc7] <;> try simp), (hE5.trans hE8)⟩
set_option maxRecDepth 20000 in
set_option maxHeartbeats 4000000 in
theorem plain1_ok (D : Nat → Prop) (w : World) (l : List Value) (T : Nd) (hT : NodeL D w l T) (hp : ∀ (D : Nat → Prop) (w : World) (l : List Value), NodeL D w l T → Calls Try.prog 26 #[.agg l.toArray] w fun e w' => e = .returned (.bool (Nd.plain T)) ∧ Ext w w') :
  Calls Try.prog 41 #[.agg l.toArray] w fun e w' => e = .returned (.bool (!Nd.plain T)) ∧ Ext w w' := by
 have hT := hT.lt
 obtain ⟨a, cap, rfl, hts, hlen⟩ := hT.op2
 refine Calls.enter (args := [.agg (tcells T (.slice a T.subs.length cap)).toArray]) Try.func41 rfl rfl rfl rfl ?_
 refine sq ?_
 refine WL.box_agg rfl rfl rfl (fun b1 w6 hb2 hE5 hs3 hR4 => ?_)
 refine asg ?_
 refine WL.dn ?_
 refine sq ?_
 refine WL.load_box rfl rfl rfl hR4 Ty.agg30 ?_
 refine WL.call rfl rfl rfl Ty.ent26 (hp _ _ _ (hT.ext hE5)) ?_
 rintro _ w8 ⟨rfl, hE7⟩
 have hzhE7 := hE7.size
 refine ⟨_, rfl, ?_⟩
 refine WL.not rfl rfl rfl ?_
 refine asg ?_
 refine WL.dn ?_
 refine WC.ret (fun a_ ha => ?_)
 exact bodyPost_tmp rfl ha rfl ⟨rfl, (hE5.trans hE7)⟩
set_option maxRecDepth 20000 in
set_option maxHeartbeats 4000000 in
theorem nullable1_ok (D : Nat → Prop) (w : World) (l : List Value) (T : Nd) (hT : NodeL D w l T) (hp : ∀ (D : Nat → Prop) (w : World) (l : List Value), NodeL D w l T → Calls Try.prog 35 #[.agg l.toArray] w fun e w' => e = .returned (.bool (Nd.nullable T)) ∧ Ext w w') :
  Calls Try.prog 47 #[.agg l.toArray] w fun e w' => e = .returned (.bool (!Nd.nullable T)) ∧ Ext w w' := by
 have hT := hT.lt
 obtain ⟨a, cap, rfl, hts, hlen⟩ := hT.op2
 refine Calls.enter (args := [.agg (tcells T (.slice a T.subs.length cap)).toArray]) Try.func47 rfl rfl rfl rfl ?_
 refine sq ?_
 refine WL.box_agg rfl rfl rfl (fun b1 w6 hb2 hE5 hs3 hR4 => ?_)
 refine asg ?_
 refine WL.dn ?_
 refine sq ?_
 refine WL.load_box rfl rfl rfl hR4 Ty.agg30 ?_
 refine WL.call rfl rfl rfl Ty.ent35 (hp _ _ _ (hT.ext hE5)) ?_
 rintro _ w8 ⟨rfl, hE7⟩
 have hzhE7 := hE7.size
 refine ⟨_, rfl, ?_⟩
 refine WL.not rfl rfl rfl ?_
 refine asg ?_
 refine WL.dn ?_
 refine WC.ret (fun a_ ha => ?_)
 exact bodyPost_tmp rfl ha rfl ⟨rfl, (hE5.trans hE7)⟩
set_option maxRecDepth 20000 in
set_option maxHeartbeats 4000000 in
theorem plain_ok (T : Nd) : ∀ (D : Nat → Prop) (w : World) (l : List Value) (hT : NodeL D w l T),
  Calls Try.prog 26 #[.agg l.toArray] w fun e w' => e = .returned (.bool T.plain) ∧ Ext w w' := by
 induction T using Nd.ind with
 | h kd st mn mx tsx ih =>
 intro D w l hT
 replace ih : ∀ t, t ∈ (Nd.mk kd st mn mx tsx).subs → _ := ih
 generalize Nd.mk kd st mn mx tsx = T at *
 clear kd st mn mx tsx
 have hT := hT.lt
 obtain ⟨a, cap, rfl, hts, hlen⟩ := hT.op2
 refine Calls.enter (args := [.agg (tcells T (.slice a T.subs.length cap)).toArray]) Try.func26 rfl rfl rfl rfl ?_
 refine sq ?_
 refine WL.box_agg rfl rfl rfl (fun b1 w6 hb2 hE5 hs3 hR4 => ?_)
 refine asg ?_
 refine WL.dn ?_
 refine sq ?_
 refine WL.fieldAddr rfl rfl Ty.fld30_0 rfl ?_
 refine WL.load_fld rfl rfl Ty.flat5 rfl hR4 rfl ?_
 cases hc7 : ((T.kind : Int) != 6) with
 | false =>
  refine WL.neq rfl rfl rfl rfl hc7 ?_
  have hp7 := bne_eq_false_iff_eq.1 hc7
  refine mv ?_
  refine ps ?_
  refine ps ?_
  refine ps ?_
  refine ps ?_
  refine pF ?_
  refine asg ?_
  refine WL.dn ?_
  refine WC.ret (fun a_ ha => ?_)
  exact bodyPost_tmp rfl ha rfl ⟨(by congr 2; rw [Nd.plain_eq T]; simp only [hc7] <;> try simp), hE5⟩
 | true =>
  refine WL.neq rfl rfl rfl rfl hc7 ?_
  have hp7 := bne_iff_ne.1 hc7
  refine mv ?_
  refine WL.fieldAddr rfl rfl Ty.fld30_4 rfl ?_
  refine WL.load_fld rfl rfl Ty.flat24 rfl hR4 rfl ?_
  refine WL.call rfl rfl rfl Ty.ent40 (containsFunc_ok _ _ _ _ _ _ T.subs (fun x => !x.plain) (hts.ext hE5) (fun l t w2 h hn ht => Calls.caps0 (plain1_ok _ w2 l t hn (fun D w l hn => ih t ht D w l hn))) Ty.ent41) ?_
  rintro _ w9 ⟨rfl, hE8⟩
  have hzhE8 := hE8.size
  refine ⟨_, rfl, ?_⟩
  refine WL.not rfl rfl rfl ?_
  refine pT ?_
  refine asg ?_
  refine WL.dn ?_
  refine WC.ret (fun a_ ha => ?_)
  exact bodyPost_tmp rfl ha rfl ⟨(by congr 2; rw [Nd.plain_eq T]; simp only [hc7] <;> try simp), (hE5.trans hE8)⟩
set_option maxRecDepth 20000 in
set_option maxHeartbeats 4000000 in
theorem nullable_ok (T : Nd) : ∀ (D : Nat → Prop) (w : World) (l : List Value) (hT : NodeL D w l T) (hni : T.nice = true),
  Calls Try.prog 35 #[.agg l.toArray] w fun e w' => e = .returned (.bool T.nullable) ∧ Ext w w' := by
 induction T using Nd.ind with
 | h kd st mn mx tsx ih =>
 intro D w l hT hni
 replace ih : ∀ t, t ∈ (Nd.mk kd st mn mx tsx).subs → _ := ih
 generalize Nd.mk kd st mn mx tsx = T at *
 clear kd st mn mx tsx
 have hT := hT.lt
 obtain ⟨a, cap, rfl, hts, hlen⟩ := hT.op2
 refine Calls.enter (args := [.agg (tcells T (.slice a T.subs.length cap)).toArray]) Try.func35 rfl rfl rfl rfl ?_
 refine sq ?_
 refine WL.box_agg rfl rfl rfl (fun b1 w6 hb2 hE5 hs3 hR4 => ?_)
 refine asg ?_
 refine WL.dn ?_
 refine WC.seqk ?_
 refine sq ?_
 refine WL.fieldAddr rfl rfl Ty.fld30_0 rfl ?_
 refine WL.load_fld rfl rfl Ty.flat5 rfl hR4 rfl ?_
 refine WL.dn ?_
 refine WC.block ?_
 refine sq ?_
 cases hc7 : ((T.kind : Int) == 1) with
 | false =>
  refine WL.eql rfl rfl rfl rfl hc7 ?_
  have hp7 := beq_eq_false_iff_ne.1 hc7
  refine asg ?_
  refine WL.dn ?_
  refine cF ?_
  refine sq ?_
  cases hc8 : ((T.kind : Int) == 2) with
  | false =>
   refine WL.eql rfl rfl rfl rfl hc8 ?_
   have hp8 := beq_eq_false_iff_ne.1 hc8
   refine asg ?_
   refine WL.dn ?_
   refine cF ?_
   refine sq ?_
   cases hc9 : ((T.kind : Int) == 4) with
   | false =>
    refine WL.eql rfl rfl rfl rfl hc9 ?_
    have hp9 := beq_eq_false_iff_ne.1 hc9
    refine asg ?_
    refine WL.dn ?_
    refine cF ?_
    refine sq ?_
    cases hc10 : ((T.kind : Int) == 5) with
    | false =>
     refine WL.eql rfl rfl rfl rfl hc10 ?_
     have hp10 := beq_eq_false_iff_ne.1 hc10
     refine asg ?_
     refine WL.dn ?_
     refine cF ?_
     refine WC.sk ?_
     refine WC.seqk ?_
     refine WC.weaken (r' := [(1, pt b1 0), (2, .bool false), (5, .bool false), (7, .bool false), (9, .bool false), (14, .bool false)]) (s4 (sr rfl (sr rfl (subReg_nil _)))) ?_
     refine WC.region ?_
     refine WL.fieldAddr rfl rfl Ty.fld30_4 rfl ?_
     refine WL.load_fld rfl rfl Ty.flat24 rfl hR4 rfl ?_
     refine WL.call rfl rfl rfl Ty.ent40 (containsFunc_ok _ _ _ _ _ _ T.subs (fun x => !x.nullable) (hts.ext hE5) (fun l t w2 h hn ht => Calls.caps0 (nullable1_ok _ w2 l t hn (fun D w l hn => ih t ht D w l hn (Nd.nice_subs hni ht)))) Ty.ent47) ?_
     rintro _ w12 ⟨rfl, hE11⟩
     have hzhE11 := hE11.size
     refine ⟨_, rfl, ?_⟩
     refine WL.not rfl rfl rfl ?_
     refine asg ?_
     refine WL.dn ?_
     refine WC.ret (fun a_ ha => ?_)
     exact bodyPost_tmp rfl ha rfl ⟨(by congr 2; rw [Nd.nullable_eq T]; simp only [hc7, hc8, hc9, hc10, cond_true, cond_false, Bool.true_or, Bool.false_or] <;> try simp), (hE5.trans hE11)⟩
    | true =>
     refine WL.eql rfl rfl rfl rfl hc10 ?_
     have hp10 := beq_iff_eq.1 hc10
     refine asg ?_
     refine WL.dn ?_
     refine cT ?_
     refine WC.seqk ?_
     refine WC.weaken (r' := [(1, pt b1 0), (2, .bool false), (5, .bool false), (7, .bool false), (9, .bool false), (14, .bool true)]) (s4 (sr rfl (sr rfl (subReg_nil _)))) ?_
     refine WC.region ?_
     refine WL.fieldAddr rfl rfl Ty.fld30_2 rfl ?_
     refine WL.load_fld rfl rfl Ty.flat3 rfl hR4 rfl ?_
     cases hc11 : ((T.least : Int) == 0) with
     | false =>
      refine WL.eql rfl rfl rfl rfl hc11 ?_
      have hp11 := beq_eq_false_iff_ne.1 hc11
      refine mv ?_
      refine WL.fieldAddr rfl rfl Ty.fld30_4 rfl ?_
      refine WL.load_fld rfl rfl Ty.flat24 rfl hR4 rfl ?_
      obtain ⟨t12, ht12⟩ : ∃ t, T.subs[0]? = some t := ⟨_, List.getElem?_eq_getElem (by have h5 := Nd.right_five (Nd.nice_right hni) (beq_iff_eq.1 hc10); omega)⟩
      obtain ⟨eb12, eo12, el12, hea12, hD12, her12, hn12⟩ := (hts.ext hE5).at ht12
      obtain ⟨a12, cap12, rfl, hts12, hlen12⟩ := hn12.op2
      subst hea12
      refine WL.indexAddr (i := 0) rfl rfl Ty.slice24 rfl rfl rfl (by have h5 := Nd.right_five (Nd.nice_right hni) (beq_iff_eq.1 hc10); omega) ?_
      refine WL.load_agg (l := tcells t12 (.slice a12 t12.subs.length cap12)) rfl rfl Ty.agg30 rfl her12 ?_
      refine WL.call rfl rfl rfl Ty.ent35 (ih t12 (List.mem_of_getElem? ht12) _ _ _ hn12 (Nd.nice_subs hni (List.mem_of_getElem? ht12))) ?_
      rintro _ w14 ⟨rfl, hE13⟩
      have hzhE13 := hE13.size
      refine ⟨_, rfl, ?_⟩
      refine pF ?_
      refine asg ?_
      refine WL.dn ?_
      refine WC.ret (fun a_ ha => ?_)
      refine ret_block ?_
      refine ret_then ?_
      exact bodyPost_tmp rfl ha rfl ⟨(by congr 2; rw [Nd.nullable_eq T]; simp only [hc7, hc8, hc9, hc10, hc11, Nd.headN_at ht12, cond_true, cond_false, Bool.true_or, Bool.false_or] <;> try simp), (hE5.trans hE13)⟩
     | true =>
      refine WL.eql rfl rfl rfl rfl hc11 ?_
      have hp11 := beq_iff_eq.1 hc11
      refine mv ?_
      refine ps ?_
      refine ps ?_
      refine ps ?_
      refine ps ?_
      refine ps ?_
      refine pT ?_
      refine asg ?_
      refine WL.dn ?_
      refine WC.ret (fun a_ ha => ?_)
      refine ret_block ?_
      refine ret_then ?_
      exact bodyPost_tmp rfl ha rfl ⟨(by congr 2; rw [Nd.nullable_eq T]; simp only [hc7, hc8, hc9, hc10, hc11, cond_true, cond_false, Bool.true_or, Bool.false_or] <;> try simp), hE5⟩
   | true =>
    refine WL.eql rfl rfl rfl rfl hc9 ?_
    have hp9 := beq_iff_eq.1 hc9
    refine asg ?_
    refine WL.dn ?_
    refine cT ?_
    refine sq ?_
    refine WL.fieldAddr rfl rfl Ty.fld30_4 rfl ?_
    refine WL.load_fld rfl rfl Ty.flat24 rfl hR4 rfl ?_
    refine WL.call rfl rfl rfl Ty.ent40 (containsFunc_ok _ _ _ _ _ _ T.subs Nd.nullable (hts.ext hE5) (fun l t w2 h hn ht => Calls.caps0 (ih t ht _ w2 l hn (Nd.nice_subs hni ht))) Ty.ent35) ?_
    rintro _ w11 ⟨rfl, hE10⟩
    have hzhE10 := hE10.size
    refine ⟨_, rfl, ?_⟩
    refine asg ?_
    refine WL.dn ?_
    refine WC.ret (fun a_ ha => ?_)
    refine ret_block ?_
    refine ret_then ?_
    exact bodyPost_tmp rfl ha rfl ⟨(by congr 2; rw [Nd.nullable_eq T]; simp only [hc7, hc8, hc9, cond_true, cond_false, Bool.true_or, Bool.false_or] <;> try simp), (hE5.trans hE10)⟩
  | true =>
   refine WL.eql rfl rfl rfl rfl hc8 ?_
   have hp8 := beq_iff_eq.1 hc8
   refine asg ?_
   refine WL.dn ?_
   refine cT ?_
   refine sq ?_
   refine asg ?_
   refine WL.dn ?_
   refine WC.ret (fun a_ ha => ?_)
   refine ret_block ?_
   refine ret_then ?_
   exact bodyPost_tmp rfl ha rfl ⟨(by congr 2; rw [Nd.nullable_eq T]; simp only [hc7, hc8, cond_true, cond_false, Bool.true_or, Bool.false_or] <;> try simp), hE5⟩
 | true =>
  refine WL.eql rfl rfl rfl rfl hc7 ?_
  have hp7 := beq_iff_eq.1 hc7
  refine asg ?_
  refine WL.dn ?_
  refine cT ?_
  refine sq ?_
  refine asg ?_
  refine WL.dn ?_
  refine WC.ret (fun a_ ha => ?_)
  refine ret_block ?_
  refine ret_then ?_
  exact bodyPost_tmp rfl ha rfl ⟨(by congr 2; rw [Nd.nullable_eq T]; simp only [hc7, cond_true, cond_false, Bool.true_or, Bool.false_or] <;> try simp), hE5⟩
end Go.Proofs.Yteenegaadlhjdaa
