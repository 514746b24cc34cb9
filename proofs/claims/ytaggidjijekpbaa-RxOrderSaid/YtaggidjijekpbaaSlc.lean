/- slices of slices; append onto a slice without room; a post for a slice of the call's own. -/
import Derived.Test.YtaggidjijekpbaaApp
import Derived.ArgAppend
import Derived.Laws.Slices
namespace Go.Proofs.Ytaggidjijekpbaa
open Go.RowKit

theorem sliceB_elem {P : Program} {t e n : Nat} (h : sliceB P t e n = true) : P.underlying t = some (.slice (P.elem t)) ∧ ∀ w, (sizeOf (P.elem t)).run P w = .ok n w := by
  obtain ⟨hu, q, hq, hs⟩ := sliceB_u h
  have he : P.elem t = e := by simp [Program.elem, hu]
  rw [he]
  exact ⟨hu, fun w => by simp [sizeOf, typeInfo, hq, hs]⟩
theorem add0 (a : Option Addr) (n : Nat) : a.map (·.add (0 * n)) = a := by
  cases a with
  | none => rfl
  | some a => obtain ⟨b, o, p⟩ := a; cases p <;> simp [Addr.add]

section
variable {P : Program} {ro : Option Nat} {all : Array Oper} {Q : Exit → Act → World → Prop} {N : Nat} {ds : List Deferred} {r : Reg} {w : World} {rest : List Oper}
  {ty : TypeId} {pos : String} {aft : Array Edge} {g : Option (Nat × Bool)}
theorem WL.slice_h {d : Nat} {t e s : Nat} {x y : Operand} {a : Option Addr} {n cap m : Nat} {k : IntKind} {j : Int} (hw : want all r g = some true) (hd : Nat.blt d N = true) (ht : sliceB P t e s = true)
    (hx : ev r x = some (.slice a n cap)) (hy : ev r y = some (.int k j)) (hj : j = m) (hm : m ≤ cap)
    (next : WL ro P all Q N ds rest ((d, .slice a m cap) :: r) w) : WL ro P all Q N ds (⟨some d, .slice t x none (some y) none, ty, pos, aft, g⟩ :: rest) r w := by
  obtain ⟨he, hsz⟩ := sliceB_elem ht
  subst hj
  refine WL.val hw hd (by intro c h; cases h) (fun ac ha => ?_) next
  simp only [execOp, ha.ev hx, ha.ev hy, Option.map_some, Option.map_none, Sem.run_bind, run_sliceAt_slice w t _ _ _ _ he, run_slice_h w t a n cap he k m (by omega) (by omega), hsz, Result.andThen_ok, sliced, Int.toNat_natCast, Nat.sub_zero, add0, ite_self, Sem.run_pure]
theorem WL.slice_hm {d : Nat} {t e s : Nat} {x y z : Operand} {a : Option Addr} {n cap m : Nat} {k k' : IntKind} {j j' : Int} (hw : want all r g = some true) (hd : Nat.blt d N = true) (ht : sliceB P t e s = true)
    (hx : ev r x = some (.slice a n cap)) (hy : ev r y = some (.int k j)) (hz : ev r z = some (.int k' j')) (hj : j = m) (hj' : j' = m) (hm : m ≤ cap)
    (next : WL ro P all Q N ds rest ((d, .slice a m m) :: r) w) : WL ro P all Q N ds (⟨some d, .slice t x none (some y) (some z), ty, pos, aft, g⟩ :: rest) r w := by
  obtain ⟨he, hsz⟩ := sliceB_elem ht
  subst hj; subst hj'
  refine WL.val hw hd (by intro c h; cases h) (fun ac ha => ?_) next
  simp only [execOp, ha.ev hx, ha.ev hy, ha.ev hz, Option.map_some, Option.map_none, Sem.run_bind, run_sliceAt_slice w t _ _ _ _ he, run_slice_hm w t a n cap he k k' m m (by omega) (by omega) (by omega), hsz, Result.andThen_ok, sliced, Int.toNat_natCast, Nat.sub_zero, add0, ite_self, Sem.run_pure]
theorem WL.slice_l {d : Nat} {t e s : Nat} {x y : Operand} {a : Option Addr} {n cap m : Nat} {k : IntKind} {j : Int} (hw : want all r g = some true) (hd : Nat.blt d N = true) (ht : sliceB P t e s = true)
    (hx : ev r x = some (.slice a n cap)) (hy : ev r y = some (.int k j)) (hj : j = m) (hm : m ≤ n)
    (next : WL ro P all Q N ds rest ((d, .slice (if cap = m then a else a.map (·.add (m * s))) (n - m) (cap - m)) :: r) w) : WL ro P all Q N ds (⟨some d, .slice t x (some y) none none, ty, pos, aft, g⟩ :: rest) r w := by
  obtain ⟨he, hsz⟩ := sliceB_elem ht
  subst hj
  refine WL.val hw hd (by intro c h; cases h) (fun ac ha => ?_) next
  simp only [execOp, ha.ev hx, ha.ev hy, Option.map_some, Option.map_none, Sem.run_bind, run_sliceAt_slice w t _ _ _ _ he, run_slice_l w t a n cap he k m (by omega) (by omega), hsz, Result.andThen_ok, sliced, Int.toNat_natCast, Sem.run_pure]
/-- the first of a slice of nodes -/
theorem NodesV.take {D : Nat → Prop} {w : World} {a : Option Addr} {n cap m c : Nat} {ts : List Nd} (h : NodesV D w (.slice a n cap) ts) (hm : m ≤ ts.length) (hc : m ≤ c) : NodesV D w (.slice a m c) (ts.take m) := by
  obtain ⟨ls, ⟨a', cap', he, hcap, hn, h⟩, h2, h3⟩ := h
  cases he
  refine ⟨ls.take m, ⟨a, c, by rw [List.length_take, Nat.min_eq_left (by omega)], by rw [List.length_take]; omega, fun l hl => hn l (List.mem_of_mem_take hl), ?_⟩, by simp [h2], ?_⟩
  · rcases h with h | ⟨b, o, ha, hb, hr⟩
    · left; rw [h]; simp
    · right
      refine ⟨b, o, ha, hb, fun i l hl => hr i l ?_⟩
      rw [List.getElem?_take] at hl
      split at hl
      · exact hl
      · cases hl
  · intro i l t hl ht
    rw [List.getElem?_take] at hl ht
    split at hl
    · rw [if_pos (by assumption)] at ht; exact h3 i l t hl ht
    · cases hl
/-- all but the first -/
theorem NodesV.drop1 {D : Nat → Prop} {w : World} {a : Option Addr} {n cap : Nat} {ts : List Nd} (h : NodesV D w (.slice a n cap) ts) (h1 : 1 ≤ ts.length) : NodesV D w (.slice (if cap = 1 then a else a.map (·.add (1 * 8))) (n - 1) (cap - 1)) (ts.drop 1) := by
  obtain ⟨ls, ⟨a', cap', he, hcap, hn, h⟩, h2, h3⟩ := h
  cases he
  refine ⟨ls.drop 1, ⟨_, cap - 1, by rw [List.length_drop], by rw [List.length_drop]; omega, fun l hl => hn l (List.mem_of_mem_drop hl), ?_⟩, by simp [h2], ?_⟩
  · rcases h with h | ⟨b, o, ha, hb, hr⟩
    · left; rw [h]; simp
    · by_cases hc : cap = 1
      · left; apply List.eq_nil_of_length_eq_zero; rw [List.length_drop]; omega
      · right
        refine ⟨b, o + 8, by rw [if_neg hc, ha]; rfl, hb, fun i l hl => ?_⟩
        rw [List.getElem?_drop] at hl
        have := hr (1 + i) l hl
        have e : o + (1 + i) * 8 = o + 8 + i * 8 := by omega
        rw [← e]; exact this
  · intro i l t hl ht
    rw [List.getElem?_drop] at hl ht
    exact h3 (1 + i) l t hl ht
/-- append of one node onto a slice that has no room: a new row -/
theorem run_append_full {w : World} {D D2 : Nat → Prop} {t ty e : TypeId} {z : Value} {ts us : List Nd} {a a2 : Option Addr} {n c2 n2 : Nat} (ht : sliceB P t e 8 = true) (hz : zeroB P e z) (hzs : z.cells.size = 8) (hby : smallB P e = true)
    (hts : NodesV D w (.slice a n n) ts) (hus : NodesV D2 w (.slice a2 n2 c2) us) (hus1 : us ≠ []) (hnil : a = none → n = 0) (hlen : ts.length + us.length ≤ 1000000000) :
    ∃ v' w', (Builtin.append_ #[t, t] ty #[.slice a n n, .slice a2 n2 c2]).run P w = .ok v' w' ∧ OwnV e w.heap.size (fun k => D k ∨ D2 k) w' v' (ts ++ us) ∧ Ext w w' := by
  obtain ⟨hu, q, hq, hs⟩ := sliceB_u ht
  have hbt : q.bytes ≤ 128 := by unfold smallB at hby; rw [hq] at hby; simp at hby; exact hby.1
  have hzz : q.zero = some z := by unfold zeroB at hz; rw [hq] at hz; exact hz
  obtain ⟨us', hR2, rfl, hr2⟩ := hus.lt.rows
  obtain ⟨b2, o2, rfl, hd2, hrd2⟩ : ∃ b o, a2 = some ⟨b, o, none⟩ ∧ (D2 b ∧ b < w.heap.size) ∧ Reads w b o us'.flatten := by
    rcases hr2 with h | h
    · exact absurd h hus1
    · exact h
  have hlen8 := len_flatten us' hR2.eight
  obtain ⟨ls, hR1, rfl, hr1⟩ := hts.lt.rows
  have hlen1 := len_flatten ls hR1.eight
  have hpos : 0 < us.length := by cases us with | nil => exact absurd rfl hus1 | cons x l => simp
  have fin : ∀ (v' : Value) (w' : World), w'.ownsRow w.heap.size e 8 v' (ts.length + us.length) (ls.flatten ++ us'.flatten) → w.grownBy w' none → OwnV e w.heap.size (fun k => D k ∨ D2 k) w' v' (ts ++ us) ∧ Ext w w' := by
    intro v' w' h1 h2
    have hE : Ext w w' := grown_below h2 (Ext.refl _) (by intro k hk; cases hk)
    have hnb : ∀ k, k < w.heap.size → v'.ownBlock ≠ some k := by
      intro k hk hh
      rcases h1.2 with ⟨rfl, _⟩ | ⟨g', cap', cur', rfl, hg', _⟩
      · cases hh
      · simp only [Value.ownBlock, Option.some.injEq] at hh; omega
    refine ⟨⟨ls ++ us', by simpa using h1, RowsL.append (hR1.step (fun l t hn => (hn.ext hE).dom (fun k hk => ⟨.inl hk.1, Nat.lt_of_lt_of_le hk.2 hE.size, hnb k hk.2⟩))) (hR2.step (fun l t hn => (hn.ext hE).dom (fun k hk => ⟨.inr hk.1, Nat.lt_of_lt_of_le hk.2 hE.size, hnb k hk.2⟩))), by simpa using hlen⟩, hE⟩
  cases a with
  | none =>
    have h0 := hnil rfl
    have hts0 : ts = [] := List.eq_nil_of_length_eq_zero h0
    subst hts0
    have : ls = [] := List.eq_nil_of_length_eq_zero (by simpa using hR1.1)
    subst this
    obtain ⟨v', w', h1, h2, h3, _⟩ := run_append_own_at (P := P) w w.heap.size t ty e q z 8 q.bytes hu hq hzz hs rfl hzs (by omega) (.slice none 0 0) 0 [] ⟨rfl, .inl ⟨rfl, rfl⟩⟩ ⟨b2, o2, none⟩ us.length c2 us'.flatten (by rw [hlen8, hR2.1]) (fun j u hj => (addr_add b2 o2 j) ▸ hrd2 j u hj) hR2.one (by simp only [maxLen]; simp at hlen; omega) (by
        have := Nat.mul_le_mul hlen hbt
        simp at this ⊢; omega) (Nat.le_refl _)
    exact ⟨v', w', h1, fin v' w' (by simpa using h2) h3⟩
  | some ad =>
    obtain ⟨v', w', h1, h2, h3⟩ := run_append_arg_grows (P := P) w t ty e q z 8 q.bytes hu hq hzz hs rfl hzs (by omega) ad ts.length ts.length ls.flatten (by rw [hlen1, hR1.1]) (by
        intro j u hj
        rcases hr1 with h | ⟨b, o, h, _, hrd⟩
        · subst h
          have : ls = [] := List.eq_nil_of_length_eq_zero (by simpa using hR1.1)
          subst this; simp at hj
        · cases h; exact (addr_add b o j) ▸ hrd j u hj) ⟨b2, o2, none⟩ us.length c2 us'.flatten (by rw [hlen8, hR2.1]) (fun j u hj => (addr_add b2 o2 j) ▸ hrd2 j u hj) (by omega) (by simp only [maxLen]; omega) (by
        have := Nat.mul_le_mul hlen hbt
        omega)
    exact ⟨v', w', h1, fin v' w' h2 h3⟩
theorem WL.appendFull {d : Nat} {t e : TypeId} {D D2 : Nat → Prop} {x y : Operand} {z : Value} {ts us : List Nd} {a a2 : Option Addr} {n n2 c2 : Nat} (hw : want all r g = some true) (hd : Nat.blt d N = true) (ht : sliceB P t e 8 = true) (hz : zeroB P e z) (hzs : z.cells.size = 8) (hby : smallB P e = true)
    (hx : ev r x = some (.slice a n n)) (hy : ev r y = some (.slice a2 n2 c2)) (hts : NodesV D w (.slice a n n) ts) (hus : NodesV D2 w (.slice a2 n2 c2) us) (hus1 : us ≠ []) (hnil : a = none → n = 0) (hlen : ts.length + us.length ≤ 1000000000)
    (next : ∀ v' w', OwnV e w.heap.size (fun k => D k ∨ D2 k) w' v' (ts ++ us) → Ext w w' → WL ro P all Q N ds rest ((d, v') :: r) w') :
    WL ro P all Q N ds (⟨some d, .call ⟨.builtin .append, #[x, y], #[t, t]⟩, ty, pos, aft, g⟩ :: rest) r w := by
  obtain ⟨v', w', h1, h2, h3⟩ := run_append_full (P := P) (ty := ty) ht hz hzs hby hts hus hus1 hnil hlen
  exact WL.val hw hd (by intro c h; cases h) (fun ac ha => by simp [execOp, resolve, invoke, builtin, ha.ev hx, ha.ev hy, h1]) (next v' w' h2 h3)
end
theorem OwnV.rebase {e : TypeId} {base base' : Nat} {D : Nat → Prop} {w : World} {v : Value} {ts : List Nd} (h : OwnV e base D w v ts) (hb : base' ≤ base) : OwnV e base' D w v ts := by
  obtain ⟨ls, ⟨hl, h⟩, h2⟩ := h
  refine ⟨ls, ⟨hl, ?_⟩, h2⟩
  rcases h with h | ⟨g, cap, cur, he, hg, h⟩
  · exact .inl h
  · exact .inr ⟨g, cap, cur, he, Nat.le_trans hb hg, h⟩
def pown (e base : Nat) (D : Nat → Prop) (ts : List Nd) : Post := fun v w _ => OwnV e base D w v ts
theorem KW_pown (e base : Nat) (D : Nat → Prop) (ts : List Nd) : KW (pown e base D ts) := fun _ _ _ _ _ E _ h => OwnV.ext h E
end Go.Proofs.Ytaggidjijekpbaa
