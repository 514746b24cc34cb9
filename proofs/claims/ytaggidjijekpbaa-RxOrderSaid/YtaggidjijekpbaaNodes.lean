/- The iterator over a tree's nodes: closure nodes$1 hands on each node, in order, whatever loop it is handed. -/
import Derived.Test.YtaggidjijekpbaaIter
import Derived.Test.YtaggidjijekpbaaTy
namespace Go.Proofs.Ytaggidjijekpbaa
open Go.RowKit

theorem nodes_ok (w : World) (l : List Value) (_h8 : l.length = 8) :
    Calls Try.prog 36 #[.agg l.toArray] w fun e w' => ∃ b, e = .returned (.func (.func 45) #[] #[.pointer (some ⟨b, 0, none⟩)]) ∧ Ext w w' ∧ Row w' b l 29 ∧ b = w.heap.size ∧ w'.heap.size = w.heap.size + 1 := by
  refine Calls.enter (args := [.agg l.toArray]) Try.func36 rfl rfl rfl rfl ?_
  refine WC.seqk ?_
  refine WC.region ?_
  refine WL.box_agg rfl rfl rfl (fun b1 w1 hb1 hE1 hs1 hR1 => ?_)
  refine WL.assign rfl rfl rfl ?_
  refine WL.done' ?_ (fun _ _ h => h)
  refine WC.seqk ?_
  refine WC.region ?_
  refine WL.makeFunc rfl rfl rfl ?_
  refine WL.assign rfl rfl rfl ?_
  refine WL.done' ?_ (fun _ _ h => h)
  refine WC.ret (fun a_ ha => ?_)
  exact bodyPost_tmp rfl ha rfl ⟨b1, rfl, hE1, hR1, hb1, hs1⟩

theorem pre_zero (T : Nd) : T.pre[0]? = some T := by cases T; simp [Nd.pre]
theorem pre_sub {T : Nd} {k i : Nat} {u t : Nd} (hk : T.subs[k]? = some u) (hi : u.pre[i]? = some t) : T.pre[1 + (Nd.preL (T.subs.take k)).length + i]? = some t := by
  obtain ⟨kk, s, mn, mx, ts⟩ := T
  simp only [Nd.subs] at hk ⊢
  have hlt : k < ts.length := (List.getElem?_eq_some_iff.1 hk).1
  have hu : ts[k] = u := (List.getElem?_eq_some_iff.1 hk).2
  have h1 : ts = ts.take k ++ u :: ts.drop (k + 1) := by
    rw [← hu, List.getElem_cons_drop, List.take_append_drop]
  have h2 : Nd.preL ts = Nd.preL (ts.take k) ++ (u.pre ++ Nd.preL (ts.drop (k + 1))) := by
    conv => lhs; rw [h1]
    rw [Nd.preL_append]; rfl
  have h3 : 1 + (Nd.preL (ts.take k)).length + i = ((Nd.preL (ts.take k)).length + i) + 1 := by omega
  rw [h3]
  simp only [Nd.pre, List.getElem?_cons_succ, h2]
  rw [List.getElem?_append_right (by omega), List.getElem?_append_left (by have := (List.getElem?_eq_some_iff.1 hi).1; omega)]
  have h4 : (Nd.preL (ts.take k)).length + i - (Nd.preL (ts.take k)).length = i := by omega
  rw [h4]; exact hi
theorem pre_take_succ {T : Nd} {k : Nat} {u : Nd} (hk : T.subs[k]? = some u) : (Nd.preL (T.subs.take (k + 1))).length = (Nd.preL (T.subs.take k)).length + u.pre.length := by
  rw [List.take_add_one, hk]; simp [Nd.preL_append, Nd.preL]

abbrev YPost (J : Nat → World → Prop) (Jx : World → Prop) (S : Nat → Prop) (i : Nat) (W1 : World) (e : Ending) (W' : World) : Prop :=
  (e = .returned (.bool true) ∧ J (i + 1) W' ∧ Keep S W1 W') ∨ (e = .returned (.bool false) ∧ Jx W' ∧ Keep S W1 W')

theorem nodes1_ok (T : Nd) : ∀ (D : Nat → Prop) (l : Nat) (S : Nat → Prop) (J : Nat → World → Prop) (Jx : World → Prop) (W : World) (b : Nat) (cells : List Value),
    (∀ k, S k → k < W.heap.size) → Row W b cells 29 → NodeL D W cells T → ¬ S b → (∀ k, D k → ¬ S k) →
    (∀ i A B, J i A → Below W.heap.size A B → J i B) → (∀ A B, Jx A → Below W.heap.size A B → Jx B) →
    (∀ i W1 cells t, T.pre[i]? = some t → NodeL D W1 cells t → W.heap.size ≤ W1.heap.size → J i W1 → YieldC Try.prog l #[.agg cells.toArray] W1 (YPost J Jx S i W1)) →
    J 0 W → Calls Try.prog 45 #[.func (.yield l) #[] #[], .pointer (some ⟨b, 0, none⟩)] W fun e W' => (∃ v, e = .returned v) ∧ (J T.pre.length W' ∨ Jx W') := by
  induction T using Nd.ind with
  | h kd st mn mx ts ih =>
  intro D l S J Jx W b cells hS hRb hT hSb hSD hJ hJx hY h0
  replace ih : ∀ t, t ∈ (Nd.mk kd st mn mx ts).subs → _ := ih
  generalize Nd.mk kd st mn mx ts = T at *
  clear kd st mn mx ts
  obtain ⟨sl, rfl, hts⟩ := hT.opn
  obtain ⟨a, cap, rfl, hlen, -⟩ := hts.get
  refine Calls.enterM (args := [.func (.yield l) #[] #[], .pointer (some ⟨b, 0, none⟩)]) Try.func45 rfl rfl rfl rfl ?_
  refine WC.seqk ?_
  refine WC.region ?_
  refine WL.box_flat rfl rfl rfl rfl (fun b1 w1 hb1 hE1 hs1 hR1 => ?_)
  refine WL.done' ?_ (fun _ _ h => h)
  refine WC.seqk ?_
  refine WC.seqk ?_
  refine WC.region ?_
  refine WL.load_fld rfl rfl Ty.flat32 rfl hR1 rfl ?_
  refine WL.load_box rfl rfl rfl (hRb.ext hE1) Ty.agg29 ?_
  refine WL.yield rfl rfl rfl rfl (hY 0 w1 _ T (pre_zero T) (hT.ext hE1) (by omega) (hJ 0 _ _ h0 hE1)) ?_
  have hSb1 : ¬ S b1 := fun h => by have := hS b1 h; omega
  rintro e W2 (⟨rfl, hJ2, hK2⟩ | ⟨rfl, hx2, hK2⟩)
  case inr =>
    refine ⟨_, rfl, ?_⟩
    refine WL.not rfl rfl rfl ?_
    refine WL.done' ?_ (fun _ _ h => h)
    refine WC.cond_t rfl ?_
    refine WC.ret (fun a_ ha => ?_)
    exact bodyPostM_unit (.inl rfl) rfl ha (Marks.nil _ W.heap.size) (fun w' hk => ⟨⟨_, rfl⟩, .inr (hJx _ _ hx2 (hk.below (by have := hK2.size; omega) (fun k h1 h2 => by omega)))⟩)
  have hz2 := hK2.size
  refine ⟨_, rfl, ?_⟩
  refine WL.not rfl rfl rfl ?_
  refine WL.done' ?_ (fun _ _ h => h)
  refine WC.cond_f rfl ?_
  refine WC.skip'' ?_ (fun _ _ h => h)
  have hRb2 : Row W2 b _ _ := hK2.row (hRb.ext hE1) hSb
  have hR12 : Row W2 b1 _ _ := hK2.row hR1 hSb1
  have hts2 : NodesV D W2 _ _ := hK2.nodes (hts.ext hE1) hSD
  refine WC.seqk ?_
  refine WC.region ?_
  refine WL.fieldAddr rfl rfl Ty.fld29_4 rfl ?_
  refine WL.load_fld rfl rfl Ty.flat27 rfl hRb2 rfl ?_
  refine WL.len rfl rfl Try.underlying27 rfl ?_
  refine WL.move rfl rfl rfl ?_
  refine WL.done' ?_ (fun _ _ h => h)
  refine WC.block ?_
  refine WC.weaken (r' := [(1, .pointer (some ⟨b, 0, none⟩)), (2, .pointer (some ⟨b1, 0, none⟩)), (11, .slice a T.subs.length cap), (12, .int .i64 T.subs.length), (13, .int .i64 0)]) (subReg_cons rfl (subReg_cons rfl (subReg_cons rfl (subReg_cons rfl (subReg_cons rfl (subReg_nil _)))))) ?_
  refine WC.loopD (σ := Nat) (fun k ds r_ w_ => r_ = [(1, .pointer (some ⟨b, 0, none⟩)), (2, .pointer (some ⟨b1, 0, none⟩)), (11, .slice a T.subs.length cap), (12, .int .i64 T.subs.length), (13, .int .i64 (k : Int))] ∧ k ≤ T.subs.length ∧ Marks w_ W.heap.size ds ∧ Keep S W2 w_ ∧ J (1 + (Nd.preL (T.subs.take k)).length) w_)
    (fun k => T.subs.length - k) 0 ⟨rfl, Nat.zero_le _, Marks.nil _ _, Keep.refl _ _, by simpa [Nd.preL] using hJ2⟩ ?_
  rintro k ds r_ w3 ⟨rfl, hk, hM, hK3, hJ3⟩
  have hz3 := hK3.size
  refine WC.seqk ?_
  refine WC.region ?_
  cases hc : decide ((k : Int) < T.subs.length) with
  | false =>
    refine WL.lss rfl rfl rfl rfl hc ?_
    have hc := of_decide_eq_false hc
    refine WL.done' ?_ (fun _ _ h => h)
    refine WC.seqk ?_
    refine WC.cond_f rfl ?_
    refine WC.exit (fun a_ ha => ?_)
    refine exit_then ?_
    refine exit_then ?_
    refine exit_here ?_
    refine bodyPostM_unit (.inr rfl) rfl ha hM (fun w' hk' => ⟨⟨_, rfl⟩, .inl ?_⟩)
    have hkn : k = T.subs.length := by omega
    subst hkn
    have hl : T.pre.length = 1 + (Nd.preL (T.subs.take T.subs.length)).length := by
      rw [List.take_length]; cases T; simp [Nd.pre, Nd.subs]; omega
    rw [hl]
    exact hJ _ _ _ hJ3 (hk'.below (by omega) (fun k h1 h2 => by omega))
  | true =>
    refine WL.lss rfl rfl rfl rfl hc ?_
    have hc := of_decide_eq_true hc
    refine WL.done' ?_ (fun _ _ h => h)
    refine WC.seqk ?_
    refine WC.cond_t rfl ?_
    refine WC.skip'' ?_ (fun _ _ h => h)
    refine WC.seqk ?_
    refine WC.block ?_
    have hts3 : NodesV D w3 _ _ := hK3.nodes hts2 hSD
    have hRb3 : Row w3 b _ _ := hK3.row hRb2 hSb
    have hR13 : Row w3 b1 _ _ := hK3.row hR12 hSb1
    obtain ⟨u, hu⟩ : ∃ u, T.subs[k]? = some u := ⟨_, List.getElem?_eq_getElem (by omega)⟩
    obtain ⟨eb, eo, el, rfl, hDe, her, hn⟩ := hts3.at hu
    refine WC.seqk ?_
    refine WC.region ?_
    refine WL.indexAddr (i := k) rfl rfl Ty.slice27 rfl rfl rfl (by omega) ?_
    refine WL.load_agg rfl rfl (by rw [hn.length]; exact Ty.agg29) rfl her ?_
    refine WL.alloc rfl rfl Ty.zero29 rfl (fun b4 w4 hb4 hE4 hs4 hR4 => ?_)
    refine WL.store_box rfl rfl rfl hR4 (by rw [hn.length]; exact Ty.agg29) (by rw [hn.length]; rfl) (by obtain ⟨q, rfl, hq⟩ := hn.opn; obtain ⟨a', c', rfl, _⟩ := hq.get; rfl) (fun w5 hB5 hR5 => ?_)
    have hE5 : Ext w3 w5 := hB5.below hE4 (by omega)
    have hz5 := hB5.size
    refine WL.done' ?_ (fun _ _ h => h)
    refine WC.seqk ?_
    refine WC.region ?_
    refine WL.load_box rfl rfl rfl hR5 (by rw [hn.length]; exact Ty.agg29) ?_
    refine WL.call rfl rfl rfl Ty.ent36 (nodes_ok _ _ hn.length) ?_
    rintro e w6 ⟨b6, rfl, hE6, hR6, hb6, hs6⟩
    refine ⟨_, rfl, ?_⟩
    have hz6 := hE6.size
    refine WL.done' ?_ (fun _ _ h => h)
    refine WC.block ?_
    have hn6 : NodeL (fun k => D k ∧ k < w3.heap.size) w6 el u := (hn.lt.ext hE5).ext hE6
    have hKw : Keep S W2 w6 := hK3.trans ((hE5.trans hE6).keep S)
    have hRb6 : Row w6 b _ _ := hKw.row hRb2 hSb
    have hR16 : Row w6 b1 _ _ := hKw.row hR12 hSb1
    have hJ6 : J (1 + (Nd.preL (T.subs.take k)).length) w6 := hJ _ _ _ hJ3 ((hE5.trans hE6).mono (by omega))
    have hM6 : Marks w6 W.heap.size ds := hM.keep (S := fun _ => False) ((hE5.trans hE6).keep _) (fun _ h => h.elim)
    have hit : IterC Try.prog 45 #[.pointer (some ⟨b6, 0, none⟩)] (fun i cells W1 => ∃ t, u.pre[i]? = some t ∧ NodeL (fun k => D k ∧ k < w3.heap.size) W1 cells t) u.pre.length (fun k => (D k ∧ k < w3.heap.size) ∨ k = b6) w6 := by
      intro l' S' J' Jx' W' hE hS' hSD' hJ' hJx' hY' h0'
      exact Calls.caps1 (ih u (List.mem_of_getElem? hu) (fun k => D k ∧ k < w3.heap.size) l' S' J' Jx' W' b6 el hS' (hR6.ext hE) (hn6.ext hE) (fun h => hSD' _ h (.inr rfl)) (fun k hk h => hSD' k h (.inl hk)) hJ' hJx'
        (fun i W1 cells t ht hn hsz hj => hY' i W1 cells (by have := (List.getElem?_eq_some_iff.1 ht).1; exact this) ⟨t, ht, hn⟩ hsz hj) h0')
    refine WC.rangeFunc rfl rfl Ty.ent45 hit (Ext.refl _) (by rintro k (⟨_, h⟩ | h) <;> omega) S (fun k h => by have := hS k h; omega) (by
        rintro k h (⟨h1, _⟩ | h1)
        · exact hSD k h1 h
        · have := hS k h; omega)
      (fun i A => J (1 + (Nd.preL (T.subs.take k)).length + i) A) (fun c A => c = .ret ∧ Jx A) (fun i A B h hb => hJ _ _ _ h (hb.mono (by omega))) (fun c A B h hb => ⟨h.1, hJx _ _ h.2 (hb.mono (by omega))⟩) hJ6 ?_ ?_ ?_
    · rintro i W1 cells l' hi ⟨t, ht, hnt⟩ hl1 hl2 hKW1 hJi
      obtain ⟨q, rfl, hq⟩ := hnt.opn
      obtain ⟨aq, cq, rfl, -, -⟩ := hq.get
      have hzW := hKW1.size
      refine WC.region ?_
      refine WL.alloc rfl rfl Ty.zero29 rfl (fun b7 w7 hb7 hE7 hs7 hR7 => ?_)
      refine WL.store_box rfl rfl rfl hR7 Ty.agg29 rfl rfl (fun w8 hB8 hR8 => ?_)
      have hE8 : Ext W1 w8 := hB8.below hE7 (by omega)
      have hz8 := hB8.size
      refine WL.nil (fun a_ ha => ?_)
      refine ⟨hE8.keep S, fun w9 hB9 => ?_⟩
      refine WC.at ?_ ha
      have hz9 := hB9.size
      have hR19 : Row w9 b1 _ _ := hB9.row ((hKW1.row hR16 hSb1).ext hE8) (by omega)
      have hR89 : Row w9 b7 _ _ := hB9.row hR8 (by omega)
      refine WC.block ?_
      refine WC.seqk ?_
      refine WC.region ?_
      refine WL.load_fld rfl rfl Ty.flat32 rfl hR19 rfl ?_
      refine WL.load_box rfl rfl rfl hR89 Ty.agg29 ?_
      have hn9 : NodeL D w9 _ t := ((hnt.ext hE8).but hB9 (by rintro ⟨h1, h2⟩; omega)).dom (fun _ h => h.1)
      have hJ9 : J (1 + (Nd.preL (T.subs.take k)).length + i) w9 := hJ _ _ _ (hJ _ _ _ hJi (hE8.mono (by omega))) (hB9.below (Below.refl _ _) (by omega))
      refine WL.yield rfl rfl rfl rfl (hY _ w9 _ t (pre_sub hu ht) hn9 (by omega) hJ9) ?_
      rintro e W4 (⟨rfl, hJ4, hK4⟩ | ⟨rfl, hx4, hK4⟩)
      · refine ⟨_, rfl, ?_⟩
        refine WL.not rfl rfl rfl ?_
        refine WL.done' ?_ (fun _ _ h => h)
        refine WC.cond_f rfl ?_
        refine WC.skip' (fun a_ ha => ?_)
        exact ⟨hK4, hJ4⟩
      · refine ⟨_, rfl, ?_⟩
        refine WL.not rfl rfl rfl ?_
        refine WL.done' ?_ (fun _ _ h => h)
        refine WC.cond_t rfl ?_
        refine WC.ret (fun a_ ha => ?_)
        exact ⟨hK4, rfl, hx4⟩
    · intro w' D' hD' hd' hKp hJn a_ ha
      have hzp := hKp.size
      refine WC.at (c := _) ?_ ha
      refine WC.region ?_
      refine WL.add (v := ((k + 1 : Nat) : Int)) rfl rfl rfl rfl (by rw [IntWalk.i64_in _ (by omega)]; rfl) ?_
      refine WL.move rfl rfl rfl ?_
      refine WL.nil (fun a_ ha => ?_)
      refine ⟨k + 1, _, _, ha.weaken (subReg_cons rfl (subReg_cons rfl (subReg_cons rfl (subReg_cons rfl (subReg_cons rfl (subReg_nil _)))))), ⟨rfl, by omega, hM6.cons hKp hS (by omega) hD' hd', hKw.trans hKp, ?_⟩, by omega⟩
      rw [pre_take_succ hu, ← Nat.add_assoc]; exact hJn
    · rintro w' D' c hD' hd' hKp ⟨rfl, hxx⟩
      have hzp := hKp.size
      refine WC.ret (fun a_ ha => ?_)
      exact bodyPostM_unit (.inl rfl) rfl ha (hM6.cons hKp hS (by omega) hD' hd') (fun w'' hk' => ⟨⟨_, rfl⟩, .inr (hJx _ _ hxx (hk'.below (by omega) (fun k h1 h2 => by omega)))⟩)

/-- nodes(n) as an iterator -/
theorem nodes_iter {T : Nd} {D : Nat → Prop} {w : World} {b : Nat} {cells : List Value} (hR : Row w b cells 29) (hT : NodeL D w cells T) :
    IterC Try.prog 45 #[.pointer (some ⟨b, 0, none⟩)] (fun i cells W1 => ∃ t, T.pre[i]? = some t ∧ NodeL D W1 cells t) T.pre.length (fun k => D k ∨ k = b) w := by
  intro l' S' J' Jx' W' hE hS' hSD' hJ' hJx' hY' h0'
  exact Calls.caps1 (nodes1_ok T D l' S' J' Jx' W' b cells hS' (hR.ext hE) (hT.ext hE) (fun h => hSD' _ h (.inr rfl)) (fun k hk h => hSD' k h (.inl hk)) hJ' hJx'
    (fun i W1 cells t ht hn hsz hj => hY' i W1 cells (by have := (List.getElem?_eq_some_iff.1 ht).1; exact this) ⟨t, ht, hn⟩ hsz hj) h0')
end Go.Proofs.Ytaggidjijekpbaa
