/- The iterator over a set's bytes, and First. -/
import Derived.Test.YtaggidjijekpbaaNodes
import Derived.Test.YtaggidjijekpbaaM1
namespace Go.Proofs.Ytaggidjijekpbaa
open Go.RowKit

theorem all_ok (w : World) (s : S4) :
    Calls Try.prog 65 #[.agg (scells s).toArray] w fun e w' => ∃ b, e = .returned (.func (.func 69) #[] #[.pointer (some ⟨b, 0, none⟩)]) ∧ Ext w w' ∧ Row w' b (scells s) 26 ∧ b = w.heap.size ∧ w'.heap.size = w.heap.size + 1 := by
  refine Calls.enter (args := [.agg (scells s).toArray]) Try.func65 rfl rfl rfl rfl ?_
  refine WC.seqk ?_
  refine WC.region ?_
  refine WL.box_agg rfl rfl rfl (fun b1 w1 hb1 hE1 hs1 hR1 => ?_)
  refine WL.assign rfl rfl rfl ?_
  refine WL.done' ?_ (fun _ _ h => h)
  refine WC.seqk ?_
  refine WC.region ?_
  refine WL.makeFunc rfl rfl rfl ?_
  refine WL.assign rfl rfl rfl ?_
  refine WL.done' ?_ (fun _ _ h => h)
  refine WC.ret (fun a_ ha => ?_)
  exact bodyPost_tmp rfl ha rfl ⟨b1, rfl, hE1, hR1, hb1, hs1⟩

theorem bytes_lt {s : S4} {i c : Nat} (h : (Nd.bytes s)[i]? = some c) : c < 256 := by
  have := List.mem_of_getElem? h
  simp only [Nd.bytes, List.mem_filter, List.mem_range] at this
  exact this.1
theorem all1_ok (s : S4) (hs : Nd.SOk s) (l : Nat) (S : Nat → Prop) (J : Nat → World → Prop) (Jx : World → Prop) (W : World) (b : Nat) (_hS : ∀ k, S k → k < W.heap.size) (hRb : Row W b (scells s) 26) (hSb : ¬ S b)
    (hJ : ∀ i A B, J i A → Below W.heap.size A B → J i B) (hJx : ∀ A B, Jx A → Below W.heap.size A B → Jx B)
    (hY : ∀ (i : Nat) (W1 : World) (c : Nat), (Nd.bytes s)[i]? = some c → W.heap.size ≤ W1.heap.size → J i W1 → YieldC Try.prog l #[.int .u8 (c : Int)] W1 (YPost J Jx S i W1)) (h0 : J 0 W) :
    Calls Try.prog 69 #[.func (.yield l) #[] #[], .pointer (some ⟨b, 0, none⟩)] W fun e W' => (∃ v, e = .returned v) ∧ (J (Nd.bytes s).length W' ∨ Jx W') := by
  refine Calls.enterM (args := [.func (.yield l) #[] #[], .pointer (some ⟨b, 0, none⟩)]) Try.func69 rfl rfl rfl rfl ?_
  refine WC.seqk ?_
  refine WC.region ?_
  refine WL.move rfl rfl rfl ?_
  refine WL.done' ?_ (fun _ _ h => h)
  refine WC.block ?_
  refine WC.weaken (r' := [(0, .func (.yield l) #[] #[]), (1, .pointer (some ⟨b, 0, none⟩)), (4, .int .i64 0)]) (subReg_cons rfl (subReg_cons rfl (subReg_cons rfl (subReg_nil _)))) ?_
  refine WC.loop (σ := Nat) (fun k r_ w_ => r_ = [(0, .func (.yield l) #[] #[]), (1, .pointer (some ⟨b, 0, none⟩)), (4, .int .i64 (k : Int))] ∧ k ≤ 256 ∧ Keep S W w_ ∧ J (Nd.upTo s k) w_) (fun k => 256 - k) 0 ⟨rfl, Nat.zero_le _, Keep.refl _ _, h0⟩ ?_
  rintro k r_ w1 ⟨rfl, hk, hK, hJ1⟩
  have hz1 := hK.size
  refine WC.seqk ?_
  refine WC.region ?_
  cases hc : decide ((k : Int) < 256) with
  | false =>
    refine WL.lss rfl rfl rfl rfl hc ?_
    have hc := of_decide_eq_false hc
    refine WL.done' ?_ (fun _ _ h => h)
    refine WC.seqk ?_
    refine WC.cond_f rfl ?_
    refine WC.exit (fun a_ ha => ?_)
    refine exit_then ?_
    refine exit_then ?_
    refine exit_here ?_
    refine bodyPostM_unit (.inr rfl) rfl ha (Marks.nil _ W.heap.size) (fun w' hk' => ⟨⟨_, rfl⟩, .inl ?_⟩)
    have hkn : k = 256 := by omega
    subst hkn
    exact hJ _ _ _ hJ1 (hk'.below (by omega) (fun k h1 h2 => by omega))
  | true =>
    refine WL.lss rfl rfl rfl rfl hc ?_
    have hc := of_decide_eq_true hc
    have hlt : k < 256 := by omega
    refine WL.done' ?_ (fun _ _ h => h)
    refine WC.seqk ?_
    refine WC.cond_t rfl ?_
    refine WC.skip'' ?_ (fun _ _ h => h)
    refine WC.seqk ?_
    refine WC.block ?_
    refine WC.seqk ?_
    refine WC.region ?_
    refine WL.move rfl rfl rfl ?_
    refine WL.assign rfl rfl rfl ?_
    refine WL.done' ?_ (fun _ _ h => h)
    refine WC.seqk ?_
    refine WC.region ?_
    refine WL.load_box rfl rfl rfl (hK.row hRb hSb) Ty.agg26 ?_
    refine WL.move rfl rfl rfl ?_
    refine WL.convInt (v := (k : Int)) rfl rfl Try.underlying3 Try.underlying5 rfl (IntWalk.u8_in _ (by omega)) ?_
    refine WL.call rfl rfl rfl Ty.ent62 (has1b_ok _ s k hs hlt) ?_
    rintro _ w2 ⟨he, hE2⟩
    have hz2 := hE2.size
    have hJ2 : J (Nd.upTo s k) w2 := hJ _ _ _ hJ1 (hE2.mono (by omega))
    have hstep := Nd.upTo_succ s k
    cases hb : Nd.sbit s k with
    | false =>
      rw [hb] at he; subst he
      rw [hb] at hstep
      refine ⟨_, rfl, ?_⟩
      refine WL.move rfl rfl rfl ?_
      refine WL.pass rfl rfl ?_
      refine WL.pass rfl rfl ?_
      refine WL.pass rfl rfl ?_
      refine WL.pass rfl rfl ?_
      refine WL.pass rfl rfl ?_
      refine WL.pick_f rfl rfl rfl rfl ?_
      refine WL.done' ?_ (fun _ _ h => h)
      refine WC.cond_f rfl ?_
      refine WC.skip'' ?_ (fun _ _ h => h)
      refine WC.region ?_
      refine WL.add (v := ((k + 1 : Nat) : Int)) rfl rfl rfl rfl (by rw [IntWalk.i64_in _ (by omega)]; rfl) ?_
      refine WL.move rfl rfl rfl ?_
      refine WL.nil (fun a_ ha => ?_)
      exact ⟨k + 1, _, ha.weaken (subReg_cons rfl (subReg_cons rfl (subReg_cons rfl (subReg_nil _)))), ⟨rfl, by omega, hK.trans (hE2.keep S), by rw [hstep]; exact hJ2⟩, by omega⟩
    | true =>
      rw [hb] at he; subst he
      rw [hb] at hstep
      refine ⟨_, rfl, ?_⟩
      refine WL.move rfl rfl rfl ?_
      refine WL.move rfl rfl rfl ?_
      refine WL.move rfl rfl rfl ?_
      refine WL.convInt (v := (k : Int)) rfl rfl Try.underlying3 Try.underlying5 rfl (IntWalk.u8_in _ (by omega)) ?_
      refine WL.yield rfl rfl rfl rfl (hY (Nd.upTo s k) w2 k (Nd.bytes_at hlt hb) (by omega) hJ2) ?_
      rintro e W3 (⟨rfl, hJ3, hK3⟩ | ⟨rfl, hx3, hK3⟩)
      · refine ⟨_, rfl, ?_⟩
        refine WL.not rfl rfl rfl ?_
        refine WL.pick_t rfl rfl rfl rfl ?_
        refine WL.done' ?_ (fun _ _ h => h)
        refine WC.cond_f rfl ?_
        refine WC.skip'' ?_ (fun _ _ h => h)
        refine WC.region ?_
        refine WL.add (v := ((k + 1 : Nat) : Int)) rfl rfl rfl rfl (by rw [IntWalk.i64_in _ (by omega)]; rfl) ?_
        refine WL.move rfl rfl rfl ?_
        refine WL.nil (fun a_ ha => ?_)
        exact ⟨k + 1, _, ha.weaken (subReg_cons rfl (subReg_cons rfl (subReg_cons rfl (subReg_nil _)))), ⟨rfl, by omega, (hK.trans (hE2.keep S)).trans hK3, by rw [hstep]; exact hJ3⟩, by omega⟩
      · refine ⟨_, rfl, ?_⟩
        have hz3 := hK3.size
        refine WL.not rfl rfl rfl ?_
        refine WL.pick_t rfl rfl rfl rfl ?_
        refine WL.done' ?_ (fun _ _ h => h)
        refine WC.cond_t rfl ?_
        refine WC.ret (fun a_ ha => ?_)
        exact bodyPostM_unit (.inl rfl) rfl ha (Marks.nil _ W.heap.size) (fun w' hk => ⟨⟨_, rfl⟩, .inr (hJx _ _ hx3 (hk.below (by omega) (fun k h1 h2 => by omega)))⟩)

/-- all(s) as an iterator -/
theorem all_iter {s : S4} (hs : Nd.SOk s) {w : World} {b : Nat} (hR : Row w b (scells s) 26) :
    IterV Try.prog 69 #[.pointer (some ⟨b, 0, none⟩)] (fun i v _ => ∃ c, (Nd.bytes s)[i]? = some c ∧ v = .int .u8 ((c : Nat) : Int)) (Nd.bytes s).length (fun k => k = b) w := by
  intro l' S' J' Jx' W' hE hS' hSD' hJ' hJx' hY' h0'
  exact Calls.caps1 (all1_ok s hs l' S' J' Jx' W' b hS' (hR.ext hE) (fun h => hSD' _ h rfl) hJ' hJx'
    (fun i W1 c hc hsz hj => hY' i W1 _ (by have := (List.getElem?_eq_some_iff.1 hc).1; exact this) ⟨c, hc, rfl⟩ hsz hj) h0')

section
variable {P : Program} {N : Nat} {ds : List Deferred} {r : Reg} {w : World}
theorem bodyPostM_cells2 {fn : Func} {R : Ending → World → Prop} {t u : Nat} {ct cu t' u' : TypeId} {b c : Nat} {v x : Value} {a : Act} {n0 : Nat} (hres : fn.results = #[.cell t ct, .cell u cu]) (h : Fits N ds r a) (hl : look r t = some (.pointer (some ⟨b, 0, none⟩))) (hl2 : look r u = some (.pointer (some ⟨c, 0, none⟩)))
    (ht : flatB P ct = true) (hu : flatB P cu = true) (hr : Row w b [v] t') (hr2 : Row w c [x] u') (hb : b < n0) (hc : c < n0) (hm : Marks w n0 ds)
    (hR : ∀ w', Keep (fun k => n0 ≤ k) w w' → R (.returned (.tuple #[v, x])) w') : bodyPostM Fence.wide 0 P fn R .ret a w := by
  obtain ⟨Ds, rfl, hnd, hd⟩ := hm
  show LeavesInM Fence.wide 0 P fn a.tmps R a.defers .returning w
  rw [h.defers]
  refine leavesM Ds w hnd hd (fun w' hk => ?_)
  have hk' := hk.mono (S' := fun k => n0 ≤ k) (fun k _ hm => (hd k hm).1)
  have hr' : Row w' b [v] t' := hk'.row hr (by omega)
  have hr2' : Row w' c [x] u' := hk'.row hr2 (by omega)
  exact ⟨_, by simp [results, hres, h.get _ _ hl, h.get _ _ hl2, asAddr, run_loadVar_flat ht (hr'.cell 0), run_loadVar_flat hu (hr2'.cell 0)], hR w' hk'⟩
end
/-- what First returns -/
def firstV : Option Nat → Value
  | none => .tuple #[.int .u8 0, .bool false]
  | some c => .tuple #[.int .u8 (c : Int), .bool true]
theorem first_ok (w : World) (s : S4) (hs : Nd.SOk s) :
    Calls Try.prog 59 #[.agg (scells s).toArray] w fun e w' => e = .returned (firstV (Nd.firstS s)) ∧ Ext w w' := by
  refine Calls.enterM (args := [.agg (scells s).toArray]) Try.func59 rfl rfl rfl rfl ?_
  refine WC.seqk ?_
  refine WC.region ?_
  refine WL.box_agg rfl rfl rfl (fun b1 w1 hb1 hE1 hs1 hR1 => ?_)
  refine WL.alloc rfl rfl Ty.zero5 rfl (fun b2 w2 hb2 hE2 hs2 hR2 => ?_)
  refine WL.alloc rfl rfl Ty.zero4 rfl (fun b3 w3 hb3 hE3 hs3 hR3 => ?_)
  refine WL.done' ?_ (fun _ _ h => h)
  refine WC.seqk ?_
  refine WC.seqk ?_
  refine WC.region ?_
  refine WL.load_box rfl rfl rfl ((hR1.ext hE2).ext hE3) Ty.agg26 ?_
  refine WL.call rfl rfl rfl Ty.ent65 (all_ok _ s) ?_
  rintro e w4 ⟨b4, rfl, hE4, hR4, hb4, hs4⟩
  refine ⟨_, rfl, ?_⟩
  refine WL.done' ?_ (fun _ _ h => h)
  refine WC.block ?_
  have hR24 : Row w4 b2 _ _ := (hR2.ext hE3).ext hE4
  have hR34 : Row w4 b3 _ _ := hR3.ext hE4
  refine WC.rangeFuncV rfl rfl Ty.ent69 (all_iter hs hR4) (Ext.refl _) (by rintro k rfl; omega) (fun k => k = b2 ∨ k = b3) (by rintro k (rfl | rfl) <;> omega) (by rintro k (rfl | rfl) h <;> omega)
    (fun i A => i = 0 ∧ Row A b2 [.int .u8 0] 5 ∧ Row A b3 [.bool false] 4) (fun c A => c = .ret ∧ ∃ k : Nat, (Nd.bytes s)[0]? = some k ∧ Row A b2 [.int .u8 (k : Int)] 5 ∧ Row A b3 [.bool true] 4)
    (fun i A B h hb => ⟨h.1, h.2.1.below hb (by omega), h.2.2.below hb (by omega)⟩) (fun c A B h hb => ⟨h.1, by obtain ⟨k, h1, h2, h3⟩ := h.2; exact ⟨k, h1, h2.below hb (by omega), h3.below hb (by omega)⟩⟩)
    ⟨rfl, hR24, hR34⟩ ?_ ?_ ?_
  · rintro i W1 v lr hi ⟨c, hcb, rfl⟩ hl1 hl2 hKW ⟨rfl, hR2i, hR3i⟩
    have hzW := hKW.size
    refine WC.region ?_
    refine WL.assign rfl rfl rfl ?_
    refine WL.nil (fun a_ ha => ?_)
    refine ⟨Keep.refl _ _, fun w9 hB9 => ?_⟩
    refine WC.at ?_ ha
    have hz9 := hB9.size
    have hR29 : Row w9 b2 _ _ := hB9.row hR2i (by omega)
    have hR39 : Row w9 b3 _ _ := hB9.row hR3i (by omega)
    refine WC.block ?_
    refine WC.seqk ?_
    refine WC.region ?_
    refine WL.move rfl rfl rfl ?_
    refine WL.store_cell rfl Ty.flat5 rfl rfl hR29 rfl rfl (fun w10 hB10 hR210 => ?_)
    refine WL.store_cell rfl Ty.flat4 rfl rfl (hB10.row hR39 (by omega)) rfl rfl (fun w11 hB11 hR311 => ?_)
    refine WL.done' ?_ (fun _ _ h => h)
    refine WC.ret (fun a_ ha => ?_)
    exact ⟨(hB10.keep (.inl rfl)).trans (hB11.keep (.inr rfl)), rfl, c, hcb, hB11.row hR210 (by omega), hR311⟩
  · rintro wd Dd hDd hdd hKd ⟨h0, hR2d, hR3d⟩ a_ ha
    have hzd := hKd.size
    have hn : Nd.firstS s = none := by rw [Nd.firstS_eq, List.eq_nil_of_length_eq_zero h0]; rfl
    refine WC.at ?_ ha
    refine WC.seqk ?_
    refine WC.region ?_
    refine WL.store_cell rfl Ty.flat5 rfl rfl hR2d rfl rfl (fun w10 hB10 hR210 => ?_)
    refine WL.store_cell rfl Ty.flat4 rfl rfl (hB10.row hR3d (by omega)) rfl rfl (fun w11 hB11 hR311 => ?_)
    refine WL.done' ?_ (fun _ _ h => h)
    refine WC.ret (fun a_ ha => ?_)
    have hz10 := hB10.size
    have hz11 := hB11.size
    rw [hn]
    refine bodyPostM_cells2 (b := b2) (c := b3) rfl ha rfl rfl Ty.flat5 Ty.flat4 (hB11.row hR210 (by omega)) hR311 (n0 := w4.heap.size) (by omega) (by omega) (Marks.one (by omega) ?_) (fun wz hkz => ⟨rfl, ?_⟩)
    · rw [hB11.block _ (by omega), hB10.block _ (by omega)]; exact hdd
    · exact hkz.after (hB11.onto (hB10.onto (hKd.after (((hE1.trans hE2).trans hE3).trans hE4) (by rintro k (rfl | rfl) <;> omega)) (by omega)) (by omega)) (fun k h => by omega)
  · rintro wd Dd cd hDd hdd hKd ⟨rfl, k, hk0, hR2d, hR3d⟩
    have hzd := hKd.size
    have hn : Nd.firstS s = some k := by rw [Nd.firstS_eq]; exact hk0
    refine WC.ret (fun a_ ha => ?_)
    rw [hn]
    refine bodyPostM_cells2 (b := b2) (c := b3) rfl ha rfl rfl Ty.flat5 Ty.flat4 hR2d hR3d (n0 := w4.heap.size) (by omega) (by omega) (Marks.one (by omega) hdd) (fun wz hkz => ⟨rfl, ?_⟩)
    exact hkz.after (hKd.after (((hE1.trans hE2).trans hE3).trans hE4) (by rintro k (rfl | rfl) <;> omega)) (fun k h => by omega)
theorem first_at {o : Option Nat} (w : World) (s : S4) (hs : Nd.SOk s) (h : Nd.firstS s = o) :
    Calls Try.prog 59 #[.agg (scells s).toArray] w fun e w' => e = .returned (firstV o) ∧ Ext w w' := h ▸ first_ok w s hs
end Go.Proofs.Ytaggidjijekpbaa
