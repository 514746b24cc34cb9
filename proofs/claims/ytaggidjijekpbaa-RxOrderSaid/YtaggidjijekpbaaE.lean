/- Walks through the program's functions: each computes what the plain Lean function says. Printed by our own gen/r8.py. -/
import Derived.Test.YtaggidjijekpbaaD
import Derived.KernelRfl
namespace Go.Proofs.Ytaggidjijekpbaa
open Go.Proofs Go.RowKit

set_option maxRecDepth 20000 in
set_option maxHeartbeats 4000000 in
theorem checked_ok (D : Nat → Prop) (w : World) (l : List Value) (T : Nd) (hT : NodeL D w l T) :
    Calls Try.prog 42 #[.agg l.toArray] w fun e w' => ∃ l', e = .returned (.agg l'.toArray) ∧ NodeL (fun k => w.heap.size ≤ k) w' l' T.checked ∧ Ext w w' := by
  have hT := hT.lt
  obtain ⟨sl, rfl, hts⟩ := hT.opn
  obtain ⟨a, cap, rfl, hlen, -⟩ := hts.get
  refine Calls.enter (args := [.agg #[.int .u8 T.kind, .int .u64 T.set.a, .int .u64 T.set.b, .int .u64 T.set.c, .int .u64 T.set.d, .int .i64 T.least, .int .i64 T.most, .slice a T.subs.length cap]]) Try.func42 rfl rfl rfl rfl ?_
  refine WC.seqk ?_
  refine WC.region ?_
  refine WL.box_agg rfl rfl rfl (fun b1 w6 hb2 hE5 hs3 hR4 => ?_)
  refine WL.alloc rfl rfl Ty.zero29 rfl (fun b7 w12 hb8 hE11 hs9 hR10 => ?_)
  refine WL.done' ?_ (fun _ _ h => h)
  refine WC.seqk ?_
  refine WC.seqk ?_
  refine WC.region ?_
  refine WL.load_box rfl rfl rfl (hR4.ext hE11) Ty.agg29 ?_
  have h13 := ((hT.ext hE5).ext hE11)
  refine WL.call rfl rfl rfl Ty.ent12 (clean_ok _ _ _ _ h13) ?_
  rintro _ w15 ⟨rfl, hE14⟩
  have hzhE14 := hE14.size
  refine ⟨_, rfl, ?_⟩
  cases hc16 : Nd.clean T with
  | false =>
    refine WL.not rfl rfl rfl ?_
    refine WL.done' ?_ (fun _ _ h => h)
    refine WC.cond_t rfl ?_
    refine WC.seqk ?_
    refine WC.region ?_
    refine WL.build0 (l := [.int .u8 0, .int .u64 0, .int .u64 0, .int .u64 0, .int .u64 0, .int .i64 0, .int .i64 0, .slice none 0 0]) rfl rfl Ty.zero29 Ty.agg29 rfl Ty.bz29 ?_
    have hn17 : NodeL _ w15 [.int .u8 0, .int .u64 0, .int .u64 0, .int .u64 0, .int .u64 0, .int .i64 0, .int .i64 0, .slice none 0 0] (Nd.mk 0 Nd.zero 0 0 ([])) := NodeL.shut (k := 0) (s := Nd.zero) (mn := 0) (mx := 0) (sl := .slice none 0 0) (ts := []) (NodesV.nil (fun _ => False) _ none 0)
    have hn17 := hn17.lt
    refine WL.store_box rfl rfl rfl (hR10.ext hE14) Ty.agg29 rfl rfl (fun w20 hB19 hR18 => ?_)
    have hzhB19 := hB19.size
    refine WL.done' ?_ (fun _ _ h => h)
    refine WC.ret (fun a_ ha => ?_)
    refine ret_then ?_
    exact bodyPost_cell (l := [.int .u8 0, .int .u64 0, .int .u64 0, .int .u64 0, .int .u64 0, .int .i64 0, .int .i64 0, .slice none 0 0]) rfl ha rfl Ty.agg29 hR18 ⟨_, rfl, (by simp only [Nd.checked, hc16, cond_false]; exact ((hn17.but hB19 (by intro h1; first | omega | ((try dsimp only at h1); (repeat' first | (guard_hyp h1 : _ ∨ _; refine Or.elim h1 (fun h1 => ?_) (fun h1 => ?_)) | (guard_hyp h1 : _ ∧ _; have hx := h1.2; replace h1 := h1.1)) <;> first | contradiction | omega))).dom (by intro k hk; (try dsimp only at hk); first | omega | exact hk.1.elim))), (hB19.onto ((hE5.trans hE11).trans hE14) (by omega))⟩
  | true =>
    refine WL.not rfl rfl rfl ?_
    refine WL.done' ?_ (fun _ _ h => h)
    refine WC.cond_f rfl ?_
    refine WC.skip'' ?_ (fun _ _ h => h)
    refine WC.seqk ?_
    refine WC.region ?_
    have h67 := ((hR4.ext hE11).ext hE14)
    refine WL.load_box rfl rfl rfl h67 Ty.agg29 ?_
    refine WL.call rfl rfl rfl Ty.ent41 (copied_ok T _ _ _ (h13.ext hE14) (Nd.clean_size hc16)) ?_
    rintro _ w70 ⟨l68, rfl, hr68, hE69⟩
    have hzhE69 := hE69.size
    refine ⟨_, rfl, ?_⟩
    have hn68 := hr68.lt
    obtain ⟨sl68, rfl, hts68⟩ := hn68.opn
    obtain ⟨a68, cap68, rfl, hlen68, -⟩ := hts68.get
    have h73 := ((hR10.ext hE14).ext hE69)
    refine WL.store_box rfl rfl rfl h73 Ty.agg29 rfl rfl (fun w74 hB72 hR71 => ?_)
    have hzhB72 := hB72.size
    refine WL.done' ?_ (fun _ _ h => h)
    refine WC.ret (fun a_ ha => ?_)
    exact bodyPost_cell (l := [.int .u8 T.kind, .int .u64 T.set.a, .int .u64 T.set.b, .int .u64 T.set.c, .int .u64 T.set.d, .int .i64 T.least, .int .i64 T.most, .slice a68 T.subs.length cap68]) rfl ha rfl Ty.agg29 hR71 ⟨_, rfl, (by simp only [Nd.checked, hc16, cond_true]; exact ((hn68.but hB72 (by intro h1; first | omega | ((try dsimp only at h1); (repeat' first | (guard_hyp h1 : _ ∨ _; refine Or.elim h1 (fun h1 => ?_) (fun h1 => ?_)) | (guard_hyp h1 : _ ∧ _; have hx := h1.2; replace h1 := h1.1)) <;> first | contradiction | omega))).dom (by intro k hk; (try dsimp only at hk); first | omega | exact hk.1.elim))), (hB72.onto (((hE5.trans hE11).trans hE14).trans hE69) (by omega))⟩

set_option maxRecDepth 20000 in
set_option maxHeartbeats 4000000 in
theorem good_ok (D : Nat → Prop) (w : World) (l : List Value) (T : Nd) (hT : NodeL D w l T) :
    Calls Try.prog 34 #[.agg l.toArray] w fun e w' => e = .returned (.bool T.good) ∧ Ext w w' := by
  have hT := hT.lt
  obtain ⟨sl, rfl, hts⟩ := hT.opn
  obtain ⟨a, cap, rfl, hlen, -⟩ := hts.get
  refine Calls.enter (args := [.agg #[.int .u8 T.kind, .int .u64 T.set.a, .int .u64 T.set.b, .int .u64 T.set.c, .int .u64 T.set.d, .int .i64 T.least, .int .i64 T.most, .slice a T.subs.length cap]]) Try.func34 rfl rfl rfl rfl ?_
  refine WC.seqk ?_
  refine WC.region ?_
  refine WL.box_agg rfl rfl rfl (fun b1 w6 hb2 hE5 hs3 hR4 => ?_)
  refine WL.assign rfl rfl rfl ?_
  refine WL.done' ?_ (fun _ _ h => h)
  refine WC.seqk ?_
  refine WC.region ?_
  refine WL.load_box rfl rfl rfl hR4 Ty.agg29 ?_
  refine WL.build0 (l := [.int .u8 0, .int .u64 0, .int .u64 0, .int .u64 0, .int .u64 0, .int .i64 0, .int .i64 0, .slice none 0 0]) rfl rfl Ty.zero29 Ty.agg29 rfl Ty.bz29 ?_
  have hn7 : NodeL _ w6 [.int .u8 0, .int .u64 0, .int .u64 0, .int .u64 0, .int .u64 0, .int .i64 0, .int .i64 0, .slice none 0 0] (Nd.mk 0 Nd.zero 0 0 ([])) := NodeL.shut (k := 0) (s := Nd.zero) (mn := 0) (mx := 0) (sl := .slice none 0 0) (ts := []) (NodesV.nil (fun _ => False) _ none 0)
  have hn7 := hn7.lt
  refine WL.call rfl rfl rfl Ty.ent38 (same_ok T _ _ _ _ _ (Nd.mk 0 Nd.zero 0 0 ([])) (hT.ext hE5) hn7) ?_
  rintro _ w9 ⟨rfl, hE8⟩
  have hzhE8 := hE8.size
  refine ⟨_, rfl, ?_⟩
  cases hc10 : T.same (Nd.mk 0 Nd.zero 0 0 ([])) with
  | false =>
    refine WL.move rfl rfl rfl ?_
    refine WL.load_box rfl rfl rfl (hR4.ext hE8) Ty.agg29 ?_
    have h11 := ((hT.ext hE5).ext hE8)
    refine WL.call rfl rfl rfl Ty.ent12 (clean_ok _ _ _ _ h11) ?_
    rintro _ w13 ⟨rfl, hE12⟩
    have hzhE12 := hE12.size
    refine ⟨_, rfl, ?_⟩
    refine WL.pick_f rfl rfl rfl rfl ?_
    refine WL.assign rfl rfl rfl ?_
    refine WL.done' ?_ (fun _ _ h => h)
    refine WC.ret (fun a_ ha => ?_)
    exact bodyPost_tmp rfl ha rfl ⟨(by congr 2; have hcn := hc10; change _ = (T.same Nd.none || T.clean); change T.same Nd.none = _ at hcn; rw [hcn]; simp), ((hE5.trans hE8).trans hE12)⟩
  | true =>
    refine WL.move rfl rfl rfl ?_
    refine WL.pass rfl rfl ?_
    refine WL.pass rfl rfl ?_
    refine WL.pick_t rfl rfl rfl rfl ?_
    refine WL.assign rfl rfl rfl ?_
    refine WL.done' ?_ (fun _ _ h => h)
    refine WC.ret (fun a_ ha => ?_)
    exact bodyPost_tmp rfl ha rfl ⟨(by congr 2; have hcn := hc10; change _ = (T.same Nd.none || T.clean); change T.same Nd.none = _ at hcn; rw [hcn]; simp), (hE5.trans hE8)⟩

set_option maxRecDepth 20000 in
set_option maxHeartbeats 4000000 in
theorem flat_ok (D : Nat → Prop) (w : World) (kind without : Int) (a : Option Addr) (cap : Nat) (ts : List Nd) (hts : NodesV D w (.slice a ts.length cap) ts) (hD : ∀ k, D k → k < w.heap.size) (hle : Nd.sizeL ts ≤ 1000000) :
    Calls Try.prog 33 #[.int .u8 kind, .int .u8 without, .slice a ts.length cap] w fun e w' => ∃ v, e = .returned v ∧ OwnV 29 w.heap.size D w' v (Nd.flat kind without ts) ∧ Ext w w' := by
  have hlen := hts.len
  have hts := hts.lt
  refine Calls.enter (args := [.int .u8 kind, .int .u8 without, .slice a ts.length cap]) Try.func33 rfl rfl rfl rfl ?_
  refine WC.seqk ?_
  refine WC.region ?_
  refine WL.assign rfl rfl rfl ?_
  refine WL.done' ?_ (fun _ _ h => h)
  refine WC.seqk ?_
  refine WC.region ?_
  refine WL.assign rfl rfl rfl ?_
  refine WL.done' ?_ (fun _ _ h => h)
  refine WC.seqk ?_
  refine WC.seqk ?_
  refine WC.region ?_
  refine WL.move rfl rfl rfl ?_
  refine WL.len rfl rfl Try.underlying27 rfl ?_
  refine WL.move rfl rfl rfl ?_
  refine WL.done' ?_ (fun _ _ h => h)
  refine WC.block ?_
  refine WC.weaken (r' := [(0, .int .u8 kind), (1, .int .u8 without), (10, .slice a ts.length cap), (11, .int .i64 ts.length), (12, .int .i64 0), (7, .slice none 0 0)]) (subReg_cons rfl (subReg_cons rfl (subReg_cons rfl (subReg_cons rfl (subReg_cons rfl (subReg_cons rfl (subReg_nil _))))))) ?_
  refine WC.loop (σ := Nat × Value) (fun s r_ w_ => r_ = [(0, .int .u8 kind), (1, .int .u8 without), (10, .slice a ts.length cap), (11, .int .i64 ts.length), (12, .int .i64 (s.1 : Int)), (7, s.2)] ∧ Ext w w_ ∧ (s.1 ≤ ts.length ∧ OwnV 29 w.heap.size D w_ s.2 (Nd.flat kind without (ts.take s.1)))) (fun s => ts.length - s.1) (0, .slice none 0 0) ⟨rfl, (Ext.refl _), ⟨Nat.zero_le _, OwnV.nil _ _ _ _⟩⟩ ?_
  rintro ⟨k, v⟩ r_ w3 ⟨rfl, hE1, hI2⟩
  have hzhE1 := hE1.size
  dsimp only at hI2
  obtain ⟨hk, hO⟩ := hI2
  have hol := hO.own
  refine WC.weaken (r' := [(0, .int .u8 kind), (1, .int .u8 without), (10, .slice a ts.length cap), (11, .int .i64 ts.length), (12, .int .i64 (k : Int)), (7, v)]) (subReg_cons rfl (subReg_cons rfl (subReg_cons rfl (subReg_cons rfl (subReg_cons rfl (subReg_cons rfl (subReg_nil _))))))) ?_
  refine WC.seqk ?_
  refine WC.region ?_
  cases hc4 : decide (((k : Int) : Int) < ts.length) with
  | false =>
    refine WL.lss rfl rfl rfl rfl hc4 ?_
    have hp4 := of_decide_eq_false hc4
    refine WL.done' ?_ (fun _ _ h => h)
    refine WC.seqk ?_
    refine WC.cond_f rfl ?_
    refine WC.exit (fun a_ ha => ?_)
    refine exit_then ?_
    refine exit_then ?_
    refine exit_here ?_
    refine WC.at ?_ ha
    refine WC.seqk ?_
    refine WC.region ?_
    refine WL.move rfl rfl rfl ?_
    refine WL.assign rfl rfl rfl ?_
    refine WL.done' ?_ (fun _ _ h => h)
    refine WC.ret (fun a_ ha => ?_)
    exact bodyPost_tmp rfl ha rfl ⟨_, rfl, (by have hkk : k = ts.length := (by omega); have hq := hO; subst hkk; rw [List.take_length] at hq; exact hq), hE1⟩
  | true =>
    refine WL.lss rfl rfl rfl rfl hc4 ?_
    have hp4 := of_decide_eq_true hc4
    refine WL.done' ?_ (fun _ _ h => h)
    refine WC.seqk ?_
    refine WC.cond_t rfl ?_
    refine WC.skip'' ?_ (fun _ _ h => h)
    refine WC.seqk ?_
    refine WC.block ?_
    refine WC.seqk ?_
    refine WC.region ?_
    obtain ⟨t55, ht55⟩ : ∃ t, ts[k]? = some t := ⟨_, List.getElem?_eq_getElem (by omega)⟩
    obtain ⟨eb55, eo55, el55, hea55, hD55, her55, hn55⟩ := (hts.ext hE1).at ht55
    obtain ⟨sl55, rfl, hts55⟩ := hn55.opn
    obtain ⟨a55, cap55, rfl, hlen55, -⟩ := hts55.get
    subst hea55
    refine WL.indexAddr (i := k) rfl rfl Ty.slice27 rfl rfl rfl (by omega) ?_
    refine WL.load_agg (l := tcells t55 (.slice a55 t55.subs.length cap55)) rfl rfl Ty.agg29 rfl her55 ?_
    refine WL.alloc rfl rfl Ty.zero29 rfl (fun b56 w61 hb57 hE60 hs58 hR59 => ?_)
    refine WL.store_box rfl rfl rfl hR59 Ty.agg29 rfl rfl (fun w64 hB63 hR62 => ?_)
    have hzhB63 := hB63.size
    refine WL.done' ?_ (fun _ _ h => h)
    refine WC.seqk ?_
    refine WC.region ?_
    refine WL.fieldAddr rfl rfl Ty.fld29_0 rfl ?_
    refine WL.load_fld rfl rfl Ty.flat5 rfl hR62 rfl ?_
    refine WL.done' ?_ (fun _ _ h => h)
    refine WC.block ?_
    refine WC.seqk ?_
    refine WC.region ?_
    refine WL.move rfl rfl rfl ?_
    cases hc65 : ((t55.kind : Int) == kind) with
    | false =>
      refine WL.eql rfl rfl rfl rfl hc65 ?_
      have hp65 := beq_eq_false_iff_ne.1 hc65
      refine WL.assign rfl rfl rfl ?_
      refine WL.done' ?_ (fun _ _ h => h)
      refine WC.cond_f rfl ?_
      refine WC.seqk ?_
      refine WC.region ?_
      refine WL.move rfl rfl rfl ?_
      cases hc66 : ((t55.kind : Int) == without) with
      | false =>
        refine WL.eql rfl rfl rfl rfl hc66 ?_
        have hp66 := beq_eq_false_iff_ne.1 hc66
        refine WL.assign rfl rfl rfl ?_
        refine WL.done' ?_ (fun _ _ h => h)
        refine WC.cond_f rfl ?_
        refine WC.region ?_
        refine WL.move rfl rfl rfl ?_
        refine WL.load_box rfl rfl rfl hR62 Ty.agg29 ?_
        have h67 := ((hn55.ext hE60).but hB63 (by intro h1; first | omega | ((try dsimp only at h1); (repeat' first | (guard_hyp h1 : _ ∨ _; refine Or.elim h1 (fun h1 => ?_) (fun h1 => ?_)) | (guard_hyp h1 : _ ∧ _; have hx := h1.2; replace h1 := h1.1)) <;> first | contradiction | omega)))
        refine WL.buildSlice (vs := [.agg #[.int .u8 t55.kind, .int .u64 t55.set.a, .int .u64 t55.set.b, .int .u64 t55.set.c, .int .u64 t55.set.d, .int .i64 t55.least, .int .i64 t55.most, .slice a55 t55.subs.length cap55]]) (cells := [.int .u8 t55.kind, .int .u64 t55.set.a, .int .u64 t55.set.b, .int .u64 t55.set.c, .int .u64 t55.set.d, .int .i64 t55.least, .int .i64 t55.most, .slice a55 t55.subs.length cap55]) rfl rfl Ty.slice27 Ty.zero29 rfl rfl rfl rfl rfl rfl (fun b68 w73 hb69 hE72 hs70 hR71 => ?_)
        have hts68 := (NodesV.lit (n := 1) (ts := [t55]) hR71 (RowsL.cons (h67.ext hE72) (RowsL.nil' _)) rfl rfl (by decide)).lt
        have h74 := (((hO.ext hE60).but hB63 (fun h1 => by have := hD _ h1; first | omega | (dsimp only at h1; omega)) (fun hk => by have := (hO.ext hE60).own _ hk; have := hol _ hk; omega)).ext hE72)
        have hol75 := h74.own
        refine WL.append1 rfl rfl Ty.slice27 Ty.zero29 rfl small_node rfl rfl h74 hR71 (h67.ext hE72) (by intro k h1 hh; have := hol75 _ hh; have := hol _ hh; first | omega | ((try dsimp only at h1); (repeat' first | (guard_hyp h1 : _ ∨ _; refine Or.elim h1 (fun h1 => ?_) (fun h1 => ?_)) | (guard_hyp h1 : _ ∧ _; have hx := h1.2; replace h1 := h1.1)) <;> first | contradiction | omega)) (by have h1 := Nd.sizeL_take ht55; have h2 := Nd.flat_len kind without (ts.take k); have h3 := Nd.size_subs t55; have h4 := Nd.length_le_sizeL t55.subs; omega) (by omega) ?_
        intro v75 w75 hG75 hO75 hv75
        have hE75 := grown_below hG75 ((hB63.onto (hE1.trans hE60) (by omega)).trans hE72) (by intro k hk; have := hol75 _ hk; omega)
        have hz75 := hE75.size
        have hzz75 := hG75.size
        refine WL.assign rfl rfl rfl ?_
        refine WL.done' ?_ (fun _ _ h => h)
        refine WC.region ?_
        refine WL.add (v := (k : Int) + 1) rfl rfl rfl rfl (IntWalk.i64_in _ (by omega)) ?_
        refine WL.move rfl rfl rfl ?_
        refine WL.nil (fun a_ ha => ?_)
        exact ⟨(k + 1, v75), _, ha.weaken (subReg_cons rfl (subReg_cons rfl (subReg_cons rfl (subReg_cons rfl (subReg_cons rfl (subReg_cons rfl (subReg_nil _))))))), ⟨rfl, hE75, ⟨by first | omega | (dsimp only; omega), (by dsimp only; simp only [Nd.flat_succ _ _ ht55, Nd.flat1, hc65, hc66, cond_false]; exact hO75.dom (by first | exact fun _ h _ _ => h | (rintro k h _ _; rcases h with h | h; exact h; first | exact h | exact h.1)))⟩⟩, by first | omega | (dsimp only; omega)⟩
      | true =>
        refine WL.eql rfl rfl rfl rfl hc66 ?_
        have hp66 := beq_iff_eq.1 hc66
        refine WL.assign rfl rfl rfl ?_
        refine WL.done' ?_ (fun _ _ h => h)
        refine WC.cond_t rfl ?_
        refine WC.skip'' ?_ (fun _ _ h => h)
        refine WC.region ?_
        refine WL.add (v := (k : Int) + 1) rfl rfl rfl rfl (IntWalk.i64_in _ (by omega)) ?_
        refine WL.move rfl rfl rfl ?_
        refine WL.nil (fun a_ ha => ?_)
        have h117 := ((hO.ext hE60).but hB63 (fun h1 => by have := hD _ h1; first | omega | (dsimp only at h1; omega)) (fun hk => by have := (hO.ext hE60).own _ hk; have := hol _ hk; omega))
        exact ⟨(k + 1, v), _, ha.weaken (subReg_cons rfl (subReg_cons rfl (subReg_cons rfl (subReg_cons rfl (subReg_cons rfl (subReg_cons rfl (subReg_nil _))))))), ⟨rfl, (hB63.onto (hE1.trans hE60) (by omega)), ⟨by first | omega | (dsimp only; omega), (by dsimp only; simp only [Nd.flat_succ _ _ ht55, Nd.flat1, hc65, hc66, cond_true, cond_false, List.append_nil]; exact h117.dom (by first | exact fun _ h _ _ => h | (rintro k h _ _; rcases h with h | h; exact h; first | exact h | exact h.1)))⟩⟩, by first | omega | (dsimp only; omega)⟩
    | true =>
      refine WL.eql rfl rfl rfl rfl hc65 ?_
      have hp65 := beq_iff_eq.1 hc65
      refine WL.assign rfl rfl rfl ?_
      refine WL.done' ?_ (fun _ _ h => h)
      refine WC.cond_t rfl ?_
      refine WC.region ?_
      refine WL.move rfl rfl rfl ?_
      refine WL.fieldAddr rfl rfl Ty.fld29_4 rfl ?_
      refine WL.load_fld rfl rfl Ty.flat27 rfl hR62 rfl ?_
      have h116 := ((hO.ext hE60).but hB63 (fun h1 => by have := hD _ h1; first | omega | (dsimp only at h1; omega)) (fun hk => by have := (hO.ext hE60).own _ hk; have := hol _ hk; omega))
      have hol117 := h116.own
      have h118 := ((hts55.ext hE60).but hB63 (by intro h1; first | omega | ((try dsimp only at h1); (repeat' first | (guard_hyp h1 : _ ∨ _; refine Or.elim h1 (fun h1 => ?_) (fun h1 => ?_)) | (guard_hyp h1 : _ ∧ _; have hx := h1.2; replace h1 := h1.1)) <;> first | contradiction | omega)))
      refine WL.appendV rfl rfl Ty.slice27 Ty.zero29 rfl small_node rfl rfl h116 h118 (by intro k h1 hh; have := hol117 _ hh; have := hol _ hh; first | omega | ((try dsimp only at h1); (repeat' first | (guard_hyp h1 : _ ∨ _; refine Or.elim h1 (fun h1 => ?_) (fun h1 => ?_)) | (guard_hyp h1 : _ ∧ _; have hx := h1.2; replace h1 := h1.1)) <;> first | contradiction | omega)) (by have h1 := Nd.sizeL_take ht55; have h2 := Nd.flat_len kind without (ts.take k); have h3 := Nd.size_subs t55; have h4 := Nd.length_le_sizeL t55.subs; omega) (by omega) ?_
      intro v117 w117 hG117 hO117 hv117
      have hE117 := grown_below hG117 (hB63.onto (hE1.trans hE60) (by omega)) (by intro k hk; have := hol117 _ hk; omega)
      have hz117 := hE117.size
      have hzz117 := hG117.size
      refine WL.assign rfl rfl rfl ?_
      refine WL.done' ?_ (fun _ _ h => h)
      refine WC.region ?_
      refine WL.add (v := (k : Int) + 1) rfl rfl rfl rfl (IntWalk.i64_in _ (by omega)) ?_
      refine WL.move rfl rfl rfl ?_
      refine WL.nil (fun a_ ha => ?_)
      exact ⟨(k + 1, v117), _, ha.weaken (subReg_cons rfl (subReg_cons rfl (subReg_cons rfl (subReg_cons rfl (subReg_cons rfl (subReg_cons rfl (subReg_nil _))))))), ⟨rfl, hE117, ⟨by first | omega | (dsimp only; omega), (by dsimp only; simp only [Nd.flat_succ _ _ ht55, Nd.flat1, hc65, cond_true]; exact hO117.dom (by first | exact fun _ h _ _ => h | (rintro k h _ _; rcases h with h | h; exact h; first | exact h | exact h.1)))⟩⟩, by first | omega | (dsimp only; omega)⟩

set_option maxRecDepth 20000 in
set_option maxHeartbeats 4000000 in
theorem joined_ok (D : Nat → Prop) (w : World) (kind : Int) (a : Option Addr) (cap : Nat) (ts : List Nd) (l2 : List Value) (U : Nd) (hts : NodesV D w (.slice a ts.length cap) ts) (hU : NodeL (fun _ => False) w l2 U) :
    Calls Try.prog 32 #[.int .u8 kind, .slice a ts.length cap, .agg l2.toArray] w fun e w' => ∃ l', e = .returned (.agg l'.toArray) ∧ NodeL (fun k => w.heap.size ≤ k) w' l' (Nd.joined kind ts U) ∧ Ext w w' := by
  have hlen := hts.len
  have hts := hts.lt
  have hU := hU.lt
  obtain ⟨sl2, rfl, hts2⟩ := hU.opn
  obtain ⟨a2, cap2, rfl, hlen2, -⟩ := hts2.get
  refine Calls.enter (args := [.int .u8 kind, .slice a ts.length cap, .agg #[.int .u8 U.kind, .int .u64 U.set.a, .int .u64 U.set.b, .int .u64 U.set.c, .int .u64 U.set.d, .int .i64 U.least, .int .i64 U.most, .slice a2 U.subs.length cap2]]) Try.func32 rfl rfl rfl rfl ?_
  refine WC.seqk ?_
  refine WC.region ?_
  refine WL.box_agg rfl rfl rfl (fun b1 w6 hb2 hE5 hs3 hR4 => ?_)
  refine WL.alloc rfl rfl Ty.zero29 rfl (fun b7 w12 hb8 hE11 hs9 hR10 => ?_)
  refine WL.done' ?_ (fun _ _ h => h)
  refine WC.seqk ?_
  refine WC.seqk ?_
  refine WC.region ?_
  refine WL.move rfl rfl rfl ?_
  refine WL.len rfl rfl Try.underlying27 rfl ?_
  refine WL.done' ?_ (fun _ _ h => h)
  refine WC.block ?_
  refine WC.seqk ?_
  refine WC.region ?_
  cases hc13 : ((ts.length : Int) == 0) with
  | false =>
    refine WL.eql rfl rfl rfl rfl hc13 ?_
    have hp13 := beq_eq_false_iff_ne.1 hc13
    refine WL.assign rfl rfl rfl ?_
    refine WL.done' ?_ (fun _ _ h => h)
    refine WC.cond_f rfl ?_
    refine WC.seqk ?_
    refine WC.region ?_
    cases hc14 : ((ts.length : Int) == 1) with
    | false =>
      refine WL.eql rfl rfl rfl rfl hc14 ?_
      have hp14 := beq_eq_false_iff_ne.1 hc14
      refine WL.assign rfl rfl rfl ?_
      refine WL.done' ?_ (fun _ _ h => h)
      refine WC.cond_f rfl ?_
      refine WC.skip'' ?_ (fun _ _ h => h)
      refine WC.seqk ?_
      refine WC.region ?_
      refine WL.move rfl rfl rfl ?_
      refine WL.move rfl rfl rfl ?_
      refine WL.build (l := [.int .u8 kind, .int .u64 0, .int .u64 0, .int .u64 0, .int .u64 0, .int .i64 0, .int .i64 0, .slice a ts.length cap]) rfl rfl Ty.zero29 Ty.st29 ⟨⟨rfl, rfl⟩, (by kernel_rfl)⟩ ?_
      have h16 := ((hts.ext hE5).ext hE11)
      have hn15 : NodeL _ w12 [.int .u8 kind, .int .u64 0, .int .u64 0, .int .u64 0, .int .u64 0, .int .i64 0, .int .i64 0, .slice a ts.length cap] (Nd.mk kind Nd.zero 0 0 ts) := NodeL.shut (k := kind) (s := Nd.zero) (mn := 0) (mx := 0) (sl := .slice a ts.length cap) (ts := ts) h16
      have hn15 := hn15.lt
      refine WL.call rfl rfl rfl Ty.ent42 (checked_ok _ _ _ _ hn15) ?_
      rintro _ w19 ⟨l17, rfl, hr17, hE18⟩
      have hzhE18 := hE18.size
      refine ⟨_, rfl, ?_⟩
      have hn17 := hr17.lt
      obtain ⟨sl17, rfl, hts17⟩ := hn17.opn
      obtain ⟨a17, cap17, rfl, hlen17, -⟩ := hts17.get
      refine WL.store_box rfl rfl rfl (hR10.ext hE18) Ty.agg29 rfl rfl (fun w22 hB21 hR20 => ?_)
      have hzhB21 := hB21.size
      refine WL.done' ?_ (fun _ _ h => h)
      refine WC.ret (fun a_ ha => ?_)
      exact bodyPost_cell (l := [.int .u8 ((Nd.mk kind Nd.zero 0 0 ts).checked).kind, .int .u64 ((Nd.mk kind Nd.zero 0 0 ts).checked).set.a, .int .u64 ((Nd.mk kind Nd.zero 0 0 ts).checked).set.b, .int .u64 ((Nd.mk kind Nd.zero 0 0 ts).checked).set.c, .int .u64 ((Nd.mk kind Nd.zero 0 0 ts).checked).set.d, .int .i64 ((Nd.mk kind Nd.zero 0 0 ts).checked).least, .int .i64 ((Nd.mk kind Nd.zero 0 0 ts).checked).most, .slice a17 ((Nd.mk kind Nd.zero 0 0 ts).checked).subs.length cap17]) rfl ha rfl Ty.agg29 hR20 ⟨_, rfl, (by simp only [Nd.joined, hc13, hc14, cond_false]; exact ((hn17.but hB21 (by intro h1; first | omega | ((try dsimp only at h1); (repeat' first | (guard_hyp h1 : _ ∨ _; refine Or.elim h1 (fun h1 => ?_) (fun h1 => ?_)) | (guard_hyp h1 : _ ∧ _; have hx := h1.2; replace h1 := h1.1)) <;> first | contradiction | omega))).dom (by intro k hk; (try dsimp only at hk); first | omega | exact hk.1.elim))), (hB21.onto ((hE5.trans hE11).trans hE18) (by omega))⟩
    | true =>
      refine WL.eql rfl rfl rfl rfl hc14 ?_
      have hp14 := beq_iff_eq.1 hc14
      refine WL.assign rfl rfl rfl ?_
      refine WL.done' ?_ (fun _ _ h => h)
      refine WC.cond_t rfl ?_
      refine WC.seqk ?_
      refine WC.region ?_
      refine WL.move rfl rfl rfl ?_
      have h65 := ((hts.ext hE5).ext hE11)
      obtain ⟨t66, ht66⟩ : ∃ t, ts[0]? = some t := ⟨_, List.getElem?_eq_getElem (by omega)⟩
      obtain ⟨eb66, eo66, el66, hea66, hD66, her66, hn66⟩ := h65.at ht66
      obtain ⟨sl66, rfl, hts66⟩ := hn66.opn
      obtain ⟨a66, cap66, rfl, hlen66, -⟩ := hts66.get
      subst hea66
      refine WL.indexAddr (i := 0) rfl rfl Ty.slice27 rfl rfl rfl (by omega) ?_
      refine WL.load_agg (l := tcells t66 (.slice a66 t66.subs.length cap66)) rfl rfl Ty.agg29 rfl her66 ?_
      refine WL.call rfl rfl rfl Ty.ent42 (checked_ok _ _ _ _ hn66) ?_
      rintro _ w69 ⟨l67, rfl, hr67, hE68⟩
      have hzhE68 := hE68.size
      refine ⟨_, rfl, ?_⟩
      have hn67 := hr67.lt
      obtain ⟨sl67, rfl, hts67⟩ := hn67.opn
      obtain ⟨a67, cap67, rfl, hlen67, -⟩ := hts67.get
      refine WL.store_box rfl rfl rfl (hR10.ext hE68) Ty.agg29 rfl rfl (fun w72 hB71 hR70 => ?_)
      have hzhB71 := hB71.size
      refine WL.done' ?_ (fun _ _ h => h)
      refine WC.ret (fun a_ ha => ?_)
      refine ret_block ?_
      refine ret_then ?_
      exact bodyPost_cell (l := [.int .u8 t66.checked.kind, .int .u64 t66.checked.set.a, .int .u64 t66.checked.set.b, .int .u64 t66.checked.set.c, .int .u64 t66.checked.set.d, .int .i64 t66.checked.least, .int .i64 t66.checked.most, .slice a67 t66.checked.subs.length cap67]) rfl ha rfl Ty.agg29 hR70 ⟨_, rfl, (by simp only [Nd.joined, hc13, hc14, ht66, Option.getD_some, cond_true, cond_false]; exact ((hn67.but hB71 (by intro h1; first | omega | ((try dsimp only at h1); (repeat' first | (guard_hyp h1 : _ ∨ _; refine Or.elim h1 (fun h1 => ?_) (fun h1 => ?_)) | (guard_hyp h1 : _ ∧ _; have hx := h1.2; replace h1 := h1.1)) <;> first | contradiction | omega))).dom (by intro k hk; (try dsimp only at hk); first | omega | exact hk.1.elim))), (hB71.onto ((hE5.trans hE11).trans hE68) (by omega))⟩
  | true =>
    refine WL.eql rfl rfl rfl rfl hc13 ?_
    have hp13 := beq_iff_eq.1 hc13
    refine WL.assign rfl rfl rfl ?_
    refine WL.done' ?_ (fun _ _ h => h)
    refine WC.cond_t rfl ?_
    refine WC.seqk ?_
    refine WC.region ?_
    refine WL.load_box rfl rfl rfl (hR4.ext hE11) Ty.agg29 ?_
    refine WL.store_box rfl rfl rfl hR10 Ty.agg29 rfl rfl (fun w66 hB65 hR64 => ?_)
    have hzhB65 := hB65.size
    refine WL.done' ?_ (fun _ _ h => h)
    refine WC.ret (fun a_ ha => ?_)
    refine ret_block ?_
    refine ret_then ?_
    have h67 := (((hU.ext hE5).ext hE11).but hB65 (by intro h1; first | omega | ((try dsimp only at h1); (repeat' first | (guard_hyp h1 : _ ∨ _; refine Or.elim h1 (fun h1 => ?_) (fun h1 => ?_)) | (guard_hyp h1 : _ ∧ _; have hx := h1.2; replace h1 := h1.1)) <;> first | contradiction | omega)))
    exact bodyPost_cell (l := [.int .u8 U.kind, .int .u64 U.set.a, .int .u64 U.set.b, .int .u64 U.set.c, .int .u64 U.set.d, .int .i64 U.least, .int .i64 U.most, .slice a2 U.subs.length cap2]) rfl ha rfl Ty.agg29 hR64 ⟨_, rfl, (by simp only [Nd.joined, hc13, cond_true]; exact (h67.dom (by intro k hk; (try dsimp only at hk); first | omega | exact hk.1.elim))), (hB65.onto (hE5.trans hE11) (by omega))⟩

set_option maxRecDepth 20000 in
set_option maxHeartbeats 4000000 in
theorem seq_ok (D : Nat → Prop) (w : World) (a : Option Addr) (cap : Nat) (ts : List Nd) (hts : NodesV D w (.slice a ts.length cap) ts) (hle : ts.length ≤ 100) :
    Calls Try.prog 10 #[.slice a ts.length cap] w fun e w' => ∃ l', e = .returned (.agg l'.toArray) ∧ NodeL (fun k => w.heap.size ≤ k) w' l' (Nd.seq ts) ∧ Ext w w' := by
  have hlen := hts.len
  have hts := hts.lt
  refine Calls.enter (args := [.slice a ts.length cap]) Try.func10 rfl rfl rfl rfl ?_
  refine WC.seqk ?_
  refine WC.region ?_
  refine WL.alloc rfl rfl Ty.zero29 rfl (fun b1 w6 hb2 hE5 hs3 hR4 => ?_)
  refine WL.done' ?_ (fun _ _ h => h)
  refine WC.seqk ?_
  refine WC.seqk ?_
  refine WC.region ?_
  refine WL.move rfl rfl rfl ?_
  refine WL.len rfl rfl Try.underlying27 rfl ?_
  refine WL.move rfl rfl rfl ?_
  refine WL.done' ?_ (fun _ _ h => h)
  refine WC.block ?_
  refine WC.weaken (r' := [(0, .slice a ts.length cap), (2, .pointer (some ⟨b1, 0, none⟩)), (5, .slice a ts.length cap), (6, .int .i64 ts.length), (7, .int .i64 0)]) (subReg_cons rfl (subReg_cons rfl (subReg_cons rfl (subReg_cons rfl (subReg_cons rfl (subReg_nil _)))))) ?_
  refine WC.loop (σ := Nat) (fun k r_ w_ => r_ = [(0, .slice a ts.length cap), (2, .pointer (some ⟨b1, 0, none⟩)), (5, .slice a ts.length cap), (6, .int .i64 ts.length), (7, .int .i64 (k : Int))] ∧ Ext w6 w_ ∧ (k ≤ ts.length ∧ ∀ (m : Nat) (t : Nd), m < k → ts[m]? = some t → Nd.bad0 t = false)) (fun k => ts.length - k) 0 ⟨rfl, (Ext.refl _), ⟨Nat.zero_le _, fun m t h => by omega⟩⟩ ?_
  rintro k r_ w9 ⟨rfl, hE7, hI8⟩
  have hzhE7 := hE7.size
  obtain ⟨hk, hI0⟩ := hI8
  refine WC.seqk ?_
  refine WC.region ?_
  cases hc10 : decide (((k : Int) : Int) < ts.length) with
  | false =>
    refine WL.lss rfl rfl rfl rfl hc10 ?_
    have hp10 := of_decide_eq_false hc10
    refine WL.done' ?_ (fun _ _ h => h)
    refine WC.seqk ?_
    refine WC.cond_f rfl ?_
    refine WC.exit (fun a_ ha => ?_)
    refine exit_then ?_
    refine exit_then ?_
    refine exit_here ?_
    refine WC.at ?_ ha
    refine WC.seqk ?_
    refine WC.region ?_
    refine WL.move rfl rfl rfl ?_
    have h12 := ((hts.ext hE5).ext hE7)
    refine WL.call rfl rfl rfl Ty.ent33 (flat_ok _ _ _ _ _ _ ts h12 (fun k hk => by have := hk.2; omega) (by have := Nd.sizeL_le (l := ts) (fun t ht => by obtain ⟨i, hi, rfl⟩ := List.mem_iff_getElem.1 ht; have := hI0 i _ (by omega) (List.getElem?_eq_getElem hi); simp [Nd.bad0] at this; exact Nd.clean_size this.2); omega)) ?_
    rintro _ w14 ⟨v11, rfl, hO11, hE13⟩
    have hzhE13 := hE13.size
    refine ⟨_, rfl, ?_⟩
    obtain ⟨a11, cap11, rfl, hnn11, hx11⟩ := hO11.cases
    have hts11 := hO11.nodes.lt
    refine WL.build (l := [.int .u8 1, .int .u64 0, .int .u64 0, .int .u64 0, .int .u64 0, .int .i64 0, .int .i64 0, .slice none 0 0]) rfl rfl Ty.zero29 Ty.st29 ⟨⟨rfl, rfl⟩, (by kernel_rfl)⟩ ?_
    have hn15 : NodeL _ w14 [.int .u8 1, .int .u64 0, .int .u64 0, .int .u64 0, .int .u64 0, .int .i64 0, .int .i64 0, .slice none 0 0] (Nd.mk 1 Nd.zero 0 0 ([])) := NodeL.shut (k := 1) (s := Nd.zero) (mn := 0) (mx := 0) (sl := .slice none 0 0) (ts := []) (NodesV.nil (fun _ => False) _ none 0)
    have hn15 := hn15.lt
    refine WL.call rfl rfl rfl Ty.ent32 (joined_ok _ _ _ _ _ (Nd.flat 3 1 ts) _ (Nd.mk 1 Nd.zero 0 0 ([])) hts11 (hn15.dom (by rintro k ⟨h1, h2⟩; exact h1))) ?_
    rintro _ w18 ⟨l16, rfl, hr16, hE17⟩
    have hzhE17 := hE17.size
    refine ⟨_, rfl, ?_⟩
    have hn16 := hr16.lt
    obtain ⟨sl16, rfl, hts16⟩ := hn16.opn
    obtain ⟨a16, cap16, rfl, hlen16, -⟩ := hts16.get
    have h21 := (((hR4.ext hE7).ext hE13).ext hE17)
    refine WL.store_box rfl rfl rfl h21 Ty.agg29 rfl rfl (fun w22 hB20 hR19 => ?_)
    have hzhB20 := hB20.size
    refine WL.done' ?_ (fun _ _ h => h)
    refine WC.ret (fun a_ ha => ?_)
    exact bodyPost_cell (l := [.int .u8 (Nd.joined 3 (Nd.flat 3 1 ts) (Nd.mk 1 Nd.zero 0 0 ([]))).kind, .int .u64 (Nd.joined 3 (Nd.flat 3 1 ts) (Nd.mk 1 Nd.zero 0 0 ([]))).set.a, .int .u64 (Nd.joined 3 (Nd.flat 3 1 ts) (Nd.mk 1 Nd.zero 0 0 ([]))).set.b, .int .u64 (Nd.joined 3 (Nd.flat 3 1 ts) (Nd.mk 1 Nd.zero 0 0 ([]))).set.c, .int .u64 (Nd.joined 3 (Nd.flat 3 1 ts) (Nd.mk 1 Nd.zero 0 0 ([]))).set.d, .int .i64 (Nd.joined 3 (Nd.flat 3 1 ts) (Nd.mk 1 Nd.zero 0 0 ([]))).least, .int .i64 (Nd.joined 3 (Nd.flat 3 1 ts) (Nd.mk 1 Nd.zero 0 0 ([]))).most, .slice a16 (Nd.joined 3 (Nd.flat 3 1 ts) (Nd.mk 1 Nd.zero 0 0 ([]))).subs.length cap16]) rfl ha rfl Ty.agg29 hR19 ⟨_, rfl, (by rw [show Nd.seq ts = _ from by simp only [Nd.seq, Nd.any_no (p := Nd.bad0) (show ts.length ≤ k by omega) hI0, cond_false]; rfl]; exact ((hn16.but hB20 (by intro h1; first | omega | ((try dsimp only at h1); (repeat' first | (guard_hyp h1 : _ ∨ _; refine Or.elim h1 (fun h1 => ?_) (fun h1 => ?_)) | (guard_hyp h1 : _ ∧ _; have hx := h1.2; replace h1 := h1.1)) <;> first | contradiction | omega))).dom (by intro k hk; (try dsimp only at hk); first | omega | exact hk.1.elim))), (hB20.onto (((hE5.trans hE7).trans hE13).trans hE17) (by omega))⟩
  | true =>
    refine WL.lss rfl rfl rfl rfl hc10 ?_
    have hp10 := of_decide_eq_true hc10
    refine WL.done' ?_ (fun _ _ h => h)
    refine WC.seqk ?_
    refine WC.cond_t rfl ?_
    refine WC.skip'' ?_ (fun _ _ h => h)
    refine WC.seqk ?_
    refine WC.block ?_
    refine WC.seqk ?_
    refine WC.region ?_
    have h61 := ((hts.ext hE5).ext hE7)
    obtain ⟨t62, ht62⟩ : ∃ t, ts[k]? = some t := ⟨_, List.getElem?_eq_getElem (by omega)⟩
    obtain ⟨eb62, eo62, el62, hea62, hD62, her62, hn62⟩ := h61.at ht62
    obtain ⟨sl62, rfl, hts62⟩ := hn62.opn
    obtain ⟨a62, cap62, rfl, hlen62, -⟩ := hts62.get
    subst hea62
    refine WL.indexAddr (i := k) rfl rfl Ty.slice27 rfl rfl rfl (by omega) ?_
    refine WL.load_agg (l := tcells t62 (.slice a62 t62.subs.length cap62)) rfl rfl Ty.agg29 rfl her62 ?_
    refine WL.alloc rfl rfl Ty.zero29 rfl (fun b63 w68 hb64 hE67 hs65 hR66 => ?_)
    refine WL.store_box rfl rfl rfl hR66 Ty.agg29 rfl rfl (fun w71 hB70 hR69 => ?_)
    have hzhB70 := hB70.size
    refine WL.done' ?_ (fun _ _ h => h)
    refine WC.seqk ?_
    refine WC.region ?_
    refine WL.fieldAddr rfl rfl Ty.fld29_0 rfl ?_
    refine WL.load_fld rfl rfl Ty.flat5 rfl hR69 rfl ?_
    cases hc72 : ((t62.kind : Int) == 0) with
    | false =>
      refine WL.eql rfl rfl rfl rfl hc72 ?_
      have hp72 := beq_eq_false_iff_ne.1 hc72
      refine WL.move rfl rfl rfl ?_
      refine WL.load_box rfl rfl rfl hR69 Ty.agg29 ?_
      have h73 := ((hn62.ext hE67).but hB70 (by intro h1; first | omega | ((try dsimp only at h1); (repeat' first | (guard_hyp h1 : _ ∨ _; refine Or.elim h1 (fun h1 => ?_) (fun h1 => ?_)) | (guard_hyp h1 : _ ∧ _; have hx := h1.2; replace h1 := h1.1)) <;> first | contradiction | omega)))
      refine WL.call rfl rfl rfl Ty.ent12 (clean_ok _ _ _ _ h73) ?_
      rintro _ w75 ⟨rfl, hE74⟩
      have hzhE74 := hE74.size
      refine ⟨_, rfl, ?_⟩
      cases hc76 : Nd.clean t62 with
      | false =>
        refine WL.not rfl rfl rfl ?_
        refine WL.pick_f rfl rfl rfl rfl ?_
        refine WL.done' ?_ (fun _ _ h => h)
        refine WC.cond_t rfl ?_
        refine WC.seqk ?_
        refine WC.region ?_
        refine WL.build0 (l := [.int .u8 0, .int .u64 0, .int .u64 0, .int .u64 0, .int .u64 0, .int .i64 0, .int .i64 0, .slice none 0 0]) rfl rfl Ty.zero29 Ty.agg29 rfl Ty.bz29 ?_
        have hn77 : NodeL _ w75 [.int .u8 0, .int .u64 0, .int .u64 0, .int .u64 0, .int .u64 0, .int .i64 0, .int .i64 0, .slice none 0 0] (Nd.mk 0 Nd.zero 0 0 ([])) := NodeL.shut (k := 0) (s := Nd.zero) (mn := 0) (mx := 0) (sl := .slice none 0 0) (ts := []) (NodesV.nil (fun _ => False) _ none 0)
        have hn77 := hn77.lt
        have h80 := ((hB70.row ((hR4.ext hE7).ext hE67) (by omega)).ext hE74)
        refine WL.store_box rfl rfl rfl h80 Ty.agg29 rfl rfl (fun w81 hB79 hR78 => ?_)
        have hzhB79 := hB79.size
        refine WL.done' ?_ (fun _ _ h => h)
        refine WC.ret (fun a_ ha => ?_)
        refine ret_block ?_
        refine ret_then ?_
        refine ret_then ?_
        refine ret_block ?_
        refine ret_then ?_
        exact bodyPost_cell (l := [.int .u8 0, .int .u64 0, .int .u64 0, .int .u64 0, .int .u64 0, .int .i64 0, .int .i64 0, .slice none 0 0]) rfl ha rfl Ty.agg29 hR78 ⟨_, rfl, (by rw [show Nd.seq ts = Nd.none from by simp only [Nd.seq, Nd.any_at ht62 (p := Nd.bad0) (by simp only [Nd.bad0, hc72, hc76] <;> rfl), cond_true]]; exact ((hn77.but hB79 (by intro h1; first | omega | ((try dsimp only at h1); (repeat' first | (guard_hyp h1 : _ ∨ _; refine Or.elim h1 (fun h1 => ?_) (fun h1 => ?_)) | (guard_hyp h1 : _ ∧ _; have hx := h1.2; replace h1 := h1.1)) <;> first | contradiction | omega))).dom (by intro k hk; (try dsimp only at hk); first | omega | exact hk.1.elim))), (hB79.onto ((hB70.onto ((hE5.trans hE7).trans hE67) (by omega)).trans hE74) (by omega))⟩
      | true =>
        refine WL.not rfl rfl rfl ?_
        refine WL.pick_f rfl rfl rfl rfl ?_
        refine WL.done' ?_ (fun _ _ h => h)
        refine WC.cond_f rfl ?_
        refine WC.skip'' ?_ (fun _ _ h => h)
        refine WC.region ?_
        refine WL.add (v := (k : Int) + 1) rfl rfl rfl rfl (IntWalk.i64_in _ (by omega)) ?_
        refine WL.move rfl rfl rfl ?_
        refine WL.nil (fun a_ ha => ?_)
        exact ⟨k + 1, _, ha.weaken (subReg_cons rfl (subReg_cons rfl (subReg_cons rfl (subReg_cons rfl (subReg_cons rfl (subReg_nil _)))))), ⟨rfl, ((hB70.onto (hE7.trans hE67) (by omega)).trans hE74), ⟨by omega, by
      intro m t hm ht
      rcases Nat.lt_or_ge m k with h | h
      · exact hI0 m t h ht
      · obtain rfl : m = k := by omega
        rw [ht] at ht62; cases ht62; exact (by simp only [Nd.bad0, hc72, hc76]; rfl)⟩⟩, by first | omega | (dsimp only; omega)⟩
    | true =>
      refine WL.eql rfl rfl rfl rfl hc72 ?_
      have hp72 := beq_iff_eq.1 hc72
      refine WL.move rfl rfl rfl ?_
      refine WL.pass rfl rfl ?_
      refine WL.pass rfl rfl ?_
      refine WL.pass rfl rfl ?_
      refine WL.pick_t rfl rfl rfl rfl ?_
      refine WL.done' ?_ (fun _ _ h => h)
      refine WC.cond_t rfl ?_
      refine WC.seqk ?_
      refine WC.region ?_
      refine WL.build0 (l := [.int .u8 0, .int .u64 0, .int .u64 0, .int .u64 0, .int .u64 0, .int .i64 0, .int .i64 0, .slice none 0 0]) rfl rfl Ty.zero29 Ty.agg29 rfl Ty.bz29 ?_
      have hn123 : NodeL _ w71 [.int .u8 0, .int .u64 0, .int .u64 0, .int .u64 0, .int .u64 0, .int .i64 0, .int .i64 0, .slice none 0 0] (Nd.mk 0 Nd.zero 0 0 ([])) := NodeL.shut (k := 0) (s := Nd.zero) (mn := 0) (mx := 0) (sl := .slice none 0 0) (ts := []) (NodesV.nil (fun _ => False) _ none 0)
      have hn123 := hn123.lt
      have h126 := (hB70.row ((hR4.ext hE7).ext hE67) (by omega))
      refine WL.store_box rfl rfl rfl h126 Ty.agg29 rfl rfl (fun w127 hB125 hR124 => ?_)
      have hzhB125 := hB125.size
      refine WL.done' ?_ (fun _ _ h => h)
      refine WC.ret (fun a_ ha => ?_)
      refine ret_block ?_
      refine ret_then ?_
      refine ret_then ?_
      refine ret_block ?_
      refine ret_then ?_
      exact bodyPost_cell (l := [.int .u8 0, .int .u64 0, .int .u64 0, .int .u64 0, .int .u64 0, .int .i64 0, .int .i64 0, .slice none 0 0]) rfl ha rfl Ty.agg29 hR124 ⟨_, rfl, (by rw [show Nd.seq ts = Nd.none from by simp only [Nd.seq, Nd.any_at ht62 (p := Nd.bad0) (by simp only [Nd.bad0, hc72] <;> rfl), cond_true]]; exact ((hn123.but hB125 (by intro h1; first | omega | ((try dsimp only at h1); (repeat' first | (guard_hyp h1 : _ ∨ _; refine Or.elim h1 (fun h1 => ?_) (fun h1 => ?_)) | (guard_hyp h1 : _ ∧ _; have hx := h1.2; replace h1 := h1.1)) <;> first | contradiction | omega))).dom (by intro k hk; (try dsimp only at hk); first | omega | exact hk.1.elim))), (hB125.onto (hB70.onto ((hE5.trans hE7).trans hE67) (by omega)) (by omega))⟩

set_option maxRecDepth 20000 in
set_option maxHeartbeats 4000000 in
theorem or_ok (D : Nat → Prop) (w : World) (a : Option Addr) (cap : Nat) (ts : List Nd) (hts : NodesV D w (.slice a ts.length cap) ts) (hle : ts.length ≤ 100) :
    Calls Try.prog 11 #[.slice a ts.length cap] w fun e w' => ∃ l', e = .returned (.agg l'.toArray) ∧ NodeL (fun k => w.heap.size ≤ k) w' l' (Nd.or ts) ∧ Ext w w' := by
  have hlen := hts.len
  have hts := hts.lt
  refine Calls.enter (args := [.slice a ts.length cap]) Try.func11 rfl rfl rfl rfl ?_
  refine WC.seqk ?_
  refine WC.region ?_
  refine WL.alloc rfl rfl Ty.zero29 rfl (fun b1 w6 hb2 hE5 hs3 hR4 => ?_)
  refine WL.done' ?_ (fun _ _ h => h)
  refine WC.seqk ?_
  refine WC.seqk ?_
  refine WC.region ?_
  refine WL.move rfl rfl rfl ?_
  refine WL.len rfl rfl Try.underlying27 rfl ?_
  refine WL.move rfl rfl rfl ?_
  refine WL.done' ?_ (fun _ _ h => h)
  refine WC.block ?_
  refine WC.weaken (r' := [(0, .slice a ts.length cap), (2, .pointer (some ⟨b1, 0, none⟩)), (5, .slice a ts.length cap), (6, .int .i64 ts.length), (7, .int .i64 0)]) (subReg_cons rfl (subReg_cons rfl (subReg_cons rfl (subReg_cons rfl (subReg_cons rfl (subReg_nil _)))))) ?_
  refine WC.loop (σ := Nat) (fun k r_ w_ => r_ = [(0, .slice a ts.length cap), (2, .pointer (some ⟨b1, 0, none⟩)), (5, .slice a ts.length cap), (6, .int .i64 ts.length), (7, .int .i64 (k : Int))] ∧ Ext w6 w_ ∧ (k ≤ ts.length ∧ ∀ (m : Nat) (t : Nd), m < k → ts[m]? = some t → (fun x => !Nd.good x) t = false)) (fun k => ts.length - k) 0 ⟨rfl, (Ext.refl _), ⟨Nat.zero_le _, fun m t h => by omega⟩⟩ ?_
  rintro k r_ w9 ⟨rfl, hE7, hI8⟩
  have hzhE7 := hE7.size
  obtain ⟨hk, hI0⟩ := hI8
  refine WC.seqk ?_
  refine WC.region ?_
  cases hc10 : decide (((k : Int) : Int) < ts.length) with
  | false =>
    refine WL.lss rfl rfl rfl rfl hc10 ?_
    have hp10 := of_decide_eq_false hc10
    refine WL.done' ?_ (fun _ _ h => h)
    refine WC.seqk ?_
    refine WC.cond_f rfl ?_
    refine WC.exit (fun a_ ha => ?_)
    refine exit_then ?_
    refine exit_then ?_
    refine exit_here ?_
    refine WC.at ?_ ha
    refine WC.seqk ?_
    refine WC.region ?_
    refine WL.move rfl rfl rfl ?_
    have h12 := ((hts.ext hE5).ext hE7)
    refine WL.call rfl rfl rfl Ty.ent33 (flat_ok _ _ _ _ _ _ ts h12 (fun k hk => by have := hk.2; omega) (by have := Nd.sizeL_le (l := ts) (fun t ht => by obtain ⟨i, hi, rfl⟩ := List.mem_iff_getElem.1 ht; have := hI0 i _ (by omega) (List.getElem?_eq_getElem hi); exact Nd.good_size (by simpa using this)); omega)) ?_
    rintro _ w14 ⟨v11, rfl, hO11, hE13⟩
    have hzhE13 := hE13.size
    refine ⟨_, rfl, ?_⟩
    obtain ⟨a11, cap11, rfl, hnn11, hx11⟩ := hO11.cases
    have hts11 := hO11.nodes.lt
    refine WL.build0 (l := [.int .u8 0, .int .u64 0, .int .u64 0, .int .u64 0, .int .u64 0, .int .i64 0, .int .i64 0, .slice none 0 0]) rfl rfl Ty.zero29 Ty.agg29 rfl Ty.bz29 ?_
    have hn15 : NodeL _ w14 [.int .u8 0, .int .u64 0, .int .u64 0, .int .u64 0, .int .u64 0, .int .i64 0, .int .i64 0, .slice none 0 0] (Nd.mk 0 Nd.zero 0 0 ([])) := NodeL.shut (k := 0) (s := Nd.zero) (mn := 0) (mx := 0) (sl := .slice none 0 0) (ts := []) (NodesV.nil (fun _ => False) _ none 0)
    have hn15 := hn15.lt
    refine WL.call rfl rfl rfl Ty.ent32 (joined_ok _ _ _ _ _ (Nd.flat 4 0 ts) _ (Nd.mk 0 Nd.zero 0 0 ([])) hts11 (hn15.dom (by rintro k ⟨h1, h2⟩; exact h1))) ?_
    rintro _ w18 ⟨l16, rfl, hr16, hE17⟩
    have hzhE17 := hE17.size
    refine ⟨_, rfl, ?_⟩
    have hn16 := hr16.lt
    obtain ⟨sl16, rfl, hts16⟩ := hn16.opn
    obtain ⟨a16, cap16, rfl, hlen16, -⟩ := hts16.get
    have h21 := (((hR4.ext hE7).ext hE13).ext hE17)
    refine WL.store_box rfl rfl rfl h21 Ty.agg29 rfl rfl (fun w22 hB20 hR19 => ?_)
    have hzhB20 := hB20.size
    refine WL.done' ?_ (fun _ _ h => h)
    refine WC.ret (fun a_ ha => ?_)
    exact bodyPost_cell (l := [.int .u8 (Nd.joined 4 (Nd.flat 4 0 ts) (Nd.mk 0 Nd.zero 0 0 ([]))).kind, .int .u64 (Nd.joined 4 (Nd.flat 4 0 ts) (Nd.mk 0 Nd.zero 0 0 ([]))).set.a, .int .u64 (Nd.joined 4 (Nd.flat 4 0 ts) (Nd.mk 0 Nd.zero 0 0 ([]))).set.b, .int .u64 (Nd.joined 4 (Nd.flat 4 0 ts) (Nd.mk 0 Nd.zero 0 0 ([]))).set.c, .int .u64 (Nd.joined 4 (Nd.flat 4 0 ts) (Nd.mk 0 Nd.zero 0 0 ([]))).set.d, .int .i64 (Nd.joined 4 (Nd.flat 4 0 ts) (Nd.mk 0 Nd.zero 0 0 ([]))).least, .int .i64 (Nd.joined 4 (Nd.flat 4 0 ts) (Nd.mk 0 Nd.zero 0 0 ([]))).most, .slice a16 (Nd.joined 4 (Nd.flat 4 0 ts) (Nd.mk 0 Nd.zero 0 0 ([]))).subs.length cap16]) rfl ha rfl Ty.agg29 hR19 ⟨_, rfl, (by rw [show Nd.or ts = _ from by simp only [Nd.or, Nd.any_no (p := (fun x => !Nd.good x)) (show ts.length ≤ k by omega) hI0, cond_false]; rfl]; exact ((hn16.but hB20 (by intro h1; first | omega | ((try dsimp only at h1); (repeat' first | (guard_hyp h1 : _ ∨ _; refine Or.elim h1 (fun h1 => ?_) (fun h1 => ?_)) | (guard_hyp h1 : _ ∧ _; have hx := h1.2; replace h1 := h1.1)) <;> first | contradiction | omega))).dom (by intro k hk; (try dsimp only at hk); first | omega | exact hk.1.elim))), (hB20.onto (((hE5.trans hE7).trans hE13).trans hE17) (by omega))⟩
  | true =>
    refine WL.lss rfl rfl rfl rfl hc10 ?_
    have hp10 := of_decide_eq_true hc10
    refine WL.done' ?_ (fun _ _ h => h)
    refine WC.seqk ?_
    refine WC.cond_t rfl ?_
    refine WC.skip'' ?_ (fun _ _ h => h)
    refine WC.seqk ?_
    refine WC.block ?_
    refine WC.seqk ?_
    refine WC.region ?_
    have h61 := ((hts.ext hE5).ext hE7)
    obtain ⟨t62, ht62⟩ : ∃ t, ts[k]? = some t := ⟨_, List.getElem?_eq_getElem (by omega)⟩
    obtain ⟨eb62, eo62, el62, hea62, hD62, her62, hn62⟩ := h61.at ht62
    obtain ⟨sl62, rfl, hts62⟩ := hn62.opn
    obtain ⟨a62, cap62, rfl, hlen62, -⟩ := hts62.get
    subst hea62
    refine WL.indexAddr (i := k) rfl rfl Ty.slice27 rfl rfl rfl (by omega) ?_
    refine WL.load_agg (l := tcells t62 (.slice a62 t62.subs.length cap62)) rfl rfl Ty.agg29 rfl her62 ?_
    refine WL.alloc rfl rfl Ty.zero29 rfl (fun b63 w68 hb64 hE67 hs65 hR66 => ?_)
    refine WL.store_box rfl rfl rfl hR66 Ty.agg29 rfl rfl (fun w71 hB70 hR69 => ?_)
    have hzhB70 := hB70.size
    refine WL.done' ?_ (fun _ _ h => h)
    refine WC.seqk ?_
    refine WC.region ?_
    refine WL.load_box rfl rfl rfl hR69 Ty.agg29 ?_
    have h72 := ((hn62.ext hE67).but hB70 (by intro h1; first | omega | ((try dsimp only at h1); (repeat' first | (guard_hyp h1 : _ ∨ _; refine Or.elim h1 (fun h1 => ?_) (fun h1 => ?_)) | (guard_hyp h1 : _ ∧ _; have hx := h1.2; replace h1 := h1.1)) <;> first | contradiction | omega)))
    refine WL.call rfl rfl rfl Ty.ent34 (good_ok _ _ _ _ h72) ?_
    rintro _ w74 ⟨rfl, hE73⟩
    have hzhE73 := hE73.size
    refine ⟨_, rfl, ?_⟩
    cases hc75 : Nd.good t62 with
    | false =>
      refine WL.not rfl rfl rfl ?_
      refine WL.done' ?_ (fun _ _ h => h)
      refine WC.cond_t rfl ?_
      refine WC.seqk ?_
      refine WC.region ?_
      refine WL.build0 (l := [.int .u8 0, .int .u64 0, .int .u64 0, .int .u64 0, .int .u64 0, .int .i64 0, .int .i64 0, .slice none 0 0]) rfl rfl Ty.zero29 Ty.agg29 rfl Ty.bz29 ?_
      have hn76 : NodeL _ w74 [.int .u8 0, .int .u64 0, .int .u64 0, .int .u64 0, .int .u64 0, .int .i64 0, .int .i64 0, .slice none 0 0] (Nd.mk 0 Nd.zero 0 0 ([])) := NodeL.shut (k := 0) (s := Nd.zero) (mn := 0) (mx := 0) (sl := .slice none 0 0) (ts := []) (NodesV.nil (fun _ => False) _ none 0)
      have hn76 := hn76.lt
      have h79 := ((hB70.row ((hR4.ext hE7).ext hE67) (by omega)).ext hE73)
      refine WL.store_box rfl rfl rfl h79 Ty.agg29 rfl rfl (fun w80 hB78 hR77 => ?_)
      have hzhB78 := hB78.size
      refine WL.done' ?_ (fun _ _ h => h)
      refine WC.ret (fun a_ ha => ?_)
      refine ret_block ?_
      refine ret_then ?_
      refine ret_then ?_
      refine ret_block ?_
      refine ret_then ?_
      exact bodyPost_cell (l := [.int .u8 0, .int .u64 0, .int .u64 0, .int .u64 0, .int .u64 0, .int .i64 0, .int .i64 0, .slice none 0 0]) rfl ha rfl Ty.agg29 hR77 ⟨_, rfl, (by rw [show Nd.or ts = Nd.none from by simp only [Nd.or, Nd.any_at ht62 (p := (fun x => !Nd.good x)) (by simp only [hc75] <;> rfl), cond_true]]; exact ((hn76.but hB78 (by intro h1; first | omega | ((try dsimp only at h1); (repeat' first | (guard_hyp h1 : _ ∨ _; refine Or.elim h1 (fun h1 => ?_) (fun h1 => ?_)) | (guard_hyp h1 : _ ∧ _; have hx := h1.2; replace h1 := h1.1)) <;> first | contradiction | omega))).dom (by intro k hk; (try dsimp only at hk); first | omega | exact hk.1.elim))), (hB78.onto ((hB70.onto ((hE5.trans hE7).trans hE67) (by omega)).trans hE73) (by omega))⟩
    | true =>
      refine WL.not rfl rfl rfl ?_
      refine WL.done' ?_ (fun _ _ h => h)
      refine WC.cond_f rfl ?_
      refine WC.skip'' ?_ (fun _ _ h => h)
      refine WC.region ?_
      refine WL.add (v := (k : Int) + 1) rfl rfl rfl rfl (IntWalk.i64_in _ (by omega)) ?_
      refine WL.move rfl rfl rfl ?_
      refine WL.nil (fun a_ ha => ?_)
      exact ⟨k + 1, _, ha.weaken (subReg_cons rfl (subReg_cons rfl (subReg_cons rfl (subReg_cons rfl (subReg_cons rfl (subReg_nil _)))))), ⟨rfl, ((hB70.onto (hE7.trans hE67) (by omega)).trans hE73), ⟨by omega, by
      intro m t hm ht
      rcases Nat.lt_or_ge m k with h | h
      · exact hI0 m t h ht
      · obtain rfl : m = k := by omega
        rw [ht] at ht62; cases ht62; exact (by simp only [hc75]; rfl)⟩⟩, by first | omega | (dsimp only; omega)⟩

end Go.Proofs.Ytaggidjijekpbaa
