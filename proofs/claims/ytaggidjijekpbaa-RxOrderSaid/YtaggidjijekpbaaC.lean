/- Walks through the program's functions: each computes what the plain Lean function says. Printed by our own gen/r8.py. -/
import Derived.Test.YtaggidjijekpbaaB
import Derived.Test.YtaggidjijekpbaaTreeB
import Derived.KernelRfl
namespace Go.Proofs.Ytaggidjijekpbaa
open Go.Proofs Go.RowKit

set_option maxRecDepth 20000 in
set_option maxHeartbeats 4000000 in
theorem equalFunc_ok (D D2 : Nat → Prop) (w : World) (a a2 : Option Addr) (cap cap2 fn : Nat) (caps : Array Value) (ts us : List Nd) (hts : NodesV D w (.slice a ts.length cap) ts) (hus : NodesV D2 w (.slice a2 us.length cap2) us) (hf : ∀ (l l2 : List Value) (t u : Nd) (w' : World), Ext w w' → NodeL D w' l t → NodeL D2 w' l2 u → t ∈ ts → u ∈ us → Calls Try.prog fn (#[.agg l.toArray, .agg l2.toArray] ++ caps) w' fun e w'' => e = .returned (.bool (t.same u)) ∧ Ext w' w'') (hent : ∀ vs w, (callFunc fn vs).run Try.prog w = .ok (.enter fn vs) w) :
    Calls Try.prog 47 #[.slice a ts.length cap, .slice a2 us.length cap2, .func (.func fn) #[] caps] w fun e w' => e = .returned (.bool (Nd.sameL ts us)) ∧ Ext w w' := by
  have hlen := hts.len
  have hlen2 := hus.len
  have hts := hts.lt
  have hus := hus.lt
  refine Calls.enter (args := [.slice a ts.length cap, .slice a2 us.length cap2, .func (.func fn) #[] caps]) Try.func47 rfl rfl rfl rfl ?_
  refine WC.seqk ?_
  refine WC.region ?_
  refine WL.assign rfl rfl rfl ?_
  refine WL.done' ?_ (fun _ _ h => h)
  refine WC.seqk ?_
  refine WC.seqk ?_
  refine WC.region ?_
  refine WL.move rfl rfl rfl ?_
  refine WL.len rfl rfl Try.underlying27 rfl ?_
  refine WL.move rfl rfl rfl ?_
  refine WL.len rfl rfl Try.underlying27 rfl ?_
  cases hc1 : ((ts.length : Int) != us.length) with
  | false =>
    refine WL.neq rfl rfl rfl rfl hc1 ?_
    have hp1 := bne_eq_false_iff_eq.1 hc1
    refine WL.done' ?_ (fun _ _ h => h)
    refine WC.cond_f rfl ?_
    refine WC.skip'' ?_ (fun _ _ h => h)
    refine WC.seqk ?_
    refine WC.seqk ?_
    refine WC.region ?_
    refine WL.move rfl rfl rfl ?_
    refine WL.len rfl rfl Try.underlying27 rfl ?_
    refine WL.move rfl rfl rfl ?_
    refine WL.done' ?_ (fun _ _ h => h)
    refine WC.block ?_
    refine WC.weaken (r' := [(0, .slice a ts.length cap), (1, .slice a2 us.length cap2), (2, .func (.func fn) #[] caps), (15, .slice a ts.length cap), (16, .int .i64 ts.length), (17, .int .i64 0)]) (subReg_cons rfl (subReg_cons rfl (subReg_cons rfl (subReg_cons rfl (subReg_cons rfl (subReg_cons rfl (subReg_nil _))))))) ?_
    refine WC.loop (σ := Nat) (fun k r_ w_ => r_ = [(0, .slice a ts.length cap), (1, .slice a2 us.length cap2), (2, .func (.func fn) #[] caps), (15, .slice a ts.length cap), (16, .int .i64 ts.length), (17, .int .i64 (k : Int))] ∧ Ext w w_ ∧ (k ≤ ts.length ∧ ts.take k = us.take k)) (fun k => ts.length - k) 0 ⟨rfl, (Ext.refl _), ⟨Nat.zero_le _, rfl⟩⟩ ?_
    rintro k r_ w4 ⟨rfl, hE2, hI3⟩
    have hzhE2 := hE2.size
    obtain ⟨hk, hI1⟩ := hI3
    refine WC.seqk ?_
    refine WC.region ?_
    cases hc5 : decide (((k : Int) : Int) < ts.length) with
    | false =>
      refine WL.lss rfl rfl rfl rfl hc5 ?_
      have hp5 := of_decide_eq_false hc5
      refine WL.done' ?_ (fun _ _ h => h)
      refine WC.seqk ?_
      refine WC.cond_f rfl ?_
      refine WC.exit (fun a_ ha => ?_)
      refine exit_then ?_
      refine exit_then ?_
      refine exit_here ?_
      refine WC.at ?_ ha
      refine WC.seqk ?_
      refine WC.region ?_
      refine WL.assign rfl rfl rfl ?_
      refine WL.done' ?_ (fun _ _ h => h)
      refine WC.ret (fun a_ ha => ?_)
      exact bodyPost_tmp rfl ha rfl ⟨by rw [(Nd.sameL_iff ts us).2]; rw [List.take_of_length_le (by omega), List.take_of_length_le (by omega)] at hI1; exact hI1, hE2⟩
    | true =>
      refine WL.lss rfl rfl rfl rfl hc5 ?_
      have hp5 := of_decide_eq_true hc5
      refine WL.done' ?_ (fun _ _ h => h)
      refine WC.seqk ?_
      refine WC.cond_t rfl ?_
      refine WC.skip'' ?_ (fun _ _ h => h)
      refine WC.seqk ?_
      refine WC.block ?_
      refine WC.seqk ?_
      refine WC.region ?_
      refine WL.move rfl rfl rfl ?_
      obtain ⟨t56, ht56⟩ : ∃ t, ts[k]? = some t := ⟨_, List.getElem?_eq_getElem (by omega)⟩
      obtain ⟨eb56, eo56, el56, hea56, hD56, her56, hn56⟩ := (hts.ext hE2).at ht56
      obtain ⟨sl56, rfl, hts56⟩ := hn56.opn
      obtain ⟨a56, cap56, rfl, hlen56, -⟩ := hts56.get
      subst hea56
      refine WL.indexAddr (i := k) rfl rfl Ty.slice27 rfl rfl rfl (by omega) ?_
      refine WL.load_agg (l := tcells t56 (.slice a56 t56.subs.length cap56)) rfl rfl Ty.agg29 rfl her56 ?_
      refine WL.alloc rfl rfl Ty.zero29 rfl (fun b57 w62 hb58 hE61 hs59 hR60 => ?_)
      refine WL.assign rfl rfl rfl ?_
      refine WL.store_box rfl rfl rfl hR60 Ty.agg29 rfl rfl (fun w65 hB64 hR63 => ?_)
      have hzhB64 := hB64.size
      refine WL.done' ?_ (fun _ _ h => h)
      refine WC.seqk ?_
      refine WC.region ?_
      refine WL.move rfl rfl rfl ?_
      refine WL.move rfl rfl rfl ?_
      have h66 := (((hus.ext hE2).ext hE61).but hB64 (by intro h1; first | omega | ((try dsimp only at h1); (repeat' first | (guard_hyp h1 : _ ∨ _; refine Or.elim h1 (fun h1 => ?_) (fun h1 => ?_)) | (guard_hyp h1 : _ ∧ _; have hx := h1.2; replace h1 := h1.1)) <;> first | contradiction | omega)))
      obtain ⟨t67, ht67⟩ : ∃ t, us[k]? = some t := ⟨_, List.getElem?_eq_getElem (by omega)⟩
      obtain ⟨eb67, eo67, el67, hea67, hD67, her67, hn67⟩ := h66.at ht67
      obtain ⟨sl67, rfl, hts67⟩ := hn67.opn
      obtain ⟨a67, cap67, rfl, hlen67, -⟩ := hts67.get
      subst hea67
      refine WL.indexAddr (i := k) rfl rfl Ty.slice27 rfl rfl rfl (by omega) ?_
      refine WL.load_agg (l := tcells t67 (.slice a67 t67.subs.length cap67)) rfl rfl Ty.agg29 rfl her67 ?_
      refine WL.alloc rfl rfl Ty.zero29 rfl (fun b68 w73 hb69 hE72 hs70 hR71 => ?_)
      refine WL.store_box rfl rfl rfl hR71 Ty.agg29 rfl rfl (fun w76 hB75 hR74 => ?_)
      have hzhB75 := hB75.size
      refine WL.done' ?_ (fun _ _ h => h)
      refine WC.seqk ?_
      refine WC.region ?_
      refine WL.move rfl rfl rfl ?_
      have h77 := (hB75.row (hR63.ext hE72) (by omega))
      refine WL.load_box rfl rfl rfl h77 Ty.agg29 ?_
      refine WL.load_box rfl rfl rfl hR74 Ty.agg29 ?_
      have h78 := ((((hn56.ext hE61).but hB64 (by intro h1; first | omega | ((try dsimp only at h1); (repeat' first | (guard_hyp h1 : _ ∨ _; refine Or.elim h1 (fun h1 => ?_) (fun h1 => ?_)) | (guard_hyp h1 : _ ∧ _; have hx := h1.2; replace h1 := h1.1)) <;> first | contradiction | omega))).ext hE72).but hB75 (by intro h1; first | omega | ((try dsimp only at h1); (repeat' first | (guard_hyp h1 : _ ∨ _; refine Or.elim h1 (fun h1 => ?_) (fun h1 => ?_)) | (guard_hyp h1 : _ ∧ _; have hx := h1.2; replace h1 := h1.1)) <;> first | contradiction | omega)))
      have h79 := ((hn67.ext hE72).but hB75 (by intro h1; first | omega | ((try dsimp only at h1); (repeat' first | (guard_hyp h1 : _ ∨ _; refine Or.elim h1 (fun h1 => ?_) (fun h1 => ?_)) | (guard_hyp h1 : _ ∧ _; have hx := h1.2; replace h1 := h1.1)) <;> first | contradiction | omega)))
      refine WL.callv rfl rfl rfl rfl hent (hf _ _ _ _ _ (hB75.onto ((hB64.onto (hE2.trans hE61) (by omega)).trans hE72) (by omega)) (h78.dom (fun _ h => h.1)) (h79.dom (fun _ h => h.1)) (List.mem_of_getElem? ht56) (List.mem_of_getElem? ht67)) ?_
      rintro _ w81 ⟨rfl, hE80⟩
      have hzhE80 := hE80.size
      refine ⟨_, rfl, ?_⟩
      cases hc82 : t56.same t67 with
      | false =>
        refine WL.not rfl rfl rfl ?_
        refine WL.done' ?_ (fun _ _ h => h)
        refine WC.cond_t rfl ?_
        refine WC.seqk ?_
        refine WC.region ?_
        refine WL.assign rfl rfl rfl ?_
        refine WL.done' ?_ (fun _ _ h => h)
        refine WC.ret (fun a_ ha => ?_)
        refine ret_block ?_
        refine ret_then ?_
        refine ret_then ?_
        refine ret_block ?_
        refine ret_then ?_
        exact bodyPost_tmp rfl ha rfl ⟨(by rw [Nd.sameL_ne]; intro he; subst he; rw [ht67] at ht56; cases ht56; rw [(Nd.same_iff _ _).2 rfl] at hc82; cases hc82), ((hB75.onto ((hB64.onto (hE2.trans hE61) (by omega)).trans hE72) (by omega)).trans hE80)⟩
      | true =>
        refine WL.not rfl rfl rfl ?_
        refine WL.done' ?_ (fun _ _ h => h)
        refine WC.cond_f rfl ?_
        refine WC.skip'' ?_ (fun _ _ h => h)
        refine WC.region ?_
        refine WL.add (v := (k : Int) + 1) rfl rfl rfl rfl (IntWalk.i64_in _ (by omega)) ?_
        refine WL.move rfl rfl rfl ?_
        refine WL.nil (fun a_ ha => ?_)
        exact ⟨k + 1, _, ha.weaken (subReg_cons rfl (subReg_cons rfl (subReg_cons rfl (subReg_cons rfl (subReg_cons rfl (subReg_cons rfl (subReg_nil _))))))), ⟨rfl, ((hB75.onto ((hB64.onto (hE2.trans hE61) (by omega)).trans hE72) (by omega)).trans hE80), ⟨by omega, by rw [List.take_add_one, List.take_add_one, hI1, ht56, ht67, (Nd.same_iff _ _).1 hc82]⟩⟩, by first | omega | (dsimp only; omega)⟩
  | true =>
    refine WL.neq rfl rfl rfl rfl hc1 ?_
    have hp1 := bne_iff_ne.1 hc1
    refine WL.done' ?_ (fun _ _ h => h)
    refine WC.cond_t rfl ?_
    refine WC.seqk ?_
    refine WC.region ?_
    refine WL.assign rfl rfl rfl ?_
    refine WL.done' ?_ (fun _ _ h => h)
    refine WC.ret (fun a_ ha => ?_)
    refine ret_then ?_
    exact bodyPost_tmp rfl ha rfl ⟨by rw [Nd.sameL_ne]; intro he; subst he; omega, (Ext.refl _)⟩

set_option maxRecDepth 20000 in
set_option maxHeartbeats 4000000 in
theorem same_ok (T : Nd) : ∀ (D D2 : Nat → Prop) (w : World) (l l2 : List Value) (U : Nd) (_hT : NodeL D w l T) (_hU : NodeL D2 w l2 U),
    Calls Try.prog 38 #[.agg l.toArray, .agg l2.toArray] w fun e w' => e = .returned (.bool (T.same U)) ∧ Ext w w' := by
  induction T using Nd.ind with
  | h kd st mn mx tsx ih =>
  intro D D2 w l l2 U hT hU
  replace ih : ∀ t, t ∈ (Nd.mk kd st mn mx tsx).subs → _ := ih
  generalize Nd.mk kd st mn mx tsx = T at *
  clear kd st mn mx tsx
  have hT := hT.lt
  obtain ⟨sl, rfl, hts⟩ := hT.opn
  obtain ⟨a, cap, rfl, hlen, -⟩ := hts.get
  have hU := hU.lt
  obtain ⟨sl2, rfl, hts2⟩ := hU.opn
  obtain ⟨a2, cap2, rfl, hlen2, -⟩ := hts2.get
  refine Calls.enter (args := [.agg #[.int .u8 T.kind, .int .u64 T.set.a, .int .u64 T.set.b, .int .u64 T.set.c, .int .u64 T.set.d, .int .i64 T.least, .int .i64 T.most, .slice a T.subs.length cap], .agg #[.int .u8 U.kind, .int .u64 U.set.a, .int .u64 U.set.b, .int .u64 U.set.c, .int .u64 U.set.d, .int .i64 U.least, .int .i64 U.most, .slice a2 U.subs.length cap2]]) Try.func38 rfl rfl rfl rfl ?_
  refine WC.seqk ?_
  refine WC.region ?_
  refine WL.box_agg rfl rfl rfl (fun b1 w6 hb2 hE5 hs3 hR4 => ?_)
  refine WL.box_agg rfl rfl rfl (fun b7 w12 hb8 hE11 hs9 hR10 => ?_)
  refine WL.assign rfl rfl rfl ?_
  refine WL.done' ?_ (fun _ _ h => h)
  refine WC.seqk ?_
  refine WC.region ?_
  refine WL.fieldAddr rfl rfl Ty.fld29_0 rfl ?_
  refine WL.load_fld rfl rfl Ty.flat5 rfl (hR4.ext hE11) rfl ?_
  refine WL.fieldAddr rfl rfl Ty.fld29_0 rfl ?_
  refine WL.load_fld rfl rfl Ty.flat5 rfl hR10 rfl ?_
  cases hc13 : ((T.kind : Int) == U.kind) with
  | false =>
    refine WL.eql rfl rfl rfl rfl hc13 ?_
    have hp13 := beq_eq_false_iff_ne.1 hc13
    refine WL.move rfl rfl rfl ?_
    refine WL.pass rfl rfl ?_
    refine WL.pass rfl rfl ?_
    refine WL.pass rfl rfl ?_
    refine WL.pass rfl rfl ?_
    refine WL.pass rfl rfl ?_
    refine WL.pick_f rfl rfl rfl rfl ?_
    refine WL.move rfl rfl rfl ?_
    refine WL.pass rfl rfl ?_
    refine WL.pass rfl rfl ?_
    refine WL.pass rfl rfl ?_
    refine WL.pass rfl rfl ?_
    refine WL.pass rfl rfl ?_
    refine WL.pick_f rfl rfl rfl rfl ?_
    refine WL.move rfl rfl rfl ?_
    refine WL.pass rfl rfl ?_
    refine WL.pass rfl rfl ?_
    refine WL.pass rfl rfl ?_
    refine WL.pass rfl rfl ?_
    refine WL.pass rfl rfl ?_
    refine WL.pick_f rfl rfl rfl rfl ?_
    refine WL.move rfl rfl rfl ?_
    refine WL.pass rfl rfl ?_
    refine WL.pass rfl rfl ?_
    refine WL.pass rfl rfl ?_
    refine WL.pass rfl rfl ?_
    refine WL.pass rfl rfl ?_
    refine WL.pick_f rfl rfl rfl rfl ?_
    refine WL.assign rfl rfl rfl ?_
    refine WL.done' ?_ (fun _ _ h => h)
    refine WC.ret (fun a_ ha => ?_)
    exact bodyPost_tmp rfl ha rfl ⟨(by congr 2; simp only [Nd.same_eq, hc13] <;> try simp), (hE5.trans hE11)⟩
  | true =>
    refine WL.eql rfl rfl rfl rfl hc13 ?_
    have hp13 := beq_iff_eq.1 hc13
    refine WL.move rfl rfl rfl ?_
    refine WL.fieldAddr rfl rfl Ty.fld29_1 rfl ?_
    refine WL.load_part 4 rfl rfl rfl (hR4.ext hE11) rfl Ty.agg26 ?_
    refine WL.fieldAddr rfl rfl Ty.fld29_1 rfl ?_
    refine WL.load_part 4 rfl rfl rfl hR10 rfl Ty.agg26 ?_
    cases hc64 : (T.set == U.set) with
    | false =>
      refine WL.seteql (s := T.set) (s' := U.set) rfl rfl Ty.arr26 Ty.eqg26 Try.underlying24 rfl rfl hc64 ?_
      refine WL.pick_t rfl rfl rfl rfl ?_
      refine WL.move rfl rfl rfl ?_
      refine WL.pass rfl rfl ?_
      refine WL.pass rfl rfl ?_
      refine WL.pass rfl rfl ?_
      refine WL.pass rfl rfl ?_
      refine WL.pass rfl rfl ?_
      refine WL.pick_f rfl rfl rfl rfl ?_
      refine WL.move rfl rfl rfl ?_
      refine WL.pass rfl rfl ?_
      refine WL.pass rfl rfl ?_
      refine WL.pass rfl rfl ?_
      refine WL.pass rfl rfl ?_
      refine WL.pass rfl rfl ?_
      refine WL.pick_f rfl rfl rfl rfl ?_
      refine WL.move rfl rfl rfl ?_
      refine WL.pass rfl rfl ?_
      refine WL.pass rfl rfl ?_
      refine WL.pass rfl rfl ?_
      refine WL.pass rfl rfl ?_
      refine WL.pass rfl rfl ?_
      refine WL.pick_f rfl rfl rfl rfl ?_
      refine WL.assign rfl rfl rfl ?_
      refine WL.done' ?_ (fun _ _ h => h)
      refine WC.ret (fun a_ ha => ?_)
      exact bodyPost_tmp rfl ha rfl ⟨(by congr 2; simp only [Nd.same_eq, hc13, hc64] <;> try simp), (hE5.trans hE11)⟩
    | true =>
      refine WL.seteql (s := T.set) (s' := U.set) rfl rfl Ty.arr26 Ty.eqg26 Try.underlying24 rfl rfl hc64 ?_
      refine WL.pick_t rfl rfl rfl rfl ?_
      refine WL.move rfl rfl rfl ?_
      refine WL.fieldAddr rfl rfl Ty.fld29_2 rfl ?_
      refine WL.load_fld rfl rfl Ty.flat3 rfl (hR4.ext hE11) rfl ?_
      refine WL.fieldAddr rfl rfl Ty.fld29_2 rfl ?_
      refine WL.load_fld rfl rfl Ty.flat3 rfl hR10 rfl ?_
      cases hc115 : ((T.least : Int) == U.least) with
      | false =>
        refine WL.eql rfl rfl rfl rfl hc115 ?_
        have hp115 := beq_eq_false_iff_ne.1 hc115
        refine WL.pick_t rfl rfl rfl rfl ?_
        refine WL.move rfl rfl rfl ?_
        refine WL.pass rfl rfl ?_
        refine WL.pass rfl rfl ?_
        refine WL.pass rfl rfl ?_
        refine WL.pass rfl rfl ?_
        refine WL.pass rfl rfl ?_
        refine WL.pick_f rfl rfl rfl rfl ?_
        refine WL.move rfl rfl rfl ?_
        refine WL.pass rfl rfl ?_
        refine WL.pass rfl rfl ?_
        refine WL.pass rfl rfl ?_
        refine WL.pass rfl rfl ?_
        refine WL.pass rfl rfl ?_
        refine WL.pick_f rfl rfl rfl rfl ?_
        refine WL.assign rfl rfl rfl ?_
        refine WL.done' ?_ (fun _ _ h => h)
        refine WC.ret (fun a_ ha => ?_)
        exact bodyPost_tmp rfl ha rfl ⟨(by congr 2; simp only [Nd.same_eq, hc13, hc64, hc115] <;> try simp), (hE5.trans hE11)⟩
      | true =>
        refine WL.eql rfl rfl rfl rfl hc115 ?_
        have hp115 := beq_iff_eq.1 hc115
        refine WL.pick_t rfl rfl rfl rfl ?_
        refine WL.move rfl rfl rfl ?_
        refine WL.fieldAddr rfl rfl Ty.fld29_3 rfl ?_
        refine WL.load_fld rfl rfl Ty.flat3 rfl (hR4.ext hE11) rfl ?_
        refine WL.fieldAddr rfl rfl Ty.fld29_3 rfl ?_
        refine WL.load_fld rfl rfl Ty.flat3 rfl hR10 rfl ?_
        cases hc166 : ((T.most : Int) == U.most) with
        | false =>
          refine WL.eql rfl rfl rfl rfl hc166 ?_
          have hp166 := beq_eq_false_iff_ne.1 hc166
          refine WL.pick_t rfl rfl rfl rfl ?_
          refine WL.move rfl rfl rfl ?_
          refine WL.pass rfl rfl ?_
          refine WL.pass rfl rfl ?_
          refine WL.pass rfl rfl ?_
          refine WL.pass rfl rfl ?_
          refine WL.pass rfl rfl ?_
          refine WL.pick_f rfl rfl rfl rfl ?_
          refine WL.assign rfl rfl rfl ?_
          refine WL.done' ?_ (fun _ _ h => h)
          refine WC.ret (fun a_ ha => ?_)
          exact bodyPost_tmp rfl ha rfl ⟨(by congr 2; simp only [Nd.same_eq, hc13, hc64, hc115, hc166] <;> try simp), (hE5.trans hE11)⟩
        | true =>
          refine WL.eql rfl rfl rfl rfl hc166 ?_
          have hp166 := beq_iff_eq.1 hc166
          refine WL.pick_t rfl rfl rfl rfl ?_
          refine WL.move rfl rfl rfl ?_
          refine WL.fieldAddr rfl rfl Ty.fld29_4 rfl ?_
          refine WL.load_fld rfl rfl Ty.flat27 rfl (hR4.ext hE11) rfl ?_
          refine WL.fieldAddr rfl rfl Ty.fld29_4 rfl ?_
          refine WL.load_fld rfl rfl Ty.flat27 rfl hR10 rfl ?_
          have h217 := ((hts.ext hE5).ext hE11)
          have h218 := ((hts2.ext hE5).ext hE11)
          refine WL.call rfl rfl rfl Ty.ent47 (equalFunc_ok _ _ _ _ _ _ _ _ _ T.subs U.subs h217 h218 (fun l l2 t u w2 h h1 h2 ht hu => Calls.caps20 (ih t ht _ _ _ _ _ _ h1 h2)) Ty.ent38) ?_
          rintro _ w220 ⟨rfl, hE219⟩
          have hzhE219 := hE219.size
          refine ⟨_, rfl, ?_⟩
          refine WL.pick_t rfl rfl rfl rfl ?_
          refine WL.assign rfl rfl rfl ?_
          refine WL.done' ?_ (fun _ _ h => h)
          refine WC.ret (fun a_ ha => ?_)
          exact bodyPost_tmp rfl ha rfl ⟨(by congr 2; simp only [Nd.same_eq, hc13, hc64, hc115, hc166] <;> try simp), ((hE5.trans hE11).trans hE219)⟩

set_option maxRecDepth 20000 in
set_option maxHeartbeats 4000000 in
theorem Same_ok (D D2 : Nat → Prop) (w : World) (l l2 : List Value) (T U : Nd) (hT : NodeL D w l T) (hU : NodeL D2 w l2 U) :
    Calls Try.prog 14 #[.agg l.toArray, .agg l2.toArray] w fun e w' => e = .returned (.bool (T.light && U.light && T.same U)) ∧ Ext w w' := by
  have hT := hT.lt
  obtain ⟨sl, rfl, hts⟩ := hT.opn
  obtain ⟨a, cap, rfl, hlen, -⟩ := hts.get
  have hU := hU.lt
  obtain ⟨sl2, rfl, hts2⟩ := hU.opn
  obtain ⟨a2, cap2, rfl, hlen2, -⟩ := hts2.get
  refine Calls.enter (args := [.agg #[.int .u8 T.kind, .int .u64 T.set.a, .int .u64 T.set.b, .int .u64 T.set.c, .int .u64 T.set.d, .int .i64 T.least, .int .i64 T.most, .slice a T.subs.length cap], .agg #[.int .u8 U.kind, .int .u64 U.set.a, .int .u64 U.set.b, .int .u64 U.set.c, .int .u64 U.set.d, .int .i64 U.least, .int .i64 U.most, .slice a2 U.subs.length cap2]]) Try.func14 rfl rfl rfl rfl ?_
  refine WC.seqk ?_
  refine WC.region ?_
  refine WL.box_agg rfl rfl rfl (fun b1 w6 hb2 hE5 hs3 hR4 => ?_)
  refine WL.box_agg rfl rfl rfl (fun b7 w12 hb8 hE11 hs9 hR10 => ?_)
  refine WL.assign rfl rfl rfl ?_
  refine WL.done' ?_ (fun _ _ h => h)
  refine WC.seqk ?_
  refine WC.region ?_
  refine WL.load_box rfl rfl rfl (hR4.ext hE11) Ty.agg29 ?_
  have h13 := ((hT.ext hE5).ext hE11)
  refine WL.call rfl rfl rfl Ty.ent35 (light_ok _ _ _ _ h13) ?_
  rintro _ w15 ⟨rfl, hE14⟩
  have hzhE14 := hE14.size
  refine ⟨_, rfl, ?_⟩
  cases hc16 : Nd.light T with
  | false =>
    refine WL.move rfl rfl rfl ?_
    refine WL.pass rfl rfl ?_
    refine WL.pass rfl rfl ?_
    refine WL.pick_f rfl rfl rfl rfl ?_
    refine WL.move rfl rfl rfl ?_
    refine WL.pass rfl rfl ?_
    refine WL.pass rfl rfl ?_
    refine WL.pass rfl rfl ?_
    refine WL.pick_f rfl rfl rfl rfl ?_
    refine WL.assign rfl rfl rfl ?_
    refine WL.done' ?_ (fun _ _ h => h)
    refine WC.ret (fun a_ ha => ?_)
    exact bodyPost_tmp rfl ha rfl ⟨(by simp only [Bool.false_and]), ((hE5.trans hE11).trans hE14)⟩
  | true =>
    refine WL.move rfl rfl rfl ?_
    refine WL.load_box rfl rfl rfl (hR10.ext hE14) Ty.agg29 ?_
    have h67 := (((hU.ext hE5).ext hE11).ext hE14)
    refine WL.call rfl rfl rfl Ty.ent35 (light_ok _ _ _ _ h67) ?_
    rintro _ w69 ⟨rfl, hE68⟩
    have hzhE68 := hE68.size
    refine ⟨_, rfl, ?_⟩
    cases hc70 : Nd.light U with
    | false =>
      refine WL.pick_t rfl rfl rfl rfl ?_
      refine WL.move rfl rfl rfl ?_
      refine WL.pass rfl rfl ?_
      refine WL.pass rfl rfl ?_
      refine WL.pass rfl rfl ?_
      refine WL.pick_f rfl rfl rfl rfl ?_
      refine WL.assign rfl rfl rfl ?_
      refine WL.done' ?_ (fun _ _ h => h)
      refine WC.ret (fun a_ ha => ?_)
      exact bodyPost_tmp rfl ha rfl ⟨(by simp only [Bool.false_and, Bool.and_false]), (((hE5.trans hE11).trans hE14).trans hE68)⟩
    | true =>
      refine WL.pick_t rfl rfl rfl rfl ?_
      refine WL.move rfl rfl rfl ?_
      have h121 := (((hR4.ext hE11).ext hE14).ext hE68)
      refine WL.load_box rfl rfl rfl h121 Ty.agg29 ?_
      have h122 := ((hR10.ext hE14).ext hE68)
      refine WL.load_box rfl rfl rfl h122 Ty.agg29 ?_
      have h123 := ((h13.ext hE14).ext hE68)
      refine WL.call rfl rfl rfl Ty.ent38 (same_ok T _ _ _ _ _ U h123 (h67.ext hE68)) ?_
      rintro _ w125 ⟨rfl, hE124⟩
      have hzhE124 := hE124.size
      refine ⟨_, rfl, ?_⟩
      refine WL.pick_t rfl rfl rfl rfl ?_
      refine WL.assign rfl rfl rfl ?_
      refine WL.done' ?_ (fun _ _ h => h)
      refine WC.ret (fun a_ ha => ?_)
      exact bodyPost_tmp rfl ha rfl ⟨(by simp only [Bool.true_and, Bool.and_true]), ((((hE5.trans hE11).trans hE14).trans hE68).trans hE124)⟩

end Go.Proofs.Ytaggidjijekpbaa
