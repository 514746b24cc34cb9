/- Part 3 of the proof: walks through the program's functions, and what they compute in plain Lean. -/
import Derived.Test.YteenegaadlhjdaaOd2
import Derived.KernelRfl
import Derived.ArgAppend
import Derived.Laws.Slices
import Derived.Lib.AppendZeros
set_option linter.all false
namespace Go.Proofs.Yteenegaadlhjdaa
open Go.Proofs Go.RowKit
abbrev qc1 : Nd := (Nd.mk 0 Nd.zero 0 0 ([]))
set_option maxRecDepth 20000 in
set_option maxHeartbeats 4000000 in
theorem timesN_ok (D : Nat → Prop) (w : World) (l : List Value) (T : Nd) (b : Nd.Bd) (hT : NodeL D w l T) (hni : T.nice = true) :
  Calls Try.prog 42 #[.agg l.toArray, .agg (bcells b).toArray] w fun e w' => ∃ l', e = .returned (.agg l'.toArray) ∧ NodeL (fun k => D k ∨ w.heap.size ≤ k) w' l' (Nd.timesN T b) ∧ Ext w w' := by
 have hT := hT.lt
 obtain ⟨a, cap, rfl, hts, hlen⟩ := hT.op2
 refine Calls.enter (args := [.agg (tcells T (.slice a T.subs.length cap)).toArray, .agg #[.int .i64 b.1, .int .i64 b.2]]) Try.func42 rfl rfl rfl rfl ?_
 refine sq ?_
 refine WL.box_agg rfl rfl rfl (fun b1 w6 hb2 hE5 hs3 hR4 => ?_)
 refine WL.box_agg rfl rfl rfl (fun b7 w12 hb8 hE11 hs9 hR10 => ?_)
 refine WL.alloc rfl rfl Ty.zero30 rfl (fun b13 w18 hb14 hE17 hs15 hR16 => ?_)
 refine WL.dn ?_
 refine sq ?_
 have h19 := ((hR4.ext hE11).ext hE17)
 refine WL.load_box rfl rfl rfl h19 Ty.agg30 ?_
 refine WL.fieldAddr rfl rfl Ty.fld62_0 rfl ?_
 refine WL.load_fld rfl rfl Ty.flat3 rfl (hR10.ext hE17) rfl ?_
 refine WL.fieldAddr rfl rfl Ty.fld62_1 rfl ?_
 refine WL.load_fld rfl rfl Ty.flat3 rfl (hR10.ext hE17) rfl ?_
 have h20 := (((hT.ext hE5).ext hE11).ext hE17)
 refine WL.call rfl rfl rfl Ty.ent17 (times_ok _ _ _ T b.1 b.2 h20) ?_
 rintro _ w23 ⟨l21, rfl, hr21, hE22⟩
 have hzhE22 := hE22.size
 refine ⟨_, rfl, ?_⟩
 have hn21 := hr21.lt
 obtain ⟨a21, cap21, rfl, hts21, hlen21⟩ := hn21.op2
 refine WL.alloc rfl rfl Ty.zero30 rfl (fun b24 w29 hb25 hE28 hs26 hR27 => ?_)
 refine WL.store_box rfl rfl rfl hR27 Ty.agg30 rfl rfl (fun w32 hB31 hR30 => ?_)
 have hzhB31 := hB31.size
 refine WL.dn ?_
 refine WC.seqk ?_
 refine WC.seqk ?_
 refine WC.weaken (r' := [(2, pt b1 0), (3, pt b7 0), (4, pt b13 0), (5, pt b24 0)]) (s4 (subReg_nil _)) ?_
 refine WC.region ?_
 refine WL.fieldAddr rfl rfl Ty.fld30_0 rfl ?_
 refine WL.load_fld rfl rfl Ty.flat5 rfl hR30 rfl ?_
 cases hc33 : (((Nd.times T b.1 b.2).kind : Int) != 5) with
 | false =>
  refine WL.neq rfl rfl rfl rfl hc33 ?_
  have hp33 := bne_eq_false_iff_eq.1 hc33
  refine mv ?_
  have h34 := (hB31.row ((h19.ext hE22).ext hE28) (by omega))
  refine WL.load_box rfl rfl rfl h34 Ty.agg30 ?_
  have h35 := (((h20.ext hE22).ext hE28).bu hB31)
  refine WL.call rfl rfl rfl Ty.ent26 (plain_ok T _ _ _ h35) ?_
  rintro _ w37 ⟨rfl, hE36⟩
  have hzhE36 := hE36.size
  refine ⟨_, rfl, ?_⟩
  cases hc38 : Nd.plain T with
  | false =>
   refine WL.not rfl rfl rfl ?_
   refine pF ?_
   refine WL.dn ?_
   refine cT ?_
   refine WC.seqk ?_
   refine WC.weaken (r' := [(2, pt b1 0), (3, pt b7 0), (4, pt b13 0), (5, pt b24 0), (19, .bool true)]) (s4 (sr rfl (subReg_nil _))) ?_
   refine WC.region ?_
   refine WL.load_box rfl rfl rfl (hR30.ext hE36) Ty.agg30 ?_
   have h41 := ((hB31.row ((hR16.ext hE22).ext hE28) (by omega)).ext hE36)
   refine WL.store_box rfl rfl rfl h41 Ty.agg30 rfl rfl (fun w42 hB40 hR39 => ?_)
   have hzhB40 := hB40.size
   refine WL.dn ?_
   refine WC.ret (fun a_ ha => ?_)
   refine ret_then ?_
   have h43 := ((((hn21.ext hE28).bu hB31).ext hE36).bu hB40)
   exact bodyPost_cell (l := (tcells (Nd.times T b.1 b.2) (.slice a21 (Nd.times T b.1 b.2).subs.length cap21))) rfl ha rfl Ty.agg30 hR39 ⟨_, rfl, (by simp only [Nd.timesN, Nd.timesB, hc33, hc38, cond_true, cond_false, Bool.not_true, Bool.not_false, Bool.or_true, Bool.true_or, Bool.or_false, Bool.false_or, Bool.and_true, Bool.true_and, Bool.and_false, Bool.false_and]; exact h43.dom (by intro k h1; (try dsimp only at h1); (repeat' first | (guard_hyp h1 : _ ∨ _; refine Or.elim h1 (fun h1 => ?_) (fun h1 => ?_)) | (guard_hyp h1 : _ ∧ _; have hx := h1.2; replace h1 := h1.1)) <;> first | contradiction | exact .inl h1 | exact .inr (by omega))), (hB40.onto ((hB31.onto ((((hE5.trans hE11).trans hE17).trans hE22).trans hE28) (by omega)).trans hE36) (by omega))⟩
  | true =>
   refine WL.not rfl rfl rfl ?_
   refine pF ?_
   refine WL.dn ?_
   refine cF ?_
   refine WC.sk ?_
   refine WC.seqk ?_
   refine WC.block ?_
   refine WC.seqk ?_
   have h39 := ((hB31.row (((hR10.ext hE17).ext hE22).ext hE28) (by omega)).ext hE36)
   have h40 := ((hB31.row ((hR16.ext hE22).ext hE28) (by omega)).ext hE36)
   have h41 := (((hn21.ext hE28).bu hB31).ext hE36)
   refine WC.weaken (r' := [(2, pt b1 0), (3, pt b7 0), (4, pt b13 0), (5, pt b24 0), (19, .bool false)]) (s4 (sr rfl (subReg_nil _))) ?_
   refine WC.draw 2 [22, 23] [pc (.agg #[.int .i64 b.1, .int .i64 b.2]), pc (.agg #[.int .i64 Nd.opt.1, .int .i64 Nd.opt.2])] (by kernel_rfl) (by kernel_rfl) ⟨KW_pc _, KW_pc _, trivial⟩ rfl rfl rfl (sc ?_ (sc ?_ (StepsOn.nil _))) ?_
   ·intro σ β w1 hE1 hbi hk
    refine ⟨[], (agree_nil _), ?_⟩
    refine WL.load_box rfl rfl rfl (h39.ext hE1) Ty.agg62 ?_
    exact dq hbi rfl
   ·intro σ β w1 hE1 hbi hk
    refine ⟨[], (agree_nil _), ?_⟩
    refine WL.call rfl rfl rfl Ty.ent52 (opt_ok _) ?_
    rintro _ w63 ⟨rfl, hE62⟩
    refine ⟨_, rfl, ?_⟩
    exact dqE hbi hE62 rfl
   intro σ β w42 hE42 hbi42 hk
   have hz42 := hE42.size
   have hbi := hbi42
   refine WL.know [(22, .agg #[.int .i64 b.1, .int .i64 b.2]), (23, .agg #[.int .i64 Nd.opt.1, .int .i64 Nd.opt.2])] (aj hk 0 (aj hk 1 (agree_nil _))) ?_
   cases hc45 : (b == Nd.opt) with
   | false =>
    refine WL.paireql (p := b) (q := Nd.opt) rfl rfl (by kernel_rfl) (by kernel_rfl) rfl rfl hc45 ?_
    refine mv ?_
    refine ps ?_
    refine ps ?_
    refine pF ?_
    refine asg ?_
    refine WL.dn ?_
    refine cF ?_
    refine WC.seqk ?_
    refine WC.weaken (r' := [(2, pt b1 0), (3, pt b7 0), (4, pt b13 0), (5, pt b24 0), (19, .bool false), (21, .bool false)]) (s4 (sr rfl (sr rfl (subReg_nil _)))) ?_
    refine WC.region ?_
    refine WL.fieldAddr rfl rfl Ty.fld30_0 rfl ?_
    have h46 := ((h34.ext hE36).ext hE42)
    refine WL.load_fld rfl rfl Ty.flat5 rfl h46 rfl ?_
    cases hc47 : ((T.kind : Int) == 5) with
    | false =>
     refine WL.eql rfl rfl rfl rfl hc47 ?_
     have hp47 := beq_eq_false_iff_ne.1 hc47
     refine mv ?_
     refine ps ?_
     refine ps ?_
     refine pF ?_
     refine mv ?_
     refine ps ?_
     refine ps ?_
     refine ps ?_
     refine pF ?_
     refine asg ?_
     refine WL.dn ?_
     refine cF ?_
     refine WC.seqk ?_
     have h48 := ((h35.ext hE36).ext hE42)
     have h49 := ((hR30.ext hE36).ext hE42)
     refine WC.weaken (r' := [(2, pt b1 0), (3, pt b7 0), (4, pt b13 0), (5, pt b24 0), (19, .bool false), (21, .bool false), (30, .bool false)]) (s4 (sr rfl (sr rfl (sr rfl (subReg_nil _))))) ?_
     refine WC.draw 2 [63, 64] [pc (.agg #[.int .i64 b.1, .int .i64 b.2]), pc (.agg #[.int .i64 Nd.plus.1, .int .i64 Nd.plus.2])] (by kernel_rfl) (by kernel_rfl) ⟨KW_pc _, KW_pc _, trivial⟩ rfl rfl rfl (sc ?_ (sc ?_ (StepsOn.nil _))) ?_
     ·intro σ β w1 hE1 hbi hk
      refine ⟨[], (agree_nil _), ?_⟩
      have h70 := ((h39.ext hE42).ext hE1)
      refine WL.load_box rfl rfl rfl h70 Ty.agg62 ?_
      exact dq hbi rfl
     ·intro σ β w1 hE1 hbi hk
      refine ⟨[], (agree_nil _), ?_⟩
      refine WL.call rfl rfl rfl Ty.ent55 (plus_ok _) ?_
      rintro _ w71 ⟨rfl, hE70⟩
      refine ⟨_, rfl, ?_⟩
      exact dqE hbi hE70 rfl
     intro σ β w50 hE50 hbi50 hk
     have hz50 := hE50.size
     have hbi := hbi50
     refine WL.know [(63, .agg #[.int .i64 b.1, .int .i64 b.2]), (64, .agg #[.int .i64 Nd.plus.1, .int .i64 Nd.plus.2])] (aj hk 0 (aj hk 1 (agree_nil _))) ?_
     cases hc53 : (b == Nd.plus) with
     | false =>
      refine WL.paireql (p := b) (q := Nd.plus) rfl rfl (by kernel_rfl) (by kernel_rfl) rfl rfl hc53 ?_
      refine mv ?_
      refine ps ?_
      refine ps ?_
      refine pF ?_
      refine asg ?_
      refine WL.dn ?_
      refine cF ?_
      refine WC.sk ?_
      refine WC.seqk ?_
      refine WC.weaken (r' := [(4, pt b13 0), (5, pt b24 0), (19, .bool false), (21, .bool false), (30, .bool false), (62, .bool false)]) (s4 (sr rfl (sr rfl (subReg_nil _)))) ?_
      refine WC.region ?_
      refine WL.load_box rfl rfl rfl (h49.ext hE50) Ty.agg30 ?_
      have h56 := ((h40.ext hE42).ext hE50)
      refine WL.store_box rfl rfl rfl h56 Ty.agg30 rfl rfl (fun w57 hB55 hR54 => ?_)
      have hzhB55 := hB55.size
      refine WL.dn ?_
      refine WC.ret (fun a_ ha => ?_)
      have h58 := (((h41.ext hE42).ext hE50).bu hB55)
      exact bodyPost_cell (l := (tcells (Nd.times T b.1 b.2) (.slice a21 (Nd.times T b.1 b.2).subs.length cap21))) rfl ha rfl Ty.agg30 hR54 ⟨_, rfl, (by simp only [Nd.timesN, Nd.timesB, hc33, hc38, hc45, hc47, hc53, cond_true, cond_false, Bool.not_true, Bool.not_false, Bool.or_true, Bool.true_or, Bool.or_false, Bool.false_or, Bool.and_true, Bool.true_and, Bool.and_false, Bool.false_and]; exact h58.dom (by intro k h1; (try dsimp only at h1); (repeat' first | (guard_hyp h1 : _ ∨ _; refine Or.elim h1 (fun h1 => ?_) (fun h1 => ?_)) | (guard_hyp h1 : _ ∧ _; have hx := h1.2; replace h1 := h1.1)) <;> first | contradiction | exact .inl h1 | exact .inr (by omega))), (hB55.onto ((((hB31.onto ((((hE5.trans hE11).trans hE17).trans hE22).trans hE28) (by omega)).trans hE36).trans hE42).trans hE50) (by omega))⟩
     | true =>
      refine WL.paireql (p := b) (q := Nd.plus) rfl rfl (by kernel_rfl) (by kernel_rfl) rfl rfl hc53 ?_
      refine mv ?_
      refine WL.load_box rfl rfl rfl (h46.ext hE50) Ty.agg30 ?_
      refine WL.call rfl rfl rfl Ty.ent35 (nullable_ok T _ _ _ (h48.ext hE50) hni) ?_
      rintro _ w55 ⟨rfl, hE54⟩
      have hzhE54 := hE54.size
      refine ⟨_, rfl, ?_⟩
      cases hc56 : Nd.nullable T with
      | false =>
       refine pT ?_
       refine asg ?_
       refine WL.dn ?_
       refine cF ?_
       refine WC.sk ?_
       refine WC.seqk ?_
       refine WC.weaken (r' := [(4, pt b13 0), (5, pt b24 0), (19, .bool false), (21, .bool false), (30, .bool false), (62, .bool false)]) (s4 (sr rfl (sr rfl (subReg_nil _)))) ?_
       refine WC.region ?_
       have h57 := ((h49.ext hE50).ext hE54)
       refine WL.load_box rfl rfl rfl h57 Ty.agg30 ?_
       have h60 := (((h40.ext hE42).ext hE50).ext hE54)
       refine WL.store_box rfl rfl rfl h60 Ty.agg30 rfl rfl (fun w61 hB59 hR58 => ?_)
       have hzhB59 := hB59.size
       refine WL.dn ?_
       refine WC.ret (fun a_ ha => ?_)
       have h62 := ((((h41.ext hE42).ext hE50).ext hE54).bu hB59)
       exact bodyPost_cell (l := (tcells (Nd.times T b.1 b.2) (.slice a21 (Nd.times T b.1 b.2).subs.length cap21))) rfl ha rfl Ty.agg30 hR58 ⟨_, rfl, (by simp only [Nd.timesN, Nd.timesB, hc33, hc38, hc45, hc47, hc53, hc56, cond_true, cond_false, Bool.not_true, Bool.not_false, Bool.or_true, Bool.true_or, Bool.or_false, Bool.false_or, Bool.and_true, Bool.true_and, Bool.and_false, Bool.false_and]; exact h62.dom (by intro k h1; (try dsimp only at h1); (repeat' first | (guard_hyp h1 : _ ∨ _; refine Or.elim h1 (fun h1 => ?_) (fun h1 => ?_)) | (guard_hyp h1 : _ ∧ _; have hx := h1.2; replace h1 := h1.1)) <;> first | contradiction | exact .inl h1 | exact .inr (by omega))), (hB59.onto (((((hB31.onto ((((hE5.trans hE11).trans hE17).trans hE22).trans hE28) (by omega)).trans hE36).trans hE42).trans hE50).trans hE54) (by omega))⟩
      | true =>
       refine pT ?_
       refine asg ?_
       refine WL.dn ?_
       refine cT ?_
       refine WC.seqk ?_
       refine WC.weaken (r' := [(2, pt b1 0), (4, pt b13 0), (5, pt b24 0), (19, .bool false), (21, .bool false), (30, .bool false), (62, .bool true)]) (s4 (sr rfl (sr rfl (sr rfl (subReg_nil _))))) ?_
       refine WC.region ?_
       have h57 := ((h46.ext hE50).ext hE54)
       refine WL.load_box rfl rfl rfl h57 Ty.agg30 ?_
       have h58 := ((h48.ext hE50).ext hE54)
       refine WL.call rfl rfl rfl Ty.ent17 (times_ok _ _ _ T 0 (-1) h58) ?_
       rintro _ w61 ⟨l59, rfl, hr59, hE60⟩
       have hzhE60 := hE60.size
       refine ⟨_, rfl, ?_⟩
       have hn59 := hr59.lt
       obtain ⟨a59, cap59, rfl, hts59, hlen59⟩ := hn59.op2
       have h64 := ((((h40.ext hE42).ext hE50).ext hE54).ext hE60)
       refine WL.store_box rfl rfl rfl h64 Ty.agg30 rfl rfl (fun w65 hB63 hR62 => ?_)
       have hzhB63 := hB63.size
       refine WL.dn ?_
       refine WC.ret (fun a_ ha => ?_)
       refine ret_block ?_
       refine ret_then ?_
       exact bodyPost_cell (l := (tcells (Nd.times T 0 (-1)) (.slice a59 (Nd.times T 0 (-1)).subs.length cap59))) rfl ha rfl Ty.agg30 hR62 ⟨_, rfl, (by simp only [Nd.timesN, Nd.timesB, hc33, hc38, hc45, hc47, hc53, hc56, cond_true, cond_false, Bool.not_true, Bool.not_false, Bool.or_true, Bool.true_or, Bool.or_false, Bool.false_or, Bool.and_true, Bool.true_and, Bool.and_false, Bool.false_and]; exact (hn59.bu hB63).dom (by intro k h1; (try dsimp only at h1); (repeat' first | (guard_hyp h1 : _ ∨ _; refine Or.elim h1 (fun h1 => ?_) (fun h1 => ?_)) | (guard_hyp h1 : _ ∧ _; have hx := h1.2; replace h1 := h1.1)) <;> first | contradiction | exact .inl h1 | exact .inr (by omega))), (hB63.onto ((((((hB31.onto ((((hE5.trans hE11).trans hE17).trans hE22).trans hE28) (by omega)).trans hE36).trans hE42).trans hE50).trans hE54).trans hE60) (by omega))⟩
    | true =>
     refine WL.eql rfl rfl rfl rfl hc47 ?_
     have hp47 := beq_iff_eq.1 hc47
     refine mv ?_
     refine WL.load_box rfl rfl rfl (h39.ext hE42) Ty.agg62 ?_
     refine WL.call rfl rfl rfl Ty.ent53 (simple_ok _ b) ?_
     rintro _ w49 ⟨rfl, hE48⟩
     have hzhE48 := hE48.size
     refine ⟨_, rfl, ?_⟩
     cases hc50 : Nd.simple b with
     | false =>
      refine pT ?_
      refine mv ?_
      refine ps ?_
      refine ps ?_
      refine ps ?_
      refine pF ?_
      refine asg ?_
      refine WL.dn ?_
      refine cF ?_
      refine WC.seqk ?_
      have h51 := (((h35.ext hE36).ext hE42).ext hE48)
      have h52 := ((h39.ext hE42).ext hE48)
      have h53 := ((h40.ext hE42).ext hE48)
      have h54 := (((hR30.ext hE36).ext hE42).ext hE48)
      have h55 := ((h41.ext hE42).ext hE48)
      refine WC.weaken (r' := [(2, pt b1 0), (3, pt b7 0), (4, pt b13 0), (5, pt b24 0), (19, .bool false), (21, .bool false), (30, .bool false)]) (s4 (sr rfl (sr rfl (sr rfl (subReg_nil _))))) ?_
      refine WC.draw 2 [63, 64] [pc (.agg #[.int .i64 b.1, .int .i64 b.2]), pc (.agg #[.int .i64 Nd.plus.1, .int .i64 Nd.plus.2])] (by kernel_rfl) (by kernel_rfl) ⟨KW_pc _, KW_pc _, trivial⟩ rfl rfl rfl (sc ?_ (sc ?_ (StepsOn.nil _))) ?_
      ·intro σ β w1 hE1 hbi hk
       refine ⟨[], (agree_nil _), ?_⟩
       refine WL.load_box rfl rfl rfl (h52.ext hE1) Ty.agg62 ?_
       exact dq hbi rfl
      ·intro σ β w1 hE1 hbi hk
       refine ⟨[], (agree_nil _), ?_⟩
       refine WL.call rfl rfl rfl Ty.ent55 (plus_ok _) ?_
       rintro _ w77 ⟨rfl, hE76⟩
       refine ⟨_, rfl, ?_⟩
       exact dqE hbi hE76 rfl
      intro σ β w56 hE56 hbi56 hk
      have hz56 := hE56.size
      have hbi := hbi56
      refine WL.know [(63, .agg #[.int .i64 b.1, .int .i64 b.2]), (64, .agg #[.int .i64 Nd.plus.1, .int .i64 Nd.plus.2])] (aj hk 0 (aj hk 1 (agree_nil _))) ?_
      cases hc59 : (b == Nd.plus) with
      | false =>
       refine WL.paireql (p := b) (q := Nd.plus) rfl rfl (by kernel_rfl) (by kernel_rfl) rfl rfl hc59 ?_
       refine mv ?_
       refine ps ?_
       refine ps ?_
       refine pF ?_
       refine asg ?_
       refine WL.dn ?_
       refine cF ?_
       refine WC.sk ?_
       refine WC.seqk ?_
       refine WC.weaken (r' := [(4, pt b13 0), (5, pt b24 0), (19, .bool false), (21, .bool false), (30, .bool false), (62, .bool false)]) (s4 (sr rfl (sr rfl (subReg_nil _)))) ?_
       refine WC.region ?_
       refine WL.load_box rfl rfl rfl (h54.ext hE56) Ty.agg30 ?_
       refine WL.store_box rfl rfl rfl (h53.ext hE56) Ty.agg30 rfl rfl (fun w62 hB61 hR60 => ?_)
       have hzhB61 := hB61.size
       refine WL.dn ?_
       refine WC.ret (fun a_ ha => ?_)
       have h63 := ((h55.ext hE56).bu hB61)
       exact bodyPost_cell (l := (tcells (Nd.times T b.1 b.2) (.slice a21 (Nd.times T b.1 b.2).subs.length cap21))) rfl ha rfl Ty.agg30 hR60 ⟨_, rfl, (by simp only [Nd.timesN, Nd.timesB, hc33, hc38, hc45, hc47, hc50, hc59, cond_true, cond_false, Bool.not_true, Bool.not_false, Bool.or_true, Bool.true_or, Bool.or_false, Bool.false_or, Bool.and_true, Bool.true_and, Bool.and_false, Bool.false_and]; exact h63.dom (by intro k h1; (try dsimp only at h1); (repeat' first | (guard_hyp h1 : _ ∨ _; refine Or.elim h1 (fun h1 => ?_) (fun h1 => ?_)) | (guard_hyp h1 : _ ∧ _; have hx := h1.2; replace h1 := h1.1)) <;> first | contradiction | exact .inl h1 | exact .inr (by omega))), (hB61.onto (((((hB31.onto ((((hE5.trans hE11).trans hE17).trans hE22).trans hE28) (by omega)).trans hE36).trans hE42).trans hE48).trans hE56) (by omega))⟩
      | true =>
       refine WL.paireql (p := b) (q := Nd.plus) rfl rfl (by kernel_rfl) (by kernel_rfl) rfl rfl hc59 ?_
       refine mv ?_
       have h60 := ((h46.ext hE48).ext hE56)
       refine WL.load_box rfl rfl rfl h60 Ty.agg30 ?_
       refine WL.call rfl rfl rfl Ty.ent35 (nullable_ok T _ _ _ (h51.ext hE56) hni) ?_
       rintro _ w62 ⟨rfl, hE61⟩
       have hzhE61 := hE61.size
       refine ⟨_, rfl, ?_⟩
       cases hc63 : Nd.nullable T with
       | false =>
        refine pT ?_
        refine asg ?_
        refine WL.dn ?_
        refine cF ?_
        refine WC.sk ?_
        refine WC.seqk ?_
        refine WC.weaken (r' := [(4, pt b13 0), (5, pt b24 0), (19, .bool false), (21, .bool false), (30, .bool false), (62, .bool false)]) (s4 (sr rfl (sr rfl (subReg_nil _)))) ?_
        refine WC.region ?_
        have h64 := ((h54.ext hE56).ext hE61)
        refine WL.load_box rfl rfl rfl h64 Ty.agg30 ?_
        have h67 := ((h53.ext hE56).ext hE61)
        refine WL.store_box rfl rfl rfl h67 Ty.agg30 rfl rfl (fun w68 hB66 hR65 => ?_)
        have hzhB66 := hB66.size
        refine WL.dn ?_
        refine WC.ret (fun a_ ha => ?_)
        have h69 := (((h55.ext hE56).ext hE61).bu hB66)
        exact bodyPost_cell (l := (tcells (Nd.times T b.1 b.2) (.slice a21 (Nd.times T b.1 b.2).subs.length cap21))) rfl ha rfl Ty.agg30 hR65 ⟨_, rfl, (by simp only [Nd.timesN, Nd.timesB, hc33, hc38, hc45, hc47, hc50, hc59, hc63, cond_true, cond_false, Bool.not_true, Bool.not_false, Bool.or_true, Bool.true_or, Bool.or_false, Bool.false_or, Bool.and_true, Bool.true_and, Bool.and_false, Bool.false_and]; exact h69.dom (by intro k h1; (try dsimp only at h1); (repeat' first | (guard_hyp h1 : _ ∨ _; refine Or.elim h1 (fun h1 => ?_) (fun h1 => ?_)) | (guard_hyp h1 : _ ∧ _; have hx := h1.2; replace h1 := h1.1)) <;> first | contradiction | exact .inl h1 | exact .inr (by omega))), (hB66.onto ((((((hB31.onto ((((hE5.trans hE11).trans hE17).trans hE22).trans hE28) (by omega)).trans hE36).trans hE42).trans hE48).trans hE56).trans hE61) (by omega))⟩
       | true =>
        refine pT ?_
        refine asg ?_
        refine WL.dn ?_
        refine cT ?_
        refine WC.seqk ?_
        refine WC.weaken (r' := [(2, pt b1 0), (4, pt b13 0), (5, pt b24 0), (19, .bool false), (21, .bool false), (30, .bool false), (62, .bool true)]) (s4 (sr rfl (sr rfl (sr rfl (subReg_nil _))))) ?_
        refine WC.region ?_
        refine WL.load_box rfl rfl rfl (h60.ext hE61) Ty.agg30 ?_
        have h64 := ((h51.ext hE56).ext hE61)
        refine WL.call rfl rfl rfl Ty.ent17 (times_ok _ _ _ T 0 (-1) h64) ?_
        rintro _ w67 ⟨l65, rfl, hr65, hE66⟩
        have hzhE66 := hE66.size
        refine ⟨_, rfl, ?_⟩
        have hn65 := hr65.lt
        obtain ⟨a65, cap65, rfl, hts65, hlen65⟩ := hn65.op2
        have h70 := (((h53.ext hE56).ext hE61).ext hE66)
        refine WL.store_box rfl rfl rfl h70 Ty.agg30 rfl rfl (fun w71 hB69 hR68 => ?_)
        have hzhB69 := hB69.size
        refine WL.dn ?_
        refine WC.ret (fun a_ ha => ?_)
        refine ret_block ?_
        refine ret_then ?_
        exact bodyPost_cell (l := (tcells (Nd.times T 0 (-1)) (.slice a65 (Nd.times T 0 (-1)).subs.length cap65))) rfl ha rfl Ty.agg30 hR68 ⟨_, rfl, (by simp only [Nd.timesN, Nd.timesB, hc33, hc38, hc45, hc47, hc50, hc59, hc63, cond_true, cond_false, Bool.not_true, Bool.not_false, Bool.or_true, Bool.true_or, Bool.or_false, Bool.false_or, Bool.and_true, Bool.true_and, Bool.and_false, Bool.false_and]; exact (hn65.bu hB69).dom (by intro k h1; (try dsimp only at h1); (repeat' first | (guard_hyp h1 : _ ∨ _; refine Or.elim h1 (fun h1 => ?_) (fun h1 => ?_)) | (guard_hyp h1 : _ ∧ _; have hx := h1.2; replace h1 := h1.1)) <;> first | contradiction | exact .inl h1 | exact .inr (by omega))), (hB69.onto (((((((hB31.onto ((((hE5.trans hE11).trans hE17).trans hE22).trans hE28) (by omega)).trans hE36).trans hE42).trans hE48).trans hE56).trans hE61).trans hE66) (by omega))⟩
     | true =>
      refine pT ?_
      refine mv ?_
      refine WL.load_box rfl rfl rfl (h46.ext hE48) Ty.agg30 ?_
      have h51 := (((h35.ext hE36).ext hE42).ext hE48)
      refine WL.call rfl rfl rfl Ty.ent43 (bof_ok _ _ _ T h51) ?_
      rintro _ w53 ⟨rfl, hE52⟩
      have hzhE52 := hE52.size
      refine ⟨_, rfl, ?_⟩
      refine WL.call rfl rfl rfl Ty.ent53 (simple_ok _ (Nd.bof T)) ?_
      rintro _ w55 ⟨rfl, hE54⟩
      have hzhE54 := hE54.size
      refine ⟨_, rfl, ?_⟩
      cases hc56 : Nd.simple (Nd.bof T) with
      | false =>
       refine pT ?_
       refine asg ?_
       refine WL.dn ?_
       refine cF ?_
       refine WC.seqk ?_
       have h57 := ((h51.ext hE52).ext hE54)
       have h58 := (((h46.ext hE48).ext hE52).ext hE54)
       have h59 := ((((h39.ext hE42).ext hE48).ext hE52).ext hE54)
       have h60 := ((((h40.ext hE42).ext hE48).ext hE52).ext hE54)
       have h61 := (((((hR30.ext hE36).ext hE42).ext hE48).ext hE52).ext hE54)
       have h62 := ((((h41.ext hE42).ext hE48).ext hE52).ext hE54)
       refine WC.weaken (r' := [(2, pt b1 0), (3, pt b7 0), (4, pt b13 0), (5, pt b24 0), (19, .bool false), (21, .bool false), (30, .bool false)]) (s4 (sr rfl (sr rfl (sr rfl (subReg_nil _))))) ?_
       refine WC.draw 2 [63, 64] [pc (.agg #[.int .i64 b.1, .int .i64 b.2]), pc (.agg #[.int .i64 Nd.plus.1, .int .i64 Nd.plus.2])] (by kernel_rfl) (by kernel_rfl) ⟨KW_pc _, KW_pc _, trivial⟩ rfl rfl rfl (sc ?_ (sc ?_ (StepsOn.nil _))) ?_
       ·intro σ β w1 hE1 hbi hk
        refine ⟨[], (agree_nil _), ?_⟩
        refine WL.load_box rfl rfl rfl (h59.ext hE1) Ty.agg62 ?_
        exact dq hbi rfl
       ·intro σ β w1 hE1 hbi hk
        refine ⟨[], (agree_nil _), ?_⟩
        refine WL.call rfl rfl rfl Ty.ent55 (plus_ok _) ?_
        rintro _ w84 ⟨rfl, hE83⟩
        refine ⟨_, rfl, ?_⟩
        exact dqE hbi hE83 rfl
       intro σ β w63 hE63 hbi63 hk
       have hz63 := hE63.size
       have hbi := hbi63
       refine WL.know [(63, .agg #[.int .i64 b.1, .int .i64 b.2]), (64, .agg #[.int .i64 Nd.plus.1, .int .i64 Nd.plus.2])] (aj hk 0 (aj hk 1 (agree_nil _))) ?_
       cases hc66 : (b == Nd.plus) with
       | false =>
        refine WL.paireql (p := b) (q := Nd.plus) rfl rfl (by kernel_rfl) (by kernel_rfl) rfl rfl hc66 ?_
        refine mv ?_
        refine ps ?_
        refine ps ?_
        refine pF ?_
        refine asg ?_
        refine WL.dn ?_
        refine cF ?_
        refine WC.sk ?_
        refine WC.seqk ?_
        refine WC.weaken (r' := [(4, pt b13 0), (5, pt b24 0), (19, .bool false), (21, .bool false), (30, .bool false), (62, .bool false)]) (s4 (sr rfl (sr rfl (subReg_nil _)))) ?_
        refine WC.region ?_
        refine WL.load_box rfl rfl rfl (h61.ext hE63) Ty.agg30 ?_
        refine WL.store_box rfl rfl rfl (h60.ext hE63) Ty.agg30 rfl rfl (fun w69 hB68 hR67 => ?_)
        have hzhB68 := hB68.size
        refine WL.dn ?_
        refine WC.ret (fun a_ ha => ?_)
        have h70 := ((h62.ext hE63).bu hB68)
        exact bodyPost_cell (l := (tcells (Nd.times T b.1 b.2) (.slice a21 (Nd.times T b.1 b.2).subs.length cap21))) rfl ha rfl Ty.agg30 hR67 ⟨_, rfl, (by simp only [Nd.timesN, Nd.timesB, hc33, hc38, hc45, hc47, hc50, hc56, hc66, cond_true, cond_false, Bool.not_true, Bool.not_false, Bool.or_true, Bool.true_or, Bool.or_false, Bool.false_or, Bool.and_true, Bool.true_and, Bool.and_false, Bool.false_and]; exact h70.dom (by intro k h1; (try dsimp only at h1); (repeat' first | (guard_hyp h1 : _ ∨ _; refine Or.elim h1 (fun h1 => ?_) (fun h1 => ?_)) | (guard_hyp h1 : _ ∧ _; have hx := h1.2; replace h1 := h1.1)) <;> first | contradiction | exact .inl h1 | exact .inr (by omega))), (hB68.onto (((((((hB31.onto ((((hE5.trans hE11).trans hE17).trans hE22).trans hE28) (by omega)).trans hE36).trans hE42).trans hE48).trans hE52).trans hE54).trans hE63) (by omega))⟩
       | true =>
        refine WL.paireql (p := b) (q := Nd.plus) rfl rfl (by kernel_rfl) (by kernel_rfl) rfl rfl hc66 ?_
        refine mv ?_
        refine WL.load_box rfl rfl rfl (h58.ext hE63) Ty.agg30 ?_
        refine WL.call rfl rfl rfl Ty.ent35 (nullable_ok T _ _ _ (h57.ext hE63) hni) ?_
        rintro _ w68 ⟨rfl, hE67⟩
        have hzhE67 := hE67.size
        refine ⟨_, rfl, ?_⟩
        cases hc69 : Nd.nullable T with
        | false =>
         refine pT ?_
         refine asg ?_
         refine WL.dn ?_
         refine cF ?_
         refine WC.sk ?_
         refine WC.seqk ?_
         refine WC.weaken (r' := [(4, pt b13 0), (5, pt b24 0), (19, .bool false), (21, .bool false), (30, .bool false), (62, .bool false)]) (s4 (sr rfl (sr rfl (subReg_nil _)))) ?_
         refine WC.region ?_
         have h70 := ((h61.ext hE63).ext hE67)
         refine WL.load_box rfl rfl rfl h70 Ty.agg30 ?_
         have h73 := ((h60.ext hE63).ext hE67)
         refine WL.store_box rfl rfl rfl h73 Ty.agg30 rfl rfl (fun w74 hB72 hR71 => ?_)
         have hzhB72 := hB72.size
         refine WL.dn ?_
         refine WC.ret (fun a_ ha => ?_)
         have h75 := (((h62.ext hE63).ext hE67).bu hB72)
         exact bodyPost_cell (l := (tcells (Nd.times T b.1 b.2) (.slice a21 (Nd.times T b.1 b.2).subs.length cap21))) rfl ha rfl Ty.agg30 hR71 ⟨_, rfl, (by simp only [Nd.timesN, Nd.timesB, hc33, hc38, hc45, hc47, hc50, hc56, hc66, hc69, cond_true, cond_false, Bool.not_true, Bool.not_false, Bool.or_true, Bool.true_or, Bool.or_false, Bool.false_or, Bool.and_true, Bool.true_and, Bool.and_false, Bool.false_and]; exact h75.dom (by intro k h1; (try dsimp only at h1); (repeat' first | (guard_hyp h1 : _ ∨ _; refine Or.elim h1 (fun h1 => ?_) (fun h1 => ?_)) | (guard_hyp h1 : _ ∧ _; have hx := h1.2; replace h1 := h1.1)) <;> first | contradiction | exact .inl h1 | exact .inr (by omega))), (hB72.onto ((((((((hB31.onto ((((hE5.trans hE11).trans hE17).trans hE22).trans hE28) (by omega)).trans hE36).trans hE42).trans hE48).trans hE52).trans hE54).trans hE63).trans hE67) (by omega))⟩
        | true =>
         refine pT ?_
         refine asg ?_
         refine WL.dn ?_
         refine cT ?_
         refine WC.seqk ?_
         refine WC.weaken (r' := [(2, pt b1 0), (4, pt b13 0), (5, pt b24 0), (19, .bool false), (21, .bool false), (30, .bool false), (62, .bool true)]) (s4 (sr rfl (sr rfl (sr rfl (subReg_nil _))))) ?_
         refine WC.region ?_
         have h70 := ((h58.ext hE63).ext hE67)
         refine WL.load_box rfl rfl rfl h70 Ty.agg30 ?_
         have h71 := ((h57.ext hE63).ext hE67)
         refine WL.call rfl rfl rfl Ty.ent17 (times_ok _ _ _ T 0 (-1) h71) ?_
         rintro _ w74 ⟨l72, rfl, hr72, hE73⟩
         have hzhE73 := hE73.size
         refine ⟨_, rfl, ?_⟩
         have hn72 := hr72.lt
         obtain ⟨a72, cap72, rfl, hts72, hlen72⟩ := hn72.op2
         have h77 := (((h60.ext hE63).ext hE67).ext hE73)
         refine WL.store_box rfl rfl rfl h77 Ty.agg30 rfl rfl (fun w78 hB76 hR75 => ?_)
         have hzhB76 := hB76.size
         refine WL.dn ?_
         refine WC.ret (fun a_ ha => ?_)
         refine ret_block ?_
         refine ret_then ?_
         exact bodyPost_cell (l := (tcells (Nd.times T 0 (-1)) (.slice a72 (Nd.times T 0 (-1)).subs.length cap72))) rfl ha rfl Ty.agg30 hR75 ⟨_, rfl, (by simp only [Nd.timesN, Nd.timesB, hc33, hc38, hc45, hc47, hc50, hc56, hc66, hc69, cond_true, cond_false, Bool.not_true, Bool.not_false, Bool.or_true, Bool.true_or, Bool.or_false, Bool.false_or, Bool.and_true, Bool.true_and, Bool.and_false, Bool.false_and]; exact (hn72.bu hB76).dom (by intro k h1; (try dsimp only at h1); (repeat' first | (guard_hyp h1 : _ ∨ _; refine Or.elim h1 (fun h1 => ?_) (fun h1 => ?_)) | (guard_hyp h1 : _ ∧ _; have hx := h1.2; replace h1 := h1.1)) <;> first | contradiction | exact .inl h1 | exact .inr (by omega))), (hB76.onto (((((((((hB31.onto ((((hE5.trans hE11).trans hE17).trans hE22).trans hE28) (by omega)).trans hE36).trans hE42).trans hE48).trans hE52).trans hE54).trans hE63).trans hE67).trans hE73) (by omega))⟩
      | true =>
       refine pT ?_
       refine asg ?_
       refine WL.dn ?_
       refine cT ?_
       refine WC.seqk ?_
       refine WC.seqk ?_
       cases hc57 : (b != (Nd.bof T)) with
       | false =>
        have h58 := ((h51.ext hE52).ext hE54)
        have h59 := (((h46.ext hE48).ext hE52).ext hE54)
        have h60 := ((((h39.ext hE42).ext hE48).ext hE52).ext hE54)
        have h61 := ((((h40.ext hE42).ext hE48).ext hE52).ext hE54)
        have h62 := (((((hR30.ext hE36).ext hE42).ext hE48).ext hE52).ext hE54)
        have h63 := ((((h41.ext hE42).ext hE48).ext hE52).ext hE54)
        refine WC.weaken (r' := [(2, pt b1 0), (3, pt b7 0), (4, pt b13 0), (5, pt b24 0), (19, .bool false), (21, .bool false), (30, .bool true)]) (s4 (sr rfl (sr rfl (sr rfl (subReg_nil _))))) ?_
        refine WC.draw 7 [43, 44, 45, 46, 47, 48, 49] [pc (.agg #[.int .i64 b.1, .int .i64 b.2]), pc (.agg (tcells T (.slice a T.subs.length cap)).toArray), pc (.agg #[.int .i64 (Nd.bof T).1, .int .i64 (Nd.bof T).2]), pc (.bool false), pc (.bool false), pc (.agg #[.int .i64 b.1, .int .i64 b.2]), pc (.agg #[.int .i64 Nd.star.1, .int .i64 Nd.star.2])] (by kernel_rfl) (by kernel_rfl) (k4 ⟨KW_pc _, KW_pc _, KW_pc _, trivial⟩) rfl rfl rfl (sc4 ?_ ?_ ?_ ?_ (sc ?_ (sc ?_ (sc ?_ (StepsOn.nil _))))) ?_
        ·intro σ β w1 hE1 hbi hk
         refine ⟨[], (agree_nil _), ?_⟩
         refine WL.load_box rfl rfl rfl (h60.ext hE1) Ty.agg62 ?_
         exact dq hbi rfl
        ·intro σ β w1 hE1 hbi hk
         refine ⟨[], (agree_nil _), ?_⟩
         refine WL.load_box rfl rfl rfl (h59.ext hE1) Ty.agg30 ?_
         exact dq hbi rfl
        ·intro σ β w1 hE1 hbi hk
         refine ⟨[(44, .agg (tcells T (.slice a T.subs.length cap)).toArray)], (ak hk 1 (agree_nil _)), ?_⟩
         refine WL.call rfl rfl rfl Ty.ent43 (bof_ok _ _ _ T (h58.ext hE1)) ?_
         rintro _ w86 ⟨rfl, hE85⟩
         refine ⟨_, rfl, ?_⟩
         exact dqE hbi hE85 rfl
        ·intro σ β w1 hE1 hbi hk
         refine ⟨[(43, .agg #[.int .i64 b.1, .int .i64 b.2]), (45, .agg #[.int .i64 (Nd.bof T).1, .int .i64 (Nd.bof T).2])], (ak hk 0 (ak hk 2 (agree_nil _))), ?_⟩
         refine WL.pairneq (p := b) (q := (Nd.bof T)) (b := false) rfl rfl (by kernel_rfl) (by kernel_rfl) rfl rfl hc57 ?_
         exact dq hbi rfl
        ·intro σ β w1 hE1 hbi hk
         refine ⟨[(46, .bool false)], (ak hk 3 (agree_nil _)), ?_⟩
         refine mv ?_
         exact dq hbi rfl
        ·intro σ β w1 hE1 hbi hk
         refine ⟨[(47, .bool false)], (ak hk 4 (agree_nil _)), ?_⟩
         refine WL.load_box rfl rfl rfl (h60.ext hE1) Ty.agg62 ?_
         exact dq hbi rfl
        ·intro σ β w1 hE1 hbi hk
         refine ⟨[(47, .bool false)], (ak hk 4 (agree_nil _)), ?_⟩
         refine WL.call rfl rfl rfl Ty.ent54 (star_ok _) ?_
         rintro _ w86 ⟨rfl, hE85⟩
         refine ⟨_, rfl, ?_⟩
         exact dqE hbi hE85 rfl
        intro σ β w64 hE64 hbi64 hk
        have hz64 := hE64.size
        have hbi := hbi64
        refine WL.know [(47, .bool false), (48, .agg #[.int .i64 b.1, .int .i64 b.2]), (49, .agg #[.int .i64 Nd.star.1, .int .i64 Nd.star.2])] (aj hk 4 (aj hk 5 (aj hk 6 (agree_nil _)))) ?_
        cases hc68 : (b == Nd.star) with
        | false =>
         refine WL.paireql (p := b) (q := Nd.star) rfl rfl (by kernel_rfl) (by kernel_rfl) rfl rfl hc68 ?_
         refine pF ?_
         refine WL.dn ?_
         refine cF ?_
         refine WC.sk ?_
         refine WC.seqk ?_
         have h69 := ((((((((((((hts.ext hE5).ext hE11).ext hE17).ext hE22).ext hE28).bu hB31).ext hE36).ext hE42).ext hE48).ext hE52).ext hE54).ext hE64)
         obtain ⟨t70, ht70⟩ : ∃ t, T.subs[0]? = some t := ⟨_, List.getElem?_eq_getElem (by have h5 := Nd.right_five (Nd.nice_right hni) (beq_iff_eq.1 hc47); omega)⟩
         obtain ⟨eb70, eo70, el70, hea70, hD70, her70, hn70⟩ := h69.at ht70
         obtain ⟨a70, cap70, rfl, hts70, hlen70⟩ := hn70.op2
         subst hea70
         refine WC.weaken (r' := [(2, pt b1 0), (3, pt b7 0), (4, pt b13 0), (5, pt b24 0), (19, .bool false), (21, .bool false), (30, .bool true), (51, .bool false)]) (s4 (s4 (subReg_nil _))) ?_
         refine WC.draw 8 [53, 54, 55, 56, 57, 58, 59, 60] [pc (pt b1 7), pc (.slice (some ⟨eb70, eo70, none⟩) T.subs.length cap), pc (pt eb70 (eo70 + 0 * 8)), pc (.agg (tcells t70 (.slice a70 t70.subs.length cap70)).toArray), pc (pt b7 0), pc (.int .i64 b.1), pc (pt b7 1), pc (.int .i64 b.2)] (by kernel_rfl) (by kernel_rfl) (k4 (k4 trivial)) rfl rfl rfl (sc4 ?_ ?_ ?_ ?_ (sc4 ?_ ?_ ?_ ?_ (StepsOn.nil _))) ?_
         ·intro σ β w1 hE1 hbi hk
          refine ⟨[], (agree_nil _), ?_⟩
          refine WL.fieldAddr rfl rfl Ty.fld30_4 rfl ?_
          exact dq hbi rfl
         ·intro σ β w1 hE1 hbi hk
          refine ⟨[(53, pt b1 7)], (ak hk 0 (agree_nil _)), ?_⟩
          have h92 := ((h59.ext hE64).ext hE1)
          refine WL.load_fld rfl rfl Ty.flat24 rfl h92 rfl ?_
          exact dq hbi rfl
         ·intro σ β w1 hE1 hbi hk
          have hz1 := hE1.size
          refine ⟨[(54, .slice (some ⟨eb70, eo70, none⟩) T.subs.length cap)], (ak hk 1 (agree_nil _)), ?_⟩
          refine WL.indexAddr (i := 0) rfl rfl Ty.slice24 rfl rfl rfl (by have h5 := Nd.right_five (Nd.nice_right hni) (beq_iff_eq.1 hc47); omega) ?_
          exact dq hbi rfl
         ·intro σ β w1 hE1 hbi hk
          refine ⟨[(55, pt eb70 (eo70 + 0 * 8))], (ak hk 2 (agree_nil _)), ?_⟩
          refine WL.load_agg (l := tcells t70 (.slice a70 t70.subs.length cap70)) rfl rfl Ty.agg30 rfl (her70.ext hE1) ?_
          exact dq hbi rfl
         ·intro σ β w1 hE1 hbi hk
          refine ⟨[], (agree_nil _), ?_⟩
          refine WL.fieldAddr rfl rfl Ty.fld62_0 rfl ?_
          exact dq hbi rfl
         ·intro σ β w1 hE1 hbi hk
          refine ⟨[(57, pt b7 0)], (ak hk 4 (agree_nil _)), ?_⟩
          have h92 := ((h60.ext hE64).ext hE1)
          refine WL.load_fld rfl rfl Ty.flat3 rfl h92 rfl ?_
          exact dq hbi rfl
         ·intro σ β w1 hE1 hbi hk
          refine ⟨[], (agree_nil _), ?_⟩
          refine WL.fieldAddr rfl rfl Ty.fld62_1 rfl ?_
          exact dq hbi rfl
         ·intro σ β w1 hE1 hbi hk
          refine ⟨[(59, pt b7 1)], (ak hk 6 (agree_nil _)), ?_⟩
          have h92 := ((h60.ext hE64).ext hE1)
          refine WL.load_fld rfl rfl Ty.flat3 rfl h92 rfl ?_
          exact dq hbi rfl
         intro σ β w71 hE71 hbi71 hk
         have hz71 := hE71.size
         have hbi := hbi71
         refine WL.know [(56, .agg (tcells t70 (.slice a70 t70.subs.length cap70)).toArray), (58, .int .i64 b.1), (60, .int .i64 b.2)] (aj hk 3 (aj hk 5 (aj hk 7 (agree_nil _)))) ?_
         refine WL.call rfl rfl rfl Ty.ent17 (times_ok _ _ _ t70 b.1 b.2 (hn70.ext hE71)) ?_
         rintro _ w77 ⟨l75, rfl, hr75, hE76⟩
         have hzhE76 := hE76.size
         refine ⟨_, rfl, ?_⟩
         have hn75 := hr75.lt
         obtain ⟨a75, cap75, rfl, hts75, hlen75⟩ := hn75.op2
         have h80 := (((h61.ext hE64).ext hE71).ext hE76)
         refine WL.store_box rfl rfl rfl h80 Ty.agg30 rfl rfl (fun w81 hB79 hR78 => ?_)
         have hzhB79 := hB79.size
         refine WL.dn ?_
         refine WC.ret (fun a_ ha => ?_)
         refine ret_block ?_
         refine ret_then ?_
         exact bodyPost_cell (l := (tcells (Nd.times t70 b.1 b.2) (.slice a75 (Nd.times t70 b.1 b.2).subs.length cap75))) rfl ha rfl Ty.agg30 hR78 ⟨_, rfl, (by simp only [Nd.timesN, Nd.timesB, hc33, hc38, hc45, hc47, hc50, hc56, hc57, hc68, Nd.sub0_at ht70, cond_true, cond_false, Bool.not_true, Bool.not_false, Bool.or_true, Bool.true_or, Bool.or_false, Bool.false_or, Bool.and_true, Bool.true_and, Bool.and_false, Bool.false_and]; exact (hn75.bu hB79).dom (by intro k h1; (try dsimp only at h1); (repeat' first | (guard_hyp h1 : _ ∨ _; refine Or.elim h1 (fun h1 => ?_) (fun h1 => ?_)) | (guard_hyp h1 : _ ∧ _; have hx := h1.2; replace h1 := h1.1)) <;> first | contradiction | exact .inl h1 | exact .inr (by omega))), (hB79.onto (((((((((hB31.onto ((((hE5.trans hE11).trans hE17).trans hE22).trans hE28) (by omega)).trans hE36).trans hE42).trans hE48).trans hE52).trans hE54).trans hE64).trans hE71).trans hE76) (by omega))⟩
        | true =>
         refine WL.paireql (p := b) (q := Nd.star) rfl rfl (by kernel_rfl) (by kernel_rfl) rfl rfl hc68 ?_
         refine pF ?_
         refine WL.dn ?_
         refine cT ?_
         refine WC.region ?_
         refine WL.call rfl rfl rfl Ty.ent54 (star_ok _) ?_
         rintro _ w70 ⟨rfl, hE69⟩
         have hzhE69 := hE69.size
         refine ⟨_, rfl, ?_⟩
         have h73 := ((h60.ext hE64).ext hE69)
         refine WL.store_box rfl rfl rfl h73 Ty.agg62 rfl rfl (fun w74 hB72 hR71 => ?_)
         have hzhB72 := hB72.size
         refine WL.dn ?_
         refine WC.seqk ?_
         have h75 := ((((((((((((((hts.ext hE5).ext hE11).ext hE17).ext hE22).ext hE28).bu hB31).ext hE36).ext hE42).ext hE48).ext hE52).ext hE54).ext hE64).ext hE69).bu hB72)
         obtain ⟨t76, ht76⟩ : ∃ t, T.subs[0]? = some t := ⟨_, List.getElem?_eq_getElem (by have h5 := Nd.right_five (Nd.nice_right hni) (beq_iff_eq.1 hc47); omega)⟩
         obtain ⟨eb76, eo76, el76, hea76, hD76, her76, hn76⟩ := h75.at ht76
         obtain ⟨a76, cap76, rfl, hts76, hlen76⟩ := hn76.op2
         subst hea76
         have h77 := (hB72.row ((h59.ext hE64).ext hE69) (by omega))
         have h78 := (((h58.ext hE64).ext hE69).bu hB72)
         have h79 := (hB72.row ((h61.ext hE64).ext hE69) (by omega))
         have h80 := (hB72.row ((h62.ext hE64).ext hE69) (by omega))
         have h81 := (((h63.ext hE64).ext hE69).bu hB72)
         refine WC.weaken (r' := [(2, pt b1 0), (3, pt b7 0), (4, pt b13 0), (5, pt b24 0), (19, .bool false), (21, .bool false), (30, .bool true), (51, .bool true)]) (s4 (s4 (subReg_nil _))) ?_
         refine WC.draw 8 [53, 54, 55, 56, 57, 58, 59, 60] [pc (pt b1 7), pc (.slice (some ⟨eb76, eo76, none⟩) T.subs.length cap), pc (pt eb76 (eo76 + 0 * 8)), pc (.agg (tcells t76 (.slice a76 t76.subs.length cap76)).toArray), pc (pt b7 0), pc (.int .i64 Nd.star.1), pc (pt b7 1), pc (.int .i64 Nd.star.2)] (by kernel_rfl) (by kernel_rfl) (k4 (k4 trivial)) rfl rfl rfl (sc4 ?_ ?_ ?_ ?_ (sc4 ?_ ?_ ?_ ?_ (StepsOn.nil _))) ?_
         ·intro σ β w1 hE1 hbi hk
          refine ⟨[], (agree_nil _), ?_⟩
          refine WL.fieldAddr rfl rfl Ty.fld30_4 rfl ?_
          exact dq hbi rfl
         ·intro σ β w1 hE1 hbi hk
          refine ⟨[(53, pt b1 7)], (ak hk 0 (agree_nil _)), ?_⟩
          refine WL.load_fld rfl rfl Ty.flat24 rfl (h77.ext hE1) rfl ?_
          exact dq hbi rfl
         ·intro σ β w1 hE1 hbi hk
          have hz1 := hE1.size
          refine ⟨[(54, .slice (some ⟨eb76, eo76, none⟩) T.subs.length cap)], (ak hk 1 (agree_nil _)), ?_⟩
          refine WL.indexAddr (i := 0) rfl rfl Ty.slice24 rfl rfl rfl (by have h5 := Nd.right_five (Nd.nice_right hni) (beq_iff_eq.1 hc47); omega) ?_
          exact dq hbi rfl
         ·intro σ β w1 hE1 hbi hk
          refine ⟨[(55, pt eb76 (eo76 + 0 * 8))], (ak hk 2 (agree_nil _)), ?_⟩
          refine WL.load_agg (l := tcells t76 (.slice a76 t76.subs.length cap76)) rfl rfl Ty.agg30 rfl (her76.ext hE1) ?_
          exact dq hbi rfl
         ·intro σ β w1 hE1 hbi hk
          refine ⟨[], (agree_nil _), ?_⟩
          refine WL.fieldAddr rfl rfl Ty.fld62_0 rfl ?_
          exact dq hbi rfl
         ·intro σ β w1 hE1 hbi hk
          refine ⟨[(57, pt b7 0)], (ak hk 4 (agree_nil _)), ?_⟩
          refine WL.load_fld rfl rfl Ty.flat3 rfl (hR71.ext hE1) rfl ?_
          exact dq hbi rfl
         ·intro σ β w1 hE1 hbi hk
          refine ⟨[], (agree_nil _), ?_⟩
          refine WL.fieldAddr rfl rfl Ty.fld62_1 rfl ?_
          exact dq hbi rfl
         ·intro σ β w1 hE1 hbi hk
          refine ⟨[(59, pt b7 1)], (ak hk 6 (agree_nil _)), ?_⟩
          refine WL.load_fld rfl rfl Ty.flat3 rfl (hR71.ext hE1) rfl ?_
          exact dq hbi rfl
         intro σ β w82 hE82 hbi82 hk
         have hz82 := hE82.size
         have hbi := hbi82
         refine WL.know [(56, .agg (tcells t76 (.slice a76 t76.subs.length cap76)).toArray), (58, .int .i64 Nd.star.1), (60, .int .i64 Nd.star.2)] (aj hk 3 (aj hk 5 (aj hk 7 (agree_nil _)))) ?_
         refine WL.call rfl rfl rfl Ty.ent17 (times_ok _ _ _ t76 Nd.star.1 Nd.star.2 (hn76.ext hE82)) ?_
         rintro _ w88 ⟨l86, rfl, hr86, hE87⟩
         have hzhE87 := hE87.size
         refine ⟨_, rfl, ?_⟩
         have hn86 := hr86.lt
         obtain ⟨a86, cap86, rfl, hts86, hlen86⟩ := hn86.op2
         have h91 := ((h79.ext hE82).ext hE87)
         refine WL.store_box rfl rfl rfl h91 Ty.agg30 rfl rfl (fun w92 hB90 hR89 => ?_)
         have hzhB90 := hB90.size
         refine WL.dn ?_
         refine WC.ret (fun a_ ha => ?_)
         refine ret_block ?_
         refine ret_then ?_
         exact bodyPost_cell (l := (tcells (Nd.times t76 Nd.star.1 Nd.star.2) (.slice a86 (Nd.times t76 Nd.star.1 Nd.star.2).subs.length cap86))) rfl ha rfl Ty.agg30 hR89 ⟨_, rfl, (by simp only [Nd.timesN, Nd.timesB, hc33, hc38, hc45, hc47, hc50, hc56, hc57, hc68, Nd.sub0_at ht76, cond_true, cond_false, Bool.not_true, Bool.not_false, Bool.or_true, Bool.true_or, Bool.or_false, Bool.false_or, Bool.and_true, Bool.true_and, Bool.and_false, Bool.false_and]; exact (hn86.bu hB90).dom (by intro k h1; (try dsimp only at h1); (repeat' first | (guard_hyp h1 : _ ∨ _; refine Or.elim h1 (fun h1 => ?_) (fun h1 => ?_)) | (guard_hyp h1 : _ ∧ _; have hx := h1.2; replace h1 := h1.1)) <;> first | contradiction | exact .inl h1 | exact .inr (by omega))), (hB90.onto (((hB72.onto ((((((((hB31.onto ((((hE5.trans hE11).trans hE17).trans hE22).trans hE28) (by omega)).trans hE36).trans hE42).trans hE48).trans hE52).trans hE54).trans hE64).trans hE69) (by omega)).trans hE82).trans hE87) (by omega))⟩
       | true =>
        have h58 := ((h51.ext hE52).ext hE54)
        have h59 := (((h46.ext hE48).ext hE52).ext hE54)
        have h60 := ((((h39.ext hE42).ext hE48).ext hE52).ext hE54)
        have h61 := ((((h40.ext hE42).ext hE48).ext hE52).ext hE54)
        have h62 := (((((hR30.ext hE36).ext hE42).ext hE48).ext hE52).ext hE54)
        have h63 := ((((h41.ext hE42).ext hE48).ext hE52).ext hE54)
        refine WC.weaken (r' := [(2, pt b1 0), (3, pt b7 0), (4, pt b13 0), (5, pt b24 0), (19, .bool false), (21, .bool false), (30, .bool true)]) (s4 (sr rfl (sr rfl (sr rfl (subReg_nil _))))) ?_
        refine WC.draw 7 [43, 44, 45, 46, 47, 48, 49] [pc (.agg #[.int .i64 b.1, .int .i64 b.2]), pc (.agg (tcells T (.slice a T.subs.length cap)).toArray), pc (.agg #[.int .i64 (Nd.bof T).1, .int .i64 (Nd.bof T).2]), pc (.bool true), pc (.bool true), pc (undef), pc (undef)] (by kernel_rfl) (by kernel_rfl) (k4 ⟨KW_pc _, KW_pc _, KW_pc _, trivial⟩) rfl rfl rfl (sc4 ?_ ?_ ?_ ?_ (sc ?_ (sc ?_ (sc ?_ (StepsOn.nil _))))) ?_
        ·intro σ β w1 hE1 hbi hk
         refine ⟨[], (agree_nil _), ?_⟩
         refine WL.load_box rfl rfl rfl (h60.ext hE1) Ty.agg62 ?_
         exact dq hbi rfl
        ·intro σ β w1 hE1 hbi hk
         refine ⟨[], (agree_nil _), ?_⟩
         refine WL.load_box rfl rfl rfl (h59.ext hE1) Ty.agg30 ?_
         exact dq hbi rfl
        ·intro σ β w1 hE1 hbi hk
         refine ⟨[(44, .agg (tcells T (.slice a T.subs.length cap)).toArray)], (ak hk 1 (agree_nil _)), ?_⟩
         refine WL.call rfl rfl rfl Ty.ent43 (bof_ok _ _ _ T (h58.ext hE1)) ?_
         rintro _ w86 ⟨rfl, hE85⟩
         refine ⟨_, rfl, ?_⟩
         exact dqE hbi hE85 rfl
        ·intro σ β w1 hE1 hbi hk
         refine ⟨[(43, .agg #[.int .i64 b.1, .int .i64 b.2]), (45, .agg #[.int .i64 (Nd.bof T).1, .int .i64 (Nd.bof T).2])], (ak hk 0 (ak hk 2 (agree_nil _))), ?_⟩
         refine WL.pairneq (p := b) (q := (Nd.bof T)) (b := true) rfl rfl (by kernel_rfl) (by kernel_rfl) rfl rfl hc57 ?_
         exact dq hbi rfl
        ·intro σ β w1 hE1 hbi hk
         refine ⟨[(46, .bool true)], (ak hk 3 (agree_nil _)), ?_⟩
         refine mv ?_
         exact dq hbi rfl
        ·intro σ β w1 hE1 hbi hk
         refine ⟨[(47, .bool true)], (ak hk 4 (agree_nil _)), ?_⟩
         refine ps ?_
         exact dq hbi rfl
        ·intro σ β w1 hE1 hbi hk
         refine ⟨[(47, .bool true)], (ak hk 4 (agree_nil _)), ?_⟩
         refine ps ?_
         exact dq hbi rfl
        intro σ β w64 hE64 hbi64 hk
        have hz64 := hE64.size
        have hbi := hbi64
        refine WL.know [(47, .bool true)] (aj hk 4 (agree_nil _)) ?_
        refine ps ?_
        refine pT ?_
        refine WL.dn ?_
        refine cT ?_
        refine WC.region ?_
        refine WL.call rfl rfl rfl Ty.ent54 (star_ok _) ?_
        rintro _ w67 ⟨rfl, hE66⟩
        have hzhE66 := hE66.size
        refine ⟨_, rfl, ?_⟩
        have h70 := ((h60.ext hE64).ext hE66)
        refine WL.store_box rfl rfl rfl h70 Ty.agg62 rfl rfl (fun w71 hB69 hR68 => ?_)
        have hzhB69 := hB69.size
        refine WL.dn ?_
        refine WC.seqk ?_
        have h72 := ((((((((((((((hts.ext hE5).ext hE11).ext hE17).ext hE22).ext hE28).bu hB31).ext hE36).ext hE42).ext hE48).ext hE52).ext hE54).ext hE64).ext hE66).bu hB69)
        obtain ⟨t73, ht73⟩ : ∃ t, T.subs[0]? = some t := ⟨_, List.getElem?_eq_getElem (by have h5 := Nd.right_five (Nd.nice_right hni) (beq_iff_eq.1 hc47); omega)⟩
        obtain ⟨eb73, eo73, el73, hea73, hD73, her73, hn73⟩ := h72.at ht73
        obtain ⟨a73, cap73, rfl, hts73, hlen73⟩ := hn73.op2
        subst hea73
        have h74 := (hB69.row ((h59.ext hE64).ext hE66) (by omega))
        have h75 := (((h58.ext hE64).ext hE66).bu hB69)
        have h76 := (hB69.row ((h61.ext hE64).ext hE66) (by omega))
        have h77 := (hB69.row ((h62.ext hE64).ext hE66) (by omega))
        have h78 := (((h63.ext hE64).ext hE66).bu hB69)
        refine WC.weaken (r' := [(2, pt b1 0), (3, pt b7 0), (4, pt b13 0), (5, pt b24 0), (19, .bool false), (21, .bool false), (30, .bool true), (51, .bool true)]) (s4 (s4 (subReg_nil _))) ?_
        refine WC.draw 8 [53, 54, 55, 56, 57, 58, 59, 60] [pc (pt b1 7), pc (.slice (some ⟨eb73, eo73, none⟩) T.subs.length cap), pc (pt eb73 (eo73 + 0 * 8)), pc (.agg (tcells t73 (.slice a73 t73.subs.length cap73)).toArray), pc (pt b7 0), pc (.int .i64 Nd.star.1), pc (pt b7 1), pc (.int .i64 Nd.star.2)] (by kernel_rfl) (by kernel_rfl) (k4 (k4 trivial)) rfl rfl rfl (sc4 ?_ ?_ ?_ ?_ (sc4 ?_ ?_ ?_ ?_ (StepsOn.nil _))) ?_
        ·intro σ β w1 hE1 hbi hk
         refine ⟨[], (agree_nil _), ?_⟩
         refine WL.fieldAddr rfl rfl Ty.fld30_4 rfl ?_
         exact dq hbi rfl
        ·intro σ β w1 hE1 hbi hk
         refine ⟨[(53, pt b1 7)], (ak hk 0 (agree_nil _)), ?_⟩
         refine WL.load_fld rfl rfl Ty.flat24 rfl (h74.ext hE1) rfl ?_
         exact dq hbi rfl
        ·intro σ β w1 hE1 hbi hk
         have hz1 := hE1.size
         refine ⟨[(54, .slice (some ⟨eb73, eo73, none⟩) T.subs.length cap)], (ak hk 1 (agree_nil _)), ?_⟩
         refine WL.indexAddr (i := 0) rfl rfl Ty.slice24 rfl rfl rfl (by have h5 := Nd.right_five (Nd.nice_right hni) (beq_iff_eq.1 hc47); omega) ?_
         exact dq hbi rfl
        ·intro σ β w1 hE1 hbi hk
         refine ⟨[(55, pt eb73 (eo73 + 0 * 8))], (ak hk 2 (agree_nil _)), ?_⟩
         refine WL.load_agg (l := tcells t73 (.slice a73 t73.subs.length cap73)) rfl rfl Ty.agg30 rfl (her73.ext hE1) ?_
         exact dq hbi rfl
        ·intro σ β w1 hE1 hbi hk
         refine ⟨[], (agree_nil _), ?_⟩
         refine WL.fieldAddr rfl rfl Ty.fld62_0 rfl ?_
         exact dq hbi rfl
        ·intro σ β w1 hE1 hbi hk
         refine ⟨[(57, pt b7 0)], (ak hk 4 (agree_nil _)), ?_⟩
         refine WL.load_fld rfl rfl Ty.flat3 rfl (hR68.ext hE1) rfl ?_
         exact dq hbi rfl
        ·intro σ β w1 hE1 hbi hk
         refine ⟨[], (agree_nil _), ?_⟩
         refine WL.fieldAddr rfl rfl Ty.fld62_1 rfl ?_
         exact dq hbi rfl
        ·intro σ β w1 hE1 hbi hk
         refine ⟨[(59, pt b7 1)], (ak hk 6 (agree_nil _)), ?_⟩
         refine WL.load_fld rfl rfl Ty.flat3 rfl (hR68.ext hE1) rfl ?_
         exact dq hbi rfl
        intro σ β w79 hE79 hbi79 hk
        have hz79 := hE79.size
        have hbi := hbi79
        refine WL.know [(56, .agg (tcells t73 (.slice a73 t73.subs.length cap73)).toArray), (58, .int .i64 Nd.star.1), (60, .int .i64 Nd.star.2)] (aj hk 3 (aj hk 5 (aj hk 7 (agree_nil _)))) ?_
        refine WL.call rfl rfl rfl Ty.ent17 (times_ok _ _ _ t73 Nd.star.1 Nd.star.2 (hn73.ext hE79)) ?_
        rintro _ w85 ⟨l83, rfl, hr83, hE84⟩
        have hzhE84 := hE84.size
        refine ⟨_, rfl, ?_⟩
        have hn83 := hr83.lt
        obtain ⟨a83, cap83, rfl, hts83, hlen83⟩ := hn83.op2
        have h88 := ((h76.ext hE79).ext hE84)
        refine WL.store_box rfl rfl rfl h88 Ty.agg30 rfl rfl (fun w89 hB87 hR86 => ?_)
        have hzhB87 := hB87.size
        refine WL.dn ?_
        refine WC.ret (fun a_ ha => ?_)
        refine ret_block ?_
        refine ret_then ?_
        exact bodyPost_cell (l := (tcells (Nd.times t73 Nd.star.1 Nd.star.2) (.slice a83 (Nd.times t73 Nd.star.1 Nd.star.2).subs.length cap83))) rfl ha rfl Ty.agg30 hR86 ⟨_, rfl, (by simp only [Nd.timesN, Nd.timesB, hc33, hc38, hc45, hc47, hc50, hc56, hc57, Nd.sub0_at ht73, cond_true, cond_false, Bool.not_true, Bool.not_false, Bool.or_true, Bool.true_or, Bool.or_false, Bool.false_or, Bool.and_true, Bool.true_and, Bool.and_false, Bool.false_and]; exact (hn83.bu hB87).dom (by intro k h1; (try dsimp only at h1); (repeat' first | (guard_hyp h1 : _ ∨ _; refine Or.elim h1 (fun h1 => ?_) (fun h1 => ?_)) | (guard_hyp h1 : _ ∧ _; have hx := h1.2; replace h1 := h1.1)) <;> first | contradiction | exact .inl h1 | exact .inr (by omega))), (hB87.onto (((hB69.onto ((((((((hB31.onto ((((hE5.trans hE11).trans hE17).trans hE22).trans hE28) (by omega)).trans hE36).trans hE42).trans hE48).trans hE52).trans hE54).trans hE64).trans hE66) (by omega)).trans hE79).trans hE84) (by omega))⟩
   | true =>
    refine WL.paireql (p := b) (q := Nd.opt) rfl rfl (by kernel_rfl) (by kernel_rfl) rfl rfl hc45 ?_
    refine mv ?_
    have h46 := ((h34.ext hE36).ext hE42)
    refine WL.load_box rfl rfl rfl h46 Ty.agg30 ?_
    have h47 := ((h35.ext hE36).ext hE42)
    refine WL.call rfl rfl rfl Ty.ent35 (nullable_ok T _ _ _ h47 hni) ?_
    rintro _ w49 ⟨rfl, hE48⟩
    have hzhE48 := hE48.size
    refine ⟨_, rfl, ?_⟩
    cases hc50 : Nd.nullable T with
    | false =>
     refine pT ?_
     refine asg ?_
     refine WL.dn ?_
     refine cF ?_
     refine WC.seqk ?_
     refine WC.weaken (r' := [(2, pt b1 0), (3, pt b7 0), (4, pt b13 0), (5, pt b24 0), (19, .bool false), (21, .bool false)]) (s4 (sr rfl (sr rfl (subReg_nil _)))) ?_
     refine WC.region ?_
     refine WL.fieldAddr rfl rfl Ty.fld30_0 rfl ?_
     refine WL.load_fld rfl rfl Ty.flat5 rfl (h46.ext hE48) rfl ?_
     cases hc51 : ((T.kind : Int) == 5) with
     | false =>
      refine WL.eql rfl rfl rfl rfl hc51 ?_
      have hp51 := beq_eq_false_iff_ne.1 hc51
      refine mv ?_
      refine ps ?_
      refine ps ?_
      refine pF ?_
      refine mv ?_
      refine ps ?_
      refine ps ?_
      refine ps ?_
      refine pF ?_
      refine asg ?_
      refine WL.dn ?_
      refine cF ?_
      refine WC.seqk ?_
      have h52 := ((h39.ext hE42).ext hE48)
      have h53 := ((h40.ext hE42).ext hE48)
      have h54 := (((hR30.ext hE36).ext hE42).ext hE48)
      have h55 := ((h41.ext hE42).ext hE48)
      refine WC.weaken (r' := [(2, pt b1 0), (3, pt b7 0), (4, pt b13 0), (5, pt b24 0), (19, .bool false), (21, .bool false), (30, .bool false)]) (s4 (sr rfl (sr rfl (sr rfl (subReg_nil _))))) ?_
      refine WC.draw 2 [63, 64] [pc (.agg #[.int .i64 b.1, .int .i64 b.2]), pc (.agg #[.int .i64 Nd.plus.1, .int .i64 Nd.plus.2])] (by kernel_rfl) (by kernel_rfl) ⟨KW_pc _, KW_pc _, trivial⟩ rfl rfl rfl (sc ?_ (sc ?_ (StepsOn.nil _))) ?_
      ·intro σ β w1 hE1 hbi hk
       refine ⟨[], (agree_nil _), ?_⟩
       refine WL.load_box rfl rfl rfl (h52.ext hE1) Ty.agg62 ?_
       exact dq hbi rfl
      ·intro σ β w1 hE1 hbi hk
       refine ⟨[], (agree_nil _), ?_⟩
       refine WL.call rfl rfl rfl Ty.ent55 (plus_ok _) ?_
       rintro _ w77 ⟨rfl, hE76⟩
       refine ⟨_, rfl, ?_⟩
       exact dqE hbi hE76 rfl
      intro σ β w56 hE56 hbi56 hk
      have hz56 := hE56.size
      have hbi := hbi56
      refine WL.know [(63, .agg #[.int .i64 b.1, .int .i64 b.2]), (64, .agg #[.int .i64 Nd.plus.1, .int .i64 Nd.plus.2])] (aj hk 0 (aj hk 1 (agree_nil _))) ?_
      cases hc59 : (b == Nd.plus) with
      | false =>
       refine WL.paireql (p := b) (q := Nd.plus) rfl rfl (by kernel_rfl) (by kernel_rfl) rfl rfl hc59 ?_
       refine mv ?_
       refine ps ?_
       refine ps ?_
       refine pF ?_
       refine asg ?_
       refine WL.dn ?_
       refine cF ?_
       refine WC.sk ?_
       refine WC.seqk ?_
       refine WC.weaken (r' := [(4, pt b13 0), (5, pt b24 0), (19, .bool false), (21, .bool false), (30, .bool false), (62, .bool false)]) (s4 (sr rfl (sr rfl (subReg_nil _)))) ?_
       refine WC.region ?_
       refine WL.load_box rfl rfl rfl (h54.ext hE56) Ty.agg30 ?_
       refine WL.store_box rfl rfl rfl (h53.ext hE56) Ty.agg30 rfl rfl (fun w62 hB61 hR60 => ?_)
       have hzhB61 := hB61.size
       refine WL.dn ?_
       refine WC.ret (fun a_ ha => ?_)
       have h63 := ((h55.ext hE56).bu hB61)
       exact bodyPost_cell (l := (tcells (Nd.times T b.1 b.2) (.slice a21 (Nd.times T b.1 b.2).subs.length cap21))) rfl ha rfl Ty.agg30 hR60 ⟨_, rfl, (by simp only [Nd.timesN, Nd.timesB, hc33, hc38, hc45, hc50, hc51, hc59, cond_true, cond_false, Bool.not_true, Bool.not_false, Bool.or_true, Bool.true_or, Bool.or_false, Bool.false_or, Bool.and_true, Bool.true_and, Bool.and_false, Bool.false_and]; exact h63.dom (by intro k h1; (try dsimp only at h1); (repeat' first | (guard_hyp h1 : _ ∨ _; refine Or.elim h1 (fun h1 => ?_) (fun h1 => ?_)) | (guard_hyp h1 : _ ∧ _; have hx := h1.2; replace h1 := h1.1)) <;> first | contradiction | exact .inl h1 | exact .inr (by omega))), (hB61.onto (((((hB31.onto ((((hE5.trans hE11).trans hE17).trans hE22).trans hE28) (by omega)).trans hE36).trans hE42).trans hE48).trans hE56) (by omega))⟩
      | true =>
       refine WL.paireql (p := b) (q := Nd.plus) rfl rfl (by kernel_rfl) (by kernel_rfl) rfl rfl hc59 ?_
       refine mv ?_
       have h60 := ((h46.ext hE48).ext hE56)
       refine WL.load_box rfl rfl rfl h60 Ty.agg30 ?_
       have h61 := ((h47.ext hE48).ext hE56)
       refine WL.call rfl rfl rfl Ty.ent35 (nullable_ok T _ _ _ h61 hni) ?_
       rintro _ w63 ⟨he, hE62⟩
       have hq : (Nd.nullable T) = false := hc50
       rw [hq] at he
       subst he
       clear hq
       have hzhE62 := hE62.size
       refine ⟨_, rfl, ?_⟩
       refine pT ?_
       refine asg ?_
       refine WL.dn ?_
       refine cF ?_
       refine WC.sk ?_
       refine WC.seqk ?_
       refine WC.weaken (r' := [(4, pt b13 0), (5, pt b24 0), (19, .bool false), (21, .bool false), (30, .bool false), (62, .bool false)]) (s4 (sr rfl (sr rfl (subReg_nil _)))) ?_
       refine WC.region ?_
       have h64 := ((h54.ext hE56).ext hE62)
       refine WL.load_box rfl rfl rfl h64 Ty.agg30 ?_
       have h67 := ((h53.ext hE56).ext hE62)
       refine WL.store_box rfl rfl rfl h67 Ty.agg30 rfl rfl (fun w68 hB66 hR65 => ?_)
       have hzhB66 := hB66.size
       refine WL.dn ?_
       refine WC.ret (fun a_ ha => ?_)
       have h69 := (((h55.ext hE56).ext hE62).bu hB66)
       exact bodyPost_cell (l := (tcells (Nd.times T b.1 b.2) (.slice a21 (Nd.times T b.1 b.2).subs.length cap21))) rfl ha rfl Ty.agg30 hR65 ⟨_, rfl, (by simp only [Nd.timesN, Nd.timesB, hc33, hc38, hc45, hc50, hc51, hc59, cond_true, cond_false, Bool.not_true, Bool.not_false, Bool.or_true, Bool.true_or, Bool.or_false, Bool.false_or, Bool.and_true, Bool.true_and, Bool.and_false, Bool.false_and]; exact h69.dom (by intro k h1; (try dsimp only at h1); (repeat' first | (guard_hyp h1 : _ ∨ _; refine Or.elim h1 (fun h1 => ?_) (fun h1 => ?_)) | (guard_hyp h1 : _ ∧ _; have hx := h1.2; replace h1 := h1.1)) <;> first | contradiction | exact .inl h1 | exact .inr (by omega))), (hB66.onto ((((((hB31.onto ((((hE5.trans hE11).trans hE17).trans hE22).trans hE28) (by omega)).trans hE36).trans hE42).trans hE48).trans hE56).trans hE62) (by omega))⟩
     | true =>
      refine WL.eql rfl rfl rfl rfl hc51 ?_
      have hp51 := beq_iff_eq.1 hc51
      refine mv ?_
      have h52 := ((h39.ext hE42).ext hE48)
      refine WL.load_box rfl rfl rfl h52 Ty.agg62 ?_
      refine WL.call rfl rfl rfl Ty.ent53 (simple_ok _ b) ?_
      rintro _ w54 ⟨rfl, hE53⟩
      have hzhE53 := hE53.size
      refine ⟨_, rfl, ?_⟩
      cases hc55 : Nd.simple b with
      | false =>
       refine pT ?_
       refine mv ?_
       refine ps ?_
       refine ps ?_
       refine ps ?_
       refine pF ?_
       refine asg ?_
       refine WL.dn ?_
       refine cF ?_
       refine WC.seqk ?_
       have h56 := ((h46.ext hE48).ext hE53)
       have h57 := ((h47.ext hE48).ext hE53)
       have h58 := (((h40.ext hE42).ext hE48).ext hE53)
       have h59 := ((((hR30.ext hE36).ext hE42).ext hE48).ext hE53)
       have h60 := (((h41.ext hE42).ext hE48).ext hE53)
       refine WC.weaken (r' := [(2, pt b1 0), (3, pt b7 0), (4, pt b13 0), (5, pt b24 0), (19, .bool false), (21, .bool false), (30, .bool false)]) (s4 (sr rfl (sr rfl (sr rfl (subReg_nil _))))) ?_
       refine WC.draw 2 [63, 64] [pc (.agg #[.int .i64 b.1, .int .i64 b.2]), pc (.agg #[.int .i64 Nd.plus.1, .int .i64 Nd.plus.2])] (by kernel_rfl) (by kernel_rfl) ⟨KW_pc _, KW_pc _, trivial⟩ rfl rfl rfl (sc ?_ (sc ?_ (StepsOn.nil _))) ?_
       ·intro σ β w1 hE1 hbi hk
        refine ⟨[], (agree_nil _), ?_⟩
        have h81 := ((h52.ext hE53).ext hE1)
        refine WL.load_box rfl rfl rfl h81 Ty.agg62 ?_
        exact dq hbi rfl
       ·intro σ β w1 hE1 hbi hk
        refine ⟨[], (agree_nil _), ?_⟩
        refine WL.call rfl rfl rfl Ty.ent55 (plus_ok _) ?_
        rintro _ w82 ⟨rfl, hE81⟩
        refine ⟨_, rfl, ?_⟩
        exact dqE hbi hE81 rfl
       intro σ β w61 hE61 hbi61 hk
       have hz61 := hE61.size
       have hbi := hbi61
       refine WL.know [(63, .agg #[.int .i64 b.1, .int .i64 b.2]), (64, .agg #[.int .i64 Nd.plus.1, .int .i64 Nd.plus.2])] (aj hk 0 (aj hk 1 (agree_nil _))) ?_
       cases hc64 : (b == Nd.plus) with
       | false =>
        refine WL.paireql (p := b) (q := Nd.plus) rfl rfl (by kernel_rfl) (by kernel_rfl) rfl rfl hc64 ?_
        refine mv ?_
        refine ps ?_
        refine ps ?_
        refine pF ?_
        refine asg ?_
        refine WL.dn ?_
        refine cF ?_
        refine WC.sk ?_
        refine WC.seqk ?_
        refine WC.weaken (r' := [(4, pt b13 0), (5, pt b24 0), (19, .bool false), (21, .bool false), (30, .bool false), (62, .bool false)]) (s4 (sr rfl (sr rfl (subReg_nil _)))) ?_
        refine WC.region ?_
        refine WL.load_box rfl rfl rfl (h59.ext hE61) Ty.agg30 ?_
        refine WL.store_box rfl rfl rfl (h58.ext hE61) Ty.agg30 rfl rfl (fun w67 hB66 hR65 => ?_)
        have hzhB66 := hB66.size
        refine WL.dn ?_
        refine WC.ret (fun a_ ha => ?_)
        have h68 := ((h60.ext hE61).bu hB66)
        exact bodyPost_cell (l := (tcells (Nd.times T b.1 b.2) (.slice a21 (Nd.times T b.1 b.2).subs.length cap21))) rfl ha rfl Ty.agg30 hR65 ⟨_, rfl, (by simp only [Nd.timesN, Nd.timesB, hc33, hc38, hc45, hc50, hc51, hc55, hc64, cond_true, cond_false, Bool.not_true, Bool.not_false, Bool.or_true, Bool.true_or, Bool.or_false, Bool.false_or, Bool.and_true, Bool.true_and, Bool.and_false, Bool.false_and]; exact h68.dom (by intro k h1; (try dsimp only at h1); (repeat' first | (guard_hyp h1 : _ ∨ _; refine Or.elim h1 (fun h1 => ?_) (fun h1 => ?_)) | (guard_hyp h1 : _ ∧ _; have hx := h1.2; replace h1 := h1.1)) <;> first | contradiction | exact .inl h1 | exact .inr (by omega))), (hB66.onto ((((((hB31.onto ((((hE5.trans hE11).trans hE17).trans hE22).trans hE28) (by omega)).trans hE36).trans hE42).trans hE48).trans hE53).trans hE61) (by omega))⟩
       | true =>
        refine WL.paireql (p := b) (q := Nd.plus) rfl rfl (by kernel_rfl) (by kernel_rfl) rfl rfl hc64 ?_
        refine mv ?_
        refine WL.load_box rfl rfl rfl (h56.ext hE61) Ty.agg30 ?_
        refine WL.call rfl rfl rfl Ty.ent35 (nullable_ok T _ _ _ (h57.ext hE61) hni) ?_
        rintro _ w66 ⟨he, hE65⟩
        have hq : (Nd.nullable T) = false := hc50
        rw [hq] at he
        subst he
        clear hq
        have hzhE65 := hE65.size
        refine ⟨_, rfl, ?_⟩
        refine pT ?_
        refine asg ?_
        refine WL.dn ?_
        refine cF ?_
        refine WC.sk ?_
        refine WC.seqk ?_
        refine WC.weaken (r' := [(4, pt b13 0), (5, pt b24 0), (19, .bool false), (21, .bool false), (30, .bool false), (62, .bool false)]) (s4 (sr rfl (sr rfl (subReg_nil _)))) ?_
        refine WC.region ?_
        have h67 := ((h59.ext hE61).ext hE65)
        refine WL.load_box rfl rfl rfl h67 Ty.agg30 ?_
        have h70 := ((h58.ext hE61).ext hE65)
        refine WL.store_box rfl rfl rfl h70 Ty.agg30 rfl rfl (fun w71 hB69 hR68 => ?_)
        have hzhB69 := hB69.size
        refine WL.dn ?_
        refine WC.ret (fun a_ ha => ?_)
        have h72 := (((h60.ext hE61).ext hE65).bu hB69)
        exact bodyPost_cell (l := (tcells (Nd.times T b.1 b.2) (.slice a21 (Nd.times T b.1 b.2).subs.length cap21))) rfl ha rfl Ty.agg30 hR68 ⟨_, rfl, (by simp only [Nd.timesN, Nd.timesB, hc33, hc38, hc45, hc50, hc51, hc55, hc64, cond_true, cond_false, Bool.not_true, Bool.not_false, Bool.or_true, Bool.true_or, Bool.or_false, Bool.false_or, Bool.and_true, Bool.true_and, Bool.and_false, Bool.false_and]; exact h72.dom (by intro k h1; (try dsimp only at h1); (repeat' first | (guard_hyp h1 : _ ∨ _; refine Or.elim h1 (fun h1 => ?_) (fun h1 => ?_)) | (guard_hyp h1 : _ ∧ _; have hx := h1.2; replace h1 := h1.1)) <;> first | contradiction | exact .inl h1 | exact .inr (by omega))), (hB69.onto (((((((hB31.onto ((((hE5.trans hE11).trans hE17).trans hE22).trans hE28) (by omega)).trans hE36).trans hE42).trans hE48).trans hE53).trans hE61).trans hE65) (by omega))⟩
      | true =>
       refine pT ?_
       refine mv ?_
       have h56 := ((h46.ext hE48).ext hE53)
       refine WL.load_box rfl rfl rfl h56 Ty.agg30 ?_
       have h57 := ((h47.ext hE48).ext hE53)
       refine WL.call rfl rfl rfl Ty.ent43 (bof_ok _ _ _ T h57) ?_
       rintro _ w59 ⟨rfl, hE58⟩
       have hzhE58 := hE58.size
       refine ⟨_, rfl, ?_⟩
       refine WL.call rfl rfl rfl Ty.ent53 (simple_ok _ (Nd.bof T)) ?_
       rintro _ w61 ⟨rfl, hE60⟩
       have hzhE60 := hE60.size
       refine ⟨_, rfl, ?_⟩
       cases hc62 : Nd.simple (Nd.bof T) with
       | false =>
        refine pT ?_
        refine asg ?_
        refine WL.dn ?_
        refine cF ?_
        refine WC.seqk ?_
        have h63 := ((h57.ext hE58).ext hE60)
        have h64 := ((h56.ext hE58).ext hE60)
        have h65 := (((h52.ext hE53).ext hE58).ext hE60)
        have h66 := (((((h40.ext hE42).ext hE48).ext hE53).ext hE58).ext hE60)
        have h67 := ((((((hR30.ext hE36).ext hE42).ext hE48).ext hE53).ext hE58).ext hE60)
        have h68 := (((((h41.ext hE42).ext hE48).ext hE53).ext hE58).ext hE60)
        refine WC.weaken (r' := [(2, pt b1 0), (3, pt b7 0), (4, pt b13 0), (5, pt b24 0), (19, .bool false), (21, .bool false), (30, .bool false)]) (s4 (sr rfl (sr rfl (sr rfl (subReg_nil _))))) ?_
        refine WC.draw 2 [63, 64] [pc (.agg #[.int .i64 b.1, .int .i64 b.2]), pc (.agg #[.int .i64 Nd.plus.1, .int .i64 Nd.plus.2])] (by kernel_rfl) (by kernel_rfl) ⟨KW_pc _, KW_pc _, trivial⟩ rfl rfl rfl (sc ?_ (sc ?_ (StepsOn.nil _))) ?_
        ·intro σ β w1 hE1 hbi hk
         refine ⟨[], (agree_nil _), ?_⟩
         refine WL.load_box rfl rfl rfl (h65.ext hE1) Ty.agg62 ?_
         exact dq hbi rfl
        ·intro σ β w1 hE1 hbi hk
         refine ⟨[], (agree_nil _), ?_⟩
         refine WL.call rfl rfl rfl Ty.ent55 (plus_ok _) ?_
         rintro _ w90 ⟨rfl, hE89⟩
         refine ⟨_, rfl, ?_⟩
         exact dqE hbi hE89 rfl
        intro σ β w69 hE69 hbi69 hk
        have hz69 := hE69.size
        have hbi := hbi69
        refine WL.know [(63, .agg #[.int .i64 b.1, .int .i64 b.2]), (64, .agg #[.int .i64 Nd.plus.1, .int .i64 Nd.plus.2])] (aj hk 0 (aj hk 1 (agree_nil _))) ?_
        cases hc72 : (b == Nd.plus) with
        | false =>
         refine WL.paireql (p := b) (q := Nd.plus) rfl rfl (by kernel_rfl) (by kernel_rfl) rfl rfl hc72 ?_
         refine mv ?_
         refine ps ?_
         refine ps ?_
         refine pF ?_
         refine asg ?_
         refine WL.dn ?_
         refine cF ?_
         refine WC.sk ?_
         refine WC.seqk ?_
         refine WC.weaken (r' := [(4, pt b13 0), (5, pt b24 0), (19, .bool false), (21, .bool false), (30, .bool false), (62, .bool false)]) (s4 (sr rfl (sr rfl (subReg_nil _)))) ?_
         refine WC.region ?_
         refine WL.load_box rfl rfl rfl (h67.ext hE69) Ty.agg30 ?_
         refine WL.store_box rfl rfl rfl (h66.ext hE69) Ty.agg30 rfl rfl (fun w75 hB74 hR73 => ?_)
         have hzhB74 := hB74.size
         refine WL.dn ?_
         refine WC.ret (fun a_ ha => ?_)
         have h76 := ((h68.ext hE69).bu hB74)
         exact bodyPost_cell (l := (tcells (Nd.times T b.1 b.2) (.slice a21 (Nd.times T b.1 b.2).subs.length cap21))) rfl ha rfl Ty.agg30 hR73 ⟨_, rfl, (by simp only [Nd.timesN, Nd.timesB, hc33, hc38, hc45, hc50, hc51, hc55, hc62, hc72, cond_true, cond_false, Bool.not_true, Bool.not_false, Bool.or_true, Bool.true_or, Bool.or_false, Bool.false_or, Bool.and_true, Bool.true_and, Bool.and_false, Bool.false_and]; exact h76.dom (by intro k h1; (try dsimp only at h1); (repeat' first | (guard_hyp h1 : _ ∨ _; refine Or.elim h1 (fun h1 => ?_) (fun h1 => ?_)) | (guard_hyp h1 : _ ∧ _; have hx := h1.2; replace h1 := h1.1)) <;> first | contradiction | exact .inl h1 | exact .inr (by omega))), (hB74.onto ((((((((hB31.onto ((((hE5.trans hE11).trans hE17).trans hE22).trans hE28) (by omega)).trans hE36).trans hE42).trans hE48).trans hE53).trans hE58).trans hE60).trans hE69) (by omega))⟩
        | true =>
         refine WL.paireql (p := b) (q := Nd.plus) rfl rfl (by kernel_rfl) (by kernel_rfl) rfl rfl hc72 ?_
         refine mv ?_
         refine WL.load_box rfl rfl rfl (h64.ext hE69) Ty.agg30 ?_
         refine WL.call rfl rfl rfl Ty.ent35 (nullable_ok T _ _ _ (h63.ext hE69) hni) ?_
         rintro _ w74 ⟨he, hE73⟩
         have hq : (Nd.nullable T) = false := hc50
         rw [hq] at he
         subst he
         clear hq
         have hzhE73 := hE73.size
         refine ⟨_, rfl, ?_⟩
         refine pT ?_
         refine asg ?_
         refine WL.dn ?_
         refine cF ?_
         refine WC.sk ?_
         refine WC.seqk ?_
         refine WC.weaken (r' := [(4, pt b13 0), (5, pt b24 0), (19, .bool false), (21, .bool false), (30, .bool false), (62, .bool false)]) (s4 (sr rfl (sr rfl (subReg_nil _)))) ?_
         refine WC.region ?_
         have h75 := ((h67.ext hE69).ext hE73)
         refine WL.load_box rfl rfl rfl h75 Ty.agg30 ?_
         have h78 := ((h66.ext hE69).ext hE73)
         refine WL.store_box rfl rfl rfl h78 Ty.agg30 rfl rfl (fun w79 hB77 hR76 => ?_)
         have hzhB77 := hB77.size
         refine WL.dn ?_
         refine WC.ret (fun a_ ha => ?_)
         have h80 := (((h68.ext hE69).ext hE73).bu hB77)
         exact bodyPost_cell (l := (tcells (Nd.times T b.1 b.2) (.slice a21 (Nd.times T b.1 b.2).subs.length cap21))) rfl ha rfl Ty.agg30 hR76 ⟨_, rfl, (by simp only [Nd.timesN, Nd.timesB, hc33, hc38, hc45, hc50, hc51, hc55, hc62, hc72, cond_true, cond_false, Bool.not_true, Bool.not_false, Bool.or_true, Bool.true_or, Bool.or_false, Bool.false_or, Bool.and_true, Bool.true_and, Bool.and_false, Bool.false_and]; exact h80.dom (by intro k h1; (try dsimp only at h1); (repeat' first | (guard_hyp h1 : _ ∨ _; refine Or.elim h1 (fun h1 => ?_) (fun h1 => ?_)) | (guard_hyp h1 : _ ∧ _; have hx := h1.2; replace h1 := h1.1)) <;> first | contradiction | exact .inl h1 | exact .inr (by omega))), (hB77.onto (((((((((hB31.onto ((((hE5.trans hE11).trans hE17).trans hE22).trans hE28) (by omega)).trans hE36).trans hE42).trans hE48).trans hE53).trans hE58).trans hE60).trans hE69).trans hE73) (by omega))⟩
       | true =>
        refine pT ?_
        refine asg ?_
        refine WL.dn ?_
        refine cT ?_
        refine WC.seqk ?_
        refine WC.seqk ?_
        cases hc63 : (b != (Nd.bof T)) with
        | false =>
         have h64 := ((h57.ext hE58).ext hE60)
         have h65 := ((h56.ext hE58).ext hE60)
         have h66 := (((h52.ext hE53).ext hE58).ext hE60)
         have h67 := (((((h40.ext hE42).ext hE48).ext hE53).ext hE58).ext hE60)
         have h68 := ((((((hR30.ext hE36).ext hE42).ext hE48).ext hE53).ext hE58).ext hE60)
         have h69 := (((((h41.ext hE42).ext hE48).ext hE53).ext hE58).ext hE60)
         refine WC.weaken (r' := [(2, pt b1 0), (3, pt b7 0), (4, pt b13 0), (5, pt b24 0), (19, .bool false), (21, .bool false), (30, .bool true)]) (s4 (sr rfl (sr rfl (sr rfl (subReg_nil _))))) ?_
         refine WC.draw 7 [43, 44, 45, 46, 47, 48, 49] [pc (.agg #[.int .i64 b.1, .int .i64 b.2]), pc (.agg (tcells T (.slice a T.subs.length cap)).toArray), pc (.agg #[.int .i64 (Nd.bof T).1, .int .i64 (Nd.bof T).2]), pc (.bool false), pc (.bool false), pc (.agg #[.int .i64 b.1, .int .i64 b.2]), pc (.agg #[.int .i64 Nd.star.1, .int .i64 Nd.star.2])] (by kernel_rfl) (by kernel_rfl) (k4 ⟨KW_pc _, KW_pc _, KW_pc _, trivial⟩) rfl rfl rfl (sc4 ?_ ?_ ?_ ?_ (sc ?_ (sc ?_ (sc ?_ (StepsOn.nil _))))) ?_
         ·intro σ β w1 hE1 hbi hk
          refine ⟨[], (agree_nil _), ?_⟩
          refine WL.load_box rfl rfl rfl (h66.ext hE1) Ty.agg62 ?_
          exact dq hbi rfl
         ·intro σ β w1 hE1 hbi hk
          refine ⟨[], (agree_nil _), ?_⟩
          refine WL.load_box rfl rfl rfl (h65.ext hE1) Ty.agg30 ?_
          exact dq hbi rfl
         ·intro σ β w1 hE1 hbi hk
          refine ⟨[(44, .agg (tcells T (.slice a T.subs.length cap)).toArray)], (ak hk 1 (agree_nil _)), ?_⟩
          refine WL.call rfl rfl rfl Ty.ent43 (bof_ok _ _ _ T (h64.ext hE1)) ?_
          rintro _ w92 ⟨rfl, hE91⟩
          refine ⟨_, rfl, ?_⟩
          exact dqE hbi hE91 rfl
         ·intro σ β w1 hE1 hbi hk
          refine ⟨[(43, .agg #[.int .i64 b.1, .int .i64 b.2]), (45, .agg #[.int .i64 (Nd.bof T).1, .int .i64 (Nd.bof T).2])], (ak hk 0 (ak hk 2 (agree_nil _))), ?_⟩
          refine WL.pairneq (p := b) (q := (Nd.bof T)) (b := false) rfl rfl (by kernel_rfl) (by kernel_rfl) rfl rfl hc63 ?_
          exact dq hbi rfl
         ·intro σ β w1 hE1 hbi hk
          refine ⟨[(46, .bool false)], (ak hk 3 (agree_nil _)), ?_⟩
          refine mv ?_
          exact dq hbi rfl
         ·intro σ β w1 hE1 hbi hk
          refine ⟨[(47, .bool false)], (ak hk 4 (agree_nil _)), ?_⟩
          refine WL.load_box rfl rfl rfl (h66.ext hE1) Ty.agg62 ?_
          exact dq hbi rfl
         ·intro σ β w1 hE1 hbi hk
          refine ⟨[(47, .bool false)], (ak hk 4 (agree_nil _)), ?_⟩
          refine WL.call rfl rfl rfl Ty.ent54 (star_ok _) ?_
          rintro _ w92 ⟨rfl, hE91⟩
          refine ⟨_, rfl, ?_⟩
          exact dqE hbi hE91 rfl
         intro σ β w70 hE70 hbi70 hk
         have hz70 := hE70.size
         have hbi := hbi70
         refine WL.know [(47, .bool false), (48, .agg #[.int .i64 b.1, .int .i64 b.2]), (49, .agg #[.int .i64 Nd.star.1, .int .i64 Nd.star.2])] (aj hk 4 (aj hk 5 (aj hk 6 (agree_nil _)))) ?_
         cases hc74 : (b == Nd.star) with
         | false =>
          refine WL.paireql (p := b) (q := Nd.star) rfl rfl (by kernel_rfl) (by kernel_rfl) rfl rfl hc74 ?_
          refine pF ?_
          refine WL.dn ?_
          refine cF ?_
          refine WC.sk ?_
          refine WC.seqk ?_
          have h75 := (((((((((((((hts.ext hE5).ext hE11).ext hE17).ext hE22).ext hE28).bu hB31).ext hE36).ext hE42).ext hE48).ext hE53).ext hE58).ext hE60).ext hE70)
          obtain ⟨t76, ht76⟩ : ∃ t, T.subs[0]? = some t := ⟨_, List.getElem?_eq_getElem (by have h5 := Nd.right_five (Nd.nice_right hni) (beq_iff_eq.1 hc51); omega)⟩
          obtain ⟨eb76, eo76, el76, hea76, hD76, her76, hn76⟩ := h75.at ht76
          obtain ⟨a76, cap76, rfl, hts76, hlen76⟩ := hn76.op2
          subst hea76
          refine WC.weaken (r' := [(2, pt b1 0), (3, pt b7 0), (4, pt b13 0), (5, pt b24 0), (19, .bool false), (21, .bool false), (30, .bool true), (51, .bool false)]) (s4 (s4 (subReg_nil _))) ?_
          refine WC.draw 8 [53, 54, 55, 56, 57, 58, 59, 60] [pc (pt b1 7), pc (.slice (some ⟨eb76, eo76, none⟩) T.subs.length cap), pc (pt eb76 (eo76 + 0 * 8)), pc (.agg (tcells t76 (.slice a76 t76.subs.length cap76)).toArray), pc (pt b7 0), pc (.int .i64 b.1), pc (pt b7 1), pc (.int .i64 b.2)] (by kernel_rfl) (by kernel_rfl) (k4 (k4 trivial)) rfl rfl rfl (sc4 ?_ ?_ ?_ ?_ (sc4 ?_ ?_ ?_ ?_ (StepsOn.nil _))) ?_
          ·intro σ β w1 hE1 hbi hk
           refine ⟨[], (agree_nil _), ?_⟩
           refine WL.fieldAddr rfl rfl Ty.fld30_4 rfl ?_
           exact dq hbi rfl
          ·intro σ β w1 hE1 hbi hk
           refine ⟨[(53, pt b1 7)], (ak hk 0 (agree_nil _)), ?_⟩
           have h98 := ((h65.ext hE70).ext hE1)
           refine WL.load_fld rfl rfl Ty.flat24 rfl h98 rfl ?_
           exact dq hbi rfl
          ·intro σ β w1 hE1 hbi hk
           have hz1 := hE1.size
           refine ⟨[(54, .slice (some ⟨eb76, eo76, none⟩) T.subs.length cap)], (ak hk 1 (agree_nil _)), ?_⟩
           refine WL.indexAddr (i := 0) rfl rfl Ty.slice24 rfl rfl rfl (by have h5 := Nd.right_five (Nd.nice_right hni) (beq_iff_eq.1 hc51); omega) ?_
           exact dq hbi rfl
          ·intro σ β w1 hE1 hbi hk
           refine ⟨[(55, pt eb76 (eo76 + 0 * 8))], (ak hk 2 (agree_nil _)), ?_⟩
           refine WL.load_agg (l := tcells t76 (.slice a76 t76.subs.length cap76)) rfl rfl Ty.agg30 rfl (her76.ext hE1) ?_
           exact dq hbi rfl
          ·intro σ β w1 hE1 hbi hk
           refine ⟨[], (agree_nil _), ?_⟩
           refine WL.fieldAddr rfl rfl Ty.fld62_0 rfl ?_
           exact dq hbi rfl
          ·intro σ β w1 hE1 hbi hk
           refine ⟨[(57, pt b7 0)], (ak hk 4 (agree_nil _)), ?_⟩
           have h98 := ((h66.ext hE70).ext hE1)
           refine WL.load_fld rfl rfl Ty.flat3 rfl h98 rfl ?_
           exact dq hbi rfl
          ·intro σ β w1 hE1 hbi hk
           refine ⟨[], (agree_nil _), ?_⟩
           refine WL.fieldAddr rfl rfl Ty.fld62_1 rfl ?_
           exact dq hbi rfl
          ·intro σ β w1 hE1 hbi hk
           refine ⟨[(59, pt b7 1)], (ak hk 6 (agree_nil _)), ?_⟩
           have h98 := ((h66.ext hE70).ext hE1)
           refine WL.load_fld rfl rfl Ty.flat3 rfl h98 rfl ?_
           exact dq hbi rfl
          intro σ β w77 hE77 hbi77 hk
          have hz77 := hE77.size
          have hbi := hbi77
          refine WL.know [(56, .agg (tcells t76 (.slice a76 t76.subs.length cap76)).toArray), (58, .int .i64 b.1), (60, .int .i64 b.2)] (aj hk 3 (aj hk 5 (aj hk 7 (agree_nil _)))) ?_
          refine WL.call rfl rfl rfl Ty.ent17 (times_ok _ _ _ t76 b.1 b.2 (hn76.ext hE77)) ?_
          rintro _ w83 ⟨l81, rfl, hr81, hE82⟩
          have hzhE82 := hE82.size
          refine ⟨_, rfl, ?_⟩
          have hn81 := hr81.lt
          obtain ⟨a81, cap81, rfl, hts81, hlen81⟩ := hn81.op2
          have h86 := (((h67.ext hE70).ext hE77).ext hE82)
          refine WL.store_box rfl rfl rfl h86 Ty.agg30 rfl rfl (fun w87 hB85 hR84 => ?_)
          have hzhB85 := hB85.size
          refine WL.dn ?_
          refine WC.ret (fun a_ ha => ?_)
          refine ret_block ?_
          refine ret_then ?_
          exact bodyPost_cell (l := (tcells (Nd.times t76 b.1 b.2) (.slice a81 (Nd.times t76 b.1 b.2).subs.length cap81))) rfl ha rfl Ty.agg30 hR84 ⟨_, rfl, (by simp only [Nd.timesN, Nd.timesB, hc33, hc38, hc45, hc50, hc51, hc55, hc62, hc63, hc74, Nd.sub0_at ht76, cond_true, cond_false, Bool.not_true, Bool.not_false, Bool.or_true, Bool.true_or, Bool.or_false, Bool.false_or, Bool.and_true, Bool.true_and, Bool.and_false, Bool.false_and]; exact (hn81.bu hB85).dom (by intro k h1; (try dsimp only at h1); (repeat' first | (guard_hyp h1 : _ ∨ _; refine Or.elim h1 (fun h1 => ?_) (fun h1 => ?_)) | (guard_hyp h1 : _ ∧ _; have hx := h1.2; replace h1 := h1.1)) <;> first | contradiction | exact .inl h1 | exact .inr (by omega))), (hB85.onto ((((((((((hB31.onto ((((hE5.trans hE11).trans hE17).trans hE22).trans hE28) (by omega)).trans hE36).trans hE42).trans hE48).trans hE53).trans hE58).trans hE60).trans hE70).trans hE77).trans hE82) (by omega))⟩
         | true =>
          refine WL.paireql (p := b) (q := Nd.star) rfl rfl (by kernel_rfl) (by kernel_rfl) rfl rfl hc74 ?_
          refine pF ?_
          refine WL.dn ?_
          refine cT ?_
          refine WC.region ?_
          refine WL.call rfl rfl rfl Ty.ent54 (star_ok _) ?_
          rintro _ w76 ⟨rfl, hE75⟩
          have hzhE75 := hE75.size
          refine ⟨_, rfl, ?_⟩
          have h79 := ((h66.ext hE70).ext hE75)
          refine WL.store_box rfl rfl rfl h79 Ty.agg62 rfl rfl (fun w80 hB78 hR77 => ?_)
          have hzhB78 := hB78.size
          refine WL.dn ?_
          refine WC.seqk ?_
          have h81 := (((((((((((((((hts.ext hE5).ext hE11).ext hE17).ext hE22).ext hE28).bu hB31).ext hE36).ext hE42).ext hE48).ext hE53).ext hE58).ext hE60).ext hE70).ext hE75).bu hB78)
          obtain ⟨t82, ht82⟩ : ∃ t, T.subs[0]? = some t := ⟨_, List.getElem?_eq_getElem (by have h5 := Nd.right_five (Nd.nice_right hni) (beq_iff_eq.1 hc51); omega)⟩
          obtain ⟨eb82, eo82, el82, hea82, hD82, her82, hn82⟩ := h81.at ht82
          obtain ⟨a82, cap82, rfl, hts82, hlen82⟩ := hn82.op2
          subst hea82
          have h83 := (hB78.row ((h65.ext hE70).ext hE75) (by omega))
          have h84 := (((h64.ext hE70).ext hE75).bu hB78)
          have h85 := (hB78.row ((h67.ext hE70).ext hE75) (by omega))
          have h86 := (hB78.row ((h68.ext hE70).ext hE75) (by omega))
          have h87 := (((h69.ext hE70).ext hE75).bu hB78)
          refine WC.weaken (r' := [(2, pt b1 0), (3, pt b7 0), (4, pt b13 0), (5, pt b24 0), (19, .bool false), (21, .bool false), (30, .bool true), (51, .bool true)]) (s4 (s4 (subReg_nil _))) ?_
          refine WC.draw 8 [53, 54, 55, 56, 57, 58, 59, 60] [pc (pt b1 7), pc (.slice (some ⟨eb82, eo82, none⟩) T.subs.length cap), pc (pt eb82 (eo82 + 0 * 8)), pc (.agg (tcells t82 (.slice a82 t82.subs.length cap82)).toArray), pc (pt b7 0), pc (.int .i64 Nd.star.1), pc (pt b7 1), pc (.int .i64 Nd.star.2)] (by kernel_rfl) (by kernel_rfl) (k4 (k4 trivial)) rfl rfl rfl (sc4 ?_ ?_ ?_ ?_ (sc4 ?_ ?_ ?_ ?_ (StepsOn.nil _))) ?_
          ·intro σ β w1 hE1 hbi hk
           refine ⟨[], (agree_nil _), ?_⟩
           refine WL.fieldAddr rfl rfl Ty.fld30_4 rfl ?_
           exact dq hbi rfl
          ·intro σ β w1 hE1 hbi hk
           refine ⟨[(53, pt b1 7)], (ak hk 0 (agree_nil _)), ?_⟩
           refine WL.load_fld rfl rfl Ty.flat24 rfl (h83.ext hE1) rfl ?_
           exact dq hbi rfl
          ·intro σ β w1 hE1 hbi hk
           have hz1 := hE1.size
           refine ⟨[(54, .slice (some ⟨eb82, eo82, none⟩) T.subs.length cap)], (ak hk 1 (agree_nil _)), ?_⟩
           refine WL.indexAddr (i := 0) rfl rfl Ty.slice24 rfl rfl rfl (by have h5 := Nd.right_five (Nd.nice_right hni) (beq_iff_eq.1 hc51); omega) ?_
           exact dq hbi rfl
          ·intro σ β w1 hE1 hbi hk
           refine ⟨[(55, pt eb82 (eo82 + 0 * 8))], (ak hk 2 (agree_nil _)), ?_⟩
           refine WL.load_agg (l := tcells t82 (.slice a82 t82.subs.length cap82)) rfl rfl Ty.agg30 rfl (her82.ext hE1) ?_
           exact dq hbi rfl
          ·intro σ β w1 hE1 hbi hk
           refine ⟨[], (agree_nil _), ?_⟩
           refine WL.fieldAddr rfl rfl Ty.fld62_0 rfl ?_
           exact dq hbi rfl
          ·intro σ β w1 hE1 hbi hk
           refine ⟨[(57, pt b7 0)], (ak hk 4 (agree_nil _)), ?_⟩
           refine WL.load_fld rfl rfl Ty.flat3 rfl (hR77.ext hE1) rfl ?_
           exact dq hbi rfl
          ·intro σ β w1 hE1 hbi hk
           refine ⟨[], (agree_nil _), ?_⟩
           refine WL.fieldAddr rfl rfl Ty.fld62_1 rfl ?_
           exact dq hbi rfl
          ·intro σ β w1 hE1 hbi hk
           refine ⟨[(59, pt b7 1)], (ak hk 6 (agree_nil _)), ?_⟩
           refine WL.load_fld rfl rfl Ty.flat3 rfl (hR77.ext hE1) rfl ?_
           exact dq hbi rfl
          intro σ β w88 hE88 hbi88 hk
          have hz88 := hE88.size
          have hbi := hbi88
          refine WL.know [(56, .agg (tcells t82 (.slice a82 t82.subs.length cap82)).toArray), (58, .int .i64 Nd.star.1), (60, .int .i64 Nd.star.2)] (aj hk 3 (aj hk 5 (aj hk 7 (agree_nil _)))) ?_
          refine WL.call rfl rfl rfl Ty.ent17 (times_ok _ _ _ t82 Nd.star.1 Nd.star.2 (hn82.ext hE88)) ?_
          rintro _ w94 ⟨l92, rfl, hr92, hE93⟩
          have hzhE93 := hE93.size
          refine ⟨_, rfl, ?_⟩
          have hn92 := hr92.lt
          obtain ⟨a92, cap92, rfl, hts92, hlen92⟩ := hn92.op2
          have h97 := ((h85.ext hE88).ext hE93)
          refine WL.store_box rfl rfl rfl h97 Ty.agg30 rfl rfl (fun w98 hB96 hR95 => ?_)
          have hzhB96 := hB96.size
          refine WL.dn ?_
          refine WC.ret (fun a_ ha => ?_)
          refine ret_block ?_
          refine ret_then ?_
          exact bodyPost_cell (l := (tcells (Nd.times t82 Nd.star.1 Nd.star.2) (.slice a92 (Nd.times t82 Nd.star.1 Nd.star.2).subs.length cap92))) rfl ha rfl Ty.agg30 hR95 ⟨_, rfl, (by simp only [Nd.timesN, Nd.timesB, hc33, hc38, hc45, hc50, hc51, hc55, hc62, hc63, hc74, Nd.sub0_at ht82, cond_true, cond_false, Bool.not_true, Bool.not_false, Bool.or_true, Bool.true_or, Bool.or_false, Bool.false_or, Bool.and_true, Bool.true_and, Bool.and_false, Bool.false_and]; exact (hn92.bu hB96).dom (by intro k h1; (try dsimp only at h1); (repeat' first | (guard_hyp h1 : _ ∨ _; refine Or.elim h1 (fun h1 => ?_) (fun h1 => ?_)) | (guard_hyp h1 : _ ∧ _; have hx := h1.2; replace h1 := h1.1)) <;> first | contradiction | exact .inl h1 | exact .inr (by omega))), (hB96.onto (((hB78.onto (((((((((hB31.onto ((((hE5.trans hE11).trans hE17).trans hE22).trans hE28) (by omega)).trans hE36).trans hE42).trans hE48).trans hE53).trans hE58).trans hE60).trans hE70).trans hE75) (by omega)).trans hE88).trans hE93) (by omega))⟩
        | true =>
         have h64 := ((h57.ext hE58).ext hE60)
         have h65 := ((h56.ext hE58).ext hE60)
         have h66 := (((h52.ext hE53).ext hE58).ext hE60)
         have h67 := (((((h40.ext hE42).ext hE48).ext hE53).ext hE58).ext hE60)
         have h68 := ((((((hR30.ext hE36).ext hE42).ext hE48).ext hE53).ext hE58).ext hE60)
         have h69 := (((((h41.ext hE42).ext hE48).ext hE53).ext hE58).ext hE60)
         refine WC.weaken (r' := [(2, pt b1 0), (3, pt b7 0), (4, pt b13 0), (5, pt b24 0), (19, .bool false), (21, .bool false), (30, .bool true)]) (s4 (sr rfl (sr rfl (sr rfl (subReg_nil _))))) ?_
         refine WC.draw 7 [43, 44, 45, 46, 47, 48, 49] [pc (.agg #[.int .i64 b.1, .int .i64 b.2]), pc (.agg (tcells T (.slice a T.subs.length cap)).toArray), pc (.agg #[.int .i64 (Nd.bof T).1, .int .i64 (Nd.bof T).2]), pc (.bool true), pc (.bool true), pc (undef), pc (undef)] (by kernel_rfl) (by kernel_rfl) (k4 ⟨KW_pc _, KW_pc _, KW_pc _, trivial⟩) rfl rfl rfl (sc4 ?_ ?_ ?_ ?_ (sc ?_ (sc ?_ (sc ?_ (StepsOn.nil _))))) ?_
         ·intro σ β w1 hE1 hbi hk
          refine ⟨[], (agree_nil _), ?_⟩
          refine WL.load_box rfl rfl rfl (h66.ext hE1) Ty.agg62 ?_
          exact dq hbi rfl
         ·intro σ β w1 hE1 hbi hk
          refine ⟨[], (agree_nil _), ?_⟩
          refine WL.load_box rfl rfl rfl (h65.ext hE1) Ty.agg30 ?_
          exact dq hbi rfl
         ·intro σ β w1 hE1 hbi hk
          refine ⟨[(44, .agg (tcells T (.slice a T.subs.length cap)).toArray)], (ak hk 1 (agree_nil _)), ?_⟩
          refine WL.call rfl rfl rfl Ty.ent43 (bof_ok _ _ _ T (h64.ext hE1)) ?_
          rintro _ w92 ⟨rfl, hE91⟩
          refine ⟨_, rfl, ?_⟩
          exact dqE hbi hE91 rfl
         ·intro σ β w1 hE1 hbi hk
          refine ⟨[(43, .agg #[.int .i64 b.1, .int .i64 b.2]), (45, .agg #[.int .i64 (Nd.bof T).1, .int .i64 (Nd.bof T).2])], (ak hk 0 (ak hk 2 (agree_nil _))), ?_⟩
          refine WL.pairneq (p := b) (q := (Nd.bof T)) (b := true) rfl rfl (by kernel_rfl) (by kernel_rfl) rfl rfl hc63 ?_
          exact dq hbi rfl
         ·intro σ β w1 hE1 hbi hk
          refine ⟨[(46, .bool true)], (ak hk 3 (agree_nil _)), ?_⟩
          refine mv ?_
          exact dq hbi rfl
         ·intro σ β w1 hE1 hbi hk
          refine ⟨[(47, .bool true)], (ak hk 4 (agree_nil _)), ?_⟩
          refine ps ?_
          exact dq hbi rfl
         ·intro σ β w1 hE1 hbi hk
          refine ⟨[(47, .bool true)], (ak hk 4 (agree_nil _)), ?_⟩
          refine ps ?_
          exact dq hbi rfl
         intro σ β w70 hE70 hbi70 hk
         have hz70 := hE70.size
         have hbi := hbi70
         refine WL.know [(47, .bool true)] (aj hk 4 (agree_nil _)) ?_
         refine ps ?_
         refine pT ?_
         refine WL.dn ?_
         refine cT ?_
         refine WC.region ?_
         refine WL.call rfl rfl rfl Ty.ent54 (star_ok _) ?_
         rintro _ w73 ⟨rfl, hE72⟩
         have hzhE72 := hE72.size
         refine ⟨_, rfl, ?_⟩
         have h76 := ((h66.ext hE70).ext hE72)
         refine WL.store_box rfl rfl rfl h76 Ty.agg62 rfl rfl (fun w77 hB75 hR74 => ?_)
         have hzhB75 := hB75.size
         refine WL.dn ?_
         refine WC.seqk ?_
         have h78 := (((((((((((((((hts.ext hE5).ext hE11).ext hE17).ext hE22).ext hE28).bu hB31).ext hE36).ext hE42).ext hE48).ext hE53).ext hE58).ext hE60).ext hE70).ext hE72).bu hB75)
         obtain ⟨t79, ht79⟩ : ∃ t, T.subs[0]? = some t := ⟨_, List.getElem?_eq_getElem (by have h5 := Nd.right_five (Nd.nice_right hni) (beq_iff_eq.1 hc51); omega)⟩
         obtain ⟨eb79, eo79, el79, hea79, hD79, her79, hn79⟩ := h78.at ht79
         obtain ⟨a79, cap79, rfl, hts79, hlen79⟩ := hn79.op2
         subst hea79
         have h80 := (hB75.row ((h65.ext hE70).ext hE72) (by omega))
         have h81 := (((h64.ext hE70).ext hE72).bu hB75)
         have h82 := (hB75.row ((h67.ext hE70).ext hE72) (by omega))
         have h83 := (hB75.row ((h68.ext hE70).ext hE72) (by omega))
         have h84 := (((h69.ext hE70).ext hE72).bu hB75)
         refine WC.weaken (r' := [(2, pt b1 0), (3, pt b7 0), (4, pt b13 0), (5, pt b24 0), (19, .bool false), (21, .bool false), (30, .bool true), (51, .bool true)]) (s4 (s4 (subReg_nil _))) ?_
         refine WC.draw 8 [53, 54, 55, 56, 57, 58, 59, 60] [pc (pt b1 7), pc (.slice (some ⟨eb79, eo79, none⟩) T.subs.length cap), pc (pt eb79 (eo79 + 0 * 8)), pc (.agg (tcells t79 (.slice a79 t79.subs.length cap79)).toArray), pc (pt b7 0), pc (.int .i64 Nd.star.1), pc (pt b7 1), pc (.int .i64 Nd.star.2)] (by kernel_rfl) (by kernel_rfl) (k4 (k4 trivial)) rfl rfl rfl (sc4 ?_ ?_ ?_ ?_ (sc4 ?_ ?_ ?_ ?_ (StepsOn.nil _))) ?_
         ·intro σ β w1 hE1 hbi hk
          refine ⟨[], (agree_nil _), ?_⟩
          refine WL.fieldAddr rfl rfl Ty.fld30_4 rfl ?_
          exact dq hbi rfl
         ·intro σ β w1 hE1 hbi hk
          refine ⟨[(53, pt b1 7)], (ak hk 0 (agree_nil _)), ?_⟩
          refine WL.load_fld rfl rfl Ty.flat24 rfl (h80.ext hE1) rfl ?_
          exact dq hbi rfl
         ·intro σ β w1 hE1 hbi hk
          have hz1 := hE1.size
          refine ⟨[(54, .slice (some ⟨eb79, eo79, none⟩) T.subs.length cap)], (ak hk 1 (agree_nil _)), ?_⟩
          refine WL.indexAddr (i := 0) rfl rfl Ty.slice24 rfl rfl rfl (by have h5 := Nd.right_five (Nd.nice_right hni) (beq_iff_eq.1 hc51); omega) ?_
          exact dq hbi rfl
         ·intro σ β w1 hE1 hbi hk
          refine ⟨[(55, pt eb79 (eo79 + 0 * 8))], (ak hk 2 (agree_nil _)), ?_⟩
          refine WL.load_agg (l := tcells t79 (.slice a79 t79.subs.length cap79)) rfl rfl Ty.agg30 rfl (her79.ext hE1) ?_
          exact dq hbi rfl
         ·intro σ β w1 hE1 hbi hk
          refine ⟨[], (agree_nil _), ?_⟩
          refine WL.fieldAddr rfl rfl Ty.fld62_0 rfl ?_
          exact dq hbi rfl
         ·intro σ β w1 hE1 hbi hk
          refine ⟨[(57, pt b7 0)], (ak hk 4 (agree_nil _)), ?_⟩
          refine WL.load_fld rfl rfl Ty.flat3 rfl (hR74.ext hE1) rfl ?_
          exact dq hbi rfl
         ·intro σ β w1 hE1 hbi hk
          refine ⟨[], (agree_nil _), ?_⟩
          refine WL.fieldAddr rfl rfl Ty.fld62_1 rfl ?_
          exact dq hbi rfl
         ·intro σ β w1 hE1 hbi hk
          refine ⟨[(59, pt b7 1)], (ak hk 6 (agree_nil _)), ?_⟩
          refine WL.load_fld rfl rfl Ty.flat3 rfl (hR74.ext hE1) rfl ?_
          exact dq hbi rfl
         intro σ β w85 hE85 hbi85 hk
         have hz85 := hE85.size
         have hbi := hbi85
         refine WL.know [(56, .agg (tcells t79 (.slice a79 t79.subs.length cap79)).toArray), (58, .int .i64 Nd.star.1), (60, .int .i64 Nd.star.2)] (aj hk 3 (aj hk 5 (aj hk 7 (agree_nil _)))) ?_
         refine WL.call rfl rfl rfl Ty.ent17 (times_ok _ _ _ t79 Nd.star.1 Nd.star.2 (hn79.ext hE85)) ?_
         rintro _ w91 ⟨l89, rfl, hr89, hE90⟩
         have hzhE90 := hE90.size
         refine ⟨_, rfl, ?_⟩
         have hn89 := hr89.lt
         obtain ⟨a89, cap89, rfl, hts89, hlen89⟩ := hn89.op2
         have h94 := ((h82.ext hE85).ext hE90)
         refine WL.store_box rfl rfl rfl h94 Ty.agg30 rfl rfl (fun w95 hB93 hR92 => ?_)
         have hzhB93 := hB93.size
         refine WL.dn ?_
         refine WC.ret (fun a_ ha => ?_)
         refine ret_block ?_
         refine ret_then ?_
         exact bodyPost_cell (l := (tcells (Nd.times t79 Nd.star.1 Nd.star.2) (.slice a89 (Nd.times t79 Nd.star.1 Nd.star.2).subs.length cap89))) rfl ha rfl Ty.agg30 hR92 ⟨_, rfl, (by simp only [Nd.timesN, Nd.timesB, hc33, hc38, hc45, hc50, hc51, hc55, hc62, hc63, Nd.sub0_at ht79, cond_true, cond_false, Bool.not_true, Bool.not_false, Bool.or_true, Bool.true_or, Bool.or_false, Bool.false_or, Bool.and_true, Bool.true_and, Bool.and_false, Bool.false_and]; exact (hn89.bu hB93).dom (by intro k h1; (try dsimp only at h1); (repeat' first | (guard_hyp h1 : _ ∨ _; refine Or.elim h1 (fun h1 => ?_) (fun h1 => ?_)) | (guard_hyp h1 : _ ∧ _; have hx := h1.2; replace h1 := h1.1)) <;> first | contradiction | exact .inl h1 | exact .inr (by omega))), (hB93.onto (((hB75.onto (((((((((hB31.onto ((((hE5.trans hE11).trans hE17).trans hE22).trans hE28) (by omega)).trans hE36).trans hE42).trans hE48).trans hE53).trans hE58).trans hE60).trans hE70).trans hE72) (by omega)).trans hE85).trans hE90) (by omega))⟩
    | true =>
     refine pT ?_
     refine asg ?_
     refine WL.dn ?_
     refine cT ?_
     refine WC.seqk ?_
     refine WC.weaken (r' := [(2, pt b1 0), (3, pt b7 0), (4, pt b13 0), (5, pt b24 0), (19, .bool false), (21, .bool true)]) (s4 (sr rfl (sr rfl (subReg_nil _)))) ?_
     refine WC.region ?_
     refine WL.load_box rfl rfl rfl (h46.ext hE48) Ty.agg30 ?_
     have h53 := ((h40.ext hE42).ext hE48)
     refine WL.store_box rfl rfl rfl h53 Ty.agg30 rfl rfl (fun w54 hB52 hR51 => ?_)
     have hzhB52 := hB52.size
     refine WL.dn ?_
     refine WC.ret (fun a_ ha => ?_)
     refine ret_block ?_
     refine ret_then ?_
     have h55 := ((h47.ext hE48).bu hB52)
     exact bodyPost_cell (l := (tcells T (.slice a T.subs.length cap))) rfl ha rfl Ty.agg30 hR51 ⟨_, rfl, (by simp only [Nd.timesN, Nd.timesB, hc33, hc38, hc45, hc50, cond_true, cond_false, Bool.not_true, Bool.not_false, Bool.or_true, Bool.true_or, Bool.or_false, Bool.false_or, Bool.and_true, Bool.true_and, Bool.and_false, Bool.false_and]; exact h55.dom (by intro k h1; (try dsimp only at h1); (repeat' first | (guard_hyp h1 : _ ∨ _; refine Or.elim h1 (fun h1 => ?_) (fun h1 => ?_)) | (guard_hyp h1 : _ ∧ _; have hx := h1.2; replace h1 := h1.1)) <;> first | contradiction | exact .inl h1 | exact .inr (by omega))), (hB52.onto ((((hB31.onto ((((hE5.trans hE11).trans hE17).trans hE22).trans hE28) (by omega)).trans hE36).trans hE42).trans hE48) (by omega))⟩
 | true =>
  refine WL.neq rfl rfl rfl rfl hc33 ?_
  have hp33 := bne_iff_ne.1 hc33
  refine mv ?_
  refine ps ?_
  refine ps ?_
  refine ps ?_
  refine pT ?_
  refine WL.dn ?_
  refine cT ?_
  refine WC.seqk ?_
  refine WC.weaken (r' := [(2, pt b1 0), (3, pt b7 0), (4, pt b13 0), (5, pt b24 0), (19, .bool true)]) (s4 (sr rfl (subReg_nil _))) ?_
  refine WC.region ?_
  refine WL.load_box rfl rfl rfl hR30 Ty.agg30 ?_
  have h36 := (hB31.row ((hR16.ext hE22).ext hE28) (by omega))
  refine WL.store_box rfl rfl rfl h36 Ty.agg30 rfl rfl (fun w37 hB35 hR34 => ?_)
  have hzhB35 := hB35.size
  refine WL.dn ?_
  refine WC.ret (fun a_ ha => ?_)
  refine ret_then ?_
  have h38 := (((hn21.ext hE28).bu hB31).bu hB35)
  exact bodyPost_cell (l := (tcells (Nd.times T b.1 b.2) (.slice a21 (Nd.times T b.1 b.2).subs.length cap21))) rfl ha rfl Ty.agg30 hR34 ⟨_, rfl, (by simp only [Nd.timesN, Nd.timesB, hc33, cond_true, cond_false, Bool.not_true, Bool.not_false, Bool.or_true, Bool.true_or, Bool.or_false, Bool.false_or, Bool.and_true, Bool.true_and, Bool.and_false, Bool.false_and]; exact h38.dom (by intro k h1; (try dsimp only at h1); (repeat' first | (guard_hyp h1 : _ ∨ _; refine Or.elim h1 (fun h1 => ?_) (fun h1 => ?_)) | (guard_hyp h1 : _ ∧ _; have hx := h1.2; replace h1 := h1.1)) <;> first | contradiction | exact .inl h1 | exact .inr (by omega))), (hB35.onto (hB31.onto ((((hE5.trans hE11).trans hE17).trans hE22).trans hE28) (by omega)) (by omega))⟩
set_option maxRecDepth 20000 in
set_option maxHeartbeats 4000000 in
theorem isStar_ok (D D2 : Nat → Prop) (w : World) (l l2 : List Value) (T U : Nd) (hT : NodeL D w l T) (hU : NodeL D2 w l2 U) (hni : T.nice = true) :
  Calls Try.prog 65 #[.agg l.toArray, .agg l2.toArray] w fun e w' => e = .returned (.bool (Nd.isStar T U)) ∧ Ext w w' := by
 have hT := hT.lt
 obtain ⟨a, cap, rfl, hts, hlen⟩ := hT.op2
 have hU := hU.lt
 obtain ⟨a2, cap2, rfl, hts2, hlen2⟩ := hU.op2
 refine Calls.enter (args := [.agg (tcells T (.slice a T.subs.length cap)).toArray, .agg (tcells U (.slice a2 U.subs.length cap2)).toArray]) Try.func65 rfl rfl rfl rfl ?_
 refine sq ?_
 refine WL.box_agg rfl rfl rfl (fun b1 w6 hb2 hE5 hs3 hR4 => ?_)
 refine WL.box_agg rfl rfl rfl (fun b7 w12 hb8 hE11 hs9 hR10 => ?_)
 refine asg ?_
 refine WL.dn ?_
 refine WC.seqk ?_
 cases hc13 : ((T.kind : Int) == 5) with
 | false =>
  have hp13 := beq_eq_false_iff_ne.1 hc13
  have h14 := ((hT.ext hE5).ext hE11)
  have h15 := ((hU.ext hE5).ext hE11)
  refine WC.weaken (r' := [(2, pt b1 0), (3, pt b7 0), (4, .bool false)]) (sr rfl (sr rfl (sr rfl (subReg_nil _)))) ?_
  refine WC.draw 20 [5, 6, 7, 8, 9, 10, 11, 12, 13, 14, 15, 16, 17, 18, 19, 20, 21, 22, 23, 24] [pc (pt b1 0), pc (.int .u8 T.kind), pc (.bool false), pc (.bool false), pc (undef), pc (undef), pc (undef), pc (undef), pc (undef), pc (undef), pc (undef), pc (.bool false), pc (.bool false), pc (undef), pc (undef), pc (undef), pc (undef), pc (undef), pc (undef), pc (.bool false)] (by kernel_rfl) (by kernel_rfl) (k4 (k4 (k4 (k4 (k4 trivial))))) rfl rfl rfl (sc4 ?_ ?_ ?_ ?_ (sc4 ?_ ?_ ?_ ?_ (sc4 ?_ ?_ ?_ ?_ (sc4 ?_ ?_ ?_ ?_ (sc4 ?_ ?_ ?_ ?_ (StepsOn.nil _)))))) ?_
  ·intro σ β w1 hE1 hbi hk
   refine ⟨[], (agree_nil _), ?_⟩
   refine WL.fieldAddr rfl rfl Ty.fld30_0 rfl ?_
   exact dq hbi rfl
  ·intro σ β w1 hE1 hbi hk
   refine ⟨[(5, pt b1 0)], (ak hk 0 (agree_nil _)), ?_⟩
   have h37 := ((hR4.ext hE11).ext hE1)
   refine WL.load_fld rfl rfl Ty.flat5 rfl h37 rfl ?_
   exact dq hbi rfl
  ·intro σ β w1 hE1 hbi hk
   refine ⟨[(6, .int .u8 T.kind)], (ak hk 1 (agree_nil _)), ?_⟩
   refine WL.eql (b := false) rfl rfl rfl rfl hc13 ?_
   exact dq hbi rfl
  ·intro σ β w1 hE1 hbi hk
   refine ⟨[(7, .bool false)], (ak hk 2 (agree_nil _)), ?_⟩
   refine mv ?_
   exact dq hbi rfl
  ·intro σ β w1 hE1 hbi hk
   refine ⟨[(8, .bool false)], (ak hk 3 (agree_nil _)), ?_⟩
   refine ps ?_
   exact dq hbi rfl
  ·intro σ β w1 hE1 hbi hk
   refine ⟨[(8, .bool false), (9, undef)], (ak hk 3 (ak hk 4 (agree_nil _))), ?_⟩
   refine ps ?_
   exact dq hbi rfl
  ·intro σ β w1 hE1 hbi hk
   refine ⟨[(8, .bool false)], (ak hk 3 (agree_nil _)), ?_⟩
   refine ps ?_
   exact dq hbi rfl
  ·intro σ β w1 hE1 hbi hk
   refine ⟨[(8, .bool false), (11, undef)], (ak hk 3 (ak hk 6 (agree_nil _))), ?_⟩
   refine ps ?_
   exact dq hbi rfl
  ·intro σ β w1 hE1 hbi hk
   refine ⟨[(8, .bool false), (10, undef), (12, undef)], (ak hk 3 (ak hk 5 (ak hk 7 (agree_nil _)))), ?_⟩
   refine ps ?_
   exact dq hbi rfl
  ·intro σ β w1 hE1 hbi hk
   refine ⟨[(8, .bool false)], (ak hk 3 (agree_nil _)), ?_⟩
   refine ps ?_
   exact dq hbi rfl
  ·intro σ β w1 hE1 hbi hk
   refine ⟨[(8, .bool false), (13, undef), (14, undef)], (ak hk 3 (ak hk 8 (ak hk 9 (agree_nil _)))), ?_⟩
   refine ps ?_
   exact dq hbi rfl
  ·intro σ β w1 hE1 hbi hk
   refine ⟨[(8, .bool false), (15, undef)], (ak hk 3 (ak hk 10 (agree_nil _))), ?_⟩
   refine pF ?_
   exact dq hbi rfl
  ·intro σ β w1 hE1 hbi hk
   refine ⟨[(16, .bool false)], (ak hk 11 (agree_nil _)), ?_⟩
   refine mv ?_
   exact dq hbi rfl
  ·intro σ β w1 hE1 hbi hk
   refine ⟨[(17, .bool false)], (ak hk 12 (agree_nil _)), ?_⟩
   refine ps ?_
   exact dq hbi rfl
  ·intro σ β w1 hE1 hbi hk
   refine ⟨[(17, .bool false), (18, undef)], (ak hk 12 (ak hk 13 (agree_nil _))), ?_⟩
   refine ps ?_
   exact dq hbi rfl
  ·intro σ β w1 hE1 hbi hk
   refine ⟨[(17, .bool false), (19, undef)], (ak hk 12 (ak hk 14 (agree_nil _))), ?_⟩
   refine ps ?_
   exact dq hbi rfl
  ·intro σ β w1 hE1 hbi hk
   refine ⟨[(17, .bool false), (20, undef)], (ak hk 12 (ak hk 15 (agree_nil _))), ?_⟩
   refine ps ?_
   exact dq hbi rfl
  ·intro σ β w1 hE1 hbi hk
   refine ⟨[(17, .bool false)], (ak hk 12 (agree_nil _)), ?_⟩
   refine ps ?_
   exact dq hbi rfl
  ·intro σ β w1 hE1 hbi hk
   refine ⟨[(17, .bool false), (21, undef), (22, undef)], (ak hk 12 (ak hk 16 (ak hk 17 (agree_nil _)))), ?_⟩
   refine ps ?_
   exact dq hbi rfl
  ·intro σ β w1 hE1 hbi hk
   refine ⟨[(17, .bool false), (23, undef)], (ak hk 12 (ak hk 18 (agree_nil _))), ?_⟩
   refine pF ?_
   exact dq hbi rfl
  intro σ β w16 hE16 hbi16 hk
  have hz16 := hE16.size
  have hbi := hbi16
  refine WL.know [(24, .bool false)] (aj hk 19 (agree_nil _)) ?_
  refine asg ?_
  refine WL.dn ?_
  refine WC.ret (fun a_ ha => ?_)
  exact bodyPost_tmp rfl ha rfl ⟨(by congr 2; simp only [Nd.isStar, Nd.Same2, hc13, cond_true, cond_false, Bool.not_true, Bool.not_false, Bool.or_true, Bool.true_or, Bool.or_false, Bool.false_or, Bool.and_true, Bool.true_and, Bool.and_false, Bool.false_and] <;> try simp), ((hE5.trans hE11).trans hE16)⟩
 | true =>
  have hp13 := beq_iff_eq.1 hc13
  cases hc14 : ((Nd.bof T) == Nd.star) with
  | false =>
   have hp14 := beq_eq_false_iff_ne.1 hc14
   have h15 := ((hT.ext hE5).ext hE11)
   have h16 := ((hU.ext hE5).ext hE11)
   refine WC.weaken (r' := [(2, pt b1 0), (3, pt b7 0), (4, .bool false)]) (sr rfl (sr rfl (sr rfl (subReg_nil _)))) ?_
   refine WC.draw 20 [5, 6, 7, 8, 9, 10, 11, 12, 13, 14, 15, 16, 17, 18, 19, 20, 21, 22, 23, 24] [pc (pt b1 0), pc (.int .u8 T.kind), pc (.bool true), pc (.bool true), pc (pt b1 5), pc (.int .i64 T.least), pc (pt b1 6), pc (.int .i64 T.most), pc (.agg #[.int .i64 T.least, .int .i64 T.most]), pc (.agg #[.int .i64 Nd.star.1, .int .i64 Nd.star.2]), pc (.bool false), pc (.bool false), pc (.bool false), pc (undef), pc (undef), pc (undef), pc (undef), pc (undef), pc (undef), pc (.bool false)] (by kernel_rfl) (by kernel_rfl) (k4 (k4 (k4 (k4 (k4 trivial))))) rfl rfl rfl (sc4 ?_ ?_ ?_ ?_ (sc4 ?_ ?_ ?_ ?_ (sc4 ?_ ?_ ?_ ?_ (sc4 ?_ ?_ ?_ ?_ (sc4 ?_ ?_ ?_ ?_ (StepsOn.nil _)))))) ?_
   ·intro σ β w1 hE1 hbi hk
    refine ⟨[], (agree_nil _), ?_⟩
    refine WL.fieldAddr rfl rfl Ty.fld30_0 rfl ?_
    exact dq hbi rfl
   ·intro σ β w1 hE1 hbi hk
    refine ⟨[(5, pt b1 0)], (ak hk 0 (agree_nil _)), ?_⟩
    have h38 := ((hR4.ext hE11).ext hE1)
    refine WL.load_fld rfl rfl Ty.flat5 rfl h38 rfl ?_
    exact dq hbi rfl
   ·intro σ β w1 hE1 hbi hk
    refine ⟨[(6, .int .u8 T.kind)], (ak hk 1 (agree_nil _)), ?_⟩
    refine WL.eql (b := true) rfl rfl rfl rfl hc13 ?_
    exact dq hbi rfl
   ·intro σ β w1 hE1 hbi hk
    refine ⟨[(7, .bool true)], (ak hk 2 (agree_nil _)), ?_⟩
    refine mv ?_
    exact dq hbi rfl
   ·intro σ β w1 hE1 hbi hk
    refine ⟨[(8, .bool true)], (ak hk 3 (agree_nil _)), ?_⟩
    refine WL.fieldAddr rfl rfl Ty.fld30_2 rfl ?_
    exact dq hbi rfl
   ·intro σ β w1 hE1 hbi hk
    refine ⟨[(8, .bool true), (9, pt b1 5)], (ak hk 3 (ak hk 4 (agree_nil _))), ?_⟩
    have h39 := ((hR4.ext hE11).ext hE1)
    refine WL.load_fld rfl rfl Ty.flat3 rfl h39 rfl ?_
    exact dq hbi rfl
   ·intro σ β w1 hE1 hbi hk
    refine ⟨[(8, .bool true)], (ak hk 3 (agree_nil _)), ?_⟩
    refine WL.fieldAddr rfl rfl Ty.fld30_3 rfl ?_
    exact dq hbi rfl
   ·intro σ β w1 hE1 hbi hk
    refine ⟨[(8, .bool true), (11, pt b1 6)], (ak hk 3 (ak hk 6 (agree_nil _))), ?_⟩
    have h39 := ((hR4.ext hE11).ext hE1)
    refine WL.load_fld rfl rfl Ty.flat3 rfl h39 rfl ?_
    exact dq hbi rfl
   ·intro σ β w1 hE1 hbi hk
    refine ⟨[(8, .bool true), (10, .int .i64 T.least), (12, .int .i64 T.most)], (ak hk 3 (ak hk 5 (ak hk 7 (agree_nil _)))), ?_⟩
    refine WL.build (l := [.int .i64 T.least, .int .i64 T.most]) rfl rfl Ty.zero62 Ty.st62 ⟨⟨rfl, rfl⟩, (by kernel_rfl)⟩ ?_
    exact dq hbi rfl
   ·intro σ β w1 hE1 hbi hk
    refine ⟨[(8, .bool true)], (ak hk 3 (agree_nil _)), ?_⟩
    refine WL.call rfl rfl rfl Ty.ent54 (star_ok _) ?_
    rintro _ w39 ⟨rfl, hE38⟩
    refine ⟨_, rfl, ?_⟩
    exact dqE hbi hE38 rfl
   ·intro σ β w1 hE1 hbi hk
    refine ⟨[(8, .bool true), (13, .agg #[.int .i64 T.least, .int .i64 T.most]), (14, .agg #[.int .i64 Nd.star.1, .int .i64 Nd.star.2])], (ak hk 3 (ak hk 8 (ak hk 9 (agree_nil _)))), ?_⟩
    refine WL.paireql (p := (Nd.bof T)) (q := Nd.star) (b := false) rfl rfl (by kernel_rfl) (by kernel_rfl) rfl rfl hc14 ?_
    exact dq hbi rfl
   ·intro σ β w1 hE1 hbi hk
    refine ⟨[(8, .bool true), (15, .bool false)], (ak hk 3 (ak hk 10 (agree_nil _))), ?_⟩
    refine pT ?_
    exact dq hbi rfl
   ·intro σ β w1 hE1 hbi hk
    refine ⟨[(16, .bool false)], (ak hk 11 (agree_nil _)), ?_⟩
    refine mv ?_
    exact dq hbi rfl
   ·intro σ β w1 hE1 hbi hk
    refine ⟨[(17, .bool false)], (ak hk 12 (agree_nil _)), ?_⟩
    refine ps ?_
    exact dq hbi rfl
   ·intro σ β w1 hE1 hbi hk
    refine ⟨[(17, .bool false), (18, undef)], (ak hk 12 (ak hk 13 (agree_nil _))), ?_⟩
    refine ps ?_
    exact dq hbi rfl
   ·intro σ β w1 hE1 hbi hk
    refine ⟨[(17, .bool false), (19, undef)], (ak hk 12 (ak hk 14 (agree_nil _))), ?_⟩
    refine ps ?_
    exact dq hbi rfl
   ·intro σ β w1 hE1 hbi hk
    refine ⟨[(17, .bool false), (20, undef)], (ak hk 12 (ak hk 15 (agree_nil _))), ?_⟩
    refine ps ?_
    exact dq hbi rfl
   ·intro σ β w1 hE1 hbi hk
    refine ⟨[(17, .bool false)], (ak hk 12 (agree_nil _)), ?_⟩
    refine ps ?_
    exact dq hbi rfl
   ·intro σ β w1 hE1 hbi hk
    refine ⟨[(17, .bool false), (21, undef), (22, undef)], (ak hk 12 (ak hk 16 (ak hk 17 (agree_nil _)))), ?_⟩
    refine ps ?_
    exact dq hbi rfl
   ·intro σ β w1 hE1 hbi hk
    refine ⟨[(17, .bool false), (23, undef)], (ak hk 12 (ak hk 18 (agree_nil _))), ?_⟩
    refine pF ?_
    exact dq hbi rfl
   intro σ β w17 hE17 hbi17 hk
   have hz17 := hE17.size
   have hbi := hbi17
   refine WL.know [(24, .bool false)] (aj hk 19 (agree_nil _)) ?_
   refine asg ?_
   refine WL.dn ?_
   refine WC.ret (fun a_ ha => ?_)
   exact bodyPost_tmp rfl ha rfl ⟨(by congr 2; simp only [Nd.isStar, Nd.Same2, hc13, hc14, cond_true, cond_false, Bool.not_true, Bool.not_false, Bool.or_true, Bool.true_or, Bool.or_false, Bool.false_or, Bool.and_true, Bool.true_and, Bool.and_false, Bool.false_and] <;> try simp), ((hE5.trans hE11).trans hE17)⟩
  | true =>
   have hp14 := beq_iff_eq.1 hc14
   have h15 := ((hts.ext hE5).ext hE11)
   obtain ⟨t16, ht16⟩ : ∃ t, T.subs[0]? = some t := ⟨_, List.getElem?_eq_getElem (by have h5 := Nd.right_five (Nd.nice_right hni) (beq_iff_eq.1 hc13); omega)⟩
   obtain ⟨eb16, eo16, el16, hea16, hD16, her16, hn16⟩ := h15.at ht16
   obtain ⟨a16, cap16, rfl, hts16, hlen16⟩ := hn16.op2
   subst hea16
   have h17 := ((hT.ext hE5).ext hE11)
   have h18 := ((hU.ext hE5).ext hE11)
   refine WC.weaken (r' := [(2, pt b1 0), (3, pt b7 0), (4, .bool false)]) (sr rfl (sr rfl (sr rfl (subReg_nil _)))) ?_
   refine WC.draw 20 [5, 6, 7, 8, 9, 10, 11, 12, 13, 14, 15, 16, 17, 18, 19, 20, 21, 22, 23, 24] [pc (pt b1 0), pc (.int .u8 T.kind), pc (.bool true), pc (.bool true), pc (pt b1 5), pc (.int .i64 T.least), pc (pt b1 6), pc (.int .i64 T.most), pc (.agg #[.int .i64 T.least, .int .i64 T.most]), pc (.agg #[.int .i64 Nd.star.1, .int .i64 Nd.star.2]), pc (.bool true), pc (.bool true), pc (.bool true), pc (pt b1 7), pc (.slice (some ⟨eb16, eo16, none⟩) T.subs.length cap), pc (pt eb16 (eo16 + 0 * 8)), pc (.agg (tcells t16 (.slice a16 t16.subs.length cap16)).toArray), pc (.agg (tcells U (.slice a2 U.subs.length cap2)).toArray), pc (.bool (Nd.light t16 && Nd.light U && Nd.same t16 U)), pc (.bool (Nd.light t16 && Nd.light U && Nd.same t16 U))] (by kernel_rfl) (by kernel_rfl) (k4 (k4 (k4 (k4 (k4 trivial))))) rfl rfl rfl (sc4 ?_ ?_ ?_ ?_ (sc4 ?_ ?_ ?_ ?_ (sc4 ?_ ?_ ?_ ?_ (sc4 ?_ ?_ ?_ ?_ (sc4 ?_ ?_ ?_ ?_ (StepsOn.nil _)))))) ?_
   ·intro σ β w1 hE1 hbi hk
    refine ⟨[], (agree_nil _), ?_⟩
    refine WL.fieldAddr rfl rfl Ty.fld30_0 rfl ?_
    exact dq hbi rfl
   ·intro σ β w1 hE1 hbi hk
    refine ⟨[(5, pt b1 0)], (ak hk 0 (agree_nil _)), ?_⟩
    have h40 := ((hR4.ext hE11).ext hE1)
    refine WL.load_fld rfl rfl Ty.flat5 rfl h40 rfl ?_
    exact dq hbi rfl
   ·intro σ β w1 hE1 hbi hk
    refine ⟨[(6, .int .u8 T.kind)], (ak hk 1 (agree_nil _)), ?_⟩
    refine WL.eql (b := true) rfl rfl rfl rfl hc13 ?_
    exact dq hbi rfl
   ·intro σ β w1 hE1 hbi hk
    refine ⟨[(7, .bool true)], (ak hk 2 (agree_nil _)), ?_⟩
    refine mv ?_
    exact dq hbi rfl
   ·intro σ β w1 hE1 hbi hk
    refine ⟨[(8, .bool true)], (ak hk 3 (agree_nil _)), ?_⟩
    refine WL.fieldAddr rfl rfl Ty.fld30_2 rfl ?_
    exact dq hbi rfl
   ·intro σ β w1 hE1 hbi hk
    refine ⟨[(8, .bool true), (9, pt b1 5)], (ak hk 3 (ak hk 4 (agree_nil _))), ?_⟩
    have h41 := ((hR4.ext hE11).ext hE1)
    refine WL.load_fld rfl rfl Ty.flat3 rfl h41 rfl ?_
    exact dq hbi rfl
   ·intro σ β w1 hE1 hbi hk
    refine ⟨[(8, .bool true)], (ak hk 3 (agree_nil _)), ?_⟩
    refine WL.fieldAddr rfl rfl Ty.fld30_3 rfl ?_
    exact dq hbi rfl
   ·intro σ β w1 hE1 hbi hk
    refine ⟨[(8, .bool true), (11, pt b1 6)], (ak hk 3 (ak hk 6 (agree_nil _))), ?_⟩
    have h41 := ((hR4.ext hE11).ext hE1)
    refine WL.load_fld rfl rfl Ty.flat3 rfl h41 rfl ?_
    exact dq hbi rfl
   ·intro σ β w1 hE1 hbi hk
    refine ⟨[(8, .bool true), (10, .int .i64 T.least), (12, .int .i64 T.most)], (ak hk 3 (ak hk 5 (ak hk 7 (agree_nil _)))), ?_⟩
    refine WL.build (l := [.int .i64 T.least, .int .i64 T.most]) rfl rfl Ty.zero62 Ty.st62 ⟨⟨rfl, rfl⟩, (by kernel_rfl)⟩ ?_
    exact dq hbi rfl
   ·intro σ β w1 hE1 hbi hk
    refine ⟨[(8, .bool true)], (ak hk 3 (agree_nil _)), ?_⟩
    refine WL.call rfl rfl rfl Ty.ent54 (star_ok _) ?_
    rintro _ w41 ⟨rfl, hE40⟩
    refine ⟨_, rfl, ?_⟩
    exact dqE hbi hE40 rfl
   ·intro σ β w1 hE1 hbi hk
    refine ⟨[(8, .bool true), (13, .agg #[.int .i64 T.least, .int .i64 T.most]), (14, .agg #[.int .i64 Nd.star.1, .int .i64 Nd.star.2])], (ak hk 3 (ak hk 8 (ak hk 9 (agree_nil _)))), ?_⟩
    refine WL.paireql (p := (Nd.bof T)) (q := Nd.star) (b := true) rfl rfl (by kernel_rfl) (by kernel_rfl) rfl rfl hc14 ?_
    exact dq hbi rfl
   ·intro σ β w1 hE1 hbi hk
    refine ⟨[(8, .bool true), (15, .bool true)], (ak hk 3 (ak hk 10 (agree_nil _))), ?_⟩
    refine pT ?_
    exact dq hbi rfl
   ·intro σ β w1 hE1 hbi hk
    refine ⟨[(16, .bool true)], (ak hk 11 (agree_nil _)), ?_⟩
    refine mv ?_
    exact dq hbi rfl
   ·intro σ β w1 hE1 hbi hk
    refine ⟨[(17, .bool true)], (ak hk 12 (agree_nil _)), ?_⟩
    refine WL.fieldAddr rfl rfl Ty.fld30_4 rfl ?_
    exact dq hbi rfl
   ·intro σ β w1 hE1 hbi hk
    refine ⟨[(17, .bool true), (18, pt b1 7)], (ak hk 12 (ak hk 13 (agree_nil _))), ?_⟩
    have h41 := ((hR4.ext hE11).ext hE1)
    refine WL.load_fld rfl rfl Ty.flat24 rfl h41 rfl ?_
    exact dq hbi rfl
   ·intro σ β w1 hE1 hbi hk
    have hz1 := hE1.size
    refine ⟨[(17, .bool true), (19, .slice (some ⟨eb16, eo16, none⟩) T.subs.length cap)], (ak hk 12 (ak hk 14 (agree_nil _))), ?_⟩
    refine WL.indexAddr (i := 0) rfl rfl Ty.slice24 rfl rfl rfl (by have h5 := Nd.right_five (Nd.nice_right hni) (beq_iff_eq.1 hc13); omega) ?_
    exact dq hbi rfl
   ·intro σ β w1 hE1 hbi hk
    refine ⟨[(17, .bool true), (20, pt eb16 (eo16 + 0 * 8))], (ak hk 12 (ak hk 15 (agree_nil _))), ?_⟩
    refine WL.load_agg (l := tcells t16 (.slice a16 t16.subs.length cap16)) rfl rfl Ty.agg30 rfl (her16.ext hE1) ?_
    exact dq hbi rfl
   ·intro σ β w1 hE1 hbi hk
    refine ⟨[(17, .bool true)], (ak hk 12 (agree_nil _)), ?_⟩
    refine WL.load_box rfl rfl rfl (hR10.ext hE1) Ty.agg30 ?_
    exact dq hbi rfl
   ·intro σ β w1 hE1 hbi hk
    refine ⟨[(17, .bool true), (21, .agg (tcells t16 (.slice a16 t16.subs.length cap16)).toArray), (22, .agg (tcells U (.slice a2 U.subs.length cap2)).toArray)], (ak hk 12 (ak hk 16 (ak hk 17 (agree_nil _)))), ?_⟩
    refine WL.call rfl rfl rfl Ty.ent11 (Same_ok _ _ _ _ _ t16 U (hn16.ext hE1) (h18.ext hE1)) ?_
    rintro _ w43 ⟨rfl, hE42⟩
    refine ⟨_, rfl, ?_⟩
    exact dqE hbi hE42 rfl
   ·intro σ β w1 hE1 hbi hk
    refine ⟨[(17, .bool true), (23, .bool (Nd.light t16 && Nd.light U && Nd.same t16 U))], (ak hk 12 (ak hk 18 (agree_nil _))), ?_⟩
    refine pT ?_
    exact dq hbi rfl
   intro σ β w19 hE19 hbi19 hk
   have hz19 := hE19.size
   have hbi := hbi19
   refine WL.know [(24, .bool (Nd.light t16 && Nd.light U && Nd.same t16 U))] (aj hk 19 (agree_nil _)) ?_
   refine asg ?_
   refine WL.dn ?_
   refine WC.ret (fun a_ ha => ?_)
   exact bodyPost_tmp rfl ha rfl ⟨(by congr 2; simp only [Nd.isStar, Nd.Same2, hc13, hc14, Nd.sub0_at ht16, cond_true, cond_false, Bool.not_true, Bool.not_false, Bool.or_true, Bool.true_or, Bool.or_false, Bool.false_or, Bool.and_true, Bool.true_and, Bool.and_false, Bool.false_and] <;> try simp), ((hE5.trans hE11).trans hE19)⟩
set_option maxRecDepth 20000 in
set_option maxHeartbeats 4000000 in
theorem merged_ok (D D2 : Nat → Prop) (w : World) (l l2 : List Value) (T U : Nd) (hT : NodeL D w l T) (hU : NodeL D2 w l2 U) (hni : T.nice = true) (hni2 : U.nice = true) :
  Calls Try.prog 56 #[.agg l.toArray, .agg l2.toArray] w fun e w' => ∃ l', e = .returned (.tuple #[.agg l'.toArray, .bool (Nd.merged T U).isSome]) ∧ NodeL (fun k => (D k ∨ D2 k) ∨ w.heap.size ≤ k) w' l' ((Nd.merged T U).getD Nd.none) ∧ Ext w w' := by
 have hT := hT.lt
 obtain ⟨a, cap, rfl, hts, hlen⟩ := hT.op2
 have hU := hU.lt
 obtain ⟨a2, cap2, rfl, hts2, hlen2⟩ := hU.op2
 refine Calls.enter (args := [.agg (tcells T (.slice a T.subs.length cap)).toArray, .agg (tcells U (.slice a2 U.subs.length cap2)).toArray]) Try.func56 rfl rfl rfl rfl ?_
 refine sq ?_
 refine WL.box_agg rfl rfl rfl (fun b1 w6 hb2 hE5 hs3 hR4 => ?_)
 refine WL.box_agg rfl rfl rfl (fun b7 w12 hb8 hE11 hs9 hR10 => ?_)
 refine WL.alloc rfl rfl Ty.zero30 rfl (fun b13 w18 hb14 hE17 hs15 hR16 => ?_)
 refine asg ?_
 refine WL.dn ?_
 refine WC.seqk ?_
 refine WC.block ?_
 refine sq ?_
 have h19 := ((hR4.ext hE11).ext hE17)
 refine WL.load_box rfl rfl rfl h19 Ty.agg30 ?_
 have h20 := (((hT.ext hE5).ext hE11).ext hE17)
 refine WL.call rfl rfl rfl Ty.ent26 (plain_ok T _ _ _ h20) ?_
 rintro _ w22 ⟨rfl, hE21⟩
 have hzhE21 := hE21.size
 refine ⟨_, rfl, ?_⟩
 cases hc23 : Nd.plain T with
 | false =>
  refine WL.not rfl rfl rfl ?_
  refine mv ?_
  refine ps ?_
  refine ps ?_
  refine ps ?_
  refine pT ?_
  refine asg ?_
  refine WL.dn ?_
  refine cT ?_
  refine WC.seqk ?_
  refine WC.weaken (r' := [(2, pt b1 0), (3, pt b7 0), (4, pt b13 0), (5, .bool false), (6, .bool true)]) (s4 (sr rfl (subReg_nil _))) ?_
  refine WC.region ?_
  refine WL.build0 (l := (zc 0 0 0 (.slice none 0 0))) rfl rfl Ty.zero30 Ty.agg30 rfl Ty.bz30 ?_
  have hn24 : NodeL _ w22 (zc 0 0 0 (.slice none 0 0)) qc1 := NodeL.shut (k := 0) (s := Nd.zero) (mn := 0) (mx := 0) (sl := .slice none 0 0) (ts := []) (NodesV.nil (fun _ => False) _ none 0)
  have hn24 := hn24.lt
  refine WL.store_box rfl rfl rfl (hR16.ext hE21) Ty.agg30 rfl rfl (fun w27 hB26 hR25 => ?_)
  have hzhB26 := hB26.size
  refine asg ?_
  refine WL.dn ?_
  refine WC.ret (fun a_ ha => ?_)
  refine ret_block ?_
  refine ret_then ?_
  have hmr : Nd.merged T U = .none := by simp only [Nd.merged, Nd.Same2, hc23, cond_true, cond_false, Bool.not_true, Bool.not_false, Bool.or_true, Bool.true_or, Bool.or_false, Bool.false_or, Bool.and_true, Bool.true_and, Bool.and_false, Bool.false_and]
  rw [hmr]
  exact bodyPost_celltmp (l := (zc 0 0 0 (.slice none 0 0))) rfl ha rfl rfl Ty.agg30 hR25 ⟨_, rfl, (hn24.bu hB26).dom (by intro k h1; (try dsimp only at h1); (repeat' first | (guard_hyp h1 : _ ∨ _; refine Or.elim h1 (fun h1 => ?_) (fun h1 => ?_)) | (guard_hyp h1 : _ ∧ _; have hx := h1.2; replace h1 := h1.1)) <;> first | contradiction | exact h1.elim | exact .inl (.inl h1) | exact .inl (.inr h1) | exact .inr (by omega)), (hB26.onto (((hE5.trans hE11).trans hE17).trans hE21) (by omega))⟩
 | true =>
  refine WL.not rfl rfl rfl ?_
  refine mv ?_
  have h24 := ((hR10.ext hE17).ext hE21)
  refine WL.load_box rfl rfl rfl h24 Ty.agg30 ?_
  have h25 := ((((hU.ext hE5).ext hE11).ext hE17).ext hE21)
  refine WL.call rfl rfl rfl Ty.ent26 (plain_ok U _ _ _ h25) ?_
  rintro _ w27 ⟨rfl, hE26⟩
  have hzhE26 := hE26.size
  refine ⟨_, rfl, ?_⟩
  cases hc28 : Nd.plain U with
  | false =>
   refine WL.not rfl rfl rfl ?_
   refine pF ?_
   refine asg ?_
   refine WL.dn ?_
   refine cT ?_
   refine WC.seqk ?_
   refine WC.weaken (r' := [(2, pt b1 0), (3, pt b7 0), (4, pt b13 0), (5, .bool false), (6, .bool true)]) (s4 (sr rfl (subReg_nil _))) ?_
   refine WC.region ?_
   refine WL.build0 (l := (zc 0 0 0 (.slice none 0 0))) rfl rfl Ty.zero30 Ty.agg30 rfl Ty.bz30 ?_
   have hn29 : NodeL _ w27 (zc 0 0 0 (.slice none 0 0)) qc1 := NodeL.shut (k := 0) (s := Nd.zero) (mn := 0) (mx := 0) (sl := .slice none 0 0) (ts := []) (NodesV.nil (fun _ => False) _ none 0)
   have hn29 := hn29.lt
   have h32 := ((hR16.ext hE21).ext hE26)
   refine WL.store_box rfl rfl rfl h32 Ty.agg30 rfl rfl (fun w33 hB31 hR30 => ?_)
   have hzhB31 := hB31.size
   refine asg ?_
   refine WL.dn ?_
   refine WC.ret (fun a_ ha => ?_)
   refine ret_block ?_
   refine ret_then ?_
   have hmr : Nd.merged T U = .none := by simp only [Nd.merged, Nd.Same2, hc23, hc28, cond_true, cond_false, Bool.not_true, Bool.not_false, Bool.or_true, Bool.true_or, Bool.or_false, Bool.false_or, Bool.and_true, Bool.true_and, Bool.and_false, Bool.false_and]
   rw [hmr]
   exact bodyPost_celltmp (l := (zc 0 0 0 (.slice none 0 0))) rfl ha rfl rfl Ty.agg30 hR30 ⟨_, rfl, (hn29.bu hB31).dom (by intro k h1; (try dsimp only at h1); (repeat' first | (guard_hyp h1 : _ ∨ _; refine Or.elim h1 (fun h1 => ?_) (fun h1 => ?_)) | (guard_hyp h1 : _ ∧ _; have hx := h1.2; replace h1 := h1.1)) <;> first | contradiction | exact h1.elim | exact .inl (.inl h1) | exact .inl (.inr h1) | exact .inr (by omega)), (hB31.onto ((((hE5.trans hE11).trans hE17).trans hE21).trans hE26) (by omega))⟩
  | true =>
   refine WL.not rfl rfl rfl ?_
   refine pF ?_
   refine asg ?_
   refine WL.dn ?_
   refine cF ?_
   refine WC.seqk ?_
   refine WC.weaken (r' := [(2, pt b1 0), (3, pt b7 0), (4, pt b13 0), (5, .bool false), (6, .bool false)]) (s4 (sr rfl (subReg_nil _))) ?_
   refine WC.region ?_
   refine WL.load_box rfl rfl rfl (h24.ext hE26) Ty.agg30 ?_
   have h29 := ((h19.ext hE21).ext hE26)
   refine WL.load_box rfl rfl rfl h29 Ty.agg30 ?_
   have h30 := ((h20.ext hE21).ext hE26)
   refine WL.call rfl rfl rfl Ty.ent65 (isStar_ok _ _ _ _ _ U T (h25.ext hE26) h30 hni2) ?_
   rintro _ w32 ⟨rfl, hE31⟩
   have hzhE31 := hE31.size
   refine ⟨_, rfl, ?_⟩
   cases hc33 : Nd.isStar U T with
   | false =>
    refine asg ?_
    refine WL.dn ?_
    refine cF ?_
    refine sq ?_
    refine WL.load_box rfl rfl rfl (h29.ext hE31) Ty.agg30 ?_
    have h34 := ((h24.ext hE26).ext hE31)
    refine WL.load_box rfl rfl rfl h34 Ty.agg30 ?_
    have h35 := ((h25.ext hE26).ext hE31)
    refine WL.call rfl rfl rfl Ty.ent65 (isStar_ok _ _ _ _ _ T U (h30.ext hE31) h35 hni) ?_
    rintro _ w37 ⟨rfl, hE36⟩
    have hzhE36 := hE36.size
    refine ⟨_, rfl, ?_⟩
    cases hc38 : Nd.isStar T U with
    | false =>
     refine asg ?_
     refine WL.dn ?_
     refine cF ?_
     refine sq ?_
     have h39 := ((h29.ext hE31).ext hE36)
     refine WL.load_box rfl rfl rfl h39 Ty.agg30 ?_
     refine WL.load_box rfl rfl rfl (h34.ext hE36) Ty.agg30 ?_
     have h40 := ((h30.ext hE31).ext hE36)
     refine WL.call rfl rfl rfl Ty.ent11 (Same_ok _ _ _ _ _ T U h40 (h35.ext hE36)) ?_
     rintro _ w42 ⟨rfl, hE41⟩
     have hzhE41 := hE41.size
     refine ⟨_, rfl, ?_⟩
     cases hc43 : Nd.light T && Nd.light U && Nd.same T U with
     | false =>
      refine mv ?_
      refine ps ?_
      refine ps ?_
      refine ps ?_
      refine pF ?_
      refine mv ?_
      refine ps ?_
      refine ps ?_
      refine ps ?_
      refine ps ?_
      refine pF ?_
      refine asg ?_
      refine WL.dn ?_
      refine cF ?_
      refine WC.sk ?_
      refine WC.seqk ?_
      refine WC.weaken (r' := [(4, pt b13 0), (5, .bool false), (6, .bool false), (16, .bool false), (23, .bool false), (30, .bool false)]) (s4 (sr rfl (sr rfl (subReg_nil _)))) ?_
      refine WC.region ?_
      refine WL.build0 (l := (zc 0 0 0 (.slice none 0 0))) rfl rfl Ty.zero30 Ty.agg30 rfl Ty.bz30 ?_
      have hn44 : NodeL _ w42 (zc 0 0 0 (.slice none 0 0)) qc1 := NodeL.shut (k := 0) (s := Nd.zero) (mn := 0) (mx := 0) (sl := .slice none 0 0) (ts := []) (NodesV.nil (fun _ => False) _ none 0)
      have hn44 := hn44.lt
      have h47 := (((((hR16.ext hE21).ext hE26).ext hE31).ext hE36).ext hE41)
      refine WL.store_box rfl rfl rfl h47 Ty.agg30 rfl rfl (fun w48 hB46 hR45 => ?_)
      have hzhB46 := hB46.size
      refine asg ?_
      refine WL.dn ?_
      refine WC.ret (fun a_ ha => ?_)
      have hmr : Nd.merged T U = .none := by simp only [Nd.merged, Nd.Same2, hc23, hc28, hc33, hc38, hc43, cond_true, cond_false, Bool.not_true, Bool.not_false, Bool.or_true, Bool.true_or, Bool.or_false, Bool.false_or, Bool.and_true, Bool.true_and, Bool.and_false, Bool.false_and]
      rw [hmr]
      exact bodyPost_celltmp (l := (zc 0 0 0 (.slice none 0 0))) rfl ha rfl rfl Ty.agg30 hR45 ⟨_, rfl, (hn44.bu hB46).dom (by intro k h1; (try dsimp only at h1); (repeat' first | (guard_hyp h1 : _ ∨ _; refine Or.elim h1 (fun h1 => ?_) (fun h1 => ?_)) | (guard_hyp h1 : _ ∧ _; have hx := h1.2; replace h1 := h1.1)) <;> first | contradiction | exact h1.elim | exact .inl (.inl h1) | exact .inl (.inr h1) | exact .inr (by omega)), (hB46.onto (((((((hE5.trans hE11).trans hE17).trans hE21).trans hE26).trans hE31).trans hE36).trans hE41) (by omega))⟩
     | true =>
      refine mv ?_
      refine WL.fieldAddr rfl rfl Ty.fld30_0 rfl ?_
      refine WL.load_fld rfl rfl Ty.flat5 rfl (h39.ext hE41) rfl ?_
      cases hc44 : ((T.kind : Int) == 5) with
      | false =>
       refine WL.eql rfl rfl rfl rfl hc44 ?_
       have hp44 := beq_eq_false_iff_ne.1 hc44
       refine pT ?_
       refine mv ?_
       refine ps ?_
       refine ps ?_
       refine ps ?_
       refine ps ?_
       refine pF ?_
       refine asg ?_
       refine WL.dn ?_
       refine cF ?_
       refine WC.sk ?_
       refine WC.seqk ?_
       refine WC.weaken (r' := [(4, pt b13 0), (5, .bool false), (6, .bool false), (16, .bool false), (23, .bool false), (30, .bool false)]) (s4 (sr rfl (sr rfl (subReg_nil _)))) ?_
       refine WC.region ?_
       refine WL.build0 (l := (zc 0 0 0 (.slice none 0 0))) rfl rfl Ty.zero30 Ty.agg30 rfl Ty.bz30 ?_
       have hn45 : NodeL _ w42 (zc 0 0 0 (.slice none 0 0)) qc1 := NodeL.shut (k := 0) (s := Nd.zero) (mn := 0) (mx := 0) (sl := .slice none 0 0) (ts := []) (NodesV.nil (fun _ => False) _ none 0)
       have hn45 := hn45.lt
       have h48 := (((((hR16.ext hE21).ext hE26).ext hE31).ext hE36).ext hE41)
       refine WL.store_box rfl rfl rfl h48 Ty.agg30 rfl rfl (fun w49 hB47 hR46 => ?_)
       have hzhB47 := hB47.size
       refine asg ?_
       refine WL.dn ?_
       refine WC.ret (fun a_ ha => ?_)
       have hmr : Nd.merged T U = .none := by simp only [Nd.merged, Nd.Same2, hc23, hc28, hc33, hc38, hc43, hc44, cond_true, cond_false, Bool.not_true, Bool.not_false, Bool.or_true, Bool.true_or, Bool.or_false, Bool.false_or, Bool.and_true, Bool.true_and, Bool.and_false, Bool.false_and]
       rw [hmr]
       exact bodyPost_celltmp (l := (zc 0 0 0 (.slice none 0 0))) rfl ha rfl rfl Ty.agg30 hR46 ⟨_, rfl, (hn45.bu hB47).dom (by intro k h1; (try dsimp only at h1); (repeat' first | (guard_hyp h1 : _ ∨ _; refine Or.elim h1 (fun h1 => ?_) (fun h1 => ?_)) | (guard_hyp h1 : _ ∧ _; have hx := h1.2; replace h1 := h1.1)) <;> first | contradiction | exact h1.elim | exact .inl (.inl h1) | exact .inl (.inr h1) | exact .inr (by omega)), (hB47.onto (((((((hE5.trans hE11).trans hE17).trans hE21).trans hE26).trans hE31).trans hE36).trans hE41) (by omega))⟩
      | true =>
       refine WL.eql rfl rfl rfl rfl hc44 ?_
       have hp44 := beq_iff_eq.1 hc44
       refine pT ?_
       refine mv ?_
       refine WL.load_box rfl rfl rfl (h39.ext hE41) Ty.agg30 ?_
       refine WL.call rfl rfl rfl Ty.ent43 (bof_ok _ _ _ T (h40.ext hE41)) ?_
       rintro _ w46 ⟨rfl, hE45⟩
       have hzhE45 := hE45.size
       refine ⟨_, rfl, ?_⟩
       refine WL.call rfl rfl rfl Ty.ent54 (star_ok _) ?_
       rintro _ w48 ⟨rfl, hE47⟩
       have hzhE47 := hE47.size
       refine ⟨_, rfl, ?_⟩
       cases hc49 : ((Nd.bof T) == Nd.star) with
       | false =>
        refine WL.paireql (p := (Nd.bof T)) (q := Nd.star) rfl rfl (by kernel_rfl) (by kernel_rfl) rfl rfl hc49 ?_
        have hp49 := beq_eq_false_iff_ne.1 hc49
        refine pT ?_
        refine asg ?_
        refine WL.dn ?_
        refine cF ?_
        refine WC.sk ?_
        refine WC.seqk ?_
        refine WC.weaken (r' := [(4, pt b13 0), (5, .bool false), (6, .bool false), (16, .bool false), (23, .bool false), (30, .bool false)]) (s4 (sr rfl (sr rfl (subReg_nil _)))) ?_
        refine WC.region ?_
        refine WL.build0 (l := (zc 0 0 0 (.slice none 0 0))) rfl rfl Ty.zero30 Ty.agg30 rfl Ty.bz30 ?_
        have hn50 : NodeL _ w48 (zc 0 0 0 (.slice none 0 0)) qc1 := NodeL.shut (k := 0) (s := Nd.zero) (mn := 0) (mx := 0) (sl := .slice none 0 0) (ts := []) (NodesV.nil (fun _ => False) _ none 0)
        have hn50 := hn50.lt
        have h53 := (((((((hR16.ext hE21).ext hE26).ext hE31).ext hE36).ext hE41).ext hE45).ext hE47)
        refine WL.store_box rfl rfl rfl h53 Ty.agg30 rfl rfl (fun w54 hB52 hR51 => ?_)
        have hzhB52 := hB52.size
        refine asg ?_
        refine WL.dn ?_
        refine WC.ret (fun a_ ha => ?_)
        have hmr : Nd.merged T U = .none := by simp only [Nd.merged, Nd.Same2, hc23, hc28, hc33, hc38, hc43, hc44, hc49, cond_true, cond_false, Bool.not_true, Bool.not_false, Bool.or_true, Bool.true_or, Bool.or_false, Bool.false_or, Bool.and_true, Bool.true_and, Bool.and_false, Bool.false_and]
        rw [hmr]
        exact bodyPost_celltmp (l := (zc 0 0 0 (.slice none 0 0))) rfl ha rfl rfl Ty.agg30 hR51 ⟨_, rfl, (hn50.bu hB52).dom (by intro k h1; (try dsimp only at h1); (repeat' first | (guard_hyp h1 : _ ∨ _; refine Or.elim h1 (fun h1 => ?_) (fun h1 => ?_)) | (guard_hyp h1 : _ ∧ _; have hx := h1.2; replace h1 := h1.1)) <;> first | contradiction | exact h1.elim | exact .inl (.inl h1) | exact .inl (.inr h1) | exact .inr (by omega)), (hB52.onto (((((((((hE5.trans hE11).trans hE17).trans hE21).trans hE26).trans hE31).trans hE36).trans hE41).trans hE45).trans hE47) (by omega))⟩
       | true =>
        refine WL.paireql (p := (Nd.bof T)) (q := Nd.star) rfl rfl (by kernel_rfl) (by kernel_rfl) rfl rfl hc49 ?_
        have hp49 := beq_iff_eq.1 hc49
        refine pT ?_
        refine asg ?_
        refine WL.dn ?_
        refine cT ?_
        refine WC.seqk ?_
        refine WC.weaken (r' := [(2, pt b1 0), (4, pt b13 0), (5, .bool false), (6, .bool false), (16, .bool false), (23, .bool false), (30, .bool true)]) (s4 (sr rfl (sr rfl (sr rfl (subReg_nil _))))) ?_
        refine WC.region ?_
        have h50 := (((h39.ext hE41).ext hE45).ext hE47)
        refine WL.load_box rfl rfl rfl h50 Ty.agg30 ?_
        have h53 := (((((((hR16.ext hE21).ext hE26).ext hE31).ext hE36).ext hE41).ext hE45).ext hE47)
        refine WL.store_box rfl rfl rfl h53 Ty.agg30 rfl rfl (fun w54 hB52 hR51 => ?_)
        have hzhB52 := hB52.size
        refine asg ?_
        refine WL.dn ?_
        refine WC.ret (fun a_ ha => ?_)
        refine ret_block ?_
        refine ret_then ?_
        have h55 := ((((h40.ext hE41).ext hE45).ext hE47).bu hB52)
        have hmr : Nd.merged T U = some T := by simp only [Nd.merged, Nd.Same2, hc23, hc28, hc33, hc38, hc43, hc44, hc49, cond_true, cond_false, Bool.not_true, Bool.not_false, Bool.or_true, Bool.true_or, Bool.or_false, Bool.false_or, Bool.and_true, Bool.true_and, Bool.and_false, Bool.false_and]
        rw [hmr]
        exact bodyPost_celltmp (l := (tcells T (.slice a T.subs.length cap))) rfl ha rfl rfl Ty.agg30 hR51 ⟨_, rfl, h55.dom (by intro k h1; (try dsimp only at h1); (repeat' first | (guard_hyp h1 : _ ∨ _; refine Or.elim h1 (fun h1 => ?_) (fun h1 => ?_)) | (guard_hyp h1 : _ ∧ _; have hx := h1.2; replace h1 := h1.1)) <;> first | contradiction | exact h1.elim | exact .inl (.inl h1) | exact .inl (.inr h1) | exact .inr (by omega)), (hB52.onto (((((((((hE5.trans hE11).trans hE17).trans hE21).trans hE26).trans hE31).trans hE36).trans hE41).trans hE45).trans hE47) (by omega))⟩
    | true =>
     refine asg ?_
     refine WL.dn ?_
     refine cT ?_
     refine WC.seqk ?_
     have h39 := ((h30.ext hE31).ext hE36)
     have h40 := ((h29.ext hE31).ext hE36)
     have h41 := ((((hR16.ext hE21).ext hE26).ext hE31).ext hE36)
     refine WC.weaken (r' := [(2, pt b1 0), (3, pt b7 0), (4, pt b13 0), (5, .bool false), (6, .bool false), (16, .bool false), (23, .bool true)]) (s4 (sr rfl (sr rfl (sr rfl (subReg_nil _))))) ?_
     refine WC.draw 2 [27, 28] [pc (.agg (tcells U (.slice a2 U.subs.length cap2)).toArray), pc (.agg #[.int .i64 Nd.plus.1, .int .i64 Nd.plus.2])] (by kernel_rfl) (by kernel_rfl) ⟨KW_pc _, KW_pc _, trivial⟩ rfl rfl rfl (sc ?_ (sc ?_ (StepsOn.nil _))) ?_
     ·intro σ β w1 hE1 hbi hk
      refine ⟨[], (agree_nil _), ?_⟩
      have h62 := ((h34.ext hE36).ext hE1)
      refine WL.load_box rfl rfl rfl h62 Ty.agg30 ?_
      exact dq hbi rfl
     ·intro σ β w1 hE1 hbi hk
      refine ⟨[], (agree_nil _), ?_⟩
      refine WL.call rfl rfl rfl Ty.ent55 (plus_ok _) ?_
      rintro _ w63 ⟨rfl, hE62⟩
      refine ⟨_, rfl, ?_⟩
      exact dqE hbi hE62 rfl
     intro σ β w42 hE42 hbi42 hk
     have hz42 := hE42.size
     have hbi := hbi42
     refine WL.know [(27, .agg (tcells U (.slice a2 U.subs.length cap2)).toArray), (28, .agg #[.int .i64 Nd.plus.1, .int .i64 Nd.plus.2])] (aj hk 0 (aj hk 1 (agree_nil _))) ?_
     have h45 := ((h35.ext hE36).ext hE42)
     refine WL.call rfl rfl rfl Ty.ent42 (timesN_ok _ _ _ U Nd.plus h45 hni2) ?_
     rintro _ w48 ⟨l46, rfl, hr46, hE47⟩
     have hzhE47 := hE47.size
     refine ⟨_, rfl, ?_⟩
     have hn46 := hr46.lt
     obtain ⟨a46, cap46, rfl, hts46, hlen46⟩ := hn46.op2
     have h51 := ((h41.ext hE42).ext hE47)
     refine WL.store_box rfl rfl rfl h51 Ty.agg30 rfl rfl (fun w52 hB50 hR49 => ?_)
     have hzhB50 := hB50.size
     refine asg ?_
     refine WL.dn ?_
     refine WC.ret (fun a_ ha => ?_)
     refine ret_block ?_
     refine ret_then ?_
     have hmr : Nd.merged T U = some (Nd.timesN U Nd.plus) := by simp only [Nd.merged, Nd.Same2, hc23, hc28, hc33, hc38, cond_true, cond_false, Bool.not_true, Bool.not_false, Bool.or_true, Bool.true_or, Bool.or_false, Bool.false_or, Bool.and_true, Bool.true_and, Bool.and_false, Bool.false_and]
     rw [hmr]
     exact bodyPost_celltmp (l := (tcells (Nd.timesN U Nd.plus) (.slice a46 (Nd.timesN U Nd.plus).subs.length cap46))) rfl ha rfl rfl Ty.agg30 hR49 ⟨_, rfl, (hn46.bu hB50).dom (by intro k h1; (try dsimp only at h1); (repeat' first | (guard_hyp h1 : _ ∨ _; refine Or.elim h1 (fun h1 => ?_) (fun h1 => ?_)) | (guard_hyp h1 : _ ∧ _; have hx := h1.2; replace h1 := h1.1)) <;> first | contradiction | exact h1.elim | exact .inl (.inl h1) | exact .inl (.inr h1) | exact .inr (by omega)), (hB50.onto ((((((((hE5.trans hE11).trans hE17).trans hE21).trans hE26).trans hE31).trans hE36).trans hE42).trans hE47) (by omega))⟩
   | true =>
    refine asg ?_
    refine WL.dn ?_
    refine cT ?_
    refine WC.seqk ?_
    have h34 := ((h25.ext hE26).ext hE31)
    have h35 := ((h24.ext hE26).ext hE31)
    have h36 := (((hR16.ext hE21).ext hE26).ext hE31)
    refine WC.weaken (r' := [(2, pt b1 0), (3, pt b7 0), (4, pt b13 0), (5, .bool false), (6, .bool false), (16, .bool true)]) (s4 (sr rfl (sr rfl (subReg_nil _)))) ?_
    refine WC.draw 2 [20, 21] [pc (.agg (tcells T (.slice a T.subs.length cap)).toArray), pc (.agg #[.int .i64 Nd.plus.1, .int .i64 Nd.plus.2])] (by kernel_rfl) (by kernel_rfl) ⟨KW_pc _, KW_pc _, trivial⟩ rfl rfl rfl (sc ?_ (sc ?_ (StepsOn.nil _))) ?_
    ·intro σ β w1 hE1 hbi hk
     refine ⟨[], (agree_nil _), ?_⟩
     have h57 := ((h29.ext hE31).ext hE1)
     refine WL.load_box rfl rfl rfl h57 Ty.agg30 ?_
     exact dq hbi rfl
    ·intro σ β w1 hE1 hbi hk
     refine ⟨[], (agree_nil _), ?_⟩
     refine WL.call rfl rfl rfl Ty.ent55 (plus_ok _) ?_
     rintro _ w58 ⟨rfl, hE57⟩
     refine ⟨_, rfl, ?_⟩
     exact dqE hbi hE57 rfl
    intro σ β w37 hE37 hbi37 hk
    have hz37 := hE37.size
    have hbi := hbi37
    refine WL.know [(20, .agg (tcells T (.slice a T.subs.length cap)).toArray), (21, .agg #[.int .i64 Nd.plus.1, .int .i64 Nd.plus.2])] (aj hk 0 (aj hk 1 (agree_nil _))) ?_
    have h40 := ((h30.ext hE31).ext hE37)
    refine WL.call rfl rfl rfl Ty.ent42 (timesN_ok _ _ _ T Nd.plus h40 hni) ?_
    rintro _ w43 ⟨l41, rfl, hr41, hE42⟩
    have hzhE42 := hE42.size
    refine ⟨_, rfl, ?_⟩
    have hn41 := hr41.lt
    obtain ⟨a41, cap41, rfl, hts41, hlen41⟩ := hn41.op2
    have h46 := ((h36.ext hE37).ext hE42)
    refine WL.store_box rfl rfl rfl h46 Ty.agg30 rfl rfl (fun w47 hB45 hR44 => ?_)
    have hzhB45 := hB45.size
    refine asg ?_
    refine WL.dn ?_
    refine WC.ret (fun a_ ha => ?_)
    refine ret_block ?_
    refine ret_then ?_
    have hmr : Nd.merged T U = some (Nd.timesN T Nd.plus) := by simp only [Nd.merged, Nd.Same2, hc23, hc28, hc33, cond_true, cond_false, Bool.not_true, Bool.not_false, Bool.or_true, Bool.true_or, Bool.or_false, Bool.false_or, Bool.and_true, Bool.true_and, Bool.and_false, Bool.false_and]
    rw [hmr]
    exact bodyPost_celltmp (l := (tcells (Nd.timesN T Nd.plus) (.slice a41 (Nd.timesN T Nd.plus).subs.length cap41))) rfl ha rfl rfl Ty.agg30 hR44 ⟨_, rfl, (hn41.bu hB45).dom (by intro k h1; (try dsimp only at h1); (repeat' first | (guard_hyp h1 : _ ∨ _; refine Or.elim h1 (fun h1 => ?_) (fun h1 => ?_)) | (guard_hyp h1 : _ ∧ _; have hx := h1.2; replace h1 := h1.1)) <;> first | contradiction | exact h1.elim | exact .inl (.inl h1) | exact .inl (.inr h1) | exact .inr (by omega)), (hB45.onto (((((((hE5.trans hE11).trans hE17).trans hE21).trans hE26).trans hE31).trans hE37).trans hE42) (by omega))⟩
end Go.Proofs.Yteenegaadlhjdaa
namespace Go.Proofs.Yteenegaadlhjdaa
open Go.RowKit
theorem sliceB_elem {P : Program} {t e n : Nat} (h : sliceB P t e n = true) : P.underlying t = some (.slice (P.elem t)) ∧ ∀ w, (sizeOf (P.elem t)).run P w = .ok n w := by
  obtain ⟨hu, q, hq, hs⟩ := sliceB_u h
  have he : P.elem t = e := by simp [Program.elem, hu]
  rw [he]
  exact ⟨hu, fun w => by simp [sizeOf, typeInfo, hq, hs]⟩
theorem add0 (a : Option Addr) (n : Nat) : a.map (·.add (0 * n)) = a := by
  cases a with
  | none => rfl
  | some a => obtain ⟨b, o, p⟩ := a; cases p <;> simp [Addr.add]
section
variable {P : Program} {ro : Option Nat} {all : Array Oper} {Q : Exit → Act → World → Prop} {N : Nat} {ds : List Deferred} {r : Reg} {w : World} {rest : List Oper}
  {ty : TypeId} {pos : String} {aft : Array Edge} {g : Option (Nat × Bool)}
theorem WL.slice_h {d : Nat} {t e s : Nat} {x y : Operand} {a : Option Addr} {n cap m : Nat} {k : IntKind} {j : Int} (hw : want all r g = some true) (hd : Nat.blt d N = true) (ht : sliceB P t e s = true)
    (hx : ev r x = some (.slice a n cap)) (hy : ev r y = some (.int k j)) (hj : j = m) (hm : m ≤ cap)
    (next : WL ro P all Q N ds rest ((d, .slice a m cap) :: r) w) : WL ro P all Q N ds (⟨some d, .slice t x none (some y) none, ty, pos, aft, g⟩ :: rest) r w := by
  obtain ⟨he, hsz⟩ := sliceB_elem ht
  subst hj
  refine WL.val hw hd (by intro c h; cases h) (fun ac ha => ?_) next
  simp only [execOp, ha.ev hx, ha.ev hy, Option.map_some, Option.map_none, Sem.run_bind, run_sliceAt_slice w t _ _ _ _ he, run_slice_h w t a n cap he k m (by omega) (by omega), hsz, Result.andThen_ok, sliced, Int.toNat_natCast, Nat.sub_zero, add0, ite_self, Sem.run_pure]
theorem WL.slice_hm {d : Nat} {t e s : Nat} {x y z : Operand} {a : Option Addr} {n cap m : Nat} {k k' : IntKind} {j j' : Int} (hw : want all r g = some true) (hd : Nat.blt d N = true) (ht : sliceB P t e s = true)
    (hx : ev r x = some (.slice a n cap)) (hy : ev r y = some (.int k j)) (hz : ev r z = some (.int k' j')) (hj : j = m) (hj' : j' = m) (hm : m ≤ cap)
    (next : WL ro P all Q N ds rest ((d, .slice a m m) :: r) w) : WL ro P all Q N ds (⟨some d, .slice t x none (some y) (some z), ty, pos, aft, g⟩ :: rest) r w := by
  obtain ⟨he, hsz⟩ := sliceB_elem ht
  subst hj; subst hj'
  refine WL.val hw hd (by intro c h; cases h) (fun ac ha => ?_) next
  simp only [execOp, ha.ev hx, ha.ev hy, ha.ev hz, Option.map_some, Option.map_none, Sem.run_bind, run_sliceAt_slice w t _ _ _ _ he, run_slice_hm w t a n cap he k k' m m (by omega) (by omega) (by omega), hsz, Result.andThen_ok, sliced, Int.toNat_natCast, Nat.sub_zero, add0, ite_self, Sem.run_pure]
theorem WL.slice_l {d : Nat} {t e s : Nat} {x y : Operand} {a : Option Addr} {n cap m : Nat} {k : IntKind} {j : Int} (hw : want all r g = some true) (hd : Nat.blt d N = true) (ht : sliceB P t e s = true)
    (hx : ev r x = some (.slice a n cap)) (hy : ev r y = some (.int k j)) (hj : j = m) (hm : m ≤ n)
    (next : WL ro P all Q N ds rest ((d, .slice (if cap = m then a else a.map (·.add (m * s))) (n - m) (cap - m)) :: r) w) : WL ro P all Q N ds (⟨some d, .slice t x (some y) none none, ty, pos, aft, g⟩ :: rest) r w := by
  obtain ⟨he, hsz⟩ := sliceB_elem ht
  subst hj
  refine WL.val hw hd (by intro c h; cases h) (fun ac ha => ?_) next
  simp only [execOp, ha.ev hx, ha.ev hy, Option.map_some, Option.map_none, Sem.run_bind, run_sliceAt_slice w t _ _ _ _ he, run_slice_l w t a n cap he k m (by omega) (by omega), hsz, Result.andThen_ok, sliced, Int.toNat_natCast, Sem.run_pure]
theorem NodesV.take {D : Nat → Prop} {w : World} {a : Option Addr} {n cap m c : Nat} {ts : List Nd} (h : NodesV D w (.slice a n cap) ts) (hm : m ≤ ts.length) (hc : m ≤ c) : NodesV D w (.slice a m c) (ts.take m) := by
  obtain ⟨ls, ⟨a', cap', he, hcap, hn, h⟩, h2, h3⟩ := h
  cases he
  refine ⟨ls.take m, ⟨a, c, by rw [List.length_take, Nat.min_eq_left (by omega)], by rw [List.length_take]; omega, fun l hl => hn l (List.mem_of_mem_take hl), ?_⟩, by simp [h2], ?_⟩
  · rcases h with h | ⟨b, o, ha, hb, hr⟩
    · left; rw [h]; simp
    · right
      refine ⟨b, o, ha, hb, fun i l hl => hr i l ?_⟩
      rw [List.getElem?_take] at hl
      split at hl
      · exact hl
      · cases hl
  · intro i l t hl ht
    rw [List.getElem?_take] at hl ht
    split at hl
    · rw [if_pos (by assumption)] at ht; exact h3 i l t hl ht
    · cases hl
theorem NodesV.drop1 {D : Nat → Prop} {w : World} {a : Option Addr} {n cap : Nat} {ts : List Nd} (h : NodesV D w (.slice a n cap) ts) (h1 : 1 ≤ ts.length) : NodesV D w (.slice (if cap = 1 then a else a.map (·.add (1 * 8))) (n - 1) (cap - 1)) (ts.drop 1) := by
  obtain ⟨ls, ⟨a', cap', he, hcap, hn, h⟩, h2, h3⟩ := h
  cases he
  refine ⟨ls.drop 1, ⟨_, cap - 1, by rw [List.length_drop], by rw [List.length_drop]; omega, fun l hl => hn l (List.mem_of_mem_drop hl), ?_⟩, by simp [h2], ?_⟩
  · rcases h with h | ⟨b, o, ha, hb, hr⟩
    · left; rw [h]; simp
    · by_cases hc : cap = 1
      · left; apply List.eq_nil_of_length_eq_zero; rw [List.length_drop]; omega
      · right
        refine ⟨b, o + 8, by rw [if_neg hc, ha]; rfl, hb, fun i l hl => ?_⟩
        rw [List.getElem?_drop] at hl
        have := hr (1 + i) l hl
        have e : o + (1 + i) * 8 = o + 8 + i * 8 := by omega
        rw [← e]; exact this
  · intro i l t hl ht
    rw [List.getElem?_drop] at hl ht
    exact h3 (1 + i) l t hl ht
theorem run_append_full {w : World} {D D2 : Nat → Prop} {t ty e : TypeId} {z : Value} {ts us : List Nd} {a a2 : Option Addr} {n c2 n2 : Nat} (ht : sliceB P t e 8 = true) (hz : zeroB P e z) (hzs : z.cells.size = 8) (hby : smallB P e = true)
    (hts : NodesV D w (.slice a n n) ts) (hus : NodesV D2 w (.slice a2 n2 c2) us) (hus1 : us ≠ []) (hnil : a = none → n = 0) (hlen : ts.length + us.length ≤ 1000000000) :
    ∃ v' w', (Builtin.append_ #[t, t] ty #[.slice a n n, .slice a2 n2 c2]).run P w = .ok v' w' ∧ OwnV e w.heap.size (fun k => D k ∨ D2 k) w' v' (ts ++ us) ∧ Ext w w' := by
  obtain ⟨hu, q, hq, hs⟩ := sliceB_u ht
  have hbt : q.bytes ≤ 128 := by unfold smallB at hby; rw [hq] at hby; simp at hby; exact hby.1
  have hzz : q.zero = some z := by unfold zeroB at hz; rw [hq] at hz; exact hz
  obtain ⟨us', hR2, rfl, hr2⟩ := hus.lt.rows
  obtain ⟨b2, o2, rfl, hd2, hrd2⟩ : ∃ b o, a2 = some ⟨b, o, none⟩ ∧ (D2 b ∧ b < w.heap.size) ∧ Reads w b o us'.flatten := by
    rcases hr2 with h | h
    · exact absurd h hus1
    · exact h
  have hlen8 := len_flatten us' hR2.eight
  obtain ⟨ls, hR1, rfl, hr1⟩ := hts.lt.rows
  have hlen1 := len_flatten ls hR1.eight
  have hpos : 0 < us.length := by cases us with | nil => exact absurd rfl hus1 | cons x l => simp
  have fin : ∀ (v' : Value) (w' : World), w'.ownsRow w.heap.size e 8 v' (ts.length + us.length) (ls.flatten ++ us'.flatten) → GrownD w w' none → OwnV e w.heap.size (fun k => D k ∨ D2 k) w' v' (ts ++ us) ∧ Ext w w' := by
    intro v' w' h1 h2
    have hE : Ext w w' := grown_below h2 (Ext.refl _) (by intro k hk; cases hk)
    have hnb : ∀ k, k < w.heap.size → v'.ownBlock ≠ some k := by
      intro k hk hh
      rcases h1.2 with ⟨rfl, _⟩ | ⟨g', cap', cur', rfl, hg', _⟩
      · cases hh
      · simp only [Value.ownBlock, Option.some.injEq] at hh; omega
    refine ⟨⟨ls ++ us', by simpa using h1, RowsL.append (hR1.step (fun l t hn => (hn.ext hE).dom (fun k hk => ⟨.inl hk.1, Nat.lt_of_lt_of_le hk.2 hE.size, hnb k hk.2⟩))) (hR2.step (fun l t hn => (hn.ext hE).dom (fun k hk => ⟨.inr hk.1, Nat.lt_of_lt_of_le hk.2 hE.size, hnb k hk.2⟩))), by simpa using hlen⟩, hE⟩
  cases a with
  | none =>
    have h0 := hnil rfl
    have hts0 : ts = [] := List.eq_nil_of_length_eq_zero h0
    subst hts0
    have : ls = [] := List.eq_nil_of_length_eq_zero (by simpa using hR1.1)
    subst this
    obtain ⟨v', w', h1, h2, h3, _⟩ := run_append_own_at (P := P) w w.heap.size t ty e q z 8 q.bytes hu hq hzz hs rfl hzs (by omega) (.slice none 0 0) 0 [] ⟨rfl, .inl ⟨rfl, rfl⟩⟩ ⟨b2, o2, none⟩ us.length c2 us'.flatten (by rw [hlen8, hR2.1]) (fun j u hj => (addr_add b2 o2 j) ▸ hrd2 j u hj) hR2.one (by simp only [maxLen]; simp at hlen; omega) (by
        have := Nat.mul_le_mul hlen hbt
        simp at this ⊢; omega) (Nat.le_refl _)
    exact ⟨v', w', h1, fin v' w' (by simpa using h2) ⟨h3, run_drawn _ h1⟩⟩
  | some ad =>
    obtain ⟨v', w', h1, h2, h3⟩ := run_append_arg_grows (P := P) w t ty e q z 8 q.bytes hu hq hzz hs rfl hzs (by omega) ad ts.length ts.length ls.flatten (by rw [hlen1, hR1.1]) (by
        intro j u hj
        rcases hr1 with h | ⟨b, o, h, _, hrd⟩
        · subst h
          have : ls = [] := List.eq_nil_of_length_eq_zero (by simpa using hR1.1)
          subst this; simp at hj
        · cases h; exact (addr_add b o j) ▸ hrd j u hj) ⟨b2, o2, none⟩ us.length c2 us'.flatten (by rw [hlen8, hR2.1]) (fun j u hj => (addr_add b2 o2 j) ▸ hrd2 j u hj) (by omega) (by simp only [maxLen]; omega) (by
        have := Nat.mul_le_mul hlen hbt
        omega)
    exact ⟨v', w', h1, fin v' w' h2 ⟨h3, run_drawn _ h1⟩⟩
theorem WL.appendFull {d : Nat} {t e : TypeId} {D D2 : Nat → Prop} {x y : Operand} {z : Value} {ts us : List Nd} {a a2 : Option Addr} {n n2 c2 : Nat} (hw : want all r g = some true) (hd : Nat.blt d N = true) (ht : sliceB P t e 8 = true) (hz : zeroB P e z) (hzs : z.cells.size = 8) (hby : smallB P e = true)
    (hx : ev r x = some (.slice a n n)) (hy : ev r y = some (.slice a2 n2 c2)) (hts : NodesV D w (.slice a n n) ts) (hus : NodesV D2 w (.slice a2 n2 c2) us) (hus1 : us ≠ []) (hnil : a = none → n = 0) (hlen : ts.length + us.length ≤ 1000000000)
    (next : ∀ v' w', OwnV e w.heap.size (fun k => D k ∨ D2 k) w' v' (ts ++ us) → Ext w w' → WL ro P all Q N ds rest ((d, v') :: r) w') :
    WL ro P all Q N ds (⟨some d, .call ⟨.builtin .append, #[x, y], #[t, t]⟩, ty, pos, aft, g⟩ :: rest) r w := by
  obtain ⟨v', w', h1, h2, h3⟩ := run_append_full (P := P) (ty := ty) ht hz hzs hby hts hus hus1 hnil hlen
  exact WL.val hw hd (by intro c h; cases h) (fun ac ha => by simp [execOp, resolve, invoke, builtin, ha.ev hx, ha.ev hy, h1]) (next v' w' h2 h3)
end
theorem OwnV.rebase {e : TypeId} {base base' : Nat} {D : Nat → Prop} {w : World} {v : Value} {ts : List Nd} (h : OwnV e base D w v ts) (hb : base' ≤ base) : OwnV e base' D w v ts := by
  obtain ⟨ls, ⟨hl, h⟩, h2⟩ := h
  refine ⟨ls, ⟨hl, ?_⟩, h2⟩
  rcases h with h | ⟨g, cap, cur, he, hg, h⟩
  · exact .inl h
  · exact .inr ⟨g, cap, cur, he, Nat.le_trans hb hg, h⟩
def pown (e base : Nat) (D : Nat → Prop) (ts : List Nd) : Post := fun v w _ => OwnV e base D w v ts
theorem KW_pown (e base : Nat) (D : Nat → Prop) (ts : List Nd) : KW (pown e base D ts) := fun _ _ _ _ _ E _ h => OwnV.ext h E
end Go.Proofs.Yteenegaadlhjdaa
namespace Go.Proofs.Yteenegaadlhjdaa
open Go.RowKit Go.Lib
theorem NodesV.drop {D : Nat → Prop} {w : World} {a : Option Addr} {n cap m : Nat} {ts : List Nd} (h : NodesV D w (.slice a n cap) ts) (hm : m ≤ ts.length) : NodesV D w (.slice (if cap = m then a else a.map (·.add (m * 8))) (n - m) (cap - m)) (ts.drop m) := by
  obtain ⟨ls, ⟨a', cap', he, hcap, hn, h⟩, h2, h3⟩ := h
  cases he
  refine ⟨ls.drop m, ⟨_, cap - m, by rw [List.length_drop], by rw [List.length_drop]; omega, fun l hl => hn l (List.mem_of_mem_drop hl), ?_⟩, by simp [h2], ?_⟩
  · rcases h with h | ⟨b, o, ha, hb, hr⟩
    · left; rw [h]; simp
    · by_cases hc : cap = m
      · left; apply List.eq_nil_of_length_eq_zero; rw [List.length_drop]; omega
      · right
        refine ⟨b, o + m * 8, by rw [if_neg hc, ha]; simp only [Option.map_some, addr_add], hb, fun i l hl => ?_⟩
        rw [List.getElem?_drop] at hl
        have := hr (m + i) l hl
        have e : o + (m + i) * 8 = o + m * 8 + i * 8 := by omega
        rw [← e]; exact this
  · intro i l t hl ht
    rw [List.getElem?_drop] at hl ht
    exact h3 (m + i) l t hl ht
def NLists (D : Nat → Prop) (w : World) (v : Value) (lss : List (List Nd)) : Prop :=
  ∃ a cap, v = .slice a lss.length cap ∧ (lss.length ≤ cap ∧ lss.length ≤ 100000) ∧ (lss = [] ∨ ∃ b o, a = some ⟨b, o, none⟩ ∧ D b ∧ ∀ (i : Nat) (ts : List Nd), lss[i]? = some ts → ∃ ai ci, w.cell? ⟨b, o + i, none⟩ = some (.slice ai ts.length ci) ∧ NodesV D w (.slice ai ts.length ci) ts)
theorem NLists.ext {D : Nat → Prop} {w w' : World} {v : Value} {lss : List (List Nd)} (h : NLists D w v lss) (e : Ext w w') : NLists D w' v lss := by
  obtain ⟨a, cap, h1, h2, h3⟩ := h
  refine ⟨a, cap, h1, h2, ?_⟩
  rcases h3 with h | ⟨b, o, ha, hb, hr⟩
  · exact .inl h
  · exact .inr ⟨b, o, ha, hb, fun i ts hi => by obtain ⟨ai, ci, q1, q2⟩ := hr i ts hi; exact ⟨ai, ci, e.cell q1, q2.ext e⟩⟩
theorem NLists.dom {D D' : Nat → Prop} {w : World} {v : Value} {lss : List (List Nd)} (h : NLists D w v lss) (hd : ∀ k, D k → D' k) : NLists D' w v lss := by
  obtain ⟨a, cap, h1, h2, h3⟩ := h
  refine ⟨a, cap, h1, h2, ?_⟩
  rcases h3 with h | ⟨b, o, ha, hb, hr⟩
  · exact .inl h
  · exact .inr ⟨b, o, ha, hd b hb, fun i ts hi => by obtain ⟨ai, ci, q1, q2⟩ := hr i ts hi; exact ⟨ai, ci, q1, q2.dom hd⟩⟩
theorem NLists.lt {D : Nat → Prop} {w : World} {v : Value} {lss : List (List Nd)} (h : NLists D w v lss) : NLists (fun b => D b ∧ b < w.heap.size) w v lss := by
  obtain ⟨a, cap, h1, h2, h3⟩ := h
  refine ⟨a, cap, h1, h2, ?_⟩
  rcases h3 with h | ⟨b, o, ha, hb, hr⟩
  · exact .inl h
  · cases lss with
    | nil => exact .inl rfl
    | cons x xs =>
      obtain ⟨ai, ci, q1, q2⟩ := hr 0 x rfl
      exact .inr ⟨b, o, ha, ⟨hb, World.block_lt_of_cell? w _ q1⟩, fun i ts hi => by obtain ⟨ai, ci, q1, q2⟩ := hr i ts hi; exact ⟨ai, ci, q1, q2.lt⟩⟩
theorem NLists.but {D : Nat → Prop} {w w' : World} {v : Value} {lss : List (List Nd)} {b : Nat} (h : NLists D w v lss) (e : But b w w') (hb : ¬ D b) : NLists D w' v lss := by
  obtain ⟨a, cap, h1, h2, h3⟩ := h
  refine ⟨a, cap, h1, h2, ?_⟩
  rcases h3 with h | ⟨c, o, ha, hc, hr⟩
  · exact .inl h
  · exact .inr ⟨c, o, ha, hc, fun i ts hi => by obtain ⟨ai, ci, q1, q2⟩ := hr i ts hi; exact ⟨ai, ci, (World.cell?_of_block (w := w) (e.block c (fun h => hb (h ▸ hc)))).trans q1, q2.but e hb⟩⟩
theorem NLists.grown {D : Nat → Prop} {w w' : World} {row : Option Nat} {v : Value} {lss : List (List Nd)} (h : NLists D w v lss) (hg : GrownD w w' row) (hd : ∀ k, D k → k < w.heap.size → row ≠ some k) : NLists D w' v lss := by
  obtain ⟨a, cap, h1, h2, h3⟩ := h
  refine ⟨a, cap, h1, h2, ?_⟩
  rcases h3 with h | ⟨c, o, ha, hc, hr⟩
  · exact .inl h
  · exact .inr ⟨c, o, ha, hc, fun i ts hi => by
      obtain ⟨ai, ci, q1, q2⟩ := hr i ts hi
      have hlt : c < w.heap.size := World.block_lt_of_cell? w _ q1
      exact ⟨ai, ci, (World.cell?_of_block (w := w) (hg.block c hlt (fun hh => hd c hc hlt hh.symm))).trans q1, q2.grown hg hd⟩⟩
theorem NLists.len {D : Nat → Prop} {w : World} {a : Option Addr} {n cap : Nat} {lss : List (List Nd)} (h : NLists D w (.slice a n cap) lss) : n = lss.length ∧ lss.length ≤ cap ∧ lss.length ≤ 100000 := by
  obtain ⟨a', cap', he, hc, _⟩ := h
  cases he; exact ⟨rfl, hc⟩
theorem NLists.at {D : Nat → Prop} {w : World} {a : Option Addr} {n cap : Nat} {lss : List (List Nd)} (h : NLists D w (.slice a n cap) lss) {i : Nat} {ts : List Nd} (hi : lss[i]? = some ts) :
    ∃ b o ai ci, a = some ⟨b, o, none⟩ ∧ D b ∧ w.cell? ⟨b, o + i * 1, none⟩ = some (.slice ai ts.length ci) ∧ NodesV D w (.slice ai ts.length ci) ts := by
  obtain ⟨a', cap', he, hc, h⟩ := h
  cases he
  rcases h with h | ⟨b, o, ha, hb, hr⟩
  · subst h; simp at hi
  · obtain ⟨ai, ci, q1, q2⟩ := hr i ts hi
    exact ⟨b, o, ai, ci, ha, hb, by rw [Nat.mul_one]; exact q1, q2⟩
theorem NLists.lit3 {D : Nat → Prop} {w : World} {b : Nat} {t : TypeId} {a1 a2 a3 : Option Addr} {c1 c2 c3 n1 n2 n3 : Nat} {t1 t2 t3 : List Nd} (hR : Row w b [.slice a1 n1 c1, .slice a2 n2 c2, .slice a3 n3 c3] t)
    (h1 : NodesV D w (.slice a1 n1 c1) t1) (h2 : NodesV D w (.slice a2 n2 c2) t2) (h3 : NodesV D w (.slice a3 n3 c3) t3) (hb : D b) : NLists D w (.slice (some ⟨b, 0, none⟩) 3 3) [t1, t2, t3] := by
  refine ⟨_, 3, rfl, by simp, .inr ⟨b, 0, rfl, hb, fun i ts hi => ?_⟩⟩
  have e1 := h1.len.1
  have e2 := h2.len.1
  have e3 := h3.len.1
  match i, hi with
  | 0, hi => simp at hi; subst hi; subst e1; exact ⟨a1, c1, hR.cell 0, h1⟩
  | 1, hi => simp at hi; subst hi; subst e2; exact ⟨a2, c2, hR.cell 1, h2⟩
  | 2, hi => simp at hi; subst hi; subst e3; exact ⟨a3, c3, hR.cell 2, h3⟩
  | i + 3, hi => simp at hi
theorem nls_succ {lss : List (List Nd)} {k : Nat} {ts : List Nd} (h : lss[k]? = some ts) : (lss.take (k + 1)).flatten = (lss.take k).flatten ++ ts := by
  rw [List.take_succ, h]; simp
theorem nls_len {lss : List (List Nd)} {k : Nat} {ts : List Nd} (h : lss[k]? = some ts) : (lss.take (k + 1)).flatten.length = (lss.take k).flatten.length + ts.length := by
  rw [nls_succ h, List.length_append]
theorem nls_le (lss : List (List Nd)) (k : Nat) : (lss.take k).flatten.length ≤ lss.flatten.length := by
  conv => rhs; rw [← List.take_append_drop k lss]
  rw [List.flatten_append, List.length_append]; omega
theorem NLists.get {D : Nat → Prop} {w : World} {v : Value} {lss : List (List Nd)} (h : NLists D w v lss) : ∃ a cap, v = .slice a lss.length cap ∧ NLists D w (.slice a lss.length cap) lss := by
  obtain ⟨a, cap, rfl, h2⟩ := h
  exact ⟨a, cap, rfl, a, cap, rfl, h2⟩
theorem flat3 (a b c : List Nd) : [a, b, c].flatten = a ++ (b ++ c) := by simp
def ptup (D : Nat → Prop) (T : Nd) (b : Bool) : Post := fun v w β => ∃ l, v = .tuple #[.agg l.toArray, .bool b] ∧ NodeL (Off D w β) w l T
theorem KW_ptup (D : Nat → Prop) (T : Nd) (b : Bool) : KW (ptup D T b) := fun _ _ _ _ _ e h ⟨l, h1, h2⟩ => ⟨l, h1, (h2.ext e).dom (Off.mono e h)⟩
section
variable {P : Program} {ro : Option Nat} {all : Array Oper} {Q : Exit → Act → World → Prop} {N : Nat} {ds : List Deferred} {r : Reg} {w : World} {rest : List Oper}
  {ty : TypeId} {pos : String} {aft : Array Edge} {g : Option (Nat × Bool)}
theorem WL.cap {d : Nat} {t e : TypeId} {x : Operand} {a : Option Addr} {n c : Nat} (hw : want all r g = some true) (hd : Nat.blt d N = true) (ht : P.underlying t = some (.slice e)) (hx : ev r x = some (.slice a n c))
    (next : WL ro P all Q N ds rest ((d, .int .i64 c) :: r) w) : WL ro P all Q N ds (⟨some d, .call ⟨.builtin .cap, #[x], #[t]⟩, ty, pos, aft, g⟩ :: rest) r w :=
  WL.val hw hd (by intro c h; cases h) (fun a ha => by simp [execOp, resolve, invoke, builtin, ha.ev hx, Builtin.cap_, run_underlying ht, goInt]) next
theorem WL.appendZ {d : Nat} {t e tn : TypeId} {x y : Operand} {z : Value} {n : Nat} {k : IntKind} (hw : want all r g = some true) (hd : Nat.blt d N = true) (ht : sliceB P t e 8 = true) (hz : zeroB P e z) (hzs : z.cells.size = 8) (hby : smallB P e = true) (htn : P.underlying tn = some (.int .i64))
    (hx : ev r x = some (.slice none 0 0)) (hy : ev r y = some (.int k n)) (h0 : 0 < n) (hn : n ≤ 1000000000)
    (next : ∀ c w', Ext w w' → w'.heap.size = w.heap.size + 1 → OwnV e w.heap.size (fun _ => False) w' (.slice (some ⟨w.heap.size, 0, none⟩) 0 c) [] → n ≤ c → WL ro P all Q N ds rest ((d, .slice (some ⟨w.heap.size, 0, none⟩) n c) :: r) w') :
    WL ro P all Q N ds (⟨some d, .call ⟨.builtin .append, #[x, y], #[t, tn]⟩, ty, pos, aft, g⟩ :: rest) r w := by
  obtain ⟨hu, q, hq, hs⟩ := sliceB_u ht
  have hbt : q.bytes ≤ 128 := by unfold smallB at hby; rw [hq] at hby; simp at hby; exact hby.1
  have hzz : q.zero = some z := by unfold zeroB at hz; rw [hq] at hz; exact hz
  have hrun := run_append_nil_zeros (P := P) w t tn ty e q z k .i64 hu htn hq hzz n h0 (by omega) (by omega) (by have := Nat.mul_le_mul hn hbt; omega)
  have hbt2 : n * q.bytes ≤ 1000000000 * 128 := Nat.mul_le_mul hn hbt
  refine WL.val (v := .slice (some ⟨w.heap.size, 0, none⟩) n (grownCap w n 0 e)) (w' := w.drew.alloc (.cells (Builtin.zeroCells z.cells n ++ Builtin.zeroCells z.cells (grownCap w n 0 e - n)) e)) hw hd (by intro c h; cases h) (fun a ha => by simp [execOp, resolve, invoke, builtin, ha.ev hx, ha.ev hy, hrun]) (next (grownCap w n 0 e) _ ?_ ?_ ?_ ?_)
  · exact (Ext.drew w).trans (Ext.alloc _ _)
  · simp
  · refine ⟨[], ⟨rfl, .inr ⟨w.heap.size, grownCap w n 0 e, Builtin.zeroCells z.cells n ++ Builtin.zeroCells z.cells (grownCap w n 0 e - n), rfl, Nat.le_refl _, (MapKept.heap_alloc w.drew _).1, Nat.zero_le _, grownCap_le_maxLen w n 0 e (by simp only [maxLen]; omega), ?_, by simp⟩⟩, RowsL.nil _ _, by simp⟩
    have hge := grownCap_ge w n 0 e
    simp only [Array.size_append, size_zeroCells, hzs]
    omega
  · exact grownCap_ge w n 0 e
end
end Go.Proofs.Yteenegaadlhjdaa
namespace Go.Proofs.Yteenegaadlhjdaa
open Go.Proofs Go.RowKit
set_option maxRecDepth 20000 in
set_option maxHeartbeats 4000000 in
theorem grow_ok (w : World) (n : Nat) (hn : n ≤ 1000000000) :
  Calls Try.prog 66 #[.slice none 0 0, .int .i64 (n : Int)] w fun e w' => ∃ v, e = .returned v ∧ OwnV 30 w.heap.size (fun _ => False) w' v [] ∧ Ext w w' := by
 refine Calls.enter (args := [.slice none 0 0, .int .i64 (n : Int)]) Try.func66 rfl rfl rfl rfl ?_
 refine sq ?_
 refine asg ?_
 refine WL.dn ?_
 refine WC.seqk ?_
 refine sq ?_
 refine mv ?_
 refine WL.lss (b := false) rfl rfl rfl rfl (decide_eq_false (by omega)) ?_
 refine WL.dn ?_
 refine cF ?_
 refine WC.sk ?_
 refine WC.seqk ?_
 refine sq ?_
 refine mv ?_
 refine mv ?_
 refine WL.cap rfl rfl Try.underlying24 rfl ?_
 refine mv ?_
 refine WL.len rfl rfl Try.underlying24 rfl ?_
 refine WL.sub (v := 0) rfl rfl rfl rfl (IntWalk.i64_in _ (by omega)) ?_
 refine WL.sub (v := (n : Int)) rfl rfl rfl rfl (by rw [IntWalk.i64_in _ (by omega)]; omega) ?_
 refine asg ?_
 refine WL.dn ?_
 refine WC.seqk ?_
 refine WC.weaken (r' := [(0, .slice none 0 0), (1, .int .i64 (n : Int)), (4, .slice none 0 0), (6, .bool false)]) (s4 (subReg_nil _)) ?_
 refine WC.region ?_
 refine mv ?_
 cases hc1 : decide ((0 : Int) < (n : Int)) with
 | false =>
  refine WL.gtr rfl rfl rfl rfl hc1 ?_
  have hp1 := of_decide_eq_false hc1
  refine WL.dn ?_
  refine cF ?_
  refine WC.sk ?_
  refine sq ?_
  refine mv ?_
  refine asg ?_
  refine WL.dn ?_
  refine WC.ret (fun a_ ha => ?_)
  exact bodyPost_tmp rfl ha rfl ⟨_, rfl, OwnV.nil _ _ _ _, (Ext.refl _)⟩
 | true =>
  refine WL.gtr rfl rfl rfl rfl hc1 ?_
  have hp1 := of_decide_eq_true hc1
  refine WL.dn ?_
  refine cT ?_
  refine WC.region ?_
  refine mv ?_
  refine mv ?_
  refine WL.cap rfl rfl Try.underlying24 rfl ?_
  refine WL.slice_h (m := 0) rfl rfl Ty.slice24 rfl rfl rfl (Nat.zero_le _) ?_
  refine mv ?_
  refine WL.appendZ rfl rfl Ty.slice24 Ty.zero30 rfl small_node Try.underlying3 rfl rfl (by omega) (by omega) ?_
  intro c2 w2 hE2 hs2 hO2 hc2
  refine mv ?_
  refine WL.len rfl rfl Try.underlying24 rfl ?_
  refine WL.slice_h (m := 0) rfl rfl Ty.slice24 rfl rfl rfl (Nat.zero_le _) ?_
  refine asg ?_
  refine WL.dn ?_
  refine WC.seqk ?_
  refine WC.weaken (r' := [(0, .slice (some ⟨w.heap.size, 0, none⟩) 0 c2), (4, .slice none 0 0), (6, .bool false), (16, .bool true)]) (s4 (subReg_nil _)) ?_
  refine WC.region ?_
  refine mv ?_
  refine asg ?_
  refine WL.dn ?_
  refine WC.ret (fun a_ ha => ?_)
  exact bodyPost_tmp rfl ha rfl ⟨_, rfl, hO2, hE2⟩
set_option maxRecDepth 20000 in
set_option maxHeartbeats 4000000 in
theorem concat_ok (D : Nat → Prop) (w : World) (a : Option Addr) (cap : Nat) (lss : List (List Nd)) (hts : NLists D w (.slice a lss.length cap) lss) (hle : lss.flatten.length ≤ 1000000000) :
  Calls Try.prog 57 #[.slice a lss.length cap] w fun e w' => ∃ v, e = .returned v ∧ OwnV 30 w.heap.size D w' v lss.flatten ∧ Ext w w' := by
 have hlen := hts.len
 have hts := hts.lt
 have hD : ∀ k, (D k ∧ k < w.heap.size) → k < w.heap.size := fun k h => h.2
 refine Calls.enter (args := [.slice a lss.length cap]) Try.func57 rfl rfl rfl rfl ?_
 refine sq ?_
 refine asg ?_
 refine WL.dn ?_
 refine sq ?_
 refine asg ?_
 refine WL.dn ?_
 refine WC.seqk ?_
 refine sq ?_
 refine mv ?_
 refine WL.len rfl rfl Try.underlying37 rfl ?_
 refine mv ?_
 refine WL.dn ?_
 refine WC.block ?_
 refine WC.weaken (r' := [(0, .slice a lss.length cap), (3, .int .i64 0), (9, .slice a lss.length cap), (10, .int .i64 lss.length), (11, .int .i64 0)]) (s4 (sr rfl (subReg_nil _))) ?_
 refine WC.loop (σ := Nat) (fun k r_ w_ => r_ = [(0, .slice a lss.length cap), (3, .int .i64 ((lss.take k).flatten.length : Int)), (9, .slice a lss.length cap), (10, .int .i64 lss.length), (11, .int .i64 (k : Int))] ∧ Ext w w_ ∧ k ≤ lss.length) (fun k => lss.length - k) 0 ⟨rfl, (Ext.refl _), Nat.zero_le _⟩ ?_
 rintro k r_ w3 ⟨rfl, hE1, hI2⟩
 have hzhE1 := hE1.size
 have hk := hI2
 refine sq ?_
 cases hc4 : decide (((k : Int) : Int) < lss.length) with
 | false =>
  refine WL.lss rfl rfl rfl rfl hc4 ?_
  have hp4 := of_decide_eq_false hc4
  refine WL.dn ?_
  refine WC.seqk ?_
  refine cF ?_
  refine WC.exit (fun a_ ha => ?_)
  refine exit_then ?_
  refine exit_then ?_
  refine exit_here ?_
  refine WC.at ?_ ha
  refine sq ?_
  refine mv ?_
  refine WL.call rfl rfl rfl Ty.ent66 (grow_ok _ _ (by have h1 := nls_le lss k; omega)) ?_
  rintro _ w7 ⟨v5, rfl, hO5, hE6⟩
  have hzhE6 := hE6.size
  refine ⟨_, rfl, ?_⟩
  refine asg ?_
  refine WL.dn ?_
  refine WC.seqk ?_
  refine sq ?_
  refine mv ?_
  refine WL.len rfl rfl Try.underlying37 rfl ?_
  refine mv ?_
  refine WL.dn ?_
  refine WC.block ?_
  clear hk
  refine WC.weaken (r' := [(0, .slice a lss.length cap), (25, .slice a lss.length cap), (26, .int .i64 lss.length), (27, .int .i64 0), (6, v5)]) (s4 (sr rfl (subReg_nil _))) ?_
  refine WC.loop (σ := Nat × Value) (fun s r_ w_ => r_ = [(0, .slice a lss.length cap), (25, .slice a lss.length cap), (26, .int .i64 lss.length), (27, .int .i64 (s.1 : Int)), (6, s.2)] ∧ Ext w w_ ∧ (s.1 ≤ lss.length ∧ OwnV 30 w.heap.size (fun k => D k ∧ k < w.heap.size) w_ s.2 (lss.take s.1).flatten)) (fun s => lss.length - s.1) (0, v5) ⟨rfl, (hE1.trans hE6), ⟨Nat.zero_le _, (hO5.rebase (by omega)).dom (fun _ h _ _ => h.elim)⟩⟩ ?_
  rintro ⟨j, v⟩ r_ w10 ⟨rfl, hE8, hI9⟩
  have hzhE8 := hE8.size
  dsimp only at hI9
  obtain ⟨hk, hO⟩ := hI9
  have hol := hO.own
  refine WC.weaken (r' := [(0, .slice a lss.length cap), (25, .slice a lss.length cap), (26, .int .i64 lss.length), (27, .int .i64 (j : Int)), (6, v)]) (s4 (sr rfl (subReg_nil _))) ?_
  refine sq ?_
  cases hc11 : decide (((j : Int) : Int) < lss.length) with
  | false =>
   refine WL.lss rfl rfl rfl rfl hc11 ?_
   have hp11 := of_decide_eq_false hc11
   refine WL.dn ?_
   refine WC.seqk ?_
   refine cF ?_
   refine WC.exit (fun a_ ha => ?_)
   refine exit_then ?_
   refine exit_then ?_
   refine exit_here ?_
   refine WC.at ?_ ha
   refine sq ?_
   refine mv ?_
   refine asg ?_
   refine WL.dn ?_
   refine WC.ret (fun a_ ha => ?_)
   exact bodyPost_tmp rfl ha rfl ⟨_, rfl, (by have hkk : j = lss.length := (by omega); have hq := hO; subst hkk; rw [List.take_length] at hq; exact hq.dom (fun _ h _ _ => h.1)), hE8⟩
  | true =>
   refine WL.lss rfl rfl rfl rfl hc11 ?_
   have hp11 := of_decide_eq_true hc11
   refine WL.dn ?_
   refine WC.seqk ?_
   refine cT ?_
   refine WC.sk ?_
   refine WC.seqk ?_
   refine WC.block ?_
   refine sq ?_
   obtain ⟨ts12, ht12⟩ : ∃ t, lss[j]? = some t := ⟨_, List.getElem?_eq_getElem (by omega)⟩
   obtain ⟨eb12, eo12, ai12, ci12, hea12, hD12, hc12, hts12⟩ := (hts.ext hE8).at ht12
   subst hea12
   have hts12 := hts12.lt
   refine WL.indexAddr (i := j) rfl rfl Ty.slice37 rfl rfl rfl (by omega) ?_
   refine WL.load_flat rfl rfl Ty.flat24 rfl hc12 ?_
   refine asg ?_
   refine WL.dn ?_
   refine WC.region ?_
   refine mv ?_
   refine mv ?_
   have hol13 := hO.own
   refine WL.appendV rfl rfl Ty.slice24 Ty.zero30 rfl small_node rfl rfl hO hts12 (by intro k h1 hh; have := hol13 _ hh; have := hol _ hh; first | omega | ((try dsimp only at h1); (repeat' first | (guard_hyp h1 : _ ∨ _; refine Or.elim h1 (fun h1 => ?_) (fun h1 => ?_)) | (guard_hyp h1 : _ ∧ _; have hx := h1.2; replace h1 := h1.1)) <;> first | contradiction | omega)) (by have h1 := nls_len ht12; have h2 := nls_le lss (j + 1); omega) (by omega) ?_
   intro v13 w13 hG13 hO13 hv13
   have hE13 := grown_below hG13 hE8 (by intro k hk; have := hol13 _ hk; omega)
   have hz13 := hE13.size
   have hzz13 := hG13.size
   refine asg ?_
   refine WL.dn ?_
   refine WC.region ?_
   refine WL.add (v := (j : Int) + 1) rfl rfl rfl rfl (IntWalk.i64_in _ (by omega)) ?_
   refine mv ?_
   refine WL.nil (fun a_ ha => ?_)
   exact ⟨(j + 1, v13), _, ha.weaken (s4 (sr rfl (subReg_nil _))), ⟨rfl, hE13, ⟨by first | omega | (dsimp only; omega), (by dsimp only; rw [nls_succ ht12]; exact hO13.dom (by rintro k h _ _; rcases h with h | h; exact h; exact ⟨h.1.1, by omega⟩))⟩⟩, by first | omega | (dsimp only; omega)⟩
 | true =>
  refine WL.lss rfl rfl rfl rfl hc4 ?_
  have hp4 := of_decide_eq_true hc4
  refine WL.dn ?_
  refine WC.seqk ?_
  refine cT ?_
  refine WC.sk ?_
  refine WC.seqk ?_
  refine WC.block ?_
  refine sq ?_
  obtain ⟨ts5, ht5⟩ : ∃ t, lss[k]? = some t := ⟨_, List.getElem?_eq_getElem (by omega)⟩
  obtain ⟨eb5, eo5, ai5, ci5, hea5, hD5, hc5, hts5⟩ := (hts.ext hE1).at ht5
  subst hea5
  have hts5 := hts5.lt
  refine WL.indexAddr (i := k) rfl rfl Ty.slice37 rfl rfl rfl (by omega) ?_
  refine WL.load_flat rfl rfl Ty.flat24 rfl hc5 ?_
  refine asg ?_
  refine WL.dn ?_
  refine sq ?_
  refine mv ?_
  refine mv ?_
  refine WL.len rfl rfl Try.underlying24 rfl ?_
  refine WL.add (v := ((lss.take (k + 1)).flatten.length : Int)) rfl rfl rfl rfl (by have h1 := nls_len ht5; have h2 := nls_le lss (k + 1); rw [IntWalk.i64_in _ (by omega)]; omega) ?_
  refine asg ?_
  refine WL.dn ?_
  refine sq ?_
  refine mv ?_
  refine WL.lss (b := false) rfl rfl rfl rfl (decide_eq_false (by omega)) ?_
  refine WL.dn ?_
  refine cF ?_
  refine WC.sk ?_
  refine WC.region ?_
  refine WL.add (v := (k : Int) + 1) rfl rfl rfl rfl (IntWalk.i64_in _ (by omega)) ?_
  refine mv ?_
  refine WL.nil (fun a_ ha => ?_)
  exact ⟨k + 1, _, ha.weaken (s4 (sr rfl (subReg_nil _))), ⟨rfl, hE1, by omega⟩, by first | omega | (dsimp only; omega)⟩
end Go.Proofs.Yteenegaadlhjdaa
namespace Go.Proofs.Yteenegaadlhjdaa
namespace Nd
theorem good_cases {t : Nd} (h : t.good = true) : t = none ∨ t.clean = true := by
  unfold good at h
  simp only [Bool.or_eq_true] at h
  exact h.imp (fun h => (same_iff _ _).1 h) id
theorem good_nice {t : Nd} (h : t.good = true) (hk : t.kind ≠ 0) : t.nice = true := by
  rcases good_cases h with rfl | h
  · exact absurd rfl hk
  · exact ((clean_iff t).1 h).2
theorem checked_good (t : Nd) : t.checked.good = true := by
  unfold checked
  cases h : t.clean
  · exact (by decide : none.good = true)
  · simp only [cond_true]; unfold good; rw [h]; simp
theorem checked_sz (t : Nd) : t.checked.size ≤ t.size := by
  unfold checked
  cases h : t.clean
  · exact size_pos t
  · exact Nat.le_refl _
theorem joined_sz (kd : Int) (l : List Nd) {e : Nd} (he : e.size = 1) : (joined kd l e).size ≤ 1 + sizeL l := by
  unfold joined
  cases h0 : ((l.length : Int) == 0)
  · cases h1 : ((l.length : Int) == 1)
    · exact Nat.le_trans (checked_sz _) (Nat.le_refl _)
    · simp only [cond_true, cond_false]
      refine Nat.le_trans (checked_sz _) ?_
      cases l with
      | nil => exact (by decide : (1 : Nat) ≤ 1 + 0)
      | cons x l => simp [sizeL]; omega
  · simp only [cond_true]; omega
theorem joined_good (kd : Int) (l : List Nd) {e : Nd} (he : e.good = true) : (joined kd l e).good = true := by
  unfold joined
  cases h0 : ((l.length : Int) == 0)
  · cases h1 : ((l.length : Int) == 1)
    · exact checked_good _
    · exact checked_good _
  · exact he
theorem seq_sz (l : List Nd) : (seq l).size ≤ 1 + sizeL l := by
  unfold seq
  cases h : l.any bad0
  · exact Nat.le_trans (joined_sz 3 _ (e := empty) (by decide)) (by have := flat_size 3 1 l; omega)
  · exact (by show 1 ≤ _; omega)
theorem seq_good (l : List Nd) : (seq l).good = true := by
  unfold seq
  cases h : l.any bad0
  · exact joined_good 3 _ (by decide)
  · exact (by decide : none.good = true)
theorem or_sz (l : List Nd) : (or l).size ≤ 1 + sizeL l := by
  unfold or
  cases h : l.any (fun x => !x.good)
  · exact Nat.le_trans (joined_sz 4 _ (e := none) (by decide)) (by have := flat_size 4 0 l; omega)
  · exact (by show 1 ≤ _; omega)
theorem or_good (l : List Nd) : (or l).good = true := by
  unfold or
  cases h : l.any (fun x => !x.good)
  · exact joined_good 4 _ (by decide)
  · exact (by decide : none.good = true)
theorem cond_p {α : Type} (p : α → Prop) {c : Bool} {a b : α} (ha : p a) (hb : p b) : p (bif c then a else b) := by
  cases c
  · exact hb
  · exact ha
theorem times_sz (n : Nd) (mn mx : Int) : (times n mn mx).size ≤ 1 + n.size := by
  have h1 : none.size ≤ 1 + n.size := by show 1 ≤ _; omega
  have h2 : empty.size ≤ 1 + n.size := by show 1 ≤ _; omega
  have h3 : (mk 5 zero mn mx [n]).checked.size ≤ 1 + n.size := Nat.le_trans (checked_sz _) (by simp [size, sizeL])
  unfold times
  dsimp only
  let p : Nd → Prop := fun t => t.size ≤ 1 + n.size
  exact cond_p p h1 (cond_p p h1 (cond_p p h2 (cond_p p (Nat.le_add_left _ _) h3)))
theorem sub0_sz (x : Nd) : (sub0 x).size ≤ x.size := by
  unfold sub0
  cases h : x.subs[0]? with
  | none => exact size_pos x
  | some t => have := size_le_sizeL (List.mem_of_getElem? h); have := size_subs x; simp only [Option.getD_some]; omega
theorem timesN_sz (x : Nd) (b : Bd) : (timesN x b).size ≤ 1 + x.size := by
  unfold timesN timesB
  have h1 := fun mn mx => times_sz x mn mx
  have h2 := fun mn mx => times_sz (sub0 x) mn mx
  have h3 := sub0_sz x
  let p : Nd → Prop := fun t => t.size ≤ 1 + x.size
  exact cond_p p (h1 _ _) (cond_p p (Nat.le_add_left _ _) (cond_p p (Nat.le_trans (h2 _ _) (by omega)) (cond_p p (h1 _ _) (h1 _ _))))
theorem Same2_eq {a b : Nd} (h : Same2 a b = true) : a = b := by
  unfold Same2 at h
  simp only [Bool.and_eq_true] at h
  exact (same_iff _ _).1 h.2
theorem isStar_sz {n f : Nd} (hn : n.nice = true) (h : isStar n f = true) : f.size + 1 ≤ n.size := by
  unfold isStar at h
  simp only [Bool.and_eq_true, beq_iff_eq] at h
  have h5 := right_five (nice_right hn) h.1.1
  have he := Same2_eq h.2
  have hs := size_subs n
  obtain ⟨t, ht⟩ : ∃ t, n.subs[0]? = some t := ⟨_, List.getElem?_eq_getElem (by omega)⟩
  have := sub0_at ht
  have := size_le_sizeL (List.mem_of_getElem? ht)
  rw [← he, ‹sub0 n = t›]; omega
theorem merged_sz {x y o : Nd} (hx : x.nice = true) (hy : y.nice = true) (h : merged x y = some o) : o.size < x.size + y.size := by
  unfold merged at h
  have px := size_pos x
  have py := size_pos y
  cases h1 : (!x.plain || !y.plain) <;> rw [h1] at h <;> simp only [cond_true, cond_false] at h
  · cases h2 : isStar y x <;> rw [h2] at h <;> simp only [cond_true, cond_false] at h
    · cases h3 : isStar x y <;> rw [h3] at h <;> simp only [cond_true, cond_false] at h
      · revert h
        generalize (Same2 x y && (x.kind == 5) && (bof x == star)) = b
        cases b <;> intro h
        · simp at h
        · simp at h; subst h; omega
      · cases h; have := isStar_sz hx h3; have := timesN_sz y plus; omega
    · cases h; have := isStar_sz hy h2; have := timesN_sz x plus; omega
  · simp at h
theorem three_two {t : Nd} (h : t.right = true) (hk : t.kind = 3) : 1 < t.subs.length := by
  obtain ⟨k, s, mn, mx, ts⟩ := t
  simp only [kind] at hk
  subst hk
  simp only [right, kind, set, least, most, subs] at h ⊢
  simp at h
  have := of_decide_eq_true h.2.1.1; omega
def mstep : List Nd → Option (List Nd)
  | x :: y :: r => match merged x y with
    | some m => some (m :: r)
    | .none => (mstep (y :: r)).map (x :: ·)
  | _ => .none
theorem mstep_at {l : List Nd} {i : Nat} {x y : Nd} (hx : l[i]? = some x) (hy : l[i + 1]? = some y) (hs : (merged x y).isSome = true)
    (hn : ∀ (j : Nat) (a b : Nd), j < i → l[j]? = some a → l[j + 1]? = some b → (merged a b).isSome = false) : mstep l = some (l.take i ++ ([(merged x y).getD none] ++ l.drop (i + 2))) := by
  induction i generalizing l with
  | zero =>
    match l, hx, hy with
    | a :: b :: r, hx, hy =>
      simp at hx hy; subst hx; subst hy
      obtain ⟨m, hm⟩ := Option.isSome_iff_exists.1 hs
      simp [mstep, hm]
  | succ i ih =>
    match l, hx, hy with
    | a :: b :: r, hx, hy =>
      have h0 := hn 0 a b (by omega) rfl rfl
      have hm : merged a b = .none := by cases h : merged a b; rfl; rw [h] at h0; cases h0
      have := ih (l := b :: r) (by simpa using hx) (by simpa using hy) (fun j p q hj hp hq => hn (j + 1) p q (by omega) (by simpa using hp) (by simpa using hq))
      simp only [mstep, hm, this]
      simp
theorem mstep_not {l : List Nd} (hn : ∀ (j : Nat) (a b : Nd), l[j]? = some a → l[j + 1]? = some b → (merged a b).isSome = false) : mstep l = .none := by
  induction l with
  | nil => rfl
  | cons a l ih =>
    cases l with
    | nil => rfl
    | cons b r =>
      have h0 := hn 0 a b rfl rfl
      have hm : merged a b = .none := by cases h : merged a b; rfl; rw [h] at h0; cases h0
      simp only [mstep, hm, ih (fun j p q hp hq => hn (j + 1) p q (by simpa using hp) (by simpa using hq))]
      rfl
theorem mstep_sz {l l' : List Nd} (hl : ∀ t ∈ l, t.nice = true) (h : mstep l = some l') : sizeL l' < sizeL l := by
  induction l generalizing l' with
  | nil => simp [mstep] at h
  | cons a l ih =>
    cases l with
    | nil => simp [mstep] at h
    | cons b r =>
      simp only [mstep] at h
      cases hm : merged a b with
      | some m => rw [hm] at h; simp only [Option.some.injEq] at h; subst h; have := merged_sz (hl a (by simp)) (hl b (by simp)) hm; simp only [sizeL]; omega
      | none =>
        rw [hm] at h
        simp only [Option.map_eq_some_iff] at h
        obtain ⟨q, hq, rfl⟩ := h
        have := ih (fun t ht => hl t (by simp [ht])) hq
        simp only [sizeL] at this ⊢; omega
def catF (n : Nd) : Nd :=
  if hk : n.kind = 3 ∧ n.nice = true then
    match hm : mstep n.subs with
    | .none => n
    | some l => catF (seq l)
  else n
termination_by n.size
decreasing_by
  have h1 := mstep_sz (fun t ht => nice_subs hk.2 ht) hm
  have h2 := seq_sz l
  have h3 := size_subs n
  omega
def cat (l : List Nd) : Nd := catF (seq l)
theorem catF_some {n : Nd} {l : List Nd} (hk : n.kind = 3) (hn : n.nice = true) (hm : mstep n.subs = some l) : catF n = catF (seq l) := by
  rw [catF, dif_pos ⟨hk, hn⟩]
  split
  · rename_i h; rw [hm] at h; cases h
  · rename_i h; rw [hm] at h; cases h; rfl
theorem catF_none {n : Nd} (hm : mstep n.subs = .none) : catF n = n := by
  rw [catF]
  split
  · split
    · rfl
    · rename_i h; rw [hm] at h; cases h
  · rfl
theorem catF_not {n : Nd} (hk : n.kind ≠ 3) : catF n = n := by
  rw [catF, dif_neg (fun h => hk h.1)]
theorem catF_sz (n : Nd) : (catF n).size ≤ n.size := by
  induction hs : n.size using Nat.strongRecOn generalizing n with
  | _ s ih =>
    by_cases hk : n.kind = 3 ∧ n.nice = true
    · cases hm : mstep n.subs with
      | none => rw [catF_none hm]; omega
      | some l =>
        rw [catF_some hk.1 hk.2 hm]
        have h1 := mstep_sz (fun t ht => nice_subs hk.2 ht) hm
        have h2 := seq_sz l
        have h3 := size_subs n
        have := ih (seq l).size (by omega) (seq l) rfl
        omega
    · rw [catF, dif_neg hk]; omega
theorem cat_sz (l : List Nd) : (cat l).size ≤ 1 + sizeL l := Nat.le_trans (catF_sz _) (seq_sz l)
def capStep (acc : List Nd) (x : Nd) : List Nd := bif !x.plain || !(acc.any fun m => Same2 x m) then acc ++ [x] else acc
def capL (l : List Nd) : List Nd := l.foldl capStep []
def captured (l : List Nd) : Nd := or (capL l)
theorem capL_succ {l : List Nd} {k : Nat} {t : Nd} (h : l[k]? = some t) : capL (l.take (k + 1)) = capStep (capL (l.take k)) t := by
  unfold capL
  rw [List.take_add_one, h, Option.toList_some, List.foldl_append]; rfl
theorem capStep_len (acc : List Nd) (x : Nd) : (capStep acc x).length ≤ acc.length + 1 := by
  unfold capStep
  exact cond_p (fun z : List Nd => z.length ≤ acc.length + 1) (by simp) (by omega)
theorem foldl_cap_len (l : List Nd) : ∀ acc, (l.foldl capStep acc).length ≤ acc.length + l.length := by
  induction l with
  | nil => intro acc; simp
  | cons x l ih => intro acc; have := ih (capStep acc x); have := capStep_len acc x; simp only [List.foldl_cons, List.length_cons]; omega
theorem capL_len (l : List Nd) : (capL l).length ≤ l.length := by have := foldl_cap_len l []; simpa [capL] using this
theorem foldl_cap_sz (l : List Nd) : ∀ acc, sizeL (l.foldl capStep acc) ≤ sizeL acc + sizeL l := by
  induction l with
  | nil => intro acc; simp [sizeL]
  | cons x l ih =>
    intro acc
    have h1 := ih (capStep acc x)
    have h2 : sizeL (capStep acc x) ≤ sizeL acc + x.size := by
      unfold capStep
      exact cond_p (fun z : List Nd => sizeL z ≤ sizeL acc + x.size) (by rw [sizeL_append]; simp [sizeL]) (by omega)
    simp only [List.foldl_cons, sizeL]; omega
theorem captured_sz (l : List Nd) : (captured l).size ≤ 1 + sizeL l := Nat.le_trans (or_sz _) (by have := foldl_cap_sz l []; simp only [sizeL] at this; unfold capL; omega)
end Nd
end Go.Proofs.Yteenegaadlhjdaa
namespace Go.Proofs.Yteenegaadlhjdaa
open Go.RowKit
def forcedB (ops : Array Oper) : Array Bool → List Nat → Bool
  | listed, [] => Region.ready .any ops listed == []
  | listed, j :: js => (Region.ready .any ops listed == [j]) && forcedB ops (listed.setIfInBounds j true) js
def drawLB (ops : Array Oper) (m1 : Nat) (ds : List Nat) (lt : Nat) (js : List Nat) : Bool :=
  Nat.ble (m1 + 1) ops.size && Nat.blt lt m1 && js.length == ops.size - m1 - 1 && ds.length == m1 && ds.eraseDups.length == m1 &&
  ((List.range ops.size).all fun i => match ops[i]? with
    | some o => o.after.all (fun e => !Region.binds .any e || Nat.blt e.on i) &&
      (bif Nat.blt i m1 then o.dst == ds[i]? else (List.range m1).all fun j => (i == m1 && j == lt) || reachB ops 3 i j)
    | none => false) &&
  ((List.range (ops.size - m1)).all fun j => Region.ready .any ops (upTo ops.size (m1 + j)) == [m1 + j]) &&
  forcedB ops (((upTo ops.size m1).setIfInBounds lt false).setIfInBounds m1 true) (lt :: js)
section
variable {ro : Option Nat} {P : Program} {Q : Exit → Act → World → Prop} {N : Nat} {ds : List Deferred} {r : Reg} {w : World}
theorem any_forced {l : List Oper} : ∀ (js : List Nat) (ops : List Oper) (listed : Array Bool) (a : Act) (w : World), forcedB l.toArray listed js = true → js.map (fun j => l[j]?) = ops.map some →
    wpListIn (Wd ro) 0 P l.toArray Q ops a w → wpAnyIn (Wd ro) 0 P .any l.toArray Q js.length listed a w := by
  intro js
  induction js with
  | nil =>
    intro ops listed a w hf hj h
    cases ops with
    | cons o ops => simp at hj
    | nil => exact ⟨by simpa [forcedB] using hf, h⟩
  | cons j js ih =>
    intro ops listed a w hf hj h
    cases ops with
    | nil => simp at hj
    | cons o ops =>
      simp only [List.map_cons, List.cons.injEq] at hj
      simp only [forcedB, Bool.and_eq_true, beq_iff_eq] at hf
      show wpAnyIn (Wd ro) 0 P .any l.toArray Q (js.length + 1) listed a w
      refine ⟨(fun h0 => by rw [hf.1] at h0; cases h0), fun i hi => ?_⟩
      rw [hf.1] at hi
      have : i = j := by simpa using hi
      subst this
      refine wpOpIn_mono (K := fun a w => wpListIn (Wd ro) 0 P l.toArray Q ops a w) (fun a w h => ?_) ?_
      · exact ih ops _ a w hf.2 hj.2 h
      · unfold wpOpIn
        simp only [show l.toArray[i]? = some o by simpa using hj.1]
        exact h
theorem WC.drawL {id : Nat} {l : List Oper} (m1 : Nat) (dl : List Nat) (posts : List Post) (lt : Nat) (js : List Nat) (om ol : Oper) (hom : l[m1]? = some om) (hjs : (lt :: js).map (fun j => l[j]?) = (ol :: l.drop (m1 + 1)).map some) (hB : drawLB l.toArray m1 dl lt js = true) (hf : P.follows .mixedOrders = true)
    (hps : KWs posts) (hpl : posts.length = m1)
    (hr : dl.all (fun d => (look r d).isNone) = true) (hN : dl.all (fun d => Nat.blt d N) = true)
    (steps : StepsOn (fun o d p => ∀ (σ : Reg) (β : Boxes) w', Ext w w' → BInv w w' β →
      (∀ j, (o.after.any fun e => e.on == j && Region.binds .any e) = true → Known dl posts σ w' β j) →
      ∃ κ, agree κ (r ++ σ) ∧ WL ro P l.toArray (Exit.then (fun a2 w2 => ∃ v β', Fits N ds ((d, v) :: (κ ++ (r ++ σ))) a2 ∧ Ext w' w2 ∧ BExt w' β β' ∧ BInv w w2 β' ∧ p v w2 β') Q) N ds [o] (κ ++ (r ++ σ)) w') l dl posts)
    (fin : ∀ (σ : Reg) (β : Boxes) w', Ext w w' → BInv w w' β → (∀ j, j < m1 → Known dl posts σ w' β j) → WL ro P l.toArray Q N ds (l.drop m1) (r ++ σ) w')
    (fin2 : ∀ (σ : Reg) (β : Boxes) w', Ext w w' → BInv w w' β → (∀ j, j < m1 → (j == lt) = false → Known dl posts σ w' β j) → WL ro P l.toArray Q N ds (om :: ol :: l.drop (m1 + 1)) (r ++ σ) w') :
    WC ro P Q N ds (.region id l.toArray true) r w := by
  intro a ha
  have step := steps.get
  have hp := hps.get
  simp only [drawLB, Bool.and_eq_true, List.all_eq_true, beq_iff_eq] at hB
  obtain ⟨⟨⟨⟨⟨⟨⟨hm1, hlt1⟩, hjl⟩, hdl⟩, hnd0⟩, hops⟩, hseq⟩, hforced⟩ := hB
  have hm11 : m1 + 1 ≤ l.length := by simpa using Nat.le_of_ble_eq_true hm1
  have hlt1 : lt < m1 := by simpa using hlt1
  have hm1 : m1 ≤ l.length := by omega
  have hnd : ∀ i j d : Nat, dl[i]? = some d → dl[j]? = some d → i = j := by
    have key : ∀ (q : List Nat), q.eraseDups.length = q.length → q.Nodup := by
      intro q
      induction q with
      | nil => intro _; simp
      | cons x q ih =>
        intro h
        rw [List.eraseDups_cons] at h
        simp only [List.length_cons] at h
        have h1 : (q.filter fun b => !b == x).eraseDups.length ≤ (q.filter fun b => !b == x).length := by
          have : ∀ (n : Nat) (z : List Nat), z.length ≤ n → z.eraseDups.length ≤ z.length := by
            intro n
            induction n with
            | zero => intro z hz; have : z = [] := List.eq_nil_of_length_eq_zero (by omega); subst this; simp
            | succ n ihn =>
              intro z hz
              cases z with
              | nil => simp
              | cons y z =>
                rw [List.eraseDups_cons]
                have h2 := List.length_filter_le (fun b => !b == y) z
                have := ihn (z.filter fun b => !b == y) (by simp at hz; omega)
                simp only [List.length_cons]; omega
          exact this _ _ (Nat.le_refl _)
        have h2 := List.length_filter_le (fun b => !b == x) q
        have h3 : (q.filter fun b => !b == x).length = q.length := by omega
        have h4 : q.filter (fun b => !b == x) = q := List.filter_eq_self.2 (List.length_filter_eq_length_iff.1 h3)
        refine List.nodup_cons.2 ⟨fun hm => ?_, ih (by rw [h4] at h; omega)⟩
        have := List.length_filter_eq_length_iff.1 h3 x hm
        simp at this
    have hq := key dl (by rw [hnd0, hdl])
    intro i j d hi hj
    exact (List.getElem?_inj (List.getElem?_eq_some_iff.1 hi).1 hq).1 (hi.trans hj.symm)
  have hdst : ∀ i, i < m1 → ∃ o d, l[i]? = some o ∧ o.dst = some d ∧ dl[i]? = some d := by
    intro i hi
    have h := hops i (by simp; omega)
    have ho : l.toArray[i]? = some l[i] := by simp
    rw [ho] at h
    simp only [Bool.and_eq_true] at h
    have hb : Nat.blt i m1 = true := by simpa using hi
    rw [hb] at h
    have h2 := h.2
    simp only [cond_true, beq_iff_eq] at h2
    have : i < dl.length := by omega
    refine ⟨l[i], dl[i], by simp, by rw [h2]; simp, by simp⟩
  refine wpIn_region_any hf ?_
  have hw1 : Ext w { w with drawn := w.drawn + 1 } := Ext.drew w
  have main : ∀ (fuel : Nat) (listed : Array Bool) (a : Act) (w' : World), listed.size = l.length → (listed.toList.filter fun b => !b).length = fuel →
      (∀ i, m1 ≤ i → i < l.length → listed.getD i true = false) → (∀ (i : Nat) (o : Oper), listed.getD i false = true → l.toArray[i]? = some o → ∀ e ∈ o.after, Region.binds .any e = true → listed.getD e.on false = true) → (∃ σ β, Fits N ds (r ++ σ) a ∧ BInv w w' β ∧ ∀ i, listed.getD i false = true → Known dl posts σ w' β i) → Ext w w' →
      wpAnyIn (Wd ro) 0 P .any l.toArray Q fuel listed a w' := by
    intro fuel
    induction fuel with
    | zero =>
      intro listed a w' hsz hfu hsuf hcl ⟨σ, β, hfit, hbi, hpo⟩ hE
      have hall : ∀ i, i < l.length → listed.getD i false = true := by
        intro i hi
        have hmem : listed[i]'(by omega) ∈ listed.toList := by simp
        have hnil : listed.toList.filter (fun b => !b) = [] := List.eq_nil_of_length_eq_zero hfu
        have := List.filter_eq_nil_iff.1 hnil _ hmem
        have hlt : i < listed.size := by omega
        simp only [Array.getD_eq_getD_getElem?, Array.getElem?_eq_getElem hlt, Option.getD_some]
        simpa using this
      have hm : m1 = l.length := by
        rcases Nat.lt_or_ge m1 l.length with h | h
        · have h1 := hsuf m1 (Nat.le_refl _) h
          have h2 := hall m1 h
          have hlt : m1 < listed.size := by omega
          simp only [Array.getD_eq_getD_getElem?, Array.getElem?_eq_getElem hlt, Option.getD_some] at h1 h2
          rw [h1] at h2; cases h2
        · omega
      have hf := fin σ β w' hE hbi (fun i hi => hpo i (hall i (by omega))) a hfit
      rw [List.drop_of_length_le (by omega)] at hf
      refine ⟨?_, hf⟩
      apply List.eq_nil_iff_forall_not_mem.2
      intro i hi
      rw [mem_ready] at hi
      obtain ⟨h1, o, ho, _⟩ := hi
      have hlt : i < l.length := by simpa using (Array.getElem?_eq_some_iff.1 ho).1
      have h2 := hall i hlt
      have hlt' : i < listed.size := by omega
      simp only [Array.getD_eq_getD_getElem?, Array.getElem?_eq_getElem hlt', Option.getD_some] at h1 h2
      rw [h1] at h2; cases h2
    | succ fuel ih =>
      intro listed a w' hsz hfu hsuf hcl ⟨σ, β, hfit, hbi, hpo⟩ hE
      by_cases hdone : ∀ i, i < m1 → listed.getD i false = true
      · -- the first part is over
        have hl : listed = upTo l.length m1 := by
          apply Array.ext_getElem?
          intro i
          by_cases hi : i < l.length
          · have hlt : i < listed.size := by omega
            rw [Array.getElem?_eq_getElem hlt]
            have hu : (upTo l.length m1)[i]? = some (Nat.blt i m1) := by simp [upTo, hi]
            rw [hu]
            rcases Nat.lt_or_ge i m1 with h | h
            · have := hdone i h
              simp only [Array.getD_eq_getD_getElem?, Array.getElem?_eq_getElem hlt, Option.getD_some] at this
              rw [this]; simp; exact h
            · have := hsuf i h hi
              simp only [Array.getD_eq_getD_getElem?, Array.getElem?_eq_getElem hlt, Option.getD_some] at this
              rw [this]; congr 1; symm; rw [Bool.eq_false_iff]; simp; omega
          · rw [Array.getElem?_eq_none (by omega), Array.getElem?_eq_none (by simp [upTo]; omega)]
        subst hl
        have hfuel : fuel + 1 = l.length - m1 := by
          rw [← hfu]
          have : ∀ m k : Nat, k ≤ m → ((upTo m k).toList.filter fun b => !b).length = m - k := by
            intro m k hk
            simp only [upTo, List.filter_map, List.length_map]
            have e : ((fun b => !b) ∘ fun i => Nat.blt i k) = fun i => decide (k ≤ i) := by
              funext i; simp only [Function.comp]; rw [Bool.eq_iff_iff]; simp only [Bool.not_eq_true', decide_eq_true_eq, Bool.eq_false_iff, ne_eq, Nat.blt_eq]; omega
            rw [e]
            have : ∀ m, k ≤ m → ((List.range m).filter fun i => decide (k ≤ i)).length = m - k := by
              intro m
              induction m with
              | zero => intro _; simp
              | succ m ihm =>
                intro hk
                rw [List.range_succ, List.filter_append, List.length_append]
                rcases Nat.lt_or_ge m k with h | h
                · have : ((List.range m).filter fun i => decide (k ≤ i)) = [] := List.filter_eq_nil_iff.2 (fun x hx => by simp at hx ⊢; omega)
                  rw [this]; simp [h]; omega
                · rw [ihm h]; simp [h]; omega
            exact this m hk
          exact this _ _ hm1
        rw [hfuel]
        refine any_seq m1 _ a w' (by omega) ?_ (fin σ β w' hE hbi (fun i hi => hpo i (hdone i hi)) a hfit)
        rw [List.all_eq_true]
        intro q hq
        have := hseq q (by simpa using hq)
        simpa using this
      · -- one more of the first part
        have hex : ∃ i, i < m1 ∧ listed.getD i false = false := by
          refine Classical.byContradiction fun hne => hdone fun i hi => ?_
          cases hb : listed.getD i false with
          | true => rfl
          | false => exact absurd ⟨i, hi, hb⟩ hne
        have conv : ∀ i, i < l.length → listed.getD i true = listed.getD i false := by
          intro i hi
          have hlt : i < listed.size := by omega
          simp only [Array.getD_eq_getD_getElem?, Array.getElem?_eq_getElem hlt, Option.getD_some]
        refine ⟨fun hnil => ?_, fun i hi => ?_⟩
        · -- something is always ready
          exfalso
          obtain ⟨i0, hi0, hb0⟩ := hex
          have : ∃ i, i < m1 ∧ listed.getD i false = false ∧ ∀ j, j < i → listed.getD j false = true := by
            have strong : ∀ n i, i ≤ n → i < m1 → listed.getD i false = false → ∃ i, i < m1 ∧ listed.getD i false = false ∧ ∀ j, j < i → listed.getD j false = true := by
              intro n
              induction n with
              | zero => intro i hi h1 h2; exact ⟨i, h1, h2, fun j hj => by omega⟩
              | succ n ihn =>
                intro i hi h1 h2
                by_cases hall : ∀ j, j < i → listed.getD j false = true
                · exact ⟨i, h1, h2, hall⟩
                · obtain ⟨j, hj, hjb⟩ : ∃ j, j < i ∧ listed.getD j false = false := by
                    refine Classical.byContradiction fun hne => hall fun j hj => ?_
                    cases hb : listed.getD j false with
                    | true => rfl
                    | false => exact absurd ⟨j, hj, hb⟩ hne
                  exact ihn j (by omega) (by omega) hjb
            exact strong i0 i0 (Nat.le_refl _) hi0 hb0
          obtain ⟨i, hi, hbi, hlow⟩ := this
          have hmem : i ∈ Region.ready .any l.toArray listed := by
            rw [mem_ready]
            refine ⟨by rw [conv i (by omega)]; exact hbi, l[i], by simp, fun e he hbnd => hlow _ ?_⟩
            have h := hops i (by simp; omega)
            have ho : l.toArray[i]? = some l[i] := by simp
            rw [ho] at h
            simp only [Bool.and_eq_true, Array.all_eq_true_iff_forall_mem] at h
            have h1 := h.1 e he
            rw [hbnd] at h1
            simpa using h1
          rw [hnil] at hmem; cases hmem
        · have hi' := hi
          rw [mem_ready] at hi
          obtain ⟨hb, o, ho, hafter⟩ := hi
          have hlt : i < l.length := by simpa using (Array.getElem?_eq_some_iff.1 ho).1
          have hreach : m1 ≤ i → ∀ j, j < m1 → (i == m1 && j == lt) = false → listed.getD j false = true := by
            intro h j hj hne
            have hh := hops i (by simpa using hlt)
            rw [ho] at hh
            simp only [Bool.and_eq_true] at hh
            have hbl : Nat.blt i m1 = false := by rw [Bool.eq_false_iff]; simp; omega
            rw [hbl] at hh
            have h2 := hh.2
            simp only [cond_false, List.all_eq_true] at h2
            have h3 := h2 j (by simpa using hj)
            rw [hne, Bool.false_or] at h3
            exact reachB_listed hcl 3 i j o ho hafter h3
          by_cases him : i = m1
          · -- the operation behind the first part comes before the late one
            subst him
            rw [show l.toArray[i]? = l[i]? by simp, hom] at ho; cases ho
            have hknown : ∀ j, j < i → (j == lt) = false → listed.getD j false = true := fun j hj hne => hreach (Nat.le_refl _) j hj (by rw [hne]; simp)
            have hltn : listed.getD lt false = false := by
              obtain ⟨q, hq, hqb⟩ := hex
              by_cases e : q = lt
              · subst e; exact hqb
              · have := hknown q hq (by simpa using e); rw [this] at hqb; cases hqb
            have hl : listed = (upTo l.length i).setIfInBounds lt false := by
              apply Array.ext_getElem?
              intro q
              by_cases hq : q < l.length
              · have hqs : q < listed.size := by omega
                rw [Array.getElem?_eq_getElem hqs, Array.getElem?_setIfInBounds]
                have hg : listed.getD q false = listed[q] := by simp only [Array.getD_eq_getD_getElem?, Array.getElem?_eq_getElem hqs, Option.getD_some]
                have hg' : listed.getD q true = listed[q] := by simp only [Array.getD_eq_getD_getElem?, Array.getElem?_eq_getElem hqs, Option.getD_some]
                have hu : (upTo l.length i)[q]? = some (Nat.blt q i) := by simp [upTo, hq]
                rw [← hg]
                by_cases e : lt = q
                · subst e; rw [if_pos rfl, if_pos (by simp [upTo]; omega), hltn]
                · rw [if_neg e, hu]
                  rcases Nat.lt_or_ge q i with h | h
                  · rw [hknown q h (by simpa using fun hh => e hh.symm)]; congr 1; symm; simp; exact h
                  · rw [hg, ← hg', hsuf q h hq]; congr 1; symm; rw [Bool.eq_false_iff]; simp; omega
              · rw [Array.getElem?_eq_none (by omega), Array.getElem?_eq_none (by simp [upTo]; omega)]
            have hfl : fuel = (lt :: js).length := by
              have h1 : ∀ m k : Nat, k ≤ m → ((upTo m k).toList.filter fun b => !b).length = m - k := by
                intro m k hk
                simp only [upTo, List.filter_map, List.length_map]
                have e : ((fun b => !b) ∘ fun i => Nat.blt i k) = fun i => decide (k ≤ i) := by
                  funext i; simp only [Function.comp]; rw [Bool.eq_iff_iff]; simp only [Bool.not_eq_true', decide_eq_true_eq, Bool.eq_false_iff, ne_eq, Nat.blt_eq]; omega
                rw [e]
                have : ∀ m, k ≤ m → ((List.range m).filter fun i => decide (k ≤ i)).length = m - k := by
                  intro m
                  induction m with
                  | zero => intro _; simp
                  | succ m ihm =>
                    intro hk
                    rw [List.range_succ, List.filter_append, List.length_append]
                    rcases Nat.lt_or_ge m k with h | h
                    · have : ((List.range m).filter fun i => decide (k ≤ i)) = [] := List.filter_eq_nil_iff.2 (fun x hx => by simp at hx ⊢; omega)
                      rw [this]; simp [h]; omega
                    · rw [ihm h]; simp [h]; omega
                exact this m hk
              have h2 : ∀ (q : List Bool) (i : Nat), q[i]? = some true → ((q.set i false).filter fun b => !b).length = (q.filter fun b => !b).length + 1 := by
                intro q
                induction q with
                | nil => intro i h; simp at h
                | cons x q ihq =>
                  intro i h
                  cases i with
                  | zero => simp at h; subst h; simp
                  | succ i =>
                    simp at h
                    have := ihq i h
                    cases x <;> simp [] <;> omega
              have h3 := h2 (upTo l.length i).toList lt (by
                have hlt3 : lt < l.length := by omega
                have : (upTo l.length i)[lt]? = some (Nat.blt lt i) := by simp [upTo, hlt3]
                simp only [Array.getElem?_toList, this, Option.some.injEq]; simpa using hlt1)
              have h4 := h1 l.length i hm1
              rw [hl, Array.toList_setIfInBounds, h3, h4] at hfu
              simp only [List.length_cons, hjl]
              have hsz : l.toArray.size = l.length := by simp
              omega
            have hwl := fin2 σ β w' hE hbi (fun j hj hne => hpo j (hknown j hj hne)) a hfit
            refine wpOpIn_mono (K := fun a w => wpListIn (Wd ro) 0 P l.toArray Q (ol :: l.drop (i + 1)) a w) (fun a w h => ?_) ?_
            · rw [hfl, hl]
              exact any_forced (lt :: js) _ _ a w hforced hjs h
            · unfold wpOpIn
              simp only [show l.toArray[i]? = some om by simpa using hom]
              exact hwl
          have him : i < m1 := by
            rcases Nat.lt_or_ge i m1 with h | h
            · exact h
            · exfalso
              apply hdone
              intro j hj
              exact hreach h j hj (by rw [show (i == m1) = false by simpa using him]; rfl)
          obtain ⟨o', d, ho', hd, hdl'⟩ := hdst i him
          have hoo : o = o' := by
            have : l.toArray[i]? = l[i]? := by simp
            rw [this, ho'] at ho; cases ho; rfl
          subst hoo
          have hpi : ∃ p, posts[i]? = some p := ⟨posts[i]'(by omega), by simp⟩
          obtain ⟨p, hpp⟩ := hpi
          have hdN : d < N := by
            have := List.all_eq_true.1 hN d (List.mem_of_getElem? hdl')
            simpa using this
          obtain ⟨κ, hκ, hs⟩ := step i o d p ho' hdl' hpp σ β w' hE hbi (fun j hj => by
            rw [← Array.any_toList, List.any_eq_true] at hj
            obtain ⟨e, he, hb⟩ := hj
            simp only [Bool.and_eq_true, beq_iff_eq] at hb
            obtain ⟨rfl, hb⟩ := hb
            exact hpo _ (hafter e (by simpa using he) hb))
          have hfit2 : Fits N ds (κ ++ (r ++ σ)) a := hfit.weaken (fun t v hv => by
            rw [look_append] at hv
            cases hl : look κ t with
            | none => rw [hl] at hv; simpa using hv
            | some u => rw [hl] at hv; simp at hv; subst hv; exact hκ t u hl)
          refine wpOpIn_mono ?_ (one_op ho (hs a hfit2))
          rintro a2 w2 ⟨v, β', hf2, hE2, hbe, hbi2, hpv⟩
          have hrd : look r d = none := by
            have := List.all_eq_true.1 hr d (List.mem_of_getElem? hdl')
            simpa using this
          refine ih _ _ _ (by simp [hsz]) ?_ ?_ ?_ ⟨(d, v) :: σ, β', ?_, hbi2, ?_⟩ (hE.trans hE2)
          · -- one fewer
            have : ∀ (q : List Bool) (i : Nat), q[i]? = some false → ((q.set i true).filter fun b => !b).length + 1 = (q.filter fun b => !b).length := by
              intro q
              induction q with
              | nil => intro i h; simp at h
              | cons x q ihq =>
                intro i h
                cases i with
                | zero => simp at h; subst h; simp
                | succ i =>
                  simp at h
                  have := ihq i h
                  cases x <;> simp [] <;> omega
            have hget : listed.toList[i]? = some false := by
              have hlt' : i < listed.size := by omega
              simp only [Array.getD_eq_getD_getElem?, Array.getElem?_eq_getElem hlt', Option.getD_some] at hb
              simp [hlt', hb]
            have h2 := this listed.toList i hget
            rw [Array.toList_setIfInBounds]
            omega
          · intro j hj1 hj2
            rw [getD_set_ne true (by omega)]; exact hsuf j hj1 hj2
          · have mono : ∀ q, listed.getD q false = true → (listed.setIfInBounds i true).getD q false = true := by
              intro q hq
              by_cases e : i = q
              · subst e
                have hlt' : i < listed.size := by omega
                simp [Array.getD_eq_getD_getElem?, hlt']
              · rw [getD_set_ne false e]; exact hq
            intro q oq hq hoq e he hbd
            by_cases e1 : i = q
            · subst e1
              rw [ho] at hoq; cases hoq
              exact mono _ (hafter e he hbd)
            · rw [getD_set_ne false e1] at hq
              exact mono _ (hcl q oq hq hoq e he hbd)
          · refine hf2.weaken (fun t u hu => ?_)
            rw [look_append] at hu
            simp only [look]
            cases hb : Nat.beq d t with
            | true =>
              have : d = t := Nat.eq_of_beq_eq_true hb
              subst this
              rw [hrd] at hu
              simp only [look, hb, cond_true, Option.or_some, Option.some.injEq] at hu ⊢
              exact hu
            | false =>
              simp only [cond_false]
              rw [look_append]
              have hu2 : look (r ++ σ) t = some u := by
                rw [look_append]
                cases hlr : look r t with
                | some q => rw [hlr] at hu; simpa using hu
                | none => rw [hlr] at hu; simp only [look, hb, cond_false, Option.none_or] at hu ⊢; exact hu
              cases hl : look κ t with
              | none => simpa using hu2
              | some q => have := hκ t q hl; rw [hu2] at this; cases this; rfl
          · intro j hlj d' p' hd' hp'
            by_cases e : i = j
            · subst e
              rw [hdl'] at hd'; cases hd'
              rw [hpp] at hp'; cases hp'
              exact ⟨v, by simp [look], hpv⟩
            · rw [getD_set_ne false e] at hlj
              obtain ⟨u, hu, hpu⟩ := hpo j hlj d' p' hd' hp'
              have hne : d ≠ d' := fun h => by subst h; exact e (hnd i j d hdl' hd')
              refine ⟨u, ?_, hp p' (List.mem_of_getElem? hp') u w' w2 β β' hE2 hbe hpu⟩
              have : Nat.beq d d' = false := Bool.eq_false_iff.2 (fun h => hne (Nat.eq_of_beq_eq_true h))
              simp only [look, this, cond_false]; exact hu
  have hno : ∀ i, (Array.replicate l.toArray.size false).getD i false = true → False := by
    intro i hl
    have : (Array.replicate l.toArray.size false).getD i false = false := by
      simp only [Array.getD_eq_getD_getElem?]
      by_cases hi : i < l.length
      · simp [hi]
      · rw [Array.getElem?_eq_none (by simp; omega)]; rfl
    rw [this] at hl; cases hl
  exact main _ _ a _ (by simp) (by simp) (fun i _ hi => by have hi' : i < l.toArray.size := (by simpa using hi); simp [hi]) (fun i o hl _ => (hno i hl).elim) ⟨[], [], by simpa using ha, ⟨by simp, by simp, by simp⟩, fun i hl => (hno i hl).elim⟩ hw1
end
end Go.Proofs.Yteenegaadlhjdaa
namespace Go.Proofs.Yteenegaadlhjdaa
open Go.Proofs Go.RowKit
set_option maxRecDepth 20000 in
set_option maxHeartbeats 4000000 in
theorem cat_ok (D : Nat → Prop) (w : World) (a : Option Addr) (cap : Nat) (ts : List Nd) (hts : NodesV D w (.slice a ts.length cap) ts) (hle : ts.length ≤ 10000) :
  Calls Try.prog 44 #[.slice a ts.length cap] w fun e w' => ∃ l', e = .returned (.agg l'.toArray) ∧ NodeL (fun k => w.heap.size ≤ k) w' l' (Nd.cat ts) ∧ Ext w w' := by
 have hlen := hts.len
 have hts := hts.lt
 refine Calls.enter (args := [.slice a ts.length cap]) Try.func44 rfl rfl rfl rfl ?_
 refine sq ?_
 refine WL.alloc rfl rfl Ty.zero30 rfl (fun b1 w6 hb2 hE5 hs3 hR4 => ?_)
 refine WL.dn ?_
 refine WC.scope ?_
 refine sq ?_
 refine mv ?_
 refine WL.call rfl rfl rfl Ty.ent15 (seq_ok _ _ _ _ ts (hts.ext hE5) hle) ?_
 rintro _ w9 ⟨l7, rfl, hr7, hE8⟩
 have hzhE8 := hE8.size
 refine ⟨_, rfl, ?_⟩
 have hn7 := hr7.lt
 obtain ⟨a7, cap7, rfl, hts7, hlen7⟩ := hn7.op2
 refine WL.alloc rfl rfl Ty.zero30 rfl (fun b10 w15 hb11 hE14 hs12 hR13 => ?_)
 refine WL.store_box rfl rfl rfl hR13 Ty.agg30 rfl rfl (fun w18 hB17 hR16 => ?_)
 have hzhB17 := hB17.size
 refine WL.dn ?_
 refine WC.seqk ?_
 refine WC.label' ?_ (fun _ _ h => h)
 refine WC.seqk ?_
 refine WC.block ?_
 have h19 := (hB17.row ((hR4.ext hE8).ext hE14) (by omega))
 have h20 := ((hn7.ext hE14).bu hB17)
 refine WC.weaken (r' := [(2, pt b1 0), (3, pt b10 0)]) (sr rfl (sr rfl (subReg_nil _))) ?_
 refine WC.loop (σ := Nd × List Value) (fun s r_ w_ => r_ = [(2, pt b1 0), (3, pt b10 0)] ∧ Ext w9 w_ ∧ (Row w_ b10 s.2 30 ∧ NodeL (fun k => w.heap.size ≤ k ∧ k ≠ b1 ∧ k ≠ b10) w_ s.2 s.1 ∧ s.1.good = true ∧ Nd.catF s.1 = Nd.cat ts)) (fun s => s.1.size) ((Nd.seq ts), (tcells (Nd.seq ts) (.slice a7 (Nd.seq ts).subs.length cap7))) ⟨rfl, (hB17.onto hE14 (by omega)), ⟨hR16, h20.dom (by intro k h1; (try dsimp only at h1); (repeat' first | (guard_hyp h1 : _ ∨ _; refine Or.elim h1 (fun h1 => ?_) (fun h1 => ?_)) | (guard_hyp h1 : _ ∧ _; have hx := h1.2; replace h1 := h1.1)) <;> first | contradiction | exact ⟨by omega, by omega, by omega⟩), Nd.seq_good _, rfl⟩⟩ ?_
 rintro ⟨T, l⟩ r_ w23 ⟨rfl, hE21, hI22⟩
 have hzhE21 := hE21.size
 dsimp only at hI22
 obtain ⟨hR3, hN, hg, hcf⟩ := hI22
 have hN := hN.lt
 have hb3lt := hR3.lt
 obtain ⟨a24, cap24, rfl, hts24, hlen24⟩ := hN.op2
 refine WC.weaken (r' := [(2, pt b1 0), (3, pt b10 0)]) (sr rfl (sr rfl (subReg_nil _))) ?_
 refine WC.seqk ?_
 refine sq ?_
 refine WL.fieldAddr rfl rfl Ty.fld30_0 rfl ?_
 refine WL.load_fld rfl rfl Ty.flat5 rfl hR3 rfl ?_
 cases hc25 : ((T.kind : Int) == 3) with
 | false =>
  refine WL.eql rfl rfl rfl rfl hc25 ?_
  have hp25 := beq_eq_false_iff_ne.1 hc25
  refine WL.dn ?_
  refine cF ?_
  refine WC.exit (fun a_ ha => ?_)
  refine exit_then ?_
  refine exit_then ?_
  refine exit_here ?_
  refine WC.at ?_ ha
  refine sq ?_
  refine WL.load_box rfl rfl rfl hR3 Ty.agg30 ?_
  have h28 := ((hR4.ext hE8).ext hE21)
  refine WL.store_box rfl rfl rfl h28 Ty.agg30 rfl rfl (fun w29 hB27 hR26 => ?_)
  have hzhB27 := hB27.size
  refine WL.dn ?_
  refine WC.ret (fun a_ ha => ?_)
  refine ret_scope ?_
  exact bodyPost_cell (l := (tcells T (.slice a24 T.subs.length cap24))) rfl ha rfl Ty.agg30 hR26 ⟨_, rfl, (by rw [← hcf, Nd.catF_not (by omega)]; exact ((hN.bu hB27).dom (by intro k hk; (try dsimp only at hk); first | omega | exact hk.1.elim))), (hB27.onto ((hE5.trans hE8).trans hE21) (by omega))⟩
 | true =>
  refine WL.eql rfl rfl rfl rfl hc25 ?_
  have hp25 := beq_iff_eq.1 hc25
  refine WL.dn ?_
  refine cT ?_
  refine WC.sk ?_
  refine WC.block ?_
  refine WC.seqk ?_
  refine sq ?_
  refine WL.fieldAddr rfl rfl Ty.fld30_4 rfl ?_
  refine WL.load_fld rfl rfl Ty.flat24 rfl hR3 rfl ?_
  have hni := Nd.good_nice hg (by omega)
  have hl2 := Nd.three_two (Nd.nice_right hni) (by omega)
  refine WL.slice_l (m := 1) rfl rfl Ty.slice24 rfl rfl rfl (by omega) ?_
  refine WL.len rfl rfl Try.underlying24 rfl ?_
  refine mv ?_
  refine WL.dn ?_
  refine WC.block ?_
  refine WC.weaken (r' := [(2, pt b1 0), (3, pt b10 0), (16, .int .i64 (T.subs.length - 1 : Nat)), (17, .int .i64 0)]) (s4 (subReg_nil _)) ?_
  refine WC.loop (σ := Nat) (fun k r_ w_ => r_ = [(2, pt b1 0), (3, pt b10 0), (16, .int .i64 (T.subs.length - 1 : Nat)), (17, .int .i64 (k : Int))] ∧ Ext w23 w_ ∧ (k ≤ T.subs.length - 1 ∧ ∀ (j : Nat) (x y : Nd), j < k → T.subs[j]? = some x → T.subs[j + 1]? = some y → (Nd.merged x y).isSome = false)) (fun k => T.subs.length - k) 0 ⟨rfl, (Ext.refl _), ⟨Nat.zero_le _, fun j x y h => absurd h (Nat.not_lt_zero _)⟩⟩ ?_
  rintro k r_ w28 ⟨rfl, hE26, hI27⟩
  have hzhE26 := hE26.size
  obtain ⟨hk, hI0⟩ := hI27
  refine sq ?_
  cases hc29 : decide (((k : Int) : Int) < (T.subs.length - 1 : Nat)) with
  | false =>
   refine WL.lss rfl rfl rfl rfl hc29 ?_
   have hp29 := of_decide_eq_false hc29
   refine WL.dn ?_
   refine WC.seqk ?_
   refine cF ?_
   refine WC.exit (fun a_ ha => ?_)
   refine exit_then ?_
   refine exit_then ?_
   refine exit_here ?_
   refine WC.at ?_ ha
   refine WC.exit (fun a_ ha => ?_)
   refine exit_out rfl ?_
   refine exit_then ?_
   refine exit_here ?_
   refine WC.at ?_ ha
   refine sq ?_
   refine WL.load_box rfl rfl rfl (hR3.ext hE26) Ty.agg30 ?_
   have h32 := (((hR4.ext hE8).ext hE21).ext hE26)
   refine WL.store_box rfl rfl rfl h32 Ty.agg30 rfl rfl (fun w33 hB31 hR30 => ?_)
   have hzhB31 := hB31.size
   refine WL.dn ?_
   refine WC.ret (fun a_ ha => ?_)
   refine ret_scope ?_
   have h34 := ((hN.ext hE26).bu hB31)
   exact bodyPost_cell (l := (tcells T (.slice a24 T.subs.length cap24))) rfl ha rfl Ty.agg30 hR30 ⟨_, rfl, (by rw [← hcf, Nd.catF_none (Nd.mstep_not (fun j x y hx hy => hI0 j x y (by have := (List.getElem?_eq_some_iff.1 hy).1; omega) hx hy))]; exact (h34.dom (by intro k hk; (try dsimp only at hk); first | omega | exact hk.1.elim))), (hB31.onto (((hE5.trans hE8).trans hE21).trans hE26) (by omega))⟩
  | true =>
   refine WL.lss rfl rfl rfl rfl hc29 ?_
   have hp29 := of_decide_eq_true hc29
   refine WL.dn ?_
   refine WC.seqk ?_
   refine cT ?_
   refine WC.sk ?_
   refine WC.seqk ?_
   refine WC.block ?_
   refine sq ?_
   refine mv ?_
   refine asg ?_
   refine WL.dn ?_
   refine WC.seqk ?_
   obtain ⟨t30, ht30⟩ : ∃ t, T.subs[k]? = some t := ⟨_, List.getElem?_eq_getElem (by omega)⟩
   obtain ⟨eb30, eo30, el30, hea30, hD30, her30, hn30⟩ := (hts24.ext hE26).at ht30
   obtain ⟨a30, cap30, rfl, hts30, hlen30⟩ := hn30.op2
   subst hea30
   obtain ⟨t31, ht31⟩ : ∃ t, T.subs[(k + 1)]? = some t := ⟨_, List.getElem?_eq_getElem (by omega)⟩
   obtain ⟨eb31, eo31, el31, hea31, hD31, her31, hn31⟩ := (hts24.ext hE26).at ht31
   obtain ⟨a31, cap31, rfl, hts31, hlen31⟩ := hn31.op2
   cases hea31
   have h32 := (((hR4.ext hE8).ext hE21).ext hE26)
   refine WC.weaken (r' := [(2, pt b1 0), (3, pt b10 0), (16, .int .i64 (T.subs.length - 1 : Nat)), (17, .int .i64 (k : Int)), (18, .bool true), (19, .int .i64 (k : Int)), (4, .int .i64 (k : Int))]) (s4 (sr rfl (sr rfl (sr rfl (subReg_nil _))))) ?_
   refine WC.drawL 16 [21, 22, 23, 24, 25, 26, 27, 28, 29, 30, 31, 32, 20, 33, 34, 5] [pc (pt b10 7), pc (.slice (some ⟨eb30, eo30, none⟩) T.subs.length cap24), pc (.int .i64 (k : Int)), pc (pt eb30 (eo30 + k * 8)), pc (.agg (tcells t30 (.slice a30 t30.subs.length cap30)).toArray), pc (pt b10 7), pc (.slice (some ⟨eb30, eo30, none⟩) T.subs.length cap24), pc (.int .i64 (k : Int)), pc (.int .i64 ((k + 1 : Nat) : Int)), pc (pt eb30 (eo30 + (k + 1) * 8)), pc (.agg (tcells t31 (.slice a31 t31.subs.length cap31)).toArray), ptup (fun _ => True) ((Nd.merged t30 t31).getD Nd.none) ((Nd.merged t30 t31).isSome), ptup (fun _ => True) ((Nd.merged t30 t31).getD Nd.none) ((Nd.merged t30 t31).isSome), pnode (fun _ => True) ((Nd.merged t30 t31).getD Nd.none), pc (.bool ((Nd.merged t30 t31).isSome)), palloc 5 (zc 0 0 0 (.slice none 0 0)) 30] 14 [17] _ _ rfl rfl (by kernel_rfl) (by kernel_rfl) (k4 (k4 ⟨KW_pc _, KW_pc _, KW_pc _, KW_ptup _ _ _, KW_ptup _ _ _, KW_pnode _ _, KW_pc _, KW_palloc _ _ _, trivial⟩)) rfl rfl rfl (sc4 ?_ ?_ ?_ ?_ (sc4 ?_ ?_ ?_ ?_ (sc4 ?_ ?_ ?_ ?_ (sc4 ?_ ?_ ?_ ?_ (StepsOn.nil _))))) ?_ ?_
   ·intro σ β w1 hE1 hbi hk
    refine ⟨[], (agree_nil _), ?_⟩
    refine WL.fieldAddr rfl rfl Ty.fld30_4 rfl ?_
    exact dq hbi rfl
   ·intro σ β w1 hE1 hbi hk
    refine ⟨[(21, pt b10 7)], (ak hk 0 (agree_nil _)), ?_⟩
    have h54 := ((hR3.ext hE26).ext hE1)
    refine WL.load_fld rfl rfl Ty.flat24 rfl h54 rfl ?_
    exact dq hbi rfl
   ·intro σ β w1 hE1 hbi hk
    refine ⟨[], (agree_nil _), ?_⟩
    refine mv ?_
    exact dq hbi rfl
   ·intro σ β w1 hE1 hbi hk
    have hz1 := hE1.size
    refine ⟨[(22, .slice (some ⟨eb30, eo30, none⟩) T.subs.length cap24), (23, .int .i64 (k : Int))], (ak hk 1 (ak hk 2 (agree_nil _))), ?_⟩
    refine WL.indexAddr (i := k) rfl rfl Ty.slice24 rfl rfl rfl (by omega) ?_
    exact dq hbi rfl
   ·intro σ β w1 hE1 hbi hk
    refine ⟨[(24, pt eb30 (eo30 + k * 8))], (ak hk 3 (agree_nil _)), ?_⟩
    refine WL.load_agg (l := tcells t30 (.slice a30 t30.subs.length cap30)) rfl rfl Ty.agg30 rfl (her30.ext hE1) ?_
    exact dq hbi rfl
   ·intro σ β w1 hE1 hbi hk
    refine ⟨[], (agree_nil _), ?_⟩
    refine WL.fieldAddr rfl rfl Ty.fld30_4 rfl ?_
    exact dq hbi rfl
   ·intro σ β w1 hE1 hbi hk
    refine ⟨[(26, pt b10 7)], (ak hk 5 (agree_nil _)), ?_⟩
    have h54 := ((hR3.ext hE26).ext hE1)
    refine WL.load_fld rfl rfl Ty.flat24 rfl h54 rfl ?_
    exact dq hbi rfl
   ·intro σ β w1 hE1 hbi hk
    refine ⟨[], (agree_nil _), ?_⟩
    refine mv ?_
    exact dq hbi rfl
   ·intro σ β w1 hE1 hbi hk
    have hz1 := hE1.size
    refine ⟨[(28, .int .i64 (k : Int))], (ak hk 7 (agree_nil _)), ?_⟩
    refine WL.add (v := ((k + 1 : Nat) : Int)) rfl rfl rfl rfl (by rw [IntWalk.i64_in _ (by omega)]; omega) ?_
    exact dq hbi rfl
   ·intro σ β w1 hE1 hbi hk
    have hz1 := hE1.size
    refine ⟨[(27, .slice (some ⟨eb30, eo30, none⟩) T.subs.length cap24), (29, .int .i64 ((k + 1 : Nat) : Int))], (ak hk 6 (ak hk 8 (agree_nil _))), ?_⟩
    refine WL.indexAddr (i := (k + 1)) rfl rfl Ty.slice24 rfl rfl rfl (by omega) ?_
    exact dq hbi rfl
   ·intro σ β w1 hE1 hbi hk
    refine ⟨[(30, pt eb30 (eo30 + (k + 1) * 8))], (ak hk 9 (agree_nil _)), ?_⟩
    refine WL.load_agg (l := tcells t31 (.slice a31 t31.subs.length cap31)) rfl rfl Ty.agg30 rfl (her31.ext hE1) ?_
    exact dq hbi rfl
   ·intro σ β w1 hE1 hbi hk
    have hz1 := hE1.size
    refine ⟨[(25, .agg (tcells t30 (.slice a30 t30.subs.length cap30)).toArray), (31, .agg (tcells t31 (.slice a31 t31.subs.length cap31)).toArray)], (ak hk 4 (ak hk 10 (agree_nil _))), ?_⟩
    refine WL.call rfl rfl rfl Ty.ent56 (merged_ok _ _ _ _ _ t30 t31 (hn30.ext hE1) (hn31.ext hE1) (Nd.nice_subs hni (List.mem_of_getElem? ht30)) (Nd.nice_subs hni (List.mem_of_getElem? ht31))) ?_
    rintro _ w57 ⟨l55, rfl, hr55, hE56⟩
    have hzhE56 := hE56.size
    refine ⟨_, rfl, ?_⟩
    have hn55 := hr55.lt
    obtain ⟨a55, cap55, rfl, hts55, hlen55⟩ := hn55.op2
    exact dqE hbi hE56 ⟨_, rfl, (hr55.lt.dom (by intro k h1; refine ⟨trivial, ?_, h1.2⟩; replace h1 := h1.1; intro x hxm; have hi := hbi.hi x hxm; have lo := hbi.lo x hxm; (try dsimp only at h1); (repeat' first | (guard_hyp h1 : _ ∨ _; refine Or.elim h1 (fun h1 => ?_) (fun h1 => ?_)) | (guard_hyp h1 : _ ∧ _; have hx := h1.2; replace h1 := h1.1)) <;> first | contradiction | omega | exact hx.1 x hxm))⟩
   ·intro σ β w1 hE1 hbi hk
    have hz1 := hE1.size
    obtain ⟨_, hv53, l53, rfl, hn53⟩ := kn hk 11 rfl rfl
    have hn53 := hn53.lt
    obtain ⟨a53, cap53, rfl, hts53, hlen53⟩ := hn53.op2
    refine ⟨[(32, .tuple #[.agg (tcells ((Nd.merged t30 t31).getD Nd.none) (.slice a53 ((Nd.merged t30 t31).getD Nd.none).subs.length cap53)).toArray, .bool ((Nd.merged t30 t31).isSome)])], (ag hv53 (agree_nil _)), ?_⟩
    refine mv ?_
    exact dq hbi ⟨_, rfl, (hn53.dom (by intro k h1; refine ⟨trivial, ?_, h1.2⟩; replace h1 := h1.1; intro x hxm; have hi := hbi.hi x hxm; have lo := hbi.lo x hxm; (try dsimp only at h1); (repeat' first | (guard_hyp h1 : _ ∨ _; refine Or.elim h1 (fun h1 => ?_) (fun h1 => ?_)) | (guard_hyp h1 : _ ∧ _; have hx := h1.2; replace h1 := h1.1)) <;> first | contradiction | omega | exact hx.1 x hxm))⟩
   ·intro σ β w1 hE1 hbi hk
    have hz1 := hE1.size
    obtain ⟨_, hv53, l53, rfl, hn53⟩ := kn hk 12 rfl rfl
    have hn53 := hn53.lt
    obtain ⟨a53, cap53, rfl, hts53, hlen53⟩ := hn53.op2
    refine ⟨[(20, .tuple #[.agg (tcells ((Nd.merged t30 t31).getD Nd.none) (.slice a53 ((Nd.merged t30 t31).getD Nd.none).subs.length cap53)).toArray, .bool ((Nd.merged t30 t31).isSome)])], (ag hv53 (agree_nil _)), ?_⟩
    refine WL.extract rfl rfl rfl rfl ?_
    exact dq hbi ⟨_, rfl, (hn53.dom (by intro k h1; refine ⟨trivial, ?_, h1.2⟩; replace h1 := h1.1; intro x hxm; have hi := hbi.hi x hxm; have lo := hbi.lo x hxm; (try dsimp only at h1); (repeat' first | (guard_hyp h1 : _ ∨ _; refine Or.elim h1 (fun h1 => ?_) (fun h1 => ?_)) | (guard_hyp h1 : _ ∧ _; have hx := h1.2; replace h1 := h1.1)) <;> first | contradiction | omega | exact hx.1 x hxm))⟩
   ·intro σ β w1 hE1 hbi hk
    obtain ⟨_, hv53, l53, rfl, hn53⟩ := kn hk 12 rfl rfl
    have hn53 := hn53.lt
    obtain ⟨a53, cap53, rfl, hts53, hlen53⟩ := hn53.op2
    refine ⟨[(20, .tuple #[.agg (tcells ((Nd.merged t30 t31).getD Nd.none) (.slice a53 ((Nd.merged t30 t31).getD Nd.none).subs.length cap53)).toArray, .bool ((Nd.merged t30 t31).isSome)])], (ag hv53 (agree_nil _)), ?_⟩
    refine WL.extract rfl rfl rfl rfl ?_
    exact dq hbi rfl
   ·intro σ β w1 hE1 hbi hk
    refine ⟨[], (agree_nil _), ?_⟩
    refine WL.alloc rfl rfl Ty.zero30 rfl (fun b53 w58 hb54 hE57 hs55 hR56 => ?_)
    refine WL.nil (fun a_ ha => ?_)
    exact ⟨_, (5, b53) :: β, ha, hE57, BExt.cons (Nat.le_of_eq hb54.symm), hbi.cons hE57 hE1.size (Nat.le_of_eq hb54.symm) hR56.lt, b53, rfl, hR56, .head _⟩
   ·skip
    intro σ β w33 hE33 hbi33 hk
    have hz33 := hE33.size
    have hbi := hbi33
    obtain ⟨_, hv34, b34, rfl, hR34, hm34⟩ := hk 15 (by decide) _ _ rfl rfl
    have hlo34 := hbi.lo _ hm34
    have hhi34 := hbi.hi _ hm34
    obtain ⟨_, hv35, l35, rfl, hn35⟩ := hk 13 (by decide) _ _ rfl rfl
    have hn35 := hn35.dom (D' := fun k => ((True) ∧ b34 ≠ k) ∧ k < w33.heap.size) (fun k h => ⟨⟨h.1, h.2.1 _ hm34⟩, h.2.2⟩)
    obtain ⟨a35, cap35, rfl, hts35, hlen35⟩ := hn35.op2
    refine WL.know [(5, pt b34 0), (33, .agg (tcells ((Nd.merged t30 t31).getD Nd.none) (.slice a35 ((Nd.merged t30 t31).getD Nd.none).subs.length cap35)).toArray), (34, .bool ((Nd.merged t30 t31).isSome))] (ag hv34 (ag hv35 (aj hk 14 (agree_nil _)))) ?_
    refine WL.store_box rfl rfl rfl hR34 Ty.agg30 rfl rfl (fun w39 hB38 hR37 => ?_)
    have hzhB38 := hB38.size
    refine asg ?_
    refine WL.dn ?_
    refine sq ?_
    refine mv ?_
    refine WL.dn ?_
    cases hc40 : (Nd.merged t30 t31).isSome with
    | false =>
     refine cF ?_
     refine WC.sk ?_
     refine WC.region ?_
     refine WL.add (v := ((k + 1 : Nat) : Int)) rfl rfl rfl rfl (by rw [IntWalk.i64_in _ (by omega)]; omega) ?_
     refine mv ?_
     refine WL.nil (fun a_ ha => ?_)
     exact ⟨k + 1, _, ha.weaken (s4 (subReg_nil _)), ⟨rfl, (hB38.onto (hE26.trans hE33) (by omega)), ⟨by omega, by intro j x y hj hx hy; rcases Nat.lt_or_ge j k with h | h; exact hI0 j x y h hx hy; (obtain rfl : j = k := by omega); rw [ht30] at hx; rw [ht31] at hy; cases hx; cases hy; exact hc40⟩⟩, by first | omega | (dsimp only; omega)⟩
    | true =>
     refine cT ?_
     refine WC.seqk ?_
     have h41 := (hB38.row (h32.ext hE33) (by omega))
     have h42 := (hB38.row ((hR3.ext hE26).ext hE33) (by omega))
     have h43 := (((hN.ext hE26).ext hE33).bu hB38)
     refine WC.weaken (r' := [(2, pt b1 0), (3, pt b10 0), (16, .int .i64 (T.subs.length - 1 : Nat)), (17, .int .i64 (k : Int)), (18, .bool true), (19, .int .i64 (k : Int)), (4, .int .i64 (k : Int)), (5, pt b34 0), (33, .agg (tcells ((Nd.merged t30 t31).getD Nd.none) (.slice a35 ((Nd.merged t30 t31).getD Nd.none).subs.length cap35)).toArray), (34, .bool true), (6, .bool true), (35, .bool true)]) (s4 (s4 (s4 (subReg_nil _)))) ?_
     refine WC.draw 11 [36, 37, 38, 39, 40, 41, 42, 43, 44, 45, 46] [pc (pt b10 7), pc (.slice (some ⟨eb30, eo30, none⟩) T.subs.length cap24), pc (.int .i64 (k : Int)), pc (.slice (some ⟨eb30, eo30, none⟩) k cap24), pc (.agg (tcells ((Nd.merged t30 t31).getD Nd.none) (.slice a35 ((Nd.merged t30 t31).getD Nd.none).subs.length cap35)).toArray), pnodes (fun _ => True) ([((Nd.merged t30 t31).getD Nd.none)]), pc (pt b10 7), pc (.slice (some ⟨eb30, eo30, none⟩) T.subs.length cap24), pc (.int .i64 (k : Int)), pc (.int .i64 ((k + 2 : Nat) : Int)), pc (.slice (if cap24 = (k + 2) then ((some ⟨eb30, eo30, none⟩) : Option Addr) else Option.map (fun x : Addr => x.add ((k + 2) * 8)) ((some ⟨eb30, eo30, none⟩) : Option Addr)) (T.subs.length - (k + 2) : Nat) (cap24 - (k + 2)))] (by kernel_rfl) (by kernel_rfl) (k4 ⟨KW_pc _, KW_pnodes _ _, k4 ⟨KW_pc _, trivial⟩⟩) rfl rfl rfl (sc4 ?_ ?_ ?_ ?_ (sc4 ?_ ?_ ?_ ?_ (sc ?_ (sc ?_ (sc ?_ (StepsOn.nil _)))))) ?_
     ·intro σ β w1 hE1 hbi hk
      refine ⟨[], (agree_nil _), ?_⟩
      refine WL.fieldAddr rfl rfl Ty.fld30_4 rfl ?_
      exact dq hbi rfl
     ·intro σ β w1 hE1 hbi hk
      refine ⟨[(36, pt b10 7)], (ak hk 0 (agree_nil _)), ?_⟩
      refine WL.load_fld rfl rfl Ty.flat24 rfl (h42.ext hE1) rfl ?_
      exact dq hbi rfl
     ·intro σ β w1 hE1 hbi hk
      refine ⟨[], (agree_nil _), ?_⟩
      refine mv ?_
      exact dq hbi rfl
     ·intro σ β w1 hE1 hbi hk
      have hz1 := hE1.size
      refine ⟨[(37, .slice (some ⟨eb30, eo30, none⟩) T.subs.length cap24), (38, .int .i64 (k : Int))], (ak hk 1 (ak hk 2 (agree_nil _))), ?_⟩
      refine WL.slice_h (m := k) rfl rfl Ty.slice24 rfl rfl rfl (by omega) ?_
      exact dq hbi rfl
     ·intro σ β w1 hE1 hbi hk
      refine ⟨[], (agree_nil _), ?_⟩
      refine WL.load_box rfl rfl rfl (hR37.ext hE1) Ty.agg30 ?_
      exact dq hbi rfl
     ·intro σ β w1 hE1 hbi hk
      have hz1 := hE1.size
      refine ⟨[(40, .agg (tcells ((Nd.merged t30 t31).getD Nd.none) (.slice a35 ((Nd.merged t30 t31).getD Nd.none).subs.length cap35)).toArray)], (ak hk 4 (agree_nil _)), ?_⟩
      have h65 := ((hn35.bu hB38).ext hE1)
      refine WL.buildSlice (vs := [.agg (tcells ((Nd.merged t30 t31).getD Nd.none) (.slice a35 ((Nd.merged t30 t31).getD Nd.none).subs.length cap35)).toArray]) (cells := (tcells ((Nd.merged t30 t31).getD Nd.none) (.slice a35 ((Nd.merged t30 t31).getD Nd.none).subs.length cap35))) rfl rfl Ty.slice24 Ty.zero30 rfl rfl rfl rfl rfl rfl (fun b66 w71 hb67 hE70 hs68 hR69 => ?_)
      have hts66 := (NodesV.lit (n := 1) (ts := [((Nd.merged t30 t31).getD Nd.none)]) hR69 (RowsL.cons (h65.ext hE70) (RowsL.nil' _)) rfl rfl (by decide)).lt
      exact dqE hbi hE70 ⟨_, _, rfl, (hts66.dom (by intro k h1; refine ⟨trivial, ?_, h1.2⟩; replace h1 := h1.1; intro x hxm; have hi := hbi.hi x hxm; have lo := hbi.lo x hxm; (try dsimp only at h1); (repeat' first | (guard_hyp h1 : _ ∨ _; refine Or.elim h1 (fun h1 => ?_) (fun h1 => ?_)) | (guard_hyp h1 : _ ∧ _; have hx := h1.2; replace h1 := h1.1)) <;> first | contradiction | omega | exact hx.1 x hxm))⟩
     ·intro σ β w1 hE1 hbi hk
      refine ⟨[], (agree_nil _), ?_⟩
      refine WL.fieldAddr rfl rfl Ty.fld30_4 rfl ?_
      exact dq hbi rfl
     ·intro σ β w1 hE1 hbi hk
      refine ⟨[(42, pt b10 7)], (ak hk 6 (agree_nil _)), ?_⟩
      refine WL.load_fld rfl rfl Ty.flat24 rfl (h42.ext hE1) rfl ?_
      exact dq hbi rfl
     ·intro σ β w1 hE1 hbi hk
      refine ⟨[], (agree_nil _), ?_⟩
      refine mv ?_
      exact dq hbi rfl
     ·intro σ β w1 hE1 hbi hk
      have hz1 := hE1.size
      refine ⟨[(44, .int .i64 (k : Int))], (ak hk 8 (agree_nil _)), ?_⟩
      refine WL.add (v := ((k + 2 : Nat) : Int)) rfl rfl rfl rfl (by rw [IntWalk.i64_in _ (by omega)]; omega) ?_
      exact dq hbi rfl
     ·intro σ β w1 hE1 hbi hk
      have hz1 := hE1.size
      refine ⟨[(43, .slice (some ⟨eb30, eo30, none⟩) T.subs.length cap24), (45, .int .i64 ((k + 2 : Nat) : Int))], (ak hk 7 (ak hk 9 (agree_nil _))), ?_⟩
      refine WL.slice_l (m := (k + 2)) rfl rfl Ty.slice24 rfl rfl rfl (by omega) ?_
      exact dq hbi rfl
     intro σ β w44 hE44 hbi44 hk
     have hz44 := hE44.size
     have hbi := hbi44
     obtain ⟨_, hv46, a46, cap46, rfl, hts46⟩ := hk 5 (by decide) _ _ rfl rfl
     have hts46 := hts46.lt
     have hlen46 := hts46.len
     refine WL.know [(39, .slice (some ⟨eb30, eo30, none⟩) k cap24), (41, .slice a46 (([((Nd.merged t30 t31).getD Nd.none)]).length) cap46), (46, .slice (if cap24 = (k + 2) then ((some ⟨eb30, eo30, none⟩) : Option Addr) else Option.map (fun x : Addr => x.add ((k + 2) * 8)) ((some ⟨eb30, eo30, none⟩) : Option Addr)) (T.subs.length - (k + 2) : Nat) (cap24 - (k + 2)))] (aj hk 3 (ag hv46 (aj hk 10 (agree_nil _)))) ?_
     refine WL.buildSlice (vs := [.slice (some ⟨eb30, eo30, none⟩) k cap24, .slice a46 (([((Nd.merged t30 t31).getD Nd.none)]).length) cap46, .slice (if cap24 = (k + 2) then ((some ⟨eb30, eo30, none⟩) : Option Addr) else Option.map (fun x : Addr => x.add ((k + 2) * 8)) ((some ⟨eb30, eo30, none⟩) : Option Addr)) (T.subs.length - (k + 2) : Nat) (cap24 - (k + 2))]) (cells := [.slice (some ⟨eb30, eo30, none⟩) k cap24, .slice a46 (([((Nd.merged t30 t31).getD Nd.none)]).length) cap46, .slice (if cap24 = (k + 2) then ((some ⟨eb30, eo30, none⟩) : Option Addr) else Option.map (fun x : Addr => x.add ((k + 2) * 8)) ((some ⟨eb30, eo30, none⟩) : Option Addr)) (T.subs.length - (k + 2) : Nat) (cap24 - (k + 2))]) rfl rfl Ty.slice37 Ty.zero24 rfl rfl rfl rfl rfl rfl (fun b48 w53 hb49 hE52 hs50 hR51 => ?_)
     have h55 := (((((hts24.ext hE26).ext hE33).bu hB38).ext hE44).ext hE52)
     have hl54 := (NLists.lit3 (D := fun _ => True) hR51 (((h55).take (by omega) (by omega)).dom (fun _ _ => trivial)) ((hts46.ext hE52).dom (fun _ _ => trivial)) (((h55).drop (by omega)).dom (fun _ _ => trivial)) trivial).lt
     refine WL.call rfl rfl rfl Ty.ent57 (concat_ok _ _ _ _ [(T.subs.take k), [((Nd.merged t30 t31).getD Nd.none)], (T.subs.drop (k + 2))] hl54 (by have hTc : T.size ≤ 10000 := Nd.good_size hg; have hTs := Nd.size_subs T; have hll := Nd.length_le_sizeL T.subs; rw [flat3]; simp only [List.length_append, List.length_take, List.length_drop, List.length_singleton]; omega)) ?_
     rintro _ w58 ⟨v56, rfl, hO56, hE57⟩
     have hzhE57 := hE57.size
     refine ⟨_, rfl, ?_⟩
     obtain ⟨a56, cap56, rfl, hnn56, hx56⟩ := hO56.cases
     have hts56 := hO56.nodes.lt
     refine asg ?_
     refine WL.dn ?_
     refine sq ?_
     refine mv ?_
     have hst := Nd.mstep_at ht30 ht31 hc40 hI0
     rw [← flat3] at hst
     have hsz := Nd.mstep_sz (fun t ht => Nd.nice_subs hni ht) hst
     have hqs := Nd.seq_sz (([(T.subs.take k), [((Nd.merged t30 t31).getD Nd.none)], (T.subs.drop (k + 2))]).flatten)
     have hTs := Nd.size_subs T
     have hTc : T.size ≤ 10000 := Nd.good_size hg
     have hll := Nd.length_le_sizeL (([(T.subs.take k), [((Nd.merged t30 t31).getD Nd.none)], (T.subs.drop (k + 2))]).flatten)
     refine WL.call rfl rfl rfl Ty.ent15 (seq_ok _ _ _ _ (([(T.subs.take k), [((Nd.merged t30 t31).getD Nd.none)], (T.subs.drop (k + 2))]).flatten) hts56 (by omega)) ?_
     rintro _ w61 ⟨l59, rfl, hr59, hE60⟩
     have hzhE60 := hE60.size
     refine ⟨_, rfl, ?_⟩
     have hn59 := hr59.lt
     obtain ⟨a59, cap59, rfl, hts59, hlen59⟩ := hn59.op2
     have h64 := ((((h42.ext hE44).ext hE52).ext hE57).ext hE60)
     refine WL.store_box rfl rfl rfl h64 Ty.agg30 rfl rfl (fun w65 hB63 hR62 => ?_)
     have hzhB63 := hB63.size
     refine WL.dn ?_
     refine WC.exit (fun a_ ha => ?_)
     refine exit_out rfl ?_
     refine exit_then ?_
     refine exit_then ?_
     refine exit_out rfl ?_
     refine exit_then ?_
     refine exit_here ?_
     have hdec : (Nd.seq (([(T.subs.take k), [((Nd.merged t30 t31).getD Nd.none)], (T.subs.drop (k + 2))]).flatten)).size < T.size := by omega
     exact ⟨((Nd.seq (([(T.subs.take k), [((Nd.merged t30 t31).getD Nd.none)], (T.subs.drop (k + 2))]).flatten)), (tcells (Nd.seq (([(T.subs.take k), [((Nd.merged t30 t31).getD Nd.none)], (T.subs.drop (k + 2))]).flatten)) (.slice a59 (Nd.seq (([(T.subs.take k), [((Nd.merged t30 t31).getD Nd.none)], (T.subs.drop (k + 2))]).flatten)).subs.length cap59))), _, ha.weaken (sr rfl (sr rfl (subReg_nil _))), ⟨rfl, (hB63.onto (((((hB38.onto ((hE21.trans hE26).trans hE33) (by omega)).trans hE44).trans hE52).trans hE57).trans hE60) (by omega)), ⟨hR62, (hn59.bu hB63).dom (by intro k h1; (try dsimp only at h1); (repeat' first | (guard_hyp h1 : _ ∨ _; refine Or.elim h1 (fun h1 => ?_) (fun h1 => ?_)) | (guard_hyp h1 : _ ∧ _; have hx := h1.2; replace h1 := h1.1)) <;> first | contradiction | exact ⟨by omega, by omega, by omega⟩), Nd.seq_good _, (Nd.catF_some (by omega) hni hst).symm.trans hcf⟩⟩, by first | omega | (dsimp only; omega)⟩
   ·skip
    intro σ β w7033 hE7033 hbi7033 hk
    have hz7033 := hE7033.size
    have hbi := hbi7033
    obtain ⟨_, hv7034, b7034, rfl, hR7034, hm7034⟩ := hk 15 (by decide) (by decide) _ _ rfl rfl
    have hlo7034 := hbi.lo _ hm7034
    have hhi7034 := hbi.hi _ hm7034
    obtain ⟨_, hv7035, l7035, rfl, hn7035⟩ := hk 12 (by decide) (by decide) _ _ rfl rfl
    have hn7035 := hn7035.dom (D' := fun k => ((True) ∧ b7034 ≠ k) ∧ k < w7033.heap.size) (fun k h => ⟨⟨h.1, h.2.1 _ hm7034⟩, h.2.2⟩)
    obtain ⟨a7035, cap7035, rfl, hts7035, hlen7035⟩ := hn7035.op2
    obtain ⟨_, hv7036, l7036, rfl, hn7036⟩ := hk 13 (by decide) (by decide) _ _ rfl rfl
    have hn7036 := hn7036.dom (D' := fun k => ((True) ∧ b7034 ≠ k) ∧ k < w7033.heap.size) (fun k h => ⟨⟨h.1, h.2.1 _ hm7034⟩, h.2.2⟩)
    obtain ⟨a7036, cap7036, rfl, hts7036, hlen7036⟩ := hn7036.op2
    refine WL.know [(5, pt b7034 0), (20, .tuple #[.agg (tcells ((Nd.merged t30 t31).getD Nd.none) (.slice a7035 ((Nd.merged t30 t31).getD Nd.none).subs.length cap7035)).toArray, .bool ((Nd.merged t30 t31).isSome)]), (33, .agg (tcells ((Nd.merged t30 t31).getD Nd.none) (.slice a7036 ((Nd.merged t30 t31).getD Nd.none).subs.length cap7036)).toArray)] (ag hv7034 (ag hv7035 (ag hv7036 (agree_nil _)))) ?_
    refine WL.store_box rfl rfl rfl hR7034 Ty.agg30 rfl rfl (fun w7039 hB7038 hR7037 => ?_)
    have hzhB7038 := hB7038.size
    refine WL.extract rfl rfl rfl rfl ?_
    cases hc7040 : (Nd.merged t30 t31).isSome with
    | false =>
     refine asg ?_
     refine WL.dn ?_
     refine sq ?_
     refine mv ?_
     refine WL.dn ?_
     refine cF ?_
     refine WC.sk ?_
     refine WC.region ?_
     refine WL.add (v := ((k + 1 : Nat) : Int)) rfl rfl rfl rfl (by rw [IntWalk.i64_in _ (by omega)]; omega) ?_
     refine mv ?_
     refine WL.nil (fun a_ ha => ?_)
     exact ⟨k + 1, _, ha.weaken (s4 (subReg_nil _)), ⟨rfl, (hB7038.onto (hE26.trans hE7033) (by omega)), ⟨by omega, by intro j x y hj hx hy; rcases Nat.lt_or_ge j k with h | h; exact hI0 j x y h hx hy; (obtain rfl : j = k := by omega); rw [ht30] at hx; rw [ht31] at hy; cases hx; cases hy; exact hc7040⟩⟩, by first | omega | (dsimp only; omega)⟩
    | true =>
     refine asg ?_
     refine WL.dn ?_
     refine sq ?_
     refine mv ?_
     refine WL.dn ?_
     refine cT ?_
     refine WC.seqk ?_
     have h7041 := (hB7038.row (h32.ext hE7033) (by omega))
     have h7042 := (hB7038.row ((hR3.ext hE26).ext hE7033) (by omega))
     have h7043 := (((hN.ext hE26).ext hE7033).bu hB7038)
     refine WC.weaken (r' := [(2, pt b1 0), (3, pt b10 0), (16, .int .i64 (T.subs.length - 1 : Nat)), (17, .int .i64 (k : Int)), (18, .bool true), (19, .int .i64 (k : Int)), (4, .int .i64 (k : Int)), (5, pt b7034 0), (20, .tuple #[.agg (tcells ((Nd.merged t30 t31).getD Nd.none) (.slice a7035 ((Nd.merged t30 t31).getD Nd.none).subs.length cap7035)).toArray, .bool true]), (33, .agg (tcells ((Nd.merged t30 t31).getD Nd.none) (.slice a7036 ((Nd.merged t30 t31).getD Nd.none).subs.length cap7036)).toArray), (34, .bool true), (6, .bool true), (35, .bool true)]) (s4 (s4 (s4 (sr rfl (subReg_nil _))))) ?_
     refine WC.draw 11 [36, 37, 38, 39, 40, 41, 42, 43, 44, 45, 46] [pc (pt b10 7), pc (.slice (some ⟨eb30, eo30, none⟩) T.subs.length cap24), pc (.int .i64 (k : Int)), pc (.slice (some ⟨eb30, eo30, none⟩) k cap24), pc (.agg (tcells ((Nd.merged t30 t31).getD Nd.none) (.slice a7036 ((Nd.merged t30 t31).getD Nd.none).subs.length cap7036)).toArray), pnodes (fun _ => True) ([((Nd.merged t30 t31).getD Nd.none)]), pc (pt b10 7), pc (.slice (some ⟨eb30, eo30, none⟩) T.subs.length cap24), pc (.int .i64 (k : Int)), pc (.int .i64 ((k + 2 : Nat) : Int)), pc (.slice (if cap24 = (k + 2) then ((some ⟨eb30, eo30, none⟩) : Option Addr) else Option.map (fun x : Addr => x.add ((k + 2) * 8)) ((some ⟨eb30, eo30, none⟩) : Option Addr)) (T.subs.length - (k + 2) : Nat) (cap24 - (k + 2)))] (by kernel_rfl) (by kernel_rfl) (k4 ⟨KW_pc _, KW_pnodes _ _, k4 ⟨KW_pc _, trivial⟩⟩) rfl rfl rfl (sc4 ?_ ?_ ?_ ?_ (sc4 ?_ ?_ ?_ ?_ (sc ?_ (sc ?_ (sc ?_ (StepsOn.nil _)))))) ?_
     ·intro σ β w1 hE1 hbi hk
      refine ⟨[], (agree_nil _), ?_⟩
      refine WL.fieldAddr rfl rfl Ty.fld30_4 rfl ?_
      exact dq hbi rfl
     ·intro σ β w1 hE1 hbi hk
      refine ⟨[(36, pt b10 7)], (ak hk 0 (agree_nil _)), ?_⟩
      refine WL.load_fld rfl rfl Ty.flat24 rfl (h7042.ext hE1) rfl ?_
      exact dq hbi rfl
     ·intro σ β w1 hE1 hbi hk
      refine ⟨[], (agree_nil _), ?_⟩
      refine mv ?_
      exact dq hbi rfl
     ·intro σ β w1 hE1 hbi hk
      have hz1 := hE1.size
      refine ⟨[(37, .slice (some ⟨eb30, eo30, none⟩) T.subs.length cap24), (38, .int .i64 (k : Int))], (ak hk 1 (ak hk 2 (agree_nil _))), ?_⟩
      refine WL.slice_h (m := k) rfl rfl Ty.slice24 rfl rfl rfl (by omega) ?_
      exact dq hbi rfl
     ·intro σ β w1 hE1 hbi hk
      refine ⟨[], (agree_nil _), ?_⟩
      refine WL.load_box rfl rfl rfl (hR7037.ext hE1) Ty.agg30 ?_
      exact dq hbi rfl
     ·intro σ β w1 hE1 hbi hk
      have hz1 := hE1.size
      refine ⟨[(40, .agg (tcells ((Nd.merged t30 t31).getD Nd.none) (.slice a7036 ((Nd.merged t30 t31).getD Nd.none).subs.length cap7036)).toArray)], (ak hk 4 (agree_nil _)), ?_⟩
      have h7065 := ((hn7036.bu hB7038).ext hE1)
      refine WL.buildSlice (vs := [.agg (tcells ((Nd.merged t30 t31).getD Nd.none) (.slice a7036 ((Nd.merged t30 t31).getD Nd.none).subs.length cap7036)).toArray]) (cells := (tcells ((Nd.merged t30 t31).getD Nd.none) (.slice a7036 ((Nd.merged t30 t31).getD Nd.none).subs.length cap7036))) rfl rfl Ty.slice24 Ty.zero30 rfl rfl rfl rfl rfl rfl (fun b7066 w7071 hb7067 hE7070 hs7068 hR7069 => ?_)
      have hts7066 := (NodesV.lit (n := 1) (ts := [((Nd.merged t30 t31).getD Nd.none)]) hR7069 (RowsL.cons (h7065.ext hE7070) (RowsL.nil' _)) rfl rfl (by decide)).lt
      exact dqE hbi hE7070 ⟨_, _, rfl, (hts7066.dom (by intro k h1; refine ⟨trivial, ?_, h1.2⟩; replace h1 := h1.1; intro x hxm; have hi := hbi.hi x hxm; have lo := hbi.lo x hxm; (try dsimp only at h1); (repeat' first | (guard_hyp h1 : _ ∨ _; refine Or.elim h1 (fun h1 => ?_) (fun h1 => ?_)) | (guard_hyp h1 : _ ∧ _; have hx := h1.2; replace h1 := h1.1)) <;> first | contradiction | omega | exact hx.1 x hxm))⟩
     ·intro σ β w1 hE1 hbi hk
      refine ⟨[], (agree_nil _), ?_⟩
      refine WL.fieldAddr rfl rfl Ty.fld30_4 rfl ?_
      exact dq hbi rfl
     ·intro σ β w1 hE1 hbi hk
      refine ⟨[(42, pt b10 7)], (ak hk 6 (agree_nil _)), ?_⟩
      refine WL.load_fld rfl rfl Ty.flat24 rfl (h7042.ext hE1) rfl ?_
      exact dq hbi rfl
     ·intro σ β w1 hE1 hbi hk
      refine ⟨[], (agree_nil _), ?_⟩
      refine mv ?_
      exact dq hbi rfl
     ·intro σ β w1 hE1 hbi hk
      have hz1 := hE1.size
      refine ⟨[(44, .int .i64 (k : Int))], (ak hk 8 (agree_nil _)), ?_⟩
      refine WL.add (v := ((k + 2 : Nat) : Int)) rfl rfl rfl rfl (by rw [IntWalk.i64_in _ (by omega)]; omega) ?_
      exact dq hbi rfl
     ·intro σ β w1 hE1 hbi hk
      have hz1 := hE1.size
      refine ⟨[(43, .slice (some ⟨eb30, eo30, none⟩) T.subs.length cap24), (45, .int .i64 ((k + 2 : Nat) : Int))], (ak hk 7 (ak hk 9 (agree_nil _))), ?_⟩
      refine WL.slice_l (m := (k + 2)) rfl rfl Ty.slice24 rfl rfl rfl (by omega) ?_
      exact dq hbi rfl
     intro σ β w7044 hE7044 hbi7044 hk
     have hz7044 := hE7044.size
     have hbi := hbi7044
     obtain ⟨_, hv7046, a7046, cap7046, rfl, hts7046⟩ := hk 5 (by decide) _ _ rfl rfl
     have hts7046 := hts7046.lt
     have hlen7046 := hts7046.len
     refine WL.know [(39, .slice (some ⟨eb30, eo30, none⟩) k cap24), (41, .slice a7046 (([((Nd.merged t30 t31).getD Nd.none)]).length) cap7046), (46, .slice (if cap24 = (k + 2) then ((some ⟨eb30, eo30, none⟩) : Option Addr) else Option.map (fun x : Addr => x.add ((k + 2) * 8)) ((some ⟨eb30, eo30, none⟩) : Option Addr)) (T.subs.length - (k + 2) : Nat) (cap24 - (k + 2)))] (aj hk 3 (ag hv7046 (aj hk 10 (agree_nil _)))) ?_
     refine WL.buildSlice (vs := [.slice (some ⟨eb30, eo30, none⟩) k cap24, .slice a7046 (([((Nd.merged t30 t31).getD Nd.none)]).length) cap7046, .slice (if cap24 = (k + 2) then ((some ⟨eb30, eo30, none⟩) : Option Addr) else Option.map (fun x : Addr => x.add ((k + 2) * 8)) ((some ⟨eb30, eo30, none⟩) : Option Addr)) (T.subs.length - (k + 2) : Nat) (cap24 - (k + 2))]) (cells := [.slice (some ⟨eb30, eo30, none⟩) k cap24, .slice a7046 (([((Nd.merged t30 t31).getD Nd.none)]).length) cap7046, .slice (if cap24 = (k + 2) then ((some ⟨eb30, eo30, none⟩) : Option Addr) else Option.map (fun x : Addr => x.add ((k + 2) * 8)) ((some ⟨eb30, eo30, none⟩) : Option Addr)) (T.subs.length - (k + 2) : Nat) (cap24 - (k + 2))]) rfl rfl Ty.slice37 Ty.zero24 rfl rfl rfl rfl rfl rfl (fun b7048 w7053 hb7049 hE7052 hs7050 hR7051 => ?_)
     have h7055 := (((((hts24.ext hE26).ext hE7033).bu hB7038).ext hE7044).ext hE7052)
     have hl7054 := (NLists.lit3 (D := fun _ => True) hR7051 (((h7055).take (by omega) (by omega)).dom (fun _ _ => trivial)) ((hts7046.ext hE7052).dom (fun _ _ => trivial)) (((h7055).drop (by omega)).dom (fun _ _ => trivial)) trivial).lt
     refine WL.call rfl rfl rfl Ty.ent57 (concat_ok _ _ _ _ [(T.subs.take k), [((Nd.merged t30 t31).getD Nd.none)], (T.subs.drop (k + 2))] hl7054 (by have hTc : T.size ≤ 10000 := Nd.good_size hg; have hTs := Nd.size_subs T; have hll := Nd.length_le_sizeL T.subs; rw [flat3]; simp only [List.length_append, List.length_take, List.length_drop, List.length_singleton]; omega)) ?_
     rintro _ w7058 ⟨v7056, rfl, hO7056, hE7057⟩
     have hzhE7057 := hE7057.size
     refine ⟨_, rfl, ?_⟩
     obtain ⟨a7056, cap7056, rfl, hnn7056, hx7056⟩ := hO7056.cases
     have hts7056 := hO7056.nodes.lt
     refine asg ?_
     refine WL.dn ?_
     refine sq ?_
     refine mv ?_
     have hst := Nd.mstep_at ht30 ht31 hc7040 hI0
     rw [← flat3] at hst
     have hsz := Nd.mstep_sz (fun t ht => Nd.nice_subs hni ht) hst
     have hqs := Nd.seq_sz (([(T.subs.take k), [((Nd.merged t30 t31).getD Nd.none)], (T.subs.drop (k + 2))]).flatten)
     have hTs := Nd.size_subs T
     have hTc : T.size ≤ 10000 := Nd.good_size hg
     have hll := Nd.length_le_sizeL (([(T.subs.take k), [((Nd.merged t30 t31).getD Nd.none)], (T.subs.drop (k + 2))]).flatten)
     refine WL.call rfl rfl rfl Ty.ent15 (seq_ok _ _ _ _ (([(T.subs.take k), [((Nd.merged t30 t31).getD Nd.none)], (T.subs.drop (k + 2))]).flatten) hts7056 (by omega)) ?_
     rintro _ w7061 ⟨l7059, rfl, hr7059, hE7060⟩
     have hzhE7060 := hE7060.size
     refine ⟨_, rfl, ?_⟩
     have hn7059 := hr7059.lt
     obtain ⟨a7059, cap7059, rfl, hts7059, hlen7059⟩ := hn7059.op2
     have h7064 := ((((h7042.ext hE7044).ext hE7052).ext hE7057).ext hE7060)
     refine WL.store_box rfl rfl rfl h7064 Ty.agg30 rfl rfl (fun w7065 hB7063 hR7062 => ?_)
     have hzhB7063 := hB7063.size
     refine WL.dn ?_
     refine WC.exit (fun a_ ha => ?_)
     refine exit_out rfl ?_
     refine exit_then ?_
     refine exit_then ?_
     refine exit_out rfl ?_
     refine exit_then ?_
     refine exit_here ?_
     have hdec : (Nd.seq (([(T.subs.take k), [((Nd.merged t30 t31).getD Nd.none)], (T.subs.drop (k + 2))]).flatten)).size < T.size := by omega
     exact ⟨((Nd.seq (([(T.subs.take k), [((Nd.merged t30 t31).getD Nd.none)], (T.subs.drop (k + 2))]).flatten)), (tcells (Nd.seq (([(T.subs.take k), [((Nd.merged t30 t31).getD Nd.none)], (T.subs.drop (k + 2))]).flatten)) (.slice a7059 (Nd.seq (([(T.subs.take k), [((Nd.merged t30 t31).getD Nd.none)], (T.subs.drop (k + 2))]).flatten)).subs.length cap7059))), _, ha.weaken (sr rfl (sr rfl (subReg_nil _))), ⟨rfl, (hB7063.onto (((((hB7038.onto ((hE21.trans hE26).trans hE7033) (by omega)).trans hE7044).trans hE7052).trans hE7057).trans hE7060) (by omega)), ⟨hR7062, (hn7059.bu hB7063).dom (by intro k h1; (try dsimp only at h1); (repeat' first | (guard_hyp h1 : _ ∨ _; refine Or.elim h1 (fun h1 => ?_) (fun h1 => ?_)) | (guard_hyp h1 : _ ∧ _; have hx := h1.2; replace h1 := h1.1)) <;> first | contradiction | exact ⟨by omega, by omega, by omega⟩), Nd.seq_good _, (Nd.catF_some (by omega) hni hst).symm.trans hcf⟩⟩, by first | omega | (dsimp only; omega)⟩
end Go.Proofs.Yteenegaadlhjdaa
namespace Go.Proofs.Yteenegaadlhjdaa
open Go.Proofs Go.RowKit
set_option maxRecDepth 20000 in
set_option maxHeartbeats 4000000 in
theorem captured1_ok (D D2 : Nat → Prop) (w : World) (b : Nat) (l l2 : List Value) (T U : Nd) (hT : NodeL D w l T) (hU : NodeL D2 w l2 U) (hR : Row w b l2 30) :
  Calls Try.prog 67 #[.agg l.toArray, pt b 0] w fun e w' => e = .returned (.bool (Nd.Same2 U T)) ∧ Ext w w' := by
 have hT := hT.lt
 obtain ⟨a, cap, rfl, hts, hlen⟩ := hT.op2
 have hU := hU.lt
 obtain ⟨a2, cap2, rfl, hts2, hlen2⟩ := hU.op2
 refine Calls.enter (args := [.agg (tcells T (.slice a T.subs.length cap)).toArray, pt b 0]) Try.func67 rfl rfl rfl rfl ?_
 refine sq ?_
 refine WL.box_agg rfl rfl rfl (fun b1 w6 hb2 hE5 hs3 hR4 => ?_)
 refine asg ?_
 refine WL.dn ?_
 refine sq ?_
 refine WL.load_box rfl rfl rfl (hR.ext hE5) Ty.agg30 ?_
 refine WL.load_box rfl rfl rfl hR4 Ty.agg30 ?_
 refine WL.call rfl rfl rfl Ty.ent11 (Same_ok _ _ _ _ _ U T (hU.ext hE5) (hT.ext hE5)) ?_
 rintro _ w8 ⟨rfl, hE7⟩
 have hzhE7 := hE7.size
 refine ⟨_, rfl, ?_⟩
 refine asg ?_
 refine WL.dn ?_
 refine WC.ret (fun a_ ha => ?_)
 exact bodyPost_tmp rfl ha rfl ⟨rfl, (hE5.trans hE7)⟩
set_option maxRecDepth 20000 in
set_option maxHeartbeats 4000000 in
theorem captured_ok (D : Nat → Prop) (w : World) (a : Option Addr) (cap : Nat) (ts : List Nd) (hts : NodesV D w (.slice a ts.length cap) ts) (hle : ts.length ≤ 10000) :
  Calls Try.prog 58 #[.slice a ts.length cap] w fun e w' => ∃ l', e = .returned (.agg l'.toArray) ∧ NodeL (fun k => w.heap.size ≤ k) w' l' (Nd.captured ts) ∧ Ext w w' := by
 have hlen := hts.len
 have hts := hts.lt
 have hD : ∀ k, (D k ∧ k < w.heap.size) → k < w.heap.size := fun k h => h.2
 refine Calls.enter (args := [.slice a ts.length cap]) Try.func58 rfl rfl rfl rfl ?_
 refine sq ?_
 refine WL.alloc rfl rfl Ty.zero30 rfl (fun b1 w6 hb2 hE5 hs3 hR4 => ?_)
 refine WL.dn ?_
 refine sq ?_
 refine asg ?_
 refine WL.dn ?_
 refine WC.seqk ?_
 refine sq ?_
 refine mv ?_
 refine WL.len rfl rfl Try.underlying24 rfl ?_
 refine mv ?_
 refine WL.dn ?_
 refine WC.block ?_
 refine WC.weaken (r' := [(2, pt b1 0), (6, .slice a ts.length cap), (7, .int .i64 ts.length), (8, .int .i64 0), (3, .slice none 0 0)]) (s4 (sr rfl (subReg_nil _))) ?_
 refine WC.loop (σ := Nat × Value) (fun s r_ w_ => r_ = [(2, pt b1 0), (6, .slice a ts.length cap), (7, .int .i64 ts.length), (8, .int .i64 (s.1 : Int)), (3, s.2)] ∧ Ext w6 w_ ∧ (s.1 ≤ ts.length ∧ OwnV 30 w6.heap.size (fun k => D k ∧ k < w.heap.size) w_ s.2 (Nd.capL (ts.take s.1)))) (fun s => ts.length - s.1) (0, .slice none 0 0) ⟨rfl, (Ext.refl _), ⟨Nat.zero_le _, OwnV.nil _ _ _ _⟩⟩ ?_
 rintro ⟨k, v⟩ r_ w9 ⟨rfl, hE7, hI8⟩
 have hzhE7 := hE7.size
 dsimp only at hI8
 obtain ⟨hk, hO⟩ := hI8
 obtain ⟨ap, capp, rfl, -, -⟩ := hO.cases
 have hol := hO.own
 have hacc := hO.nodes.lt
 refine WC.weaken (r' := [(2, pt b1 0), (6, .slice a ts.length cap), (7, .int .i64 ts.length), (8, .int .i64 (k : Int)), (3, .slice ap ((Nd.capL (ts.take k)).length) capp)]) (s4 (sr rfl (subReg_nil _))) ?_
 refine sq ?_
 cases hc10 : decide (((k : Int) : Int) < ts.length) with
 | false =>
  refine WL.lss rfl rfl rfl rfl hc10 ?_
  have hp10 := of_decide_eq_false hc10
  refine WL.dn ?_
  refine WC.seqk ?_
  refine cF ?_
  refine WC.exit (fun a_ ha => ?_)
  refine exit_then ?_
  refine exit_then ?_
  refine exit_here ?_
  refine WC.at ?_ ha
  refine sq ?_
  refine mv ?_
  refine WL.call rfl rfl rfl Ty.ent10 (or_ok _ _ _ _ (Nd.capL (ts.take k)) hacc (by have h1 := Nd.capL_len (ts.take k); have h2 := List.length_take_le k ts; omega)) ?_
  rintro _ w13 ⟨l11, rfl, hr11, hE12⟩
  have hzhE12 := hE12.size
  refine ⟨_, rfl, ?_⟩
  have hn11 := hr11.lt
  obtain ⟨a11, cap11, rfl, hts11, hlen11⟩ := hn11.op2
  have h16 := ((hR4.ext hE7).ext hE12)
  refine WL.store_box rfl rfl rfl h16 Ty.agg30 rfl rfl (fun w17 hB15 hR14 => ?_)
  have hzhB15 := hB15.size
  refine WL.dn ?_
  refine WC.ret (fun a_ ha => ?_)
  exact bodyPost_cell (l := (tcells (Nd.or (Nd.capL (ts.take k))) (.slice a11 (Nd.or (Nd.capL (ts.take k))).subs.length cap11))) rfl ha rfl Ty.agg30 hR14 ⟨_, rfl, (by rw [show Nd.captured ts = Nd.or (Nd.capL (ts.take k)) from by rw [List.take_of_length_le (by omega)]; rfl]; exact ((hn11.bu hB15).dom (by intro k hk; (try dsimp only at hk); first | omega | exact hk.1.elim))), (hB15.onto ((hE5.trans hE7).trans hE12) (by omega))⟩
 | true =>
  refine WL.lss rfl rfl rfl rfl hc10 ?_
  have hp10 := of_decide_eq_true hc10
  refine WL.dn ?_
  refine WC.seqk ?_
  refine cT ?_
  refine WC.sk ?_
  refine WC.seqk ?_
  refine WC.block ?_
  refine sq ?_
  have h11 := ((hts.ext hE5).ext hE7)
  obtain ⟨t12, ht12⟩ : ∃ t, ts[k]? = some t := ⟨_, List.getElem?_eq_getElem (by omega)⟩
  obtain ⟨eb12, eo12, el12, hea12, hD12, her12, hn12⟩ := h11.at ht12
  obtain ⟨a12, cap12, rfl, hts12, hlen12⟩ := hn12.op2
  subst hea12
  refine WL.indexAddr (i := k) rfl rfl Ty.slice24 rfl rfl rfl (by omega) ?_
  refine WL.load_agg (l := tcells t12 (.slice a12 t12.subs.length cap12)) rfl rfl Ty.agg30 rfl her12 ?_
  refine WL.alloc rfl rfl Ty.zero30 rfl (fun b13 w18 hb14 hE17 hs15 hR16 => ?_)
  refine WL.store_box rfl rfl rfl hR16 Ty.agg30 rfl rfl (fun w21 hB20 hR19 => ?_)
  have hzhB20 := hB20.size
  refine WL.dn ?_
  refine sq ?_
  refine WL.load_box rfl rfl rfl hR19 Ty.agg30 ?_
  have h22 := ((hn12.ext hE17).bu hB20)
  refine WL.call rfl rfl rfl Ty.ent26 (plain_ok t12 _ _ _ h22) ?_
  rintro _ w24 ⟨rfl, hE23⟩
  have hzhE23 := hE23.size
  refine ⟨_, rfl, ?_⟩
  cases hc25 : Nd.plain t12 with
  | false =>
   refine WL.not rfl rfl rfl ?_
   refine mv ?_
   refine ps ?_
   refine ps ?_
   refine ps ?_
   refine ps ?_
   refine pT ?_
   refine WL.dn ?_
   refine cT ?_
   refine WC.region ?_
   refine mv ?_
   refine WL.load_box rfl rfl rfl (hR19.ext hE23) Ty.agg30 ?_
   refine WL.buildSlice (vs := [.agg (tcells t12 (.slice a12 t12.subs.length cap12)).toArray]) (cells := (tcells t12 (.slice a12 t12.subs.length cap12))) rfl rfl Ty.slice24 Ty.zero30 rfl rfl rfl rfl rfl rfl (fun b26 w31 hb27 hE30 hs28 hR29 => ?_)
   have hts26 := (NodesV.lit (n := 1) (ts := [t12]) hR29 (RowsL.cons ((h22.ext hE23).ext hE30) (RowsL.nil' _)) rfl rfl (by decide)).lt
   have h32 := ((((hO.ext hE17).but hB20 (fun h1 => by have := hD _ h1; first | omega | (dsimp only at h1; omega)) (fun hk => by have := (hO.ext hE17).own _ hk; have := hol _ hk; omega)).ext hE23).ext hE30)
   have hol33 := h32.own
   have h34 := ((h22.ext hE23).ext hE30)
   refine WL.append1 rfl rfl Ty.slice24 Ty.zero30 rfl small_node rfl rfl h32 hR29 h34 (by intro k h1 hh; have := hol33 _ hh; have := hol _ hh; first | omega | ((try dsimp only at h1); (repeat' first | (guard_hyp h1 : _ ∨ _; refine Or.elim h1 (fun h1 => ?_) (fun h1 => ?_)) | (guard_hyp h1 : _ ∧ _; have hx := h1.2; replace h1 := h1.1)) <;> first | contradiction | omega)) (by have h1 := Nd.capL_len (ts.take k); have h2 := List.length_take_le k ts; omega) (by omega) ?_
   intro v33 w33 hG33 hO33 hv33
   have hE33 := grown_below hG33 (((hB20.onto ((hE5.trans hE7).trans hE17) (by omega)).trans hE23).trans hE30) (by intro k hk; have := hol33 _ hk; omega)
   have hz33 := hE33.size
   have hzz33 := hG33.size
   refine asg ?_
   refine WL.dn ?_
   refine WC.region ?_
   refine WL.add (v := (k : Int) + 1) rfl rfl rfl rfl (IntWalk.i64_in _ (by omega)) ?_
   refine mv ?_
   refine WL.nil (fun a_ ha => ?_)
   exact ⟨(k + 1, v33), _, ha.weaken (s4 (sr rfl (subReg_nil _))), ⟨rfl, (grown_below hG33 (((hB20.onto (hE7.trans hE17) (by omega)).trans hE23).trans hE30) (by intro k hh; have := hol33 _ hh; have := hol _ hh; omega)), ⟨by first | omega | (dsimp only; omega), (by dsimp only; rw [Nd.capL_succ ht12]; simp only [Nd.capStep, hc10, hc25, cond_true, cond_false, Bool.not_true, Bool.not_false, Bool.or_true, Bool.true_or, Bool.or_false, Bool.false_or, Bool.and_true, Bool.true_and, Bool.and_false, Bool.false_and]; exact hO33.dom (by rintro k h _ _; first | exact h | (rcases h with h | h; exact h; first | exact h | exact h.1)))⟩⟩, by first | omega | (dsimp only; omega)⟩
  | true =>
   refine WL.not rfl rfl rfl ?_
   refine mv ?_
   refine mv ?_
   refine WL.makeFunc rfl rfl rfl ?_
   have h26 := (((hacc.ext hE17).bu hB20).ext hE23)
   refine WL.call rfl rfl rfl Ty.ent40 (containsFunc_ok _ _ _ _ _ _ (Nd.capL (ts.take k)) (fun m => Nd.Same2 t12 m) h26 (fun l t w2 h hn ht => Calls.caps1 (captured1_ok _ _ w2 _ _ _ t t12 hn ((h22.ext hE23).ext h) ((hR19.ext hE23).ext h))) Ty.ent67) ?_
   rintro _ w28 ⟨rfl, hE27⟩
   have hzhE27 := hE27.size
   refine ⟨_, rfl, ?_⟩
   cases hc29 : List.any (Nd.capL (ts.take k)) (fun m => Nd.Same2 t12 m) with
   | false =>
    refine WL.not rfl rfl rfl ?_
    refine pF ?_
    refine WL.dn ?_
    refine cT ?_
    refine WC.region ?_
    refine mv ?_
    have h30 := ((hR19.ext hE23).ext hE27)
    refine WL.load_box rfl rfl rfl h30 Ty.agg30 ?_
    have h31 := ((h22.ext hE23).ext hE27)
    refine WL.buildSlice (vs := [.agg (tcells t12 (.slice a12 t12.subs.length cap12)).toArray]) (cells := (tcells t12 (.slice a12 t12.subs.length cap12))) rfl rfl Ty.slice24 Ty.zero30 rfl rfl rfl rfl rfl rfl (fun b32 w37 hb33 hE36 hs34 hR35 => ?_)
    have hts32 := (NodesV.lit (n := 1) (ts := [t12]) hR35 (RowsL.cons (h31.ext hE36) (RowsL.nil' _)) rfl rfl (by decide)).lt
    have h38 := (((((hO.ext hE17).but hB20 (fun h1 => by have := hD _ h1; first | omega | (dsimp only at h1; omega)) (fun hk => by have := (hO.ext hE17).own _ hk; have := hol _ hk; omega)).ext hE23).ext hE27).ext hE36)
    have hol39 := h38.own
    refine WL.append1 rfl rfl Ty.slice24 Ty.zero30 rfl small_node rfl rfl h38 hR35 (h31.ext hE36) (by intro k h1 hh; have := hol39 _ hh; have := hol _ hh; first | omega | ((try dsimp only at h1); (repeat' first | (guard_hyp h1 : _ ∨ _; refine Or.elim h1 (fun h1 => ?_) (fun h1 => ?_)) | (guard_hyp h1 : _ ∧ _; have hx := h1.2; replace h1 := h1.1)) <;> first | contradiction | omega)) (by have h1 := Nd.capL_len (ts.take k); have h2 := List.length_take_le k ts; omega) (by omega) ?_
    intro v39 w39 hG39 hO39 hv39
    have hE39 := grown_below hG39 ((((hB20.onto ((hE5.trans hE7).trans hE17) (by omega)).trans hE23).trans hE27).trans hE36) (by intro k hk; have := hol39 _ hk; omega)
    have hz39 := hE39.size
    have hzz39 := hG39.size
    refine asg ?_
    refine WL.dn ?_
    refine WC.region ?_
    refine WL.add (v := (k : Int) + 1) rfl rfl rfl rfl (IntWalk.i64_in _ (by omega)) ?_
    refine mv ?_
    refine WL.nil (fun a_ ha => ?_)
    exact ⟨(k + 1, v39), _, ha.weaken (s4 (sr rfl (subReg_nil _))), ⟨rfl, (grown_below hG39 ((((hB20.onto (hE7.trans hE17) (by omega)).trans hE23).trans hE27).trans hE36) (by intro k hh; have := hol39 _ hh; have := hol _ hh; omega)), ⟨by first | omega | (dsimp only; omega), (by dsimp only; rw [Nd.capL_succ ht12]; simp only [Nd.capStep, hc10, hc25, hc29, cond_true, cond_false, Bool.not_true, Bool.not_false, Bool.or_true, Bool.true_or, Bool.or_false, Bool.false_or, Bool.and_true, Bool.true_and, Bool.and_false, Bool.false_and]; exact hO39.dom (by rintro k h _ _; first | exact h | (rcases h with h | h; exact h; first | exact h | exact h.1)))⟩⟩, by first | omega | (dsimp only; omega)⟩
   | true =>
    refine WL.not rfl rfl rfl ?_
    refine pF ?_
    refine WL.dn ?_
    refine cF ?_
    refine WC.sk ?_
    refine WC.region ?_
    refine WL.add (v := (k : Int) + 1) rfl rfl rfl rfl (IntWalk.i64_in _ (by omega)) ?_
    refine mv ?_
    refine WL.nil (fun a_ ha => ?_)
    have h30 := ((((hO.ext hE17).but hB20 (fun h1 => by have := hD _ h1; first | omega | (dsimp only at h1; omega)) (fun hk => by have := (hO.ext hE17).own _ hk; have := hol _ hk; omega)).ext hE23).ext hE27)
    exact ⟨(k + 1, .slice ap ((Nd.capL (ts.take k)).length) capp), _, ha.weaken (s4 (sr rfl (subReg_nil _))), ⟨rfl, (((hB20.onto (hE7.trans hE17) (by omega)).trans hE23).trans hE27), ⟨by first | omega | (dsimp only; omega), (by dsimp only; rw [Nd.capL_succ ht12]; simp only [Nd.capStep, hc10, hc25, hc29, cond_true, cond_false, Bool.not_true, Bool.not_false, Bool.or_true, Bool.true_or, Bool.or_false, Bool.false_or, Bool.and_true, Bool.true_and, Bool.and_false, Bool.false_and]; exact h30.dom (by rintro k h _ _; first | exact h | (rcases h with h | h; exact h; first | exact h | exact h.1)))⟩⟩, by first | omega | (dsimp only; omega)⟩
end Go.Proofs.Yteenegaadlhjdaa
namespace Go.Proofs.Yteenegaadlhjdaa
namespace Nd
def dd (prev : Nd) : List Nd → List Nd
  | [] => []
  | y :: r => bif Same2 y prev then dd y r else y :: dd y r
def compactT : List Nd → List Nd
  | [] => []
  | x :: r => x :: dd x r
theorem compactT_small {l : List Nd} (h : l.length < 2) : compactT l = l := by
  match l, h with
  | [], _ => rfl
  | [x], _ => rfl
theorem dd_succ {prev : Nd} {l : List Nd} {k : Nat} {x y : Nd} (hx : (prev :: l)[k]? = some x) (hy : (prev :: l)[k + 1]? = some y) : dd prev (l.take (k + 1)) = dd prev (l.take k) ++ (bif Same2 y x then [] else [y]) := by
  induction l generalizing prev k with
  | nil => simp at hy
  | cons b r ih =>
    cases k with
    | zero =>
      simp at hx hy; subst hx; subst hy
      simp only [List.take_succ_cons, List.take_zero, dd, List.nil_append]
    | succ k =>
      simp only [List.getElem?_cons_succ] at hx hy
      have := ih (prev := b) (k := k) hx (by simpa using hy)
      simp only [List.take_succ_cons, dd, this]
      cases Same2 b prev <;> simp
theorem compactT_succ {l : List Nd} {k : Nat} {x y : Nd} (hx : l[k]? = some x) (hy : l[k + 1]? = some y) : compactT (l.take (k + 2)) = compactT (l.take (k + 1)) ++ (bif Same2 y x then [] else [y]) := by
  cases l with
  | nil => simp at hx
  | cons a r =>
    simp only [List.take_succ_cons, compactT, List.cons_append]
    rw [dd_succ hx hy]
theorem compactT_keep {l : List Nd} {k : Nat} (hk : k ≤ l.length) (h : ∀ (j : Nat) (x y : Nd), j + 1 < k → l[j]? = some x → l[j + 1]? = some y → Same2 y x = false) : compactT (l.take k) = l.take k := by
  induction k with
  | zero => rfl
  | succ k ih =>
    cases k with
    | zero =>
      cases l with
      | nil => rfl
      | cons a r => rfl
    | succ k =>
      have hx : l[k]? = some l[k] := List.getElem?_eq_getElem (by omega)
      have hy : l[k + 1]? = some l[k + 1] := List.getElem?_eq_getElem (by omega)
      rw [compactT_succ hx hy, ih (by omega) (fun j x y hj => h j x y (by omega)), h k _ _ (by omega) hx hy]
      conv => rhs; rw [List.take_add_one, hy]
      rfl
theorem compactT_same {l : List Nd} {k : Nat} {x y : Nd} (hx : l[k]? = some x) (hy : l[k + 1]? = some y) (hs : Same2 y x = true) (h : ∀ (j : Nat) (x y : Nd), j + 1 < k + 1 → l[j]? = some x → l[j + 1]? = some y → Same2 y x = false) : compactT (l.take (k + 2)) = l.take (k + 1) := by
  rw [compactT_succ hx hy, hs, compactT_keep (by have := (List.getElem?_eq_some_iff.1 hy).1; omega) h]; simp
theorem take_set_succ {l : List Nd} {q : Nat} {t : Nd} (h : q < l.length) : (l.set q t).take (q + 1) = l.take q ++ [t] := by
  rw [List.take_add_one, List.getElem?_set_self h, List.take_set_of_le (Nat.le_refl _)]; rfl
end Nd
end Go.Proofs.Yteenegaadlhjdaa
namespace Go.Proofs.Yteenegaadlhjdaa
open Go.RowKit Go.Lib
section
variable {P : Program} {ro : Option Nat} {all : Array Oper} {Q : Exit → Act → World → Prop} {N : Nat} {ds : List Deferred} {r : Reg} {w : World} {rest : List Oper}
  {ty : TypeId} {pos : String} {aft : Array Edge} {g : Option (Nat × Bool)}
theorem WL.valn {op : Op} {v : Value} {w' : World} (hw : want all r g = some true) (ho : ∀ c, op ≠ .defer c)
    (hrun : ∀ a, Fits N ds r a → (execOp a.eval ⟨none, op, ty, pos, aft, g⟩).run P w = .ok (.value v) w')
    (next : WL ro P all Q N ds rest r w') : WL ro P all Q N ds (⟨none, op, ty, pos, aft, g⟩ :: rest) r w := by
  intro a ha
  unfold wpListIn
  rw [if_pos (want_wanted ha (o := ⟨none, op, ty, pos, aft, g⟩) hw)]
  refine ⟨fun _ _ => trivial, ?_⟩
  rw [semAt_wd ho, hrun a ha, Oper.uponIn_value]
  exact next _ ha
theorem WL.slice_lo {d : Nat} {t e s : Nat} {x y : Operand} {b o n cap m : Nat} {k : IntKind} {j : Int} (hw : want all r g = some true) (hd : Nat.blt d N = true) (ht : sliceB P t e s = true)
    (hx : ev r x = some (.slice (some ⟨b, o, none⟩) n cap)) (hy : ev r y = some (.int k j)) (hj : j = m) (hm : m ≤ n) (hc : m < cap)
    (next : WL ro P all Q N ds rest ((d, .slice (some ⟨b, o + m * s, none⟩) (n - m) (cap - m)) :: r) w) : WL ro P all Q N ds (⟨some d, .slice t x (some y) none none, ty, pos, aft, g⟩ :: rest) r w := by
  refine WL.slice_l hw hd ht hx hy hj hm ?_
  rw [if_neg (by omega)]
  simpa only [Option.map_some, addr_add] using next
theorem WL.indexAddrO {d : Nat} {t e n : Nat} {x y : Operand} {b o len cap i o' : Nat} {k : IntKind} {j : Int} (hw : want all r g = some true) (hd : Nat.blt d N = true) (ht : sliceB P t e n = true)
    (hx : ev r x = some (.slice (some ⟨b, o, none⟩) len cap)) (hy : ev r y = some (.int k j)) (hj : j = i) (hi : i < len) (ho : o + i * n = o')
    (next : WL ro P all Q N ds rest ((d, pt b (o')) :: r) w) : WL ro P all Q N ds (⟨some d, .indexAddr t x y, ty, pos, aft, g⟩ :: rest) r w := by
  subst ho
  exact WL.indexAddr hw hd ht hx hy hj hi next
theorem WL.clearO {t e base k n cap b : Nat} {D : Nat → Prop} {x : Operand} {z : Value} {ts : List Nd} (hw : want all r g = some true) (ht : sliceB P t e 8 = true) (hz : zeroB P e z) (hzs : z.cells.size = 8) (hz1 : z.cells.all Value.oneCell' = true)
    (hx : ev r x = some (.slice (some ⟨b, 0 + k * 8, none⟩) (n - k) (cap - k))) (hk : k < n) (hM : OwnV e base D w (.slice (some ⟨b, 0, none⟩) n cap) ts)
    (next : ∀ w', But b w w' → OwnV e base D w' (.slice (some ⟨b, 0, none⟩) k cap) (ts.take k) → WL ro P all Q N ds rest r w') :
    WL ro P all Q N ds (⟨none, .call ⟨.builtin .clear, #[x], #[t]⟩, ty, pos, aft, g⟩ :: rest) r w := by
  obtain ⟨hu, q, hq, hs⟩ := sliceB_u ht
  have hzz : q.zero = some z := by unfold zeroB at hz; rw [hq] at hz; exact hz
  obtain ⟨ls, ⟨hlen, h⟩, hR, hle⟩ := hM
  rcases h with ⟨he, _⟩ | ⟨g', cap', cur, he, hg, hrow, hn, hcm, hcs, htake⟩
  · cases he
  · cases he
    have hzl : (Builtin.zeroCells z.cells (ts.length - k)).size = (ts.length - k) * 8 := by rw [size_zeroCells, hzs]
    have h1 : ∀ u ∈ (Builtin.zeroCells z.cells (ts.length - k)).toList, u.oneCell' = true := by
      intro u hu
      simp only [Builtin.zeroCells, Array.toList_map, List.mem_map, Array.mem_toList_iff, Array.mem_range] at hu
      obtain ⟨i, hi, rfl⟩ := hu
      have hlt : i % z.cells.size < z.cells.size := Nat.mod_lt _ (by omega)
      rw [getElem!_pos z.cells (i % z.cells.size) hlt]
      exact (Array.all_eq_true.1 hz1) _ hlt
    have hfit : 0 + k * 8 + (ts.length - k) * 8 ≤ cur.size := by rw [hcs]; omega
    have hrun := run_storeCells_at P b (0 + k * 8) e (Builtin.zeroCells z.cells (ts.length - k)).toList 0 cur w hrow (by simp only [Array.length_toList, hzl]; omega) h1
    obtain ⟨w', hw'⟩ : ∃ w', w' = w.setRow b (cur.toList.take (0 + k * 8 + 0) ++ (Builtin.zeroCells z.cells (ts.length - k)).toList ++ cur.toList.drop (0 + k * 8 + 0 + (Builtin.zeroCells z.cells (ts.length - k)).toList.length)).toArray := ⟨_, rfl⟩
    rw [← hw'] at hrun
    have hclr : (Builtin.clear_ #[t] ty #[.slice (some ⟨b, 0 + k * 8, none⟩) (ts.length - k) (cap - k)]).run P w = .ok (.tuple #[]) w' := by
      clear hw'
      obtain ⟨m, hm⟩ : ∃ m, ts.length - k = m + 1 := ⟨ts.length - k - 1, by omega⟩
      rw [hm] at hrun ⊢
      rw [Nat.zero_add] at hrun ⊢
      simp only [Builtin.clear_]
      simp [run_underlying hu, zeroValue, typeInfo, hq, hzz, hrun]
    clear hrun
    have hZ : (Builtin.zeroCells z.cells (ts.length - k)).toList.length = (ts.length - k) * 8 := by rw [Array.length_toList, hzl]
    generalize Builtin.zeroCells z.cells (ts.length - k) = Z at hw' hZ h1 ⊢
    have hB : But b w w' := by subst hw'; exact ⟨rfl, rfl, rfl, by simp, fun q hq => setRow_other w b q _ (by omega), Nat.le_refl _⟩
    have hrow' : w'.heap[b]? = some (.cells (cur.toList.take (0 + k * 8 + 0) ++ Z.toList ++ cur.toList.drop (0 + k * 8 + 0 + Z.toList.length)).toArray e (0, 0)) := by subst hw'; exact setRow_heap w b cur _ e _ hrow
    refine WL.valn (v := .tuple #[]) (w' := w') hw (by intro c h; cases h) (fun a ha => ?_) (next _ hB ?_)
    · rw [Nat.zero_add] at hclr hx
      simp [execOp, resolve, invoke, builtin, ha.ev hx, hclr]
    · have hcl : cur.toList.length = cap * 8 := by simpa using hcs
      have hlk : k ≤ ls.length := by rw [hR.1]; omega
      refine ⟨ls.take k, ⟨?_, .inr ⟨b, cap, _, by simp; omega, hg, hrow', by simp; omega, hcm, ?_, ?_⟩⟩, ⟨by simp [hR.1], fun i l t h1 h2 => ?_⟩, by simp; omega⟩
      · rw [len_flatten _ (fun l hl => hR.eight l (List.mem_of_mem_take hl))]; simp; omega
      · simp only [List.size_toArray, List.length_append, List.length_take, List.length_drop, hcl, hZ]; omega
      · have hkl : (ts.take k).length = k := by simp; omega
        rw [hkl]
        have e1 : (cur.toList.take (0 + k * 8 + 0)).length = k * 8 := by simp [hcs]; omega
        rw [List.append_assoc, List.take_left' e1]
        have e2 : (cur.toList.take (ts.length * 8)).take (k * 8) = ls.flatten.take (k * 8) := by rw [htake]
        rw [List.take_take, Nat.min_eq_left (by omega)] at e2
        rw [show 0 + k * 8 + 0 = k * 8 by omega, e2]
        have hfl : ∀ (ls : List (List Value)) (k : Nat), (∀ l ∈ ls, l.length = 8) → k ≤ ls.length → ls.flatten.take (k * 8) = (ls.take k).flatten := by
          intro ls
          induction ls with
          | nil => intro k _ _; simp
          | cons x ls ih =>
            intro k h8 hk
            cases k with
            | zero => simp
            | succ k =>
              have hx8 := h8 x (by simp)
              simp only [List.flatten_cons, List.take_succ_cons]
              have e3 : (k + 1) * 8 = x.length + k * 8 := by omega
              rw [e3, List.take_length_add_append, ih k (fun l hl => h8 l (by simp [hl])) (by simpa using hk)]
        exact hfl ls k hR.eight hlk
      · have h1' : ls[i]? = some l := by
          rw [List.getElem?_take] at h1
          split at h1
          · exact h1
          · cases h1
        have h2' : ts[i]? = some t := by
          rw [List.getElem?_take] at h2
          split at h2
          · exact h2
          · cases h2
        exact (hR.2 i l t h1' h2').step (fun q hq => ⟨hq.1, by rw [hB.size]; exact hq.2.1, hq.2.2⟩) (fun c o l' hk hr => hB.reads hr (fun he => hk.2.2 (by simp [Value.ownBlock, he])))
end
end Go.Proofs.Yteenegaadlhjdaa
namespace Go.Proofs.Yteenegaadlhjdaa
open Go.Proofs Go.RowKit
set_option maxRecDepth 20000 in
set_option maxHeartbeats 4000000 in
theorem compact_big (D : Nat → Prop) (wb w : World) (base g cap : Nat) (ts : List Nd) (hE0 : Ext wb w) (hwb : wb.heap.size ≤ base) (hO : OwnV 30 base D w (.slice (some ⟨g, 0, none⟩) ts.length cap) ts) (h2 : 2 ≤ ts.length) :
  Calls Try.prog 63 #[.slice (some ⟨g, 0, none⟩) ts.length cap, .func (.func 11) #[] #[]] w fun e w' => ∃ v', e = .returned v' ∧ OwnV 30 base D w' v' (Nd.compactT ts) ∧ Ext wb w' := by
 have hM := hO.mix
 have hol := hO.own g rfl
 have hlen := hO.nodes.len
 have hz0 := hE0.size
 refine Calls.enter (args := [.slice (some ⟨g, 0, none⟩) ts.length cap, .func (.func 11) #[] #[]]) Try.func63 rfl rfl rfl rfl ?_
 refine sq ?_
 refine asg ?_
 refine WL.dn ?_
 refine WC.seqk ?_
 refine sq ?_
 refine mv ?_
 refine WL.len rfl rfl Try.underlying24 rfl ?_
 refine WL.lss (b := false) rfl rfl rfl rfl (decide_eq_false (by omega)) ?_
 refine WL.dn ?_
 refine cF ?_
 refine WC.sk ?_
 refine WC.seqk ?_
 refine sq ?_
 refine asg ?_
 refine WL.dn ?_
 refine WC.block ?_
 refine WC.weaken (r' := [(0, .slice (some ⟨g, 0, none⟩) ts.length cap), (1, .func (.func 11) #[] #[]), (5, .int .i64 1)]) (sr rfl (sr rfl (sr rfl (subReg_nil _)))) ?_
 refine WC.loop (σ := Nat) (fun k r_ w_ => r_ = [(0, .slice (some ⟨g, 0, none⟩) ts.length cap), (1, .func (.func 11) #[] #[]), (5, .int .i64 (k : Int))] ∧ Ext w w_ ∧ (1 ≤ k ∧ k ≤ ts.length ∧ ∀ (j : Nat) (x y : Nd), j + 1 < k → ts[j]? = some x → ts[j + 1]? = some y → Nd.Same2 y x = false)) (fun k => ts.length - k) 1 ⟨rfl, (Ext.refl _), ⟨Nat.le_refl _, by omega, fun j x y h => absurd h (by omega)⟩⟩ ?_
 rintro k r_ w3 ⟨rfl, hE1, hI2⟩
 have hzhE1 := hE1.size
 obtain ⟨hk1, hk, hI0⟩ := hI2
 refine WC.seqk ?_
 refine sq ?_
 refine mv ?_
 refine mv ?_
 refine WL.len rfl rfl Try.underlying24 rfl ?_
 cases hc4 : decide (((k : Int) : Int) < ts.length) with
 | false =>
  refine WL.lss rfl rfl rfl rfl hc4 ?_
  have hp4 := of_decide_eq_false hc4
  refine WL.dn ?_
  refine cF ?_
  refine WC.exit (fun a_ ha => ?_)
  refine exit_then ?_
  refine exit_then ?_
  refine exit_here ?_
  refine WC.at ?_ ha
  refine sq ?_
  refine mv ?_
  refine asg ?_
  refine WL.dn ?_
  refine WC.ret (fun a_ ha => ?_)
  exact bodyPost_tmp rfl ha rfl ⟨_, rfl, (by have hkj : k = ts.length := (by omega); have hq := Nd.compactT_keep (Nat.le_of_eq hkj) hI0; rw [hkj, List.take_length] at hq; rw [hq]; exact (hO.ext hE1)), (hE0.trans hE1)⟩
 | true =>
  refine WL.lss rfl rfl rfl rfl hc4 ?_
  have hp4 := of_decide_eq_true hc4
  refine WL.dn ?_
  refine cT ?_
  refine WC.sk ?_
  refine WC.seqk ?_
  refine WC.block ?_
  refine WC.seqk ?_
  obtain ⟨t5, ht5⟩ : ∃ t, ts[k]? = some t := ⟨_, List.getElem?_eq_getElem (by omega)⟩
  obtain ⟨eb5, el5, hea5, hgb5, hgl5, her5, hn5⟩ := (hM.ext hE1).at ht5
  obtain ⟨a5, cap5, rfl, hts5, hlen5⟩ := hn5.op2
  cases hea5
  obtain ⟨t6, ht6⟩ : ∃ t, ts[(k - 1)]? = some t := ⟨_, List.getElem?_eq_getElem (by omega)⟩
  obtain ⟨eb6, el6, hea6, hgb6, hgl6, her6, hn6⟩ := (hM.ext hE1).at ht6
  obtain ⟨a6, cap6, rfl, hts6, hlen6⟩ := hn6.op2
  cases hea6
  refine WC.weaken (r' := [(0, .slice (some ⟨g, 0, none⟩) ts.length cap), (1, .func (.func 11) #[] #[]), (5, .int .i64 (k : Int)), (12, .int .i64 (k : Int)), (13, .slice (some ⟨g, 0, none⟩) ts.length cap), (14, .int .i64 ts.length), (15, .bool true)]) (s4 (sr rfl (sr rfl (sr rfl (subReg_nil _))))) ?_
  refine WC.draw 10 [18, 19, 20, 21, 22, 23, 24, 25, 26, 27] [pc (.func (.func 11) #[] #[]), pc (.slice (some ⟨g, 0, none⟩) ts.length cap), pc (.int .i64 (k : Int)), pc (pt g (0 + k * 8)), pc (.agg (tcells t5 (.slice a5 t5.subs.length cap5)).toArray), pc (.slice (some ⟨g, 0, none⟩) ts.length cap), pc (.int .i64 (k : Int)), pc (.int .i64 ((k - 1 : Nat) : Int)), pc (pt g (0 + (k - 1) * 8)), pc (.agg (tcells t6 (.slice a6 t6.subs.length cap6)).toArray)] (by kernel_rfl) (by kernel_rfl) (k4 (k4 ⟨KW_pc _, KW_pc _, trivial⟩)) rfl rfl rfl (sc4 ?_ ?_ ?_ ?_ (sc4 ?_ ?_ ?_ ?_ (sc ?_ (sc ?_ (StepsOn.nil _))))) ?_
  ·intro σ β w1 hE1 hbi hk
   refine ⟨[], (agree_nil _), ?_⟩
   refine mv ?_
   exact dq hbi rfl
  ·intro σ β w1 hE1 hbi hk
   refine ⟨[], (agree_nil _), ?_⟩
   refine mv ?_
   exact dq hbi rfl
  ·intro σ β w1 hE1 hbi hk
   refine ⟨[], (agree_nil _), ?_⟩
   refine mv ?_
   exact dq hbi rfl
  ·intro σ β w1 hE1 hbi hk
   have hz1 := hE1.size
   refine ⟨[(19, .slice (some ⟨g, 0, none⟩) ts.length cap), (20, .int .i64 (k : Int))], (ak hk 1 (ak hk 2 (agree_nil _))), ?_⟩
   refine WL.indexAddr (i := k) rfl rfl Ty.slice24 rfl rfl rfl (by omega) ?_
   exact dq hbi rfl
  ·intro σ β w1 hE1 hbi hk
   refine ⟨[(21, pt g (0 + k * 8))], (ak hk 3 (agree_nil _)), ?_⟩
   refine WL.load_agg (l := tcells t5 (.slice a5 t5.subs.length cap5)) rfl rfl Ty.agg30 rfl (her5.ext hE1) ?_
   exact dq hbi rfl
  ·intro σ β w1 hE1 hbi hk
   refine ⟨[], (agree_nil _), ?_⟩
   refine mv ?_
   exact dq hbi rfl
  ·intro σ β w1 hE1 hbi hk
   refine ⟨[], (agree_nil _), ?_⟩
   refine mv ?_
   exact dq hbi rfl
  ·intro σ β w1 hE1 hbi hk
   have hz1 := hE1.size
   refine ⟨[(24, .int .i64 (k : Int))], (ak hk 6 (agree_nil _)), ?_⟩
   refine WL.sub (v := ((k - 1 : Nat) : Int)) rfl rfl rfl rfl (by rw [IntWalk.i64_in _ (by omega)]; omega) ?_
   exact dq hbi rfl
  ·intro σ β w1 hE1 hbi hk
   have hz1 := hE1.size
   refine ⟨[(23, .slice (some ⟨g, 0, none⟩) ts.length cap), (25, .int .i64 ((k - 1 : Nat) : Int))], (ak hk 5 (ak hk 7 (agree_nil _))), ?_⟩
   refine WL.indexAddr (i := (k - 1)) rfl rfl Ty.slice24 rfl rfl rfl (by omega) ?_
   exact dq hbi rfl
  ·intro σ β w1 hE1 hbi hk
   refine ⟨[(26, pt g (0 + (k - 1) * 8))], (ak hk 8 (agree_nil _)), ?_⟩
   refine WL.load_agg (l := tcells t6 (.slice a6 t6.subs.length cap6)) rfl rfl Ty.agg30 rfl (her6.ext hE1) ?_
   exact dq hbi rfl
  intro σ β w7 hE7 hbi7 hk
  have hz7 := hE7.size
  have hbi := hbi7
  refine WL.know [(18, .func (.func 11) #[] #[]), (22, .agg (tcells t5 (.slice a5 t5.subs.length cap5)).toArray), (27, .agg (tcells t6 (.slice a6 t6.subs.length cap6)).toArray)] (aj hk 0 (aj hk 4 (aj hk 9 (agree_nil _)))) ?_
  refine WL.callv rfl rfl rfl rfl Ty.ent11 (Same_ok _ _ _ _ _ t5 t6 (hn5.ext hE7) (hn6.ext hE7)) ?_
  rintro _ w12 ⟨rfl, hE11⟩
  have hzhE11 := hE11.size
  refine ⟨_, rfl, ?_⟩
  cases hc13 : Nd.light t5 && Nd.light t6 && Nd.same t5 t6 with
  | false =>
   refine WL.dn ?_
   refine cF ?_
   refine WC.sk ?_
   refine WC.region ?_
   refine mv ?_
   refine WL.add (v := ((k + 1 : Nat) : Int)) rfl rfl rfl rfl (by rw [IntWalk.i64_in _ (by omega)]; omega) ?_
   refine asg ?_
   refine WL.nil (fun a_ ha => ?_)
   exact ⟨k + 1, _, ha.weaken (sr rfl (sr rfl (sr rfl (subReg_nil _)))), ⟨rfl, ((hE1.trans hE7).trans hE11), ⟨by omega, by omega, by intro j x y hj hx hy; rcases Nat.lt_or_ge (j + 1) k with h | h; exact hI0 j x y h hx hy; (have e1 : j = k - 1 := by omega); (have e2 : j + 1 = k := by omega); rw [e1, ht6] at hx; rw [e2, ht5] at hy; cases hx; cases hy; exact hc13⟩⟩, by first | omega | (dsimp only; omega)⟩
  | true =>
   refine WL.dn ?_
   refine cT ?_
   refine sq ?_
   refine mv ?_
   refine mv ?_
   refine WL.slice_lo (m := k) rfl rfl Ty.slice24 rfl rfl rfl (by omega) (by omega) ?_
   refine asg ?_
   refine WL.dn ?_
   refine WC.seqk ?_
   refine sq ?_
   refine asg ?_
   refine WL.dn ?_
   refine WC.block ?_
   have hcs : Nd.compactT (ts.take (k + 1)) = ts.take k := by have e1 : k = (k - 1) + 1 := (by omega); have h2 := Nd.compactT_same (k := k - 1) (l := ts) ht6 (by rw [← e1]; exact ht5) hc13 (by rw [← e1]; exact hI0); rw [← e1] at h2; rw [show k + 1 = k - 1 + 2 by omega]; exact h2
   clear hI0
   have h14 := (((hO.ext hE1).ext hE7).ext hE11)
   refine WC.weaken (r' := [(0, .slice (some ⟨g, 0, none⟩) ts.length cap), (1, .func (.func 11) #[] #[]), (6, .slice (some ⟨g, 0 + k * 8, none⟩) (ts.length - k : Nat) (cap - k)), (7, .int .i64 1), (5, .int .i64 (k : Int))]) (s4 (sr rfl (subReg_nil _))) ?_
   refine WC.loop (σ := Nat × Nat × List Nd) (fun s r_ w_ => r_ = [(0, .slice (some ⟨g, 0, none⟩) ts.length cap), (1, .func (.func 11) #[] #[]), (6, .slice (some ⟨g, 0 + k * 8, none⟩) (ts.length - k : Nat) (cap - k)), (7, .int .i64 (s.1 : Int)), (5, .int .i64 (s.2.1 : Int))] ∧ Ext wb w_ ∧ (1 ≤ s.1 ∧ s.1 ≤ ts.length - k ∧ k ≤ s.2.1 ∧ s.2.1 < k + s.1 ∧ s.2.2.length = ts.length ∧ (∀ p, k + s.1 ≤ p + 1 → s.2.2[p]? = ts[p]?) ∧ s.2.2.take s.2.1 = Nd.compactT (ts.take (k + s.1)) ∧ OwnV 30 base D w_ (.slice (some ⟨g, 0, none⟩) ts.length cap) s.2.2)) (fun s => ts.length - s.1) (1, k, ts) ⟨rfl, (((hE0.trans hE1).trans hE7).trans hE11), ⟨Nat.le_refl _, by (try dsimp only); omega, Nat.le_refl _, by (try dsimp only); omega, rfl, fun p _ => rfl, hcs.symm, h14⟩⟩ ?_
   rintro ⟨j, q, cur⟩ r_ w17 ⟨rfl, hE15, hI16⟩
   have hzhE15 := hE15.size
   dsimp only at hI16
   obtain ⟨hj1, hj2, hq1, hq2, hcl, hcp, hct, hO⟩ := hI16
   have hM := hO.mix
   have hol := hO.own
   refine WC.weaken (r' := [(0, .slice (some ⟨g, 0, none⟩) ts.length cap), (1, .func (.func 11) #[] #[]), (6, .slice (some ⟨g, 0 + k * 8, none⟩) (ts.length - k : Nat) (cap - k)), (7, .int .i64 (j : Int)), (5, .int .i64 (q : Int))]) (s4 (sr rfl (subReg_nil _))) ?_
   refine WC.seqk ?_
   refine sq ?_
   refine mv ?_
   refine mv ?_
   refine WL.len rfl rfl Try.underlying24 rfl ?_
   cases hc18 : decide (((j : Int) : Int) < (ts.length - k : Nat)) with
   | false =>
    refine WL.lss rfl rfl rfl rfl hc18 ?_
    have hp18 := of_decide_eq_false hc18
    refine WL.dn ?_
    refine cF ?_
    refine WC.exit (fun a_ ha => ?_)
    refine exit_then ?_
    refine exit_then ?_
    refine exit_here ?_
    refine WC.at ?_ ha
    refine sq ?_
    refine mv ?_
    refine mv ?_
    refine WL.slice_lo (m := q) rfl rfl Ty.slice24 rfl rfl rfl (by omega) (by omega) ?_
    refine WL.clearO (k := q) (n := ts.length) (cap := cap) rfl Ty.slice24 Ty.zero30 rfl (by kernel_rfl) rfl (by omega) hO ?_
    intro w19 hB19 hO19
    have hzhB19 := hB19.size
    refine WL.dn ?_
    refine sq ?_
    refine mv ?_
    refine mv ?_
    refine WL.slice_h (m := q) rfl rfl Ty.slice24 rfl rfl rfl (by omega) ?_
    refine asg ?_
    refine WL.dn ?_
    refine WC.ret (fun a_ ha => ?_)
    refine ret_block ?_
    refine ret_then ?_
    refine ret_then ?_
    refine ret_block ?_
    refine ret_then ?_
    have hkj : k + j = ts.length := by omega
    exact bodyPost_tmp rfl ha rfl ⟨_, rfl, (by have hq := hO19; rw [hct, hkj, List.take_length] at hq; exact hq), (hB19.onto hE15 (by omega))⟩
   | true =>
    refine WL.lss rfl rfl rfl rfl hc18 ?_
    have hp18 := of_decide_eq_true hc18
    refine WL.dn ?_
    refine cT ?_
    refine WC.sk ?_
    refine WC.seqk ?_
    refine WC.block ?_
    refine WC.seqk ?_
    obtain ⟨t19, ht19⟩ : ∃ t, cur[(k + j)]? = some t := ⟨_, List.getElem?_eq_getElem (by omega)⟩
    obtain ⟨eb19, el19, hea19, hgb19, hgl19, her19, hn19⟩ := hM.at ht19
    obtain ⟨a19, cap19, rfl, hts19, hlen19⟩ := hn19.op2
    cases hea19
    obtain ⟨t20, ht20⟩ : ∃ t, cur[(k + (j - 1))]? = some t := ⟨_, List.getElem?_eq_getElem (by omega)⟩
    obtain ⟨eb20, el20, hea20, hgb20, hgl20, her20, hn20⟩ := hM.at ht20
    obtain ⟨a20, cap20, rfl, hts20, hlen20⟩ := hn20.op2
    cases hea20
    refine WC.weaken (r' := [(0, .slice (some ⟨g, 0, none⟩) ts.length cap), (1, .func (.func 11) #[] #[]), (6, .slice (some ⟨g, 0 + k * 8, none⟩) (ts.length - k : Nat) (cap - k)), (7, .int .i64 (j : Int)), (5, .int .i64 (q : Int)), (32, .int .i64 (j : Int)), (33, .slice (some ⟨g, 0 + k * 8, none⟩) (ts.length - k : Nat) (cap - k)), (34, .int .i64 (ts.length - k : Nat)), (35, .bool true)]) (s4 (s4 (sr rfl (subReg_nil _)))) ?_
    refine WC.draw 12 [38, 39, 40, 41, 42, 43, 44, 45, 46, 47, 48, 49] [pc (.func (.func 11) #[] #[]), pc (.slice (some ⟨g, 0 + k * 8, none⟩) (ts.length - k : Nat) (cap - k)), pc (.int .i64 (j : Int)), pc (pt g (0 + (k + j) * 8)), pc (.agg (tcells t19 (.slice a19 t19.subs.length cap19)).toArray), pc (.slice (some ⟨g, 0 + k * 8, none⟩) (ts.length - k : Nat) (cap - k)), pc (.int .i64 (j : Int)), pc (.int .i64 ((j - 1 : Nat) : Int)), pc (pt g (0 + (k + (j - 1)) * 8)), pc (.agg (tcells t20 (.slice a20 t20.subs.length cap20)).toArray), pc (.bool (Nd.light t19 && Nd.light t20 && Nd.same t19 t20)), pc (.bool (!(Nd.light t19 && Nd.light t20 && Nd.same t19 t20)))] (by kernel_rfl) (by kernel_rfl) (k4 (k4 (k4 trivial))) rfl rfl rfl (sc4 ?_ ?_ ?_ ?_ (sc4 ?_ ?_ ?_ ?_ (sc4 ?_ ?_ ?_ ?_ (StepsOn.nil _)))) ?_
    ·intro σ β w1 hE1 hbi hk
     refine ⟨[], (agree_nil _), ?_⟩
     refine mv ?_
     exact dq hbi rfl
    ·intro σ β w1 hE1 hbi hk
     refine ⟨[], (agree_nil _), ?_⟩
     refine mv ?_
     exact dq hbi rfl
    ·intro σ β w1 hE1 hbi hk
     refine ⟨[], (agree_nil _), ?_⟩
     refine mv ?_
     exact dq hbi rfl
    ·intro σ β w1 hE1 hbi hk
     have hz1 := hE1.size
     refine ⟨[(39, .slice (some ⟨g, 0 + k * 8, none⟩) (ts.length - k : Nat) (cap - k)), (40, .int .i64 (j : Int))], (ak hk 1 (ak hk 2 (agree_nil _))), ?_⟩
     refine WL.indexAddrO (i := j) (o' := 0 + (k + j) * 8) rfl rfl Ty.slice24 rfl rfl rfl (by omega) (by omega) ?_
     exact dq hbi rfl
    ·intro σ β w1 hE1 hbi hk
     refine ⟨[(41, pt g (0 + (k + j) * 8))], (ak hk 3 (agree_nil _)), ?_⟩
     refine WL.load_agg (l := tcells t19 (.slice a19 t19.subs.length cap19)) rfl rfl Ty.agg30 rfl (her19.ext hE1) ?_
     exact dq hbi rfl
    ·intro σ β w1 hE1 hbi hk
     refine ⟨[], (agree_nil _), ?_⟩
     refine mv ?_
     exact dq hbi rfl
    ·intro σ β w1 hE1 hbi hk
     refine ⟨[], (agree_nil _), ?_⟩
     refine mv ?_
     exact dq hbi rfl
    ·intro σ β w1 hE1 hbi hk
     have hz1 := hE1.size
     refine ⟨[(44, .int .i64 (j : Int))], (ak hk 6 (agree_nil _)), ?_⟩
     refine WL.sub (v := ((j - 1 : Nat) : Int)) rfl rfl rfl rfl (by rw [IntWalk.i64_in _ (by omega)]; omega) ?_
     exact dq hbi rfl
    ·intro σ β w1 hE1 hbi hk
     have hz1 := hE1.size
     refine ⟨[(43, .slice (some ⟨g, 0 + k * 8, none⟩) (ts.length - k : Nat) (cap - k)), (45, .int .i64 ((j - 1 : Nat) : Int))], (ak hk 5 (ak hk 7 (agree_nil _))), ?_⟩
     refine WL.indexAddrO (i := (j - 1)) (o' := 0 + (k + (j - 1)) * 8) rfl rfl Ty.slice24 rfl rfl rfl (by omega) (by omega) ?_
     exact dq hbi rfl
    ·intro σ β w1 hE1 hbi hk
     refine ⟨[(46, pt g (0 + (k + (j - 1)) * 8))], (ak hk 8 (agree_nil _)), ?_⟩
     refine WL.load_agg (l := tcells t20 (.slice a20 t20.subs.length cap20)) rfl rfl Ty.agg30 rfl (her20.ext hE1) ?_
     exact dq hbi rfl
    ·intro σ β w1 hE1 hbi hk
     refine ⟨[(38, .func (.func 11) #[] #[]), (42, .agg (tcells t19 (.slice a19 t19.subs.length cap19)).toArray), (47, .agg (tcells t20 (.slice a20 t20.subs.length cap20)).toArray)], (ak hk 0 (ak hk 4 (ak hk 9 (agree_nil _)))), ?_⟩
     refine WL.callv rfl rfl rfl rfl Ty.ent11 (Same_ok _ _ _ _ _ t19 t20 (hn19.ext hE1) (hn20.ext hE1)) ?_
     rintro _ w45 ⟨rfl, hE44⟩
     refine ⟨_, rfl, ?_⟩
     exact dqE hbi hE44 rfl
    ·intro σ β w1 hE1 hbi hk
     refine ⟨[(48, .bool (Nd.light t19 && Nd.light t20 && Nd.same t19 t20))], (ak hk 10 (agree_nil _)), ?_⟩
     refine WL.not rfl rfl rfl ?_
     exact dq hbi rfl
    intro σ β w21 hE21 hbi21 hk
    have hz21 := hE21.size
    have hbi := hbi21
    refine WL.know [(49, .bool (!(Nd.light t19 && Nd.light t20 && Nd.same t19 t20)))] (aj hk 11 (agree_nil _)) ?_
    refine WL.dn ?_
    cases hc23 : !(Nd.light t19 && Nd.light t20 && Nd.same t19 t20) with
    | false =>
     refine cF ?_
     refine WC.sk ?_
     refine WC.region ?_
     refine mv ?_
     refine WL.add (v := ((j + 1 : Nat) : Int)) rfl rfl rfl rfl (by rw [IntWalk.i64_in _ (by omega)]; omega) ?_
     refine asg ?_
     refine WL.nil (fun a_ ha => ?_)
     have hA : ts[k + j]? = some t19 := (hcp (k + j) (by omega)).symm.trans ht19
     have hBq : ts[k + j - 1]? = some t20 := (hcp (k + j - 1) (by omega)).symm.trans (by rw [show k + j - 1 = k + (j - 1) by omega]; exact ht20)
     have hsc : Nd.compactT (ts.take (k + (j + 1))) = Nd.compactT (ts.take (k + j)) ++ (bif Nd.Same2 t19 t20 then [] else [t19]) := by have h2 := Nd.compactT_succ (k := k + j - 1) hBq (by rw [show k + j - 1 + 1 = k + j by omega]; exact hA); rw [show k + j - 1 + 2 = k + (j + 1) by omega, show k + j - 1 + 1 = k + j by omega] at h2; exact h2
     have hs : Nd.Same2 t19 t20 = true := by simpa [Nd.Same2] using hc23
     rw [hs] at hsc
     exact ⟨(j + 1, q, cur), _, ha.weaken (s4 (sr rfl (subReg_nil _))), ⟨rfl, (hE15.trans hE21), ⟨by (try dsimp only); omega, by (try dsimp only); omega, by (try dsimp only); omega, by (try dsimp only); omega, hcl, (fun p hp => hcp p (by replace hp : k + (j + 1) ≤ p + 1 := hp; omega)), (by dsimp only; rw [hct, hsc]; simp), (hO.ext hE21)⟩⟩, by first | omega | (dsimp only; omega)⟩
    | true =>
     refine cT ?_
     refine sq ?_
     refine mv ?_
     refine mv ?_
     refine mv ?_
     refine mv ?_
     refine WL.indexAddrO (i := j) (o' := 0 + (k + j) * 8) rfl rfl Ty.slice24 rfl rfl rfl (by omega) (by omega) ?_
     refine WL.load_agg (l := tcells t19 (.slice a19 t19.subs.length cap19)) rfl rfl Ty.agg30 rfl (her19.ext hE21) ?_
     obtain ⟨t24, ht24⟩ : ∃ t, cur[q]? = some t := ⟨_, List.getElem?_eq_getElem (by omega)⟩
     obtain ⟨eb24, el24, hea24, hgb24, hgl24, her24, hn24⟩ := (hM.ext hE21).at ht24
     obtain ⟨a24, cap24, rfl, hts24, hlen24⟩ := hn24.op2
     cases hea24
     refine WL.indexAddr (i := q) rfl rfl Ty.slice24 rfl rfl rfl (by omega) ?_
     refine WL.storeV (i := q) (T := t19) rfl Ty.agg30 rfl rfl (hM.ext hE21) (by omega) (hn19.ext hE21) (by first | (rintro k ⟨h1, h2⟩ h3; first | omega | (dsimp only at h1; omega)) | (intro k h1 h3; (try dsimp only at h1); (repeat' first | (guard_hyp h1 : _ ∨ _; refine Or.elim h1 (fun h1 => ?_) (fun h1 => ?_)) | (guard_hyp h1 : _ ∧ _; have hx := h1.2; replace h1 := h1.1)) <;> first | contradiction | omega)) (fun w27 hB26 hM25 => ?_)
     have hzhB26 := hB26.size
     refine WL.dn ?_
     refine WC.region ?_
     refine mv ?_
     refine WL.add (v := ((q + 1 : Nat) : Int)) rfl rfl rfl rfl (by rw [IntWalk.i64_in _ (by omega)]; omega) ?_
     refine asg ?_
     refine WL.dn ?_
     refine WC.region ?_
     refine mv ?_
     refine WL.add (v := ((j + 1 : Nat) : Int)) rfl rfl rfl rfl (by rw [IntWalk.i64_in _ (by omega)]; omega) ?_
     refine asg ?_
     refine WL.nil (fun a_ ha => ?_)
     have hA : ts[k + j]? = some t19 := (hcp (k + j) (by omega)).symm.trans ht19
     have hBq : ts[k + j - 1]? = some t20 := (hcp (k + j - 1) (by omega)).symm.trans (by rw [show k + j - 1 = k + (j - 1) by omega]; exact ht20)
     have hsc : Nd.compactT (ts.take (k + (j + 1))) = Nd.compactT (ts.take (k + j)) ++ (bif Nd.Same2 t19 t20 then [] else [t19]) := by have h2 := Nd.compactT_succ (k := k + j - 1) hBq (by rw [show k + j - 1 + 1 = k + j by omega]; exact hA); rw [show k + j - 1 + 2 = k + (j + 1) by omega, show k + j - 1 + 1 = k + j by omega] at h2; exact h2
     have hs : Nd.Same2 t19 t20 = false := by have hh := hc23; simp only [Bool.not_eq_true'] at hh; exact hh
     rw [hs] at hsc
     exact ⟨(j + 1, q + 1, cur.set q t19), _, ha.weaken (s4 (sr rfl (subReg_nil _))), ⟨rfl, (hB26.onto (hE15.trans hE21) (by omega)), ⟨by (try dsimp only); omega, by (try dsimp only); omega, by (try dsimp only); omega, by (try dsimp only); omega, by rw [List.length_set]; exact hcl, (fun p hp => by replace hp : k + (j + 1) ≤ p + 1 := hp; show (cur.set q _)[p]? = _; rw [List.getElem?_set_ne (by omega)]; exact hcp p (by omega)), (by dsimp only; rw [Nd.take_set_succ (by omega), hct, hsc]; rfl), ((hM25).own (by rintro i b hi h1 h2 h3; (try dsimp only at h1); (repeat' first | (guard_hyp h1 : _ ∨ _; refine Or.elim h1 (fun h1 => ?_) (fun h1 => ?_)) | (guard_hyp h1 : _ ∧ _; have hx := h1.2; replace h1 := h1.1)) <;> first | assumption | exact hx.1.1 | exact hx.1 | exact hx.2.1.1 | contradiction | omega))⟩⟩, by first | omega | (dsimp only; omega)⟩
set_option maxRecDepth 20000 in
set_option maxHeartbeats 4000000 in
theorem compact_small (D : Nat → Prop) (wb w : World) (base cap : Nat) (a : Option Addr) (ts : List Nd) (hE0 : Ext wb w) (hO : OwnV 30 base D w (.slice a ts.length cap) ts) (h2 : ts.length < 2) :
  Calls Try.prog 63 #[.slice a ts.length cap, .func (.func 11) #[] #[]] w fun e w' => ∃ v', e = .returned v' ∧ OwnV 30 base D w' v' (Nd.compactT ts) ∧ Ext wb w' := by
 have hlen := hO.nodes.len
 have hz0 := hE0.size
 refine Calls.enter (args := [.slice a ts.length cap, .func (.func 11) #[] #[]]) Try.func63 rfl rfl rfl rfl ?_
 refine sq ?_
 refine asg ?_
 refine WL.dn ?_
 refine WC.seqk ?_
 refine sq ?_
 refine mv ?_
 refine WL.len rfl rfl Try.underlying24 rfl ?_
 refine WL.lss (b := true) rfl rfl rfl rfl (decide_eq_true (by omega)) ?_
 refine WL.dn ?_
 refine cT ?_
 refine sq ?_
 refine mv ?_
 refine asg ?_
 refine WL.dn ?_
 refine WC.ret (fun a_ ha => ?_)
 refine ret_then ?_
 exact bodyPost_tmp rfl ha rfl ⟨_, rfl, (by rw [show Nd.compactT ts = ts from Nd.compactT_small h2]; exact hO), hE0⟩
theorem compact_ok (D : Nat → Prop) (wb w : World) (base : Nat) (v : Value) (ts : List Nd) (hE0 : Ext wb w) (hwb : wb.heap.size ≤ base) (hO : OwnV 30 base D w v ts) :
  Calls Try.prog 63 #[v, .func (.func 11) #[] #[]] w fun e w' => ∃ v', e = .returned v' ∧ OwnV 30 base D w' v' (Nd.compactT ts) ∧ Ext wb w' := by
 rcases Nat.lt_or_ge ts.length 2 with h2 | h2
 ·obtain ⟨a, cap, rfl, _, _⟩ := hO.cases
  exact compact_small D wb w base cap a ts hE0 hO h2
 ·have hO2 := hO
  obtain ⟨ls, ⟨_, hr⟩, _⟩ := hO2
  rcases hr with ⟨rfl, h0⟩ | ⟨g, cap, cur, rfl, _⟩
  ·omega
  ·exact compact_big D wb w base g cap ts hE0 hwb hO h2
end Go.Proofs.Yteenegaadlhjdaa
