/- Walks through the program's functions: each computes what the plain Lean function says. Printed by our own gen/r8.py. -/
import Derived.Test.YtaggidjijekpbaaRep
import Derived.Test.YtaggidjijekpbaaTy
import Derived.KernelRfl
namespace Go.Proofs.Ytaggidjijekpbaa
open Go.Proofs Go.RowKit

set_option maxRecDepth 20000 in
set_option maxHeartbeats 4000000 in
theorem bounds_ok (a b : Int) (w : World) :
    Calls Try.prog 40 #[.int .i64 a, .int .i64 b] w fun e w' => e = .returned (.bool (Nd.bounds a b)) ∧ Ext w w' := by
  refine Calls.enter (args := [.int .i64 a, .int .i64 b]) Try.func40 rfl rfl rfl rfl ?_
  refine WC.seqk ?_
  refine WC.region ?_
  refine WL.assign rfl rfl rfl ?_
  refine WL.done' ?_ (fun _ _ h => h)
  refine WC.seqk ?_
  refine WC.seqk ?_
  refine WC.region ?_
  refine WL.move rfl rfl rfl ?_
  cases hc1 : decide ((a : Int) < 0) with
  | false =>
    refine WL.lss rfl rfl rfl rfl hc1 ?_
    have hp1 := of_decide_eq_false hc1
    refine WL.move rfl rfl rfl ?_
    refine WL.move rfl rfl rfl ?_
    cases hc2 : decide ((16 : Int) < a) with
    | false =>
      refine WL.gtr rfl rfl rfl rfl hc2 ?_
      have hp2 := of_decide_eq_false hc2
      refine WL.pick_f rfl rfl rfl rfl ?_
      refine WL.move rfl rfl rfl ?_
      refine WL.move rfl rfl rfl ?_
      cases hc3 : ((a : Int) == 1) with
      | false =>
        refine WL.eql rfl rfl rfl rfl hc3 ?_
        have hp3 := beq_eq_false_iff_ne.1 hc3
        refine WL.move rfl rfl rfl ?_
        refine WL.pass rfl rfl ?_
        refine WL.pass rfl rfl ?_
        refine WL.pick_f rfl rfl rfl rfl ?_
        refine WL.pick_f rfl rfl rfl rfl ?_
        refine WL.done' ?_ (fun _ _ h => h)
        refine WC.cond_f rfl ?_
        refine WC.skip'' ?_ (fun _ _ h => h)
        refine WC.seqk ?_
        refine WC.weaken (r' := [(0, .int .i64 a), (1, .int .i64 b), (4, .bool false), (18, .bool false)]) (subReg_cons rfl (subReg_cons rfl (subReg_cons rfl (subReg_cons rfl (subReg_nil _))))) ?_
        refine WC.region ?_
        refine WL.move rfl rfl rfl ?_
        cases hc4 : ((b : Int) == (-1)) with
        | false =>
          refine WL.eql rfl rfl rfl rfl hc4 ?_
          have hp4 := beq_eq_false_iff_ne.1 hc4
          refine WL.move rfl rfl rfl ?_
          refine WL.move rfl rfl rfl ?_
          cases hc5 : decide ((1 : Int) ≤ b) with
          | false =>
            refine WL.geq rfl rfl rfl rfl hc5 ?_
            have hp5 := of_decide_eq_false hc5
            refine WL.move rfl rfl rfl ?_
            refine WL.pass rfl rfl ?_
            refine WL.pass rfl rfl ?_
            refine WL.pick_f rfl rfl rfl rfl ?_
            refine WL.move rfl rfl rfl ?_
            refine WL.pass rfl rfl ?_
            refine WL.pass rfl rfl ?_
            refine WL.pass rfl rfl ?_
            refine WL.pick_f rfl rfl rfl rfl ?_
            refine WL.pick_f rfl rfl rfl rfl ?_
            refine WL.assign rfl rfl rfl ?_
            refine WL.done' ?_ (fun _ _ h => h)
            refine WC.ret (fun a_ ha => ?_)
            exact bodyPost_tmp rfl ha rfl ⟨(by congr 2; clear ha; rw [Bool.eq_iff_iff]; simp [Nd.bounds] at *; omega), (Ext.refl _)⟩
          | true =>
            refine WL.geq rfl rfl rfl rfl hc5 ?_
            have hp5 := of_decide_eq_true hc5
            refine WL.move rfl rfl rfl ?_
            refine WL.move rfl rfl rfl ?_
            cases hc56 : decide ((b : Int) ≤ 16) with
            | false =>
              refine WL.leq rfl rfl rfl rfl hc56 ?_
              have hp56 := of_decide_eq_false hc56
              refine WL.pick_t rfl rfl rfl rfl ?_
              refine WL.move rfl rfl rfl ?_
              refine WL.pass rfl rfl ?_
              refine WL.pass rfl rfl ?_
              refine WL.pass rfl rfl ?_
              refine WL.pick_f rfl rfl rfl rfl ?_
              refine WL.pick_f rfl rfl rfl rfl ?_
              refine WL.assign rfl rfl rfl ?_
              refine WL.done' ?_ (fun _ _ h => h)
              refine WC.ret (fun a_ ha => ?_)
              exact bodyPost_tmp rfl ha rfl ⟨(by congr 2; clear ha; rw [Bool.eq_iff_iff]; simp [Nd.bounds] at *; omega), (Ext.refl _)⟩
            | true =>
              refine WL.leq rfl rfl rfl rfl hc56 ?_
              have hp56 := of_decide_eq_true hc56
              refine WL.pick_t rfl rfl rfl rfl ?_
              refine WL.move rfl rfl rfl ?_
              refine WL.move rfl rfl rfl ?_
              refine WL.move rfl rfl rfl ?_
              refine WL.geq rfl rfl rfl rfl rfl ?_
              refine WL.pick_t rfl rfl rfl rfl ?_
              refine WL.pick_f rfl rfl rfl rfl ?_
              refine WL.assign rfl rfl rfl ?_
              refine WL.done' ?_ (fun _ _ h => h)
              refine WC.ret (fun a_ ha => ?_)
              exact bodyPost_tmp rfl ha rfl ⟨(by congr 2; clear ha; rw [Bool.eq_iff_iff]; simp [Nd.bounds] at *; omega), (Ext.refl _)⟩
        | true =>
          refine WL.eql rfl rfl rfl rfl hc4 ?_
          have hp4 := beq_iff_eq.1 hc4
          refine WL.move rfl rfl rfl ?_
          refine WL.pass rfl rfl ?_
          refine WL.pass rfl rfl ?_
          refine WL.pass rfl rfl ?_
          refine WL.pass rfl rfl ?_
          refine WL.pass rfl rfl ?_
          refine WL.pass rfl rfl ?_
          refine WL.pass rfl rfl ?_
          refine WL.pass rfl rfl ?_
          refine WL.pass rfl rfl ?_
          refine WL.pass rfl rfl ?_
          refine WL.pass rfl rfl ?_
          refine WL.pick_t rfl rfl rfl rfl ?_
          refine WL.assign rfl rfl rfl ?_
          refine WL.done' ?_ (fun _ _ h => h)
          refine WC.ret (fun a_ ha => ?_)
          exact bodyPost_tmp rfl ha rfl ⟨(by congr 2; clear ha; rw [Bool.eq_iff_iff]; simp [Nd.bounds] at *; omega), (Ext.refl _)⟩
      | true =>
        refine WL.eql rfl rfl rfl rfl hc3 ?_
        have hp3 := beq_iff_eq.1 hc3
        refine WL.move rfl rfl rfl ?_
        refine WL.move rfl rfl rfl ?_
        cases hc54 : ((b : Int) == 1) with
        | false =>
          refine WL.eql rfl rfl rfl rfl hc54 ?_
          have hp54 := beq_eq_false_iff_ne.1 hc54
          refine WL.pick_t rfl rfl rfl rfl ?_
          refine WL.pick_f rfl rfl rfl rfl ?_
          refine WL.done' ?_ (fun _ _ h => h)
          refine WC.cond_f rfl ?_
          refine WC.skip'' ?_ (fun _ _ h => h)
          refine WC.seqk ?_
          refine WC.weaken (r' := [(0, .int .i64 a), (1, .int .i64 b), (4, .bool false), (18, .bool false)]) (subReg_cons rfl (subReg_cons rfl (subReg_cons rfl (subReg_cons rfl (subReg_nil _))))) ?_
          refine WC.region ?_
          refine WL.move rfl rfl rfl ?_
          cases hc55 : ((b : Int) == (-1)) with
          | false =>
            refine WL.eql rfl rfl rfl rfl hc55 ?_
            have hp55 := beq_eq_false_iff_ne.1 hc55
            refine WL.move rfl rfl rfl ?_
            refine WL.move rfl rfl rfl ?_
            cases hc56 : decide ((1 : Int) ≤ b) with
            | false =>
              refine WL.geq rfl rfl rfl rfl hc56 ?_
              have hp56 := of_decide_eq_false hc56
              refine WL.move rfl rfl rfl ?_
              refine WL.pass rfl rfl ?_
              refine WL.pass rfl rfl ?_
              refine WL.pick_f rfl rfl rfl rfl ?_
              refine WL.move rfl rfl rfl ?_
              refine WL.pass rfl rfl ?_
              refine WL.pass rfl rfl ?_
              refine WL.pass rfl rfl ?_
              refine WL.pick_f rfl rfl rfl rfl ?_
              refine WL.pick_f rfl rfl rfl rfl ?_
              refine WL.assign rfl rfl rfl ?_
              refine WL.done' ?_ (fun _ _ h => h)
              refine WC.ret (fun a_ ha => ?_)
              exact bodyPost_tmp rfl ha rfl ⟨(by congr 2; clear ha; rw [Bool.eq_iff_iff]; simp [Nd.bounds] at *; omega), (Ext.refl _)⟩
            | true =>
              refine WL.geq rfl rfl rfl rfl hc56 ?_
              have hp56 := of_decide_eq_true hc56
              refine WL.move rfl rfl rfl ?_
              refine WL.move rfl rfl rfl ?_
              cases hc107 : decide ((b : Int) ≤ 16) with
              | false =>
                refine WL.leq rfl rfl rfl rfl hc107 ?_
                have hp107 := of_decide_eq_false hc107
                refine WL.pick_t rfl rfl rfl rfl ?_
                refine WL.move rfl rfl rfl ?_
                refine WL.pass rfl rfl ?_
                refine WL.pass rfl rfl ?_
                refine WL.pass rfl rfl ?_
                refine WL.pick_f rfl rfl rfl rfl ?_
                refine WL.pick_f rfl rfl rfl rfl ?_
                refine WL.assign rfl rfl rfl ?_
                refine WL.done' ?_ (fun _ _ h => h)
                refine WC.ret (fun a_ ha => ?_)
                exact bodyPost_tmp rfl ha rfl ⟨(by congr 2; clear ha; rw [Bool.eq_iff_iff]; simp [Nd.bounds] at *; omega), (Ext.refl _)⟩
              | true =>
                refine WL.leq rfl rfl rfl rfl hc107 ?_
                have hp107 := of_decide_eq_true hc107
                refine WL.pick_t rfl rfl rfl rfl ?_
                refine WL.move rfl rfl rfl ?_
                refine WL.move rfl rfl rfl ?_
                refine WL.move rfl rfl rfl ?_
                refine WL.geq rfl rfl rfl rfl rfl ?_
                refine WL.pick_t rfl rfl rfl rfl ?_
                refine WL.pick_f rfl rfl rfl rfl ?_
                refine WL.assign rfl rfl rfl ?_
                refine WL.done' ?_ (fun _ _ h => h)
                refine WC.ret (fun a_ ha => ?_)
                exact bodyPost_tmp rfl ha rfl ⟨(by congr 2; clear ha; rw [Bool.eq_iff_iff]; simp [Nd.bounds] at *; omega), (Ext.refl _)⟩
          | true =>
            refine WL.eql rfl rfl rfl rfl hc55 ?_
            have hp55 := beq_iff_eq.1 hc55
            refine WL.move rfl rfl rfl ?_
            refine WL.pass rfl rfl ?_
            refine WL.pass rfl rfl ?_
            refine WL.pass rfl rfl ?_
            refine WL.pass rfl rfl ?_
            refine WL.pass rfl rfl ?_
            refine WL.pass rfl rfl ?_
            refine WL.pass rfl rfl ?_
            refine WL.pass rfl rfl ?_
            refine WL.pass rfl rfl ?_
            refine WL.pass rfl rfl ?_
            refine WL.pass rfl rfl ?_
            refine WL.pick_t rfl rfl rfl rfl ?_
            refine WL.assign rfl rfl rfl ?_
            refine WL.done' ?_ (fun _ _ h => h)
            refine WC.ret (fun a_ ha => ?_)
            exact bodyPost_tmp rfl ha rfl ⟨(by congr 2; clear ha; rw [Bool.eq_iff_iff]; simp [Nd.bounds] at *; omega), (Ext.refl _)⟩
        | true =>
          refine WL.eql rfl rfl rfl rfl hc54 ?_
          have hp54 := beq_iff_eq.1 hc54
          refine WL.pick_t rfl rfl rfl rfl ?_
          refine WL.pick_f rfl rfl rfl rfl ?_
          refine WL.done' ?_ (fun _ _ h => h)
          refine WC.cond_t rfl ?_
          refine WC.seqk ?_
          refine WC.weaken (r' := [(0, .int .i64 a), (1, .int .i64 b), (4, .bool false), (18, .bool true)]) (subReg_cons rfl (subReg_cons rfl (subReg_cons rfl (subReg_cons rfl (subReg_nil _))))) ?_
          refine WC.region ?_
          refine WL.assign rfl rfl rfl ?_
          refine WL.done' ?_ (fun _ _ h => h)
          refine WC.ret (fun a_ ha => ?_)
          refine ret_then ?_
          exact bodyPost_tmp rfl ha rfl ⟨(by congr 2; clear ha; rw [Bool.eq_iff_iff]; simp [Nd.bounds] at *; omega), (Ext.refl _)⟩
    | true =>
      refine WL.gtr rfl rfl rfl rfl hc2 ?_
      have hp2 := of_decide_eq_true hc2
      refine WL.pick_f rfl rfl rfl rfl ?_
      refine WL.move rfl rfl rfl ?_
      refine WL.pass rfl rfl ?_
      refine WL.pass rfl rfl ?_
      refine WL.pass rfl rfl ?_
      refine WL.pass rfl rfl ?_
      refine WL.pass rfl rfl ?_
      refine WL.pass rfl rfl ?_
      refine WL.pick_t rfl rfl rfl rfl ?_
      refine WL.done' ?_ (fun _ _ h => h)
      refine WC.cond_t rfl ?_
      refine WC.seqk ?_
      refine WC.weaken (r' := [(0, .int .i64 a), (1, .int .i64 b), (4, .bool false), (18, .bool true)]) (subReg_cons rfl (subReg_cons rfl (subReg_cons rfl (subReg_cons rfl (subReg_nil _))))) ?_
      refine WC.region ?_
      refine WL.assign rfl rfl rfl ?_
      refine WL.done' ?_ (fun _ _ h => h)
      refine WC.ret (fun a_ ha => ?_)
      refine ret_then ?_
      exact bodyPost_tmp rfl ha rfl ⟨(by congr 2; clear ha; rw [Bool.eq_iff_iff]; simp [Nd.bounds] at *; omega), (Ext.refl _)⟩
  | true =>
    refine WL.lss rfl rfl rfl rfl hc1 ?_
    have hp1 := of_decide_eq_true hc1
    refine WL.move rfl rfl rfl ?_
    refine WL.pass rfl rfl ?_
    refine WL.pass rfl rfl ?_
    refine WL.pick_t rfl rfl rfl rfl ?_
    refine WL.move rfl rfl rfl ?_
    refine WL.pass rfl rfl ?_
    refine WL.pass rfl rfl ?_
    refine WL.pass rfl rfl ?_
    refine WL.pass rfl rfl ?_
    refine WL.pass rfl rfl ?_
    refine WL.pass rfl rfl ?_
    refine WL.pick_t rfl rfl rfl rfl ?_
    refine WL.done' ?_ (fun _ _ h => h)
    refine WC.cond_t rfl ?_
    refine WC.seqk ?_
    refine WC.weaken (r' := [(0, .int .i64 a), (1, .int .i64 b), (4, .bool false), (18, .bool true)]) (subReg_cons rfl (subReg_cons rfl (subReg_cons rfl (subReg_cons rfl (subReg_nil _))))) ?_
    refine WC.region ?_
    refine WL.assign rfl rfl rfl ?_
    refine WL.done' ?_ (fun _ _ h => h)
    refine WC.ret (fun a_ ha => ?_)
    refine ret_then ?_
    exact bodyPost_tmp rfl ha rfl ⟨(by congr 2; clear ha; rw [Bool.eq_iff_iff]; simp [Nd.bounds] at *; omega), (Ext.refl _)⟩

set_option maxRecDepth 20000 in
set_option maxHeartbeats 4000000 in
theorem nan_u8 (a : Int) (w : World) :
    Calls Try.prog 58 #[.int .u8 a] w fun e w' => e = .returned (.bool false) ∧ Ext w w' := by
  refine Calls.enter (args := [.int .u8 a]) Try.func58 rfl rfl rfl rfl ?_
  refine WC.seqk ?_
  refine WC.region ?_
  refine WL.assign rfl rfl rfl ?_
  refine WL.done' ?_ (fun _ _ h => h)
  refine WC.seqk ?_
  refine WC.region ?_
  refine WL.move rfl rfl rfl ?_
  refine WL.move rfl rfl rfl ?_
  refine WL.neq rfl rfl rfl rfl rfl ?_
  refine WL.assign rfl rfl rfl ?_
  refine WL.done' ?_ (fun _ _ h => h)
  refine WC.ret (fun a_ ha => ?_)
  exact bodyPost_tmp rfl ha rfl ⟨(by simp), (Ext.refl _)⟩

set_option maxRecDepth 20000 in
set_option maxHeartbeats 4000000 in
theorem cmp_u8 (a b : Int) (w : World) :
    Calls Try.prog 50 #[.int .u8 a, .int .u8 b] w fun e w' => e = .returned (.int .i64 (cmpI a b)) ∧ Ext w w' := by
  refine Calls.enter (args := [.int .u8 a, .int .u8 b]) Try.func50 rfl rfl rfl rfl ?_
  refine WC.seqk ?_
  refine WC.region ?_
  refine WL.assign rfl rfl rfl ?_
  refine WL.done' ?_ (fun _ _ h => h)
  refine WC.seqk ?_
  refine WC.region ?_
  refine WL.move rfl rfl rfl ?_
  refine WL.call rfl rfl rfl Ty.ent58 (nan_u8 a _) ?_
  rintro _ w2 ⟨rfl, hE1⟩
  have hzhE1 := hE1.size
  refine ⟨_, rfl, ?_⟩
  refine WL.assign rfl rfl rfl ?_
  refine WL.done' ?_ (fun _ _ h => h)
  refine WC.seqk ?_
  refine WC.region ?_
  refine WL.move rfl rfl rfl ?_
  refine WL.call rfl rfl rfl Ty.ent58 (nan_u8 b _) ?_
  rintro _ w4 ⟨rfl, hE3⟩
  have hzhE3 := hE3.size
  refine ⟨_, rfl, ?_⟩
  refine WL.assign rfl rfl rfl ?_
  refine WL.done' ?_ (fun _ _ h => h)
  refine WC.seqk ?_
  refine WC.seqk ?_
  refine WC.region ?_
  refine WL.move rfl rfl rfl ?_
  refine WL.done' ?_ (fun _ _ h => h)
  refine WC.cond_f rfl ?_
  refine WC.skip'' ?_ (fun _ _ h => h)
  refine WC.seqk ?_
  refine WC.seqk ?_
  refine WC.region ?_
  refine WL.move rfl rfl rfl ?_
  refine WL.done' ?_ (fun _ _ h => h)
  refine WC.cond_f rfl ?_
  refine WC.skip'' ?_ (fun _ _ h => h)
  refine WC.seqk ?_
  refine WC.seqk ?_
  refine WC.region ?_
  refine WL.move rfl rfl rfl ?_
  refine WL.move rfl rfl rfl ?_
  cases hc5 : decide ((a : Int) < b) with
  | false =>
    refine WL.lss rfl rfl rfl rfl hc5 ?_
    have hp5 := of_decide_eq_false hc5
    refine WL.done' ?_ (fun _ _ h => h)
    refine WC.cond_f rfl ?_
    refine WC.skip'' ?_ (fun _ _ h => h)
    refine WC.seqk ?_
    refine WC.seqk ?_
    refine WC.weaken (r' := [(0, .int .u8 a), (1, .int .u8 b), (4, .int .i64 0), (11, .bool false), (13, .bool false), (16, .bool false)]) (subReg_cons rfl (subReg_cons rfl (subReg_cons rfl (subReg_cons rfl (subReg_cons rfl (subReg_cons rfl (subReg_nil _))))))) ?_
    refine WC.region ?_
    refine WL.move rfl rfl rfl ?_
    refine WL.move rfl rfl rfl ?_
    cases hc6 : decide ((b : Int) < a) with
    | false =>
      refine WL.gtr rfl rfl rfl rfl hc6 ?_
      have hp6 := of_decide_eq_false hc6
      refine WL.done' ?_ (fun _ _ h => h)
      refine WC.cond_f rfl ?_
      refine WC.skip'' ?_ (fun _ _ h => h)
      refine WC.seqk ?_
      refine WC.region ?_
      refine WL.assign rfl rfl rfl ?_
      refine WL.done' ?_ (fun _ _ h => h)
      refine WC.ret (fun a_ ha => ?_)
      exact bodyPost_tmp rfl ha rfl ⟨(by congr 2; clear ha; simp at *; simp [cmpI]; omega), (hE1.trans hE3)⟩
    | true =>
      refine WL.gtr rfl rfl rfl rfl hc6 ?_
      have hp6 := of_decide_eq_true hc6
      refine WL.done' ?_ (fun _ _ h => h)
      refine WC.cond_t rfl ?_
      refine WC.seqk ?_
      refine WC.region ?_
      refine WL.assign rfl rfl rfl ?_
      refine WL.done' ?_ (fun _ _ h => h)
      refine WC.ret (fun a_ ha => ?_)
      refine ret_then ?_
      exact bodyPost_tmp rfl ha rfl ⟨(by congr 2; clear ha; simp at *; simp [cmpI]; omega), (hE1.trans hE3)⟩
  | true =>
    refine WL.lss rfl rfl rfl rfl hc5 ?_
    have hp5 := of_decide_eq_true hc5
    refine WL.done' ?_ (fun _ _ h => h)
    refine WC.cond_t rfl ?_
    refine WC.seqk ?_
    refine WC.weaken (r' := [(0, .int .u8 a), (1, .int .u8 b), (4, .int .i64 0), (11, .bool false), (13, .bool false), (16, .bool true)]) (subReg_cons rfl (subReg_cons rfl (subReg_cons rfl (subReg_cons rfl (subReg_cons rfl (subReg_cons rfl (subReg_nil _))))))) ?_
    refine WC.region ?_
    refine WL.assign rfl rfl rfl ?_
    refine WL.done' ?_ (fun _ _ h => h)
    refine WC.ret (fun a_ ha => ?_)
    refine ret_then ?_
    exact bodyPost_tmp rfl ha rfl ⟨(by congr 2; clear ha; simp at *; simp [cmpI]; omega), (hE1.trans hE3)⟩

set_option maxRecDepth 20000 in
set_option maxHeartbeats 4000000 in
theorem nan_i64 (a : Int) (w : World) :
    Calls Try.prog 63 #[.int .i64 a] w fun e w' => e = .returned (.bool false) ∧ Ext w w' := by
  refine Calls.enter (args := [.int .i64 a]) Try.func63 rfl rfl rfl rfl ?_
  refine WC.seqk ?_
  refine WC.region ?_
  refine WL.assign rfl rfl rfl ?_
  refine WL.done' ?_ (fun _ _ h => h)
  refine WC.seqk ?_
  refine WC.region ?_
  refine WL.move rfl rfl rfl ?_
  refine WL.move rfl rfl rfl ?_
  refine WL.neq rfl rfl rfl rfl rfl ?_
  refine WL.assign rfl rfl rfl ?_
  refine WL.done' ?_ (fun _ _ h => h)
  refine WC.ret (fun a_ ha => ?_)
  exact bodyPost_tmp rfl ha rfl ⟨(by simp), (Ext.refl _)⟩

set_option maxRecDepth 20000 in
set_option maxHeartbeats 4000000 in
theorem cmp_i64 (a b : Int) (w : World) :
    Calls Try.prog 53 #[.int .i64 a, .int .i64 b] w fun e w' => e = .returned (.int .i64 (cmpI a b)) ∧ Ext w w' := by
  refine Calls.enter (args := [.int .i64 a, .int .i64 b]) Try.func53 rfl rfl rfl rfl ?_
  refine WC.seqk ?_
  refine WC.region ?_
  refine WL.assign rfl rfl rfl ?_
  refine WL.done' ?_ (fun _ _ h => h)
  refine WC.seqk ?_
  refine WC.region ?_
  refine WL.move rfl rfl rfl ?_
  refine WL.call rfl rfl rfl Ty.ent63 (nan_i64 a _) ?_
  rintro _ w2 ⟨rfl, hE1⟩
  have hzhE1 := hE1.size
  refine ⟨_, rfl, ?_⟩
  refine WL.assign rfl rfl rfl ?_
  refine WL.done' ?_ (fun _ _ h => h)
  refine WC.seqk ?_
  refine WC.region ?_
  refine WL.move rfl rfl rfl ?_
  refine WL.call rfl rfl rfl Ty.ent63 (nan_i64 b _) ?_
  rintro _ w4 ⟨rfl, hE3⟩
  have hzhE3 := hE3.size
  refine ⟨_, rfl, ?_⟩
  refine WL.assign rfl rfl rfl ?_
  refine WL.done' ?_ (fun _ _ h => h)
  refine WC.seqk ?_
  refine WC.seqk ?_
  refine WC.region ?_
  refine WL.move rfl rfl rfl ?_
  refine WL.done' ?_ (fun _ _ h => h)
  refine WC.cond_f rfl ?_
  refine WC.skip'' ?_ (fun _ _ h => h)
  refine WC.seqk ?_
  refine WC.seqk ?_
  refine WC.region ?_
  refine WL.move rfl rfl rfl ?_
  refine WL.done' ?_ (fun _ _ h => h)
  refine WC.cond_f rfl ?_
  refine WC.skip'' ?_ (fun _ _ h => h)
  refine WC.seqk ?_
  refine WC.seqk ?_
  refine WC.region ?_
  refine WL.move rfl rfl rfl ?_
  refine WL.move rfl rfl rfl ?_
  cases hc5 : decide ((a : Int) < b) with
  | false =>
    refine WL.lss rfl rfl rfl rfl hc5 ?_
    have hp5 := of_decide_eq_false hc5
    refine WL.done' ?_ (fun _ _ h => h)
    refine WC.cond_f rfl ?_
    refine WC.skip'' ?_ (fun _ _ h => h)
    refine WC.seqk ?_
    refine WC.seqk ?_
    refine WC.weaken (r' := [(0, .int .i64 a), (1, .int .i64 b), (4, .int .i64 0), (11, .bool false), (13, .bool false), (16, .bool false)]) (subReg_cons rfl (subReg_cons rfl (subReg_cons rfl (subReg_cons rfl (subReg_cons rfl (subReg_cons rfl (subReg_nil _))))))) ?_
    refine WC.region ?_
    refine WL.move rfl rfl rfl ?_
    refine WL.move rfl rfl rfl ?_
    cases hc6 : decide ((b : Int) < a) with
    | false =>
      refine WL.gtr rfl rfl rfl rfl hc6 ?_
      have hp6 := of_decide_eq_false hc6
      refine WL.done' ?_ (fun _ _ h => h)
      refine WC.cond_f rfl ?_
      refine WC.skip'' ?_ (fun _ _ h => h)
      refine WC.seqk ?_
      refine WC.region ?_
      refine WL.assign rfl rfl rfl ?_
      refine WL.done' ?_ (fun _ _ h => h)
      refine WC.ret (fun a_ ha => ?_)
      exact bodyPost_tmp rfl ha rfl ⟨(by congr 2; clear ha; simp at *; simp [cmpI]; omega), (hE1.trans hE3)⟩
    | true =>
      refine WL.gtr rfl rfl rfl rfl hc6 ?_
      have hp6 := of_decide_eq_true hc6
      refine WL.done' ?_ (fun _ _ h => h)
      refine WC.cond_t rfl ?_
      refine WC.seqk ?_
      refine WC.region ?_
      refine WL.assign rfl rfl rfl ?_
      refine WL.done' ?_ (fun _ _ h => h)
      refine WC.ret (fun a_ ha => ?_)
      refine ret_then ?_
      exact bodyPost_tmp rfl ha rfl ⟨(by congr 2; clear ha; simp at *; simp [cmpI]; omega), (hE1.trans hE3)⟩
  | true =>
    refine WL.lss rfl rfl rfl rfl hc5 ?_
    have hp5 := of_decide_eq_true hc5
    refine WL.done' ?_ (fun _ _ h => h)
    refine WC.cond_t rfl ?_
    refine WC.seqk ?_
    refine WC.weaken (r' := [(0, .int .i64 a), (1, .int .i64 b), (4, .int .i64 0), (11, .bool false), (13, .bool false), (16, .bool true)]) (subReg_cons rfl (subReg_cons rfl (subReg_cons rfl (subReg_cons rfl (subReg_cons rfl (subReg_cons rfl (subReg_nil _))))))) ?_
    refine WC.region ?_
    refine WL.assign rfl rfl rfl ?_
    refine WL.done' ?_ (fun _ _ h => h)
    refine WC.ret (fun a_ ha => ?_)
    refine ret_then ?_
    exact bodyPost_tmp rfl ha rfl ⟨(by congr 2; clear ha; simp at *; simp [cmpI]; omega), (hE1.trans hE3)⟩

set_option maxRecDepth 20000 in
set_option maxHeartbeats 4000000 in
theorem most_ok (D : Nat → Prop) (w : World) (l : List Value) (T : Nd) (hT : NodeL D w l T) :
    Calls Try.prog 54 #[.agg l.toArray] w fun e w' => e = .returned (.int .i64 (Nd.mostI T)) ∧ Ext w w' := by
  have hT := hT.lt
  obtain ⟨sl, rfl, hts⟩ := hT.opn
  obtain ⟨a, cap, rfl, hlen, -⟩ := hts.get
  refine Calls.enter (args := [.agg #[.int .u8 T.kind, .int .u64 T.set.a, .int .u64 T.set.b, .int .u64 T.set.c, .int .u64 T.set.d, .int .i64 T.least, .int .i64 T.most, .slice a T.subs.length cap]]) Try.func54 rfl rfl rfl rfl ?_
  refine WC.seqk ?_
  refine WC.region ?_
  refine WL.box_agg rfl rfl rfl (fun b1 w6 hb2 hE5 hs3 hR4 => ?_)
  refine WL.assign rfl rfl rfl ?_
  refine WL.done' ?_ (fun _ _ h => h)
  refine WC.seqk ?_
  refine WC.seqk ?_
  refine WC.region ?_
  refine WL.fieldAddr rfl rfl Ty.fld29_3 rfl ?_
  refine WL.load_fld rfl rfl Ty.flat3 rfl hR4 rfl ?_
  cases hc7 : ((T.most : Int) == (-1)) with
  | false =>
    refine WL.eql rfl rfl rfl rfl hc7 ?_
    have hp7 := beq_eq_false_iff_ne.1 hc7
    refine WL.done' ?_ (fun _ _ h => h)
    refine WC.cond_f rfl ?_
    refine WC.skip'' ?_ (fun _ _ h => h)
    refine WC.seqk ?_
    refine WC.region ?_
    refine WL.fieldAddr rfl rfl Ty.fld29_3 rfl ?_
    refine WL.load_fld rfl rfl Ty.flat3 rfl hR4 rfl ?_
    refine WL.assign rfl rfl rfl ?_
    refine WL.done' ?_ (fun _ _ h => h)
    refine WC.ret (fun a_ ha => ?_)
    exact bodyPost_tmp rfl ha rfl ⟨(by congr 2; clear ha; simp [Nd.mostI] at *; simp_all), hE5⟩
  | true =>
    refine WL.eql rfl rfl rfl rfl hc7 ?_
    have hp7 := beq_iff_eq.1 hc7
    refine WL.done' ?_ (fun _ _ h => h)
    refine WC.cond_t rfl ?_
    refine WC.seqk ?_
    refine WC.region ?_
    refine WL.assign rfl rfl rfl ?_
    refine WL.done' ?_ (fun _ _ h => h)
    refine WC.ret (fun a_ ha => ?_)
    refine ret_then ?_
    exact bodyPost_tmp rfl ha rfl ⟨(by congr 2; clear ha; simp [Nd.mostI] at *; simp_all), hE5⟩

set_option maxRecDepth 20000 in
set_option maxHeartbeats 4000000 in
theorem has1_ok (D : Nat → Prop) (w : World) (b : Nat) (k : Int) (l : List Value) (T : Nd) (hT : NodeL D w l T) (hb : w.cell? ⟨b, 0, none⟩ = some (.int .u8 k)) :
    Calls Try.prog 57 #[.agg l.toArray, .pointer (some ⟨b, 0, none⟩)] w fun e w' => e = .returned (.bool (T.kind == k)) ∧ Ext w w' := by
  have hT := hT.lt
  obtain ⟨sl, rfl, hts⟩ := hT.opn
  obtain ⟨a, cap, rfl, hlen, -⟩ := hts.get
  refine Calls.enter (args := [.agg #[.int .u8 T.kind, .int .u64 T.set.a, .int .u64 T.set.b, .int .u64 T.set.c, .int .u64 T.set.d, .int .i64 T.least, .int .i64 T.most, .slice a T.subs.length cap], .pointer (some ⟨b, 0, none⟩)]) Try.func57 rfl rfl rfl rfl ?_
  refine WC.seqk ?_
  refine WC.region ?_
  refine WL.box_agg rfl rfl rfl (fun b1 w6 hb2 hE5 hs3 hR4 => ?_)
  refine WL.assign rfl rfl rfl ?_
  refine WL.done' ?_ (fun _ _ h => h)
  refine WC.seqk ?_
  refine WC.region ?_
  refine WL.fieldAddr rfl rfl Ty.fld29_0 rfl ?_
  refine WL.load_fld rfl rfl Ty.flat5 rfl hR4 rfl ?_
  refine WL.load_flat rfl rfl Ty.flat5 rfl (hE5.cell hb) ?_
  refine WL.eql rfl rfl rfl rfl rfl ?_
  refine WL.assign rfl rfl rfl ?_
  refine WL.done' ?_ (fun _ _ h => h)
  refine WC.ret (fun a_ ha => ?_)
  exact bodyPost_tmp rfl ha rfl ⟨rfl, hE5⟩

set_option maxRecDepth 20000 in
set_option maxHeartbeats 4000000 in
theorem indexFunc_ok (D : Nat → Prop) (w : World) (a : Option Addr) (cap fn : Nat) (caps : Array Value) (ts : List Nd) (p : Nd → Bool) (hts : NodesV D w (.slice a ts.length cap) ts) (hf : ∀ (l : List Value) (t : Nd) (w' : World), Ext w w' → NodeL D w' l t → t ∈ ts → Calls Try.prog fn (#[.agg l.toArray] ++ caps) w' fun e w'' => e = .returned (.bool (p t)) ∧ Ext w' w'') (hent : ∀ vs w, (callFunc fn vs).run Try.prog w = .ok (.enter fn vs) w) :
    Calls Try.prog 64 #[.slice a ts.length cap, .func (.func fn) #[] caps] w fun e w' => e = .returned (.int .i64 (idxI p ts)) ∧ Ext w w' := by
  have hlen := hts.len
  refine Calls.enter (args := [.slice a ts.length cap, .func (.func fn) #[] caps]) Try.func64 rfl rfl rfl rfl ?_
  refine WC.seqk ?_
  refine WC.region ?_
  refine WL.assign rfl rfl rfl ?_
  refine WL.done' ?_ (fun _ _ h => h)
  refine WC.seqk ?_
  refine WC.seqk ?_
  refine WC.region ?_
  refine WL.move rfl rfl rfl ?_
  refine WL.len rfl rfl Try.underlying27 rfl ?_
  refine WL.move rfl rfl rfl ?_
  refine WL.done' ?_ (fun _ _ h => h)
  refine WC.block ?_
  refine WC.weaken (r' := [(0, .slice a ts.length cap), (1, .func (.func fn) #[] caps), (6, .slice a ts.length cap), (7, .int .i64 ts.length), (8, .int .i64 0)]) (subReg_cons rfl (subReg_cons rfl (subReg_cons rfl (subReg_cons rfl (subReg_cons rfl (subReg_nil _)))))) ?_
  refine WC.loop (σ := Nat) (fun k r_ w_ => r_ = [(0, .slice a ts.length cap), (1, .func (.func fn) #[] caps), (6, .slice a ts.length cap), (7, .int .i64 ts.length), (8, .int .i64 (k : Int))] ∧ Ext w w_ ∧ (k ≤ ts.length ∧ ∀ (m : Nat) (t : Nd), m < k → ts[m]? = some t → p t = false)) (fun k => ts.length - k) 0 ⟨rfl, (Ext.refl _), ⟨Nat.zero_le _, fun m t h => by omega⟩⟩ ?_
  rintro k r_ w3 ⟨rfl, hE1, hI2⟩
  have hzhE1 := hE1.size
  obtain ⟨hk, hI2⟩ := hI2
  refine WC.seqk ?_
  refine WC.region ?_
  cases hc4 : decide (((k : Int) : Int) < ts.length) with
  | false =>
    refine WL.lss rfl rfl rfl rfl hc4 ?_
    have hp4 := of_decide_eq_false hc4
    refine WL.done' ?_ (fun _ _ h => h)
    refine WC.seqk ?_
    refine WC.cond_f rfl ?_
    refine WC.exit (fun a_ ha => ?_)
    refine exit_then ?_
    refine exit_then ?_
    refine exit_here ?_
    refine WC.at ?_ ha
    refine WC.seqk ?_
    refine WC.region ?_
    refine WL.assign rfl rfl rfl ?_
    refine WL.done' ?_ (fun _ _ h => h)
    refine WC.ret (fun a_ ha => ?_)
    exact bodyPost_tmp rfl ha rfl ⟨by rw [idxI_none (fun m t hm ht => hI2 m t (by omega) ht)], hE1⟩
  | true =>
    refine WL.lss rfl rfl rfl rfl hc4 ?_
    have hp4 := of_decide_eq_true hc4
    refine WL.done' ?_ (fun _ _ h => h)
    refine WC.seqk ?_
    refine WC.cond_t rfl ?_
    refine WC.skip'' ?_ (fun _ _ h => h)
    refine WC.seqk ?_
    refine WC.block ?_
    refine WC.seqk ?_
    refine WC.region ?_
    refine WL.move rfl rfl rfl ?_
    refine WL.assign rfl rfl rfl ?_
    refine WL.done' ?_ (fun _ _ h => h)
    refine WC.seqk ?_
    refine WC.region ?_
    refine WL.move rfl rfl rfl ?_
    refine WL.move rfl rfl rfl ?_
    refine WL.move rfl rfl rfl ?_
    obtain ⟨t55, ht55⟩ : ∃ t, ts[k]? = some t := ⟨_, List.getElem?_eq_getElem (by omega)⟩
    obtain ⟨eb55, eo55, el55, hea55, hD55, her55, hn55⟩ := (hts.ext hE1).at ht55
    obtain ⟨sl55, rfl, hts55⟩ := hn55.opn
    obtain ⟨a55, cap55, rfl, hlen55, -⟩ := hts55.get
    subst hea55
    refine WL.indexAddr (i := k) rfl rfl Ty.slice27 rfl rfl rfl (by omega) ?_
    refine WL.load_agg (l := tcells t55 (.slice a55 t55.subs.length cap55)) rfl rfl Ty.agg29 rfl her55 ?_
    refine WL.callv rfl rfl rfl rfl hent (hf _ _ _ hE1 hn55 (List.mem_of_getElem? ht55)) ?_
    rintro _ w57 ⟨rfl, hE56⟩
    have hzhE56 := hE56.size
    refine ⟨_, rfl, ?_⟩
    cases hc58 : p t55 with
    | false =>
      refine WL.done' ?_ (fun _ _ h => h)
      refine WC.cond_f rfl ?_
      refine WC.skip'' ?_ (fun _ _ h => h)
      refine WC.region ?_
      refine WL.add (v := (k : Int) + 1) rfl rfl rfl rfl (IntWalk.i64_in _ (by omega)) ?_
      refine WL.move rfl rfl rfl ?_
      refine WL.nil (fun a_ ha => ?_)
      exact ⟨k + 1, _, ha.weaken (subReg_cons rfl (subReg_cons rfl (subReg_cons rfl (subReg_cons rfl (subReg_cons rfl (subReg_nil _)))))), ⟨rfl, (hE1.trans hE56), ⟨by omega, by
      intro m t hm ht
      rcases Nat.lt_or_ge m k with h | h
      · exact hI2 m t h ht
      · obtain rfl : m = k := by omega
        rw [ht] at ht55; cases ht55; assumption⟩⟩, by first | omega | (dsimp only; omega)⟩
    | true =>
      refine WL.done' ?_ (fun _ _ h => h)
      refine WC.cond_t rfl ?_
      refine WC.seqk ?_
      refine WC.region ?_
      refine WL.move rfl rfl rfl ?_
      refine WL.assign rfl rfl rfl ?_
      refine WL.done' ?_ (fun _ _ h => h)
      refine WC.ret (fun a_ ha => ?_)
      refine ret_block ?_
      refine ret_then ?_
      refine ret_then ?_
      refine ret_block ?_
      refine ret_then ?_
      exact bodyPost_tmp rfl ha rfl ⟨by rw [idxI_at ht55 (by assumption) hI2], (hE1.trans hE56)⟩

set_option maxRecDepth 20000 in
set_option maxHeartbeats 4000000 in
theorem containsFunc_ok (D : Nat → Prop) (w : World) (a : Option Addr) (cap fn : Nat) (caps : Array Value) (ts : List Nd) (p : Nd → Bool) (hts : NodesV D w (.slice a ts.length cap) ts) (hf : ∀ (l : List Value) (t : Nd) (w' : World), Ext w w' → NodeL D w' l t → t ∈ ts → Calls Try.prog fn (#[.agg l.toArray] ++ caps) w' fun e w'' => e = .returned (.bool (p t)) ∧ Ext w' w'') (hent : ∀ vs w, (callFunc fn vs).run Try.prog w = .ok (.enter fn vs) w) :
    Calls Try.prog 56 #[.slice a ts.length cap, .func (.func fn) #[] caps] w fun e w' => e = .returned (.bool (ts.any p)) ∧ Ext w w' := by
  have hlen := hts.len
  refine Calls.enter (args := [.slice a ts.length cap, .func (.func fn) #[] caps]) Try.func56 rfl rfl rfl rfl ?_
  refine WC.seqk ?_
  refine WC.region ?_
  refine WL.assign rfl rfl rfl ?_
  refine WL.done' ?_ (fun _ _ h => h)
  refine WC.seqk ?_
  refine WC.region ?_
  refine WL.move rfl rfl rfl ?_
  refine WL.move rfl rfl rfl ?_
  refine WL.call rfl rfl rfl Ty.ent64 (indexFunc_ok _ _ _ _ _ _ ts p hts (fun l t w2 h => hf l t w2 (Ext.trans (Ext.refl _) h)) hent) ?_
  rintro _ w2 ⟨rfl, hE1⟩
  have hzhE1 := hE1.size
  refine ⟨_, rfl, ?_⟩
  refine WL.geq rfl rfl rfl rfl rfl ?_
  refine WL.assign rfl rfl rfl ?_
  refine WL.done' ?_ (fun _ _ h => h)
  refine WC.ret (fun a_ ha => ?_)
  exact bodyPost_tmp rfl ha rfl ⟨(by rw [← idxI_any]), hE1⟩

set_option maxRecDepth 20000 in
set_option maxHeartbeats 4000000 in
theorem has_ok (D : Nat → Prop) (w : World) (l : List Value) (T : Nd) (k : Int) (hT : NodeL D w l T) :
    Calls Try.prog 46 #[.agg l.toArray, .int .u8 k] w fun e w' => e = .returned (.bool (T.has k)) ∧ Ext w w' := by
  have hT := hT.lt
  obtain ⟨sl, rfl, hts⟩ := hT.opn
  obtain ⟨a, cap, rfl, hlen, -⟩ := hts.get
  refine Calls.enter (args := [.agg #[.int .u8 T.kind, .int .u64 T.set.a, .int .u64 T.set.b, .int .u64 T.set.c, .int .u64 T.set.d, .int .i64 T.least, .int .i64 T.most, .slice a T.subs.length cap], .int .u8 k]) Try.func46 rfl rfl rfl rfl ?_
  refine WC.seqk ?_
  refine WC.region ?_
  refine WL.box_agg rfl rfl rfl (fun b1 w6 hb2 hE5 hs3 hR4 => ?_)
  refine WL.box_flat rfl rfl rfl rfl (fun b7 w12 hb8 hE11 hs9 hR10 => ?_)
  refine WL.assign rfl rfl rfl ?_
  refine WL.done' ?_ (fun _ _ h => h)
  refine WC.seqk ?_
  refine WC.region ?_
  refine WL.fieldAddr rfl rfl Ty.fld29_4 rfl ?_
  refine WL.load_fld rfl rfl Ty.flat27 rfl (hR4.ext hE11) rfl ?_
  refine WL.makeFunc rfl rfl rfl ?_
  have h13 := ((hts.ext hE5).ext hE11)
  refine WL.call rfl rfl rfl Ty.ent56 (containsFunc_ok _ _ _ _ _ _ T.subs (fun t => t.kind == k) h13 (fun l t w2 h hn _ => Calls.caps1 (has1_ok _ w2 _ k l t hn (h.cell ((hR10).cell 0)))) Ty.ent57) ?_
  rintro _ w15 ⟨rfl, hE14⟩
  have hzhE14 := hE14.size
  refine ⟨_, rfl, ?_⟩
  refine WL.assign rfl rfl rfl ?_
  refine WL.done' ?_ (fun _ _ h => h)
  refine WC.ret (fun a_ ha => ?_)
  exact bodyPost_tmp rfl ha rfl ⟨rfl, ((hE5.trans hE11).trans hE14)⟩

set_option maxRecDepth 20000 in
set_option maxHeartbeats 4000000 in
theorem right_ok (D : Nat → Prop) (w : World) (l : List Value) (T : Nd) (hT : NodeL D w l T) :
    Calls Try.prog 37 #[.agg l.toArray] w fun e w' => e = .returned (.bool T.right) ∧ Ext w w' := by
  have hT := hT.lt
  obtain ⟨sl, rfl, hts⟩ := hT.opn
  obtain ⟨a, cap, rfl, hlen, -⟩ := hts.get
  refine Calls.enter (args := [.agg #[.int .u8 T.kind, .int .u64 T.set.a, .int .u64 T.set.b, .int .u64 T.set.c, .int .u64 T.set.d, .int .i64 T.least, .int .i64 T.most, .slice a T.subs.length cap]]) Try.func37 rfl rfl rfl rfl ?_
  refine WC.seqk ?_
  refine WC.region ?_
  refine WL.box_agg rfl rfl rfl (fun b1 w6 hb2 hE5 hs3 hR4 => ?_)
  refine WL.assign rfl rfl rfl ?_
  refine WL.done' ?_ (fun _ _ h => h)
  refine WC.seqk ?_
  refine WC.seqk ?_
  refine WC.region ?_
  refine WL.fieldAddr rfl rfl Ty.fld29_0 rfl ?_
  refine WL.load_fld rfl rfl Ty.flat5 rfl hR4 rfl ?_
  cases hc7 : ((T.kind : Int) != 2) with
  | false =>
    refine WL.neq rfl rfl rfl rfl hc7 ?_
    have hp7 := bne_eq_false_iff_eq.1 hc7
    refine WL.move rfl rfl rfl ?_
    refine WL.pass rfl rfl ?_
    refine WL.pass rfl rfl ?_
    refine WL.pass rfl rfl ?_
    refine WL.pass rfl rfl ?_
    refine WL.pick_f rfl rfl rfl rfl ?_
    refine WL.move rfl rfl rfl ?_
    refine WL.fieldAddr rfl rfl Ty.fld29_0 rfl ?_
    refine WL.load_fld rfl rfl Ty.flat5 rfl hR4 rfl ?_
    have hc8 : ((T.kind : Int) != 5) = true := bne_iff_ne.2 (by omega)
    refine WL.neq rfl rfl rfl rfl hc8 ?_
    refine WL.move rfl rfl rfl ?_
    refine WL.fieldAddr rfl rfl Ty.fld29_2 rfl ?_
    refine WL.load_fld rfl rfl Ty.flat3 rfl hR4 rfl ?_
    cases hc9 : ((T.least : Int) != 0) with
    | false =>
      refine WL.neq rfl rfl rfl rfl hc9 ?_
      have hp9 := bne_eq_false_iff_eq.1 hc9
      refine WL.move rfl rfl rfl ?_
      refine WL.fieldAddr rfl rfl Ty.fld29_3 rfl ?_
      refine WL.load_fld rfl rfl Ty.flat3 rfl hR4 rfl ?_
      cases hc10 : ((T.most : Int) != 0) with
      | false =>
        refine WL.neq rfl rfl rfl rfl hc10 ?_
        have hp10 := bne_eq_false_iff_eq.1 hc10
        refine WL.pick_f rfl rfl rfl rfl ?_
        refine WL.pick_t rfl rfl rfl rfl ?_
        refine WL.pick_f rfl rfl rfl rfl ?_
        refine WL.move rfl rfl rfl ?_
        refine WL.fieldAddr rfl rfl Ty.fld29_0 rfl ?_
        refine WL.load_fld rfl rfl Ty.flat5 rfl hR4 rfl ?_
        have hc11 : decide ((T.kind : Int) < 3) = true := decide_eq_true (by omega)
        refine WL.lss rfl rfl rfl rfl hc11 ?_
        refine WL.move rfl rfl rfl ?_
        refine WL.fieldAddr rfl rfl Ty.fld29_4 rfl ?_
        refine WL.load_fld rfl rfl Ty.flat27 rfl hR4 rfl ?_
        refine WL.len rfl rfl Try.underlying27 rfl ?_
        cases hc12 : decide ((0 : Int) < T.subs.length) with
        | false =>
          refine WL.gtr rfl rfl rfl rfl hc12 ?_
          have hp12 := of_decide_eq_false hc12
          refine WL.pick_t rfl rfl rfl rfl ?_
          refine WL.pick_f rfl rfl rfl rfl ?_
          refine WL.done' ?_ (fun _ _ h => h)
          refine WC.cond_f rfl ?_
          refine WC.skip'' ?_ (fun _ _ h => h)
          refine WC.seqk ?_
          refine WC.seqk ?_
          refine WC.weaken (r' := [(1, .pointer (some ⟨b1, 0, none⟩)), (2, .bool false), (37, .bool false)]) (subReg_cons rfl (subReg_cons rfl (subReg_cons rfl (subReg_nil _)))) ?_
          refine WC.region ?_
          refine WL.fieldAddr rfl rfl Ty.fld29_0 rfl ?_
          refine WL.load_fld rfl rfl Ty.flat5 rfl hR4 rfl ?_
          refine WL.done' ?_ (fun _ _ h => h)
          refine WC.block ?_
          refine WC.seqk ?_
          refine WC.region ?_
          have hc13 : ((T.kind : Int) == 1) = false := beq_eq_false_iff_ne.2 (by omega)
          refine WL.eql rfl rfl rfl rfl hc13 ?_
          refine WL.assign rfl rfl rfl ?_
          refine WL.done' ?_ (fun _ _ h => h)
          refine WC.cond_f rfl ?_
          refine WC.seqk ?_
          refine WC.region ?_
          have hc14 : ((T.kind : Int) == 2) = true := beq_iff_eq.2 (by omega)
          refine WL.eql rfl rfl rfl rfl hc14 ?_
          refine WL.assign rfl rfl rfl ?_
          refine WL.done' ?_ (fun _ _ h => h)
          refine WC.cond_t rfl ?_
          refine WC.seqk ?_
          refine WC.region ?_
          refine WL.fieldAddr rfl rfl Ty.fld29_1 rfl ?_
          refine WL.load_part 4 rfl rfl rfl hR4 rfl Ty.agg26 ?_
          refine WL.build0 (l := [.int .u64 0, .int .u64 0, .int .u64 0, .int .u64 0]) rfl rfl Ty.zero26 Ty.agg26 rfl Ty.bz26 ?_
          refine WL.setneq (s := T.set) (s' := Nd.zero) rfl rfl Ty.arr26 Ty.eqg26 Try.underlying24 rfl rfl rfl ?_
          refine WL.assign rfl rfl rfl ?_
          refine WL.done' ?_ (fun _ _ h => h)
          refine WC.ret (fun a_ ha => ?_)
          refine ret_block ?_
          refine ret_then ?_
          exact bodyPost_tmp rfl ha rfl ⟨(by congr 2; simp only [Nd.right, hc7, hc8, hc9, hc10, hc11, hc12, hc13, hc14] <;> try simp), hE5⟩
        | true =>
          refine WL.gtr rfl rfl rfl rfl hc12 ?_
          have hp12 := of_decide_eq_true hc12
          refine WL.pick_t rfl rfl rfl rfl ?_
          refine WL.pick_f rfl rfl rfl rfl ?_
          refine WL.done' ?_ (fun _ _ h => h)
          refine WC.cond_t rfl ?_
          refine WC.seqk ?_
          refine WC.weaken (r' := [(1, .pointer (some ⟨b1, 0, none⟩)), (2, .bool false), (37, .bool true)]) (subReg_cons rfl (subReg_cons rfl (subReg_cons rfl (subReg_nil _)))) ?_
          refine WC.region ?_
          refine WL.assign rfl rfl rfl ?_
          refine WL.done' ?_ (fun _ _ h => h)
          refine WC.ret (fun a_ ha => ?_)
          refine ret_then ?_
          exact bodyPost_tmp rfl ha rfl ⟨(by congr 2; simp only [Nd.right, hc7, hc8, hc9, hc10, hc11, hc12] <;> try simp), hE5⟩
      | true =>
        refine WL.neq rfl rfl rfl rfl hc10 ?_
        have hp10 := bne_iff_ne.1 hc10
        refine WL.pick_f rfl rfl rfl rfl ?_
        refine WL.pick_t rfl rfl rfl rfl ?_
        refine WL.pick_f rfl rfl rfl rfl ?_
        refine WL.move rfl rfl rfl ?_
        refine WL.pass rfl rfl ?_
        refine WL.pass rfl rfl ?_
        refine WL.pass rfl rfl ?_
        refine WL.pass rfl rfl ?_
        refine WL.pass rfl rfl ?_
        refine WL.pass rfl rfl ?_
        refine WL.pass rfl rfl ?_
        refine WL.pass rfl rfl ?_
        refine WL.pass rfl rfl ?_
        refine WL.pick_t rfl rfl rfl rfl ?_
        refine WL.done' ?_ (fun _ _ h => h)
        refine WC.cond_t rfl ?_
        refine WC.seqk ?_
        refine WC.weaken (r' := [(1, .pointer (some ⟨b1, 0, none⟩)), (2, .bool false), (37, .bool true)]) (subReg_cons rfl (subReg_cons rfl (subReg_cons rfl (subReg_nil _)))) ?_
        refine WC.region ?_
        refine WL.assign rfl rfl rfl ?_
        refine WL.done' ?_ (fun _ _ h => h)
        refine WC.ret (fun a_ ha => ?_)
        refine ret_then ?_
        exact bodyPost_tmp rfl ha rfl ⟨(by congr 2; simp only [Nd.right, hc7, hc8, hc9, hc10] <;> try simp), hE5⟩
    | true =>
      refine WL.neq rfl rfl rfl rfl hc9 ?_
      have hp9 := bne_iff_ne.1 hc9
      refine WL.move rfl rfl rfl ?_
      refine WL.pass rfl rfl ?_
      refine WL.pass rfl rfl ?_
      refine WL.pass rfl rfl ?_
      refine WL.pick_t rfl rfl rfl rfl ?_
      refine WL.pick_t rfl rfl rfl rfl ?_
      refine WL.pick_f rfl rfl rfl rfl ?_
      refine WL.move rfl rfl rfl ?_
      refine WL.pass rfl rfl ?_
      refine WL.pass rfl rfl ?_
      refine WL.pass rfl rfl ?_
      refine WL.pass rfl rfl ?_
      refine WL.pass rfl rfl ?_
      refine WL.pass rfl rfl ?_
      refine WL.pass rfl rfl ?_
      refine WL.pass rfl rfl ?_
      refine WL.pass rfl rfl ?_
      refine WL.pick_t rfl rfl rfl rfl ?_
      refine WL.done' ?_ (fun _ _ h => h)
      refine WC.cond_t rfl ?_
      refine WC.seqk ?_
      refine WC.weaken (r' := [(1, .pointer (some ⟨b1, 0, none⟩)), (2, .bool false), (37, .bool true)]) (subReg_cons rfl (subReg_cons rfl (subReg_cons rfl (subReg_nil _)))) ?_
      refine WC.region ?_
      refine WL.assign rfl rfl rfl ?_
      refine WL.done' ?_ (fun _ _ h => h)
      refine WC.ret (fun a_ ha => ?_)
      refine ret_then ?_
      exact bodyPost_tmp rfl ha rfl ⟨(by congr 2; simp only [Nd.right, hc7, hc8, hc9] <;> try simp), hE5⟩
  | true =>
    refine WL.neq rfl rfl rfl rfl hc7 ?_
    have hp7 := bne_iff_ne.1 hc7
    refine WL.move rfl rfl rfl ?_
    refine WL.fieldAddr rfl rfl Ty.fld29_1 rfl ?_
    refine WL.load_part 4 rfl rfl rfl hR4 rfl Ty.agg26 ?_
    refine WL.build0 (l := [.int .u64 0, .int .u64 0, .int .u64 0, .int .u64 0]) rfl rfl Ty.zero26 Ty.agg26 rfl Ty.bz26 ?_
    cases hc58 : (T.set != Nd.zero) with
    | false =>
      refine WL.setneq (s := T.set) (s' := Nd.zero) rfl rfl Ty.arr26 Ty.eqg26 Try.underlying24 rfl rfl hc58 ?_
      refine WL.pick_t rfl rfl rfl rfl ?_
      refine WL.move rfl rfl rfl ?_
      refine WL.fieldAddr rfl rfl Ty.fld29_0 rfl ?_
      refine WL.load_fld rfl rfl Ty.flat5 rfl hR4 rfl ?_
      cases hc59 : ((T.kind : Int) != 5) with
      | false =>
        refine WL.neq rfl rfl rfl rfl hc59 ?_
        have hp59 := bne_eq_false_iff_eq.1 hc59
        refine WL.move rfl rfl rfl ?_
        refine WL.pass rfl rfl ?_
        refine WL.pass rfl rfl ?_
        refine WL.pass rfl rfl ?_
        refine WL.pass rfl rfl ?_
        refine WL.pass rfl rfl ?_
        refine WL.pass rfl rfl ?_
        refine WL.pass rfl rfl ?_
        refine WL.pass rfl rfl ?_
        refine WL.pick_f rfl rfl rfl rfl ?_
        refine WL.pick_f rfl rfl rfl rfl ?_
        refine WL.move rfl rfl rfl ?_
        refine WL.fieldAddr rfl rfl Ty.fld29_0 rfl ?_
        refine WL.load_fld rfl rfl Ty.flat5 rfl hR4 rfl ?_
        have hc60 : decide ((T.kind : Int) < 3) = false := decide_eq_false (by omega)
        refine WL.lss rfl rfl rfl rfl hc60 ?_
        refine WL.move rfl rfl rfl ?_
        refine WL.pass rfl rfl ?_
        refine WL.pass rfl rfl ?_
        refine WL.pass rfl rfl ?_
        refine WL.pass rfl rfl ?_
        refine WL.pick_f rfl rfl rfl rfl ?_
        refine WL.pick_f rfl rfl rfl rfl ?_
        refine WL.done' ?_ (fun _ _ h => h)
        refine WC.cond_f rfl ?_
        refine WC.skip'' ?_ (fun _ _ h => h)
        refine WC.seqk ?_
        refine WC.seqk ?_
        refine WC.weaken (r' := [(1, .pointer (some ⟨b1, 0, none⟩)), (2, .bool false), (37, .bool false)]) (subReg_cons rfl (subReg_cons rfl (subReg_cons rfl (subReg_nil _)))) ?_
        refine WC.region ?_
        refine WL.fieldAddr rfl rfl Ty.fld29_0 rfl ?_
        refine WL.load_fld rfl rfl Ty.flat5 rfl hR4 rfl ?_
        refine WL.done' ?_ (fun _ _ h => h)
        refine WC.block ?_
        refine WC.seqk ?_
        refine WC.region ?_
        have hc61 : ((T.kind : Int) == 1) = false := beq_eq_false_iff_ne.2 (by omega)
        refine WL.eql rfl rfl rfl rfl hc61 ?_
        refine WL.assign rfl rfl rfl ?_
        refine WL.done' ?_ (fun _ _ h => h)
        refine WC.cond_f rfl ?_
        refine WC.seqk ?_
        refine WC.region ?_
        have hc62 : ((T.kind : Int) == 2) = false := beq_eq_false_iff_ne.2 (by omega)
        refine WL.eql rfl rfl rfl rfl hc62 ?_
        refine WL.assign rfl rfl rfl ?_
        refine WL.done' ?_ (fun _ _ h => h)
        refine WC.cond_f rfl ?_
        refine WC.seqk ?_
        refine WC.region ?_
        have hc63 : ((T.kind : Int) == 3) = false := beq_eq_false_iff_ne.2 (by omega)
        refine WL.eql rfl rfl rfl rfl hc63 ?_
        refine WL.assign rfl rfl rfl ?_
        refine WL.done' ?_ (fun _ _ h => h)
        refine WC.cond_f rfl ?_
        refine WC.seqk ?_
        refine WC.region ?_
        have hc64 : ((T.kind : Int) == 4) = false := beq_eq_false_iff_ne.2 (by omega)
        refine WL.eql rfl rfl rfl rfl hc64 ?_
        refine WL.assign rfl rfl rfl ?_
        refine WL.done' ?_ (fun _ _ h => h)
        refine WC.cond_f rfl ?_
        refine WC.seqk ?_
        refine WC.region ?_
        have hc65 : ((T.kind : Int) == 5) = true := beq_iff_eq.2 (by omega)
        refine WL.eql rfl rfl rfl rfl hc65 ?_
        refine WL.assign rfl rfl rfl ?_
        refine WL.done' ?_ (fun _ _ h => h)
        refine WC.cond_t rfl ?_
        refine WC.seqk ?_
        refine WC.weaken (r' := [(1, .pointer (some ⟨b1, 0, none⟩)), (2, .bool false), (37, .bool false), (40, .bool false), (42, .bool false), (48, .bool false), (64, .bool false), (75, .bool true)]) (subReg_cons rfl (subReg_cons rfl (subReg_cons rfl (subReg_cons rfl (subReg_cons rfl (subReg_cons rfl (subReg_cons rfl (subReg_cons rfl (subReg_nil _))))))))) ?_
        refine WC.region ?_
        refine WL.fieldAddr rfl rfl Ty.fld29_4 rfl ?_
        refine WL.load_fld rfl rfl Ty.flat27 rfl hR4 rfl ?_
        refine WL.len rfl rfl Try.underlying27 rfl ?_
        cases hc66 : ((T.subs.length : Int) == 1) with
        | false =>
          refine WL.eql rfl rfl rfl rfl hc66 ?_
          have hp66 := beq_eq_false_iff_ne.1 hc66
          refine WL.move rfl rfl rfl ?_
          refine WL.pass rfl rfl ?_
          refine WL.pass rfl rfl ?_
          refine WL.pass rfl rfl ?_
          refine WL.pass rfl rfl ?_
          refine WL.pass rfl rfl ?_
          refine WL.pick_f rfl rfl rfl rfl ?_
          refine WL.move rfl rfl rfl ?_
          refine WL.pass rfl rfl ?_
          refine WL.pass rfl rfl ?_
          refine WL.pass rfl rfl ?_
          refine WL.pick_f rfl rfl rfl rfl ?_
          refine WL.assign rfl rfl rfl ?_
          refine WL.done' ?_ (fun _ _ h => h)
          refine WC.ret (fun a_ ha => ?_)
          refine ret_block ?_
          refine ret_then ?_
          exact bodyPost_tmp rfl ha rfl ⟨(by congr 2; simp only [Nd.right, hc7, hc58, hc59, hc60, hc61, hc62, hc63, hc64, hc65, hc66] <;> try simp), hE5⟩
        | true =>
          refine WL.eql rfl rfl rfl rfl hc66 ?_
          have hp66 := beq_iff_eq.1 hc66
          refine WL.move rfl rfl rfl ?_
          refine WL.fieldAddr rfl rfl Ty.fld29_2 rfl ?_
          refine WL.load_fld rfl rfl Ty.flat3 rfl hR4 rfl ?_
          refine WL.fieldAddr rfl rfl Ty.fld29_3 rfl ?_
          refine WL.load_fld rfl rfl Ty.flat3 rfl hR4 rfl ?_
          refine WL.call rfl rfl rfl Ty.ent40 (bounds_ok T.least T.most _) ?_
          rintro _ w118 ⟨rfl, hE117⟩
          have hzhE117 := hE117.size
          refine ⟨_, rfl, ?_⟩
          cases hc119 : Nd.bounds T.least T.most with
          | false =>
            refine WL.pick_t rfl rfl rfl rfl ?_
            refine WL.move rfl rfl rfl ?_
            refine WL.pass rfl rfl ?_
            refine WL.pass rfl rfl ?_
            refine WL.pass rfl rfl ?_
            refine WL.pick_f rfl rfl rfl rfl ?_
            refine WL.assign rfl rfl rfl ?_
            refine WL.done' ?_ (fun _ _ h => h)
            refine WC.ret (fun a_ ha => ?_)
            refine ret_block ?_
            refine ret_then ?_
            exact bodyPost_tmp rfl ha rfl ⟨(by congr 2; simp only [Nd.right, hc7, hc58, hc59, hc60, hc61, hc62, hc63, hc64, hc65, hc66, hc119] <;> try simp), (hE5.trans hE117)⟩
          | true =>
            refine WL.pick_t rfl rfl rfl rfl ?_
            refine WL.move rfl rfl rfl ?_
            refine WL.load_box rfl rfl rfl (hR4.ext hE117) Ty.agg29 ?_
            have h170 := ((hT.ext hE5).ext hE117)
            refine WL.call rfl rfl rfl Ty.ent46 (has_ok _ _ _ T 1 h170) ?_
            rintro _ w172 ⟨rfl, hE171⟩
            have hzhE171 := hE171.size
            refine ⟨_, rfl, ?_⟩
            refine WL.not rfl rfl rfl ?_
            refine WL.pick_t rfl rfl rfl rfl ?_
            refine WL.assign rfl rfl rfl ?_
            refine WL.done' ?_ (fun _ _ h => h)
            refine WC.ret (fun a_ ha => ?_)
            refine ret_block ?_
            refine ret_then ?_
            exact bodyPost_tmp rfl ha rfl ⟨(by congr 2; simp only [Nd.right, hc7, hc58, hc59, hc60, hc61, hc62, hc63, hc64, hc65, hc66, hc119] <;> try simp), ((hE5.trans hE117).trans hE171)⟩
      | true =>
        refine WL.neq rfl rfl rfl rfl hc59 ?_
        have hp59 := bne_iff_ne.1 hc59
        refine WL.move rfl rfl rfl ?_
        refine WL.fieldAddr rfl rfl Ty.fld29_2 rfl ?_
        refine WL.load_fld rfl rfl Ty.flat3 rfl hR4 rfl ?_
        cases hc110 : ((T.least : Int) != 0) with
        | false =>
          refine WL.neq rfl rfl rfl rfl hc110 ?_
          have hp110 := bne_eq_false_iff_eq.1 hc110
          refine WL.move rfl rfl rfl ?_
          refine WL.fieldAddr rfl rfl Ty.fld29_3 rfl ?_
          refine WL.load_fld rfl rfl Ty.flat3 rfl hR4 rfl ?_
          cases hc111 : ((T.most : Int) != 0) with
          | false =>
            refine WL.neq rfl rfl rfl rfl hc111 ?_
            have hp111 := bne_eq_false_iff_eq.1 hc111
            refine WL.pick_f rfl rfl rfl rfl ?_
            refine WL.pick_t rfl rfl rfl rfl ?_
            refine WL.pick_f rfl rfl rfl rfl ?_
            refine WL.move rfl rfl rfl ?_
            refine WL.fieldAddr rfl rfl Ty.fld29_0 rfl ?_
            refine WL.load_fld rfl rfl Ty.flat5 rfl hR4 rfl ?_
            cases hc112 : decide ((T.kind : Int) < 3) with
            | false =>
              refine WL.lss rfl rfl rfl rfl hc112 ?_
              have hp112 := of_decide_eq_false hc112
              refine WL.move rfl rfl rfl ?_
              refine WL.pass rfl rfl ?_
              refine WL.pass rfl rfl ?_
              refine WL.pass rfl rfl ?_
              refine WL.pass rfl rfl ?_
              refine WL.pick_f rfl rfl rfl rfl ?_
              refine WL.pick_f rfl rfl rfl rfl ?_
              refine WL.done' ?_ (fun _ _ h => h)
              refine WC.cond_f rfl ?_
              refine WC.skip'' ?_ (fun _ _ h => h)
              refine WC.seqk ?_
              refine WC.seqk ?_
              refine WC.weaken (r' := [(1, .pointer (some ⟨b1, 0, none⟩)), (2, .bool false), (37, .bool false)]) (subReg_cons rfl (subReg_cons rfl (subReg_cons rfl (subReg_nil _)))) ?_
              refine WC.region ?_
              refine WL.fieldAddr rfl rfl Ty.fld29_0 rfl ?_
              refine WL.load_fld rfl rfl Ty.flat5 rfl hR4 rfl ?_
              refine WL.done' ?_ (fun _ _ h => h)
              refine WC.block ?_
              refine WC.seqk ?_
              refine WC.region ?_
              have hc113 : ((T.kind : Int) == 1) = false := beq_eq_false_iff_ne.2 (by omega)
              refine WL.eql rfl rfl rfl rfl hc113 ?_
              refine WL.assign rfl rfl rfl ?_
              refine WL.done' ?_ (fun _ _ h => h)
              refine WC.cond_f rfl ?_
              refine WC.seqk ?_
              refine WC.region ?_
              have hc114 : ((T.kind : Int) == 2) = false := beq_eq_false_iff_ne.2 (by omega)
              refine WL.eql rfl rfl rfl rfl hc114 ?_
              refine WL.assign rfl rfl rfl ?_
              refine WL.done' ?_ (fun _ _ h => h)
              refine WC.cond_f rfl ?_
              refine WC.seqk ?_
              refine WC.region ?_
              cases hc115 : ((T.kind : Int) == 3) with
              | false =>
                refine WL.eql rfl rfl rfl rfl hc115 ?_
                have hp115 := beq_eq_false_iff_ne.1 hc115
                refine WL.assign rfl rfl rfl ?_
                refine WL.done' ?_ (fun _ _ h => h)
                refine WC.cond_f rfl ?_
                refine WC.seqk ?_
                refine WC.region ?_
                cases hc116 : ((T.kind : Int) == 4) with
                | false =>
                  refine WL.eql rfl rfl rfl rfl hc116 ?_
                  have hp116 := beq_eq_false_iff_ne.1 hc116
                  refine WL.assign rfl rfl rfl ?_
                  refine WL.done' ?_ (fun _ _ h => h)
                  refine WC.cond_f rfl ?_
                  refine WC.seqk ?_
                  refine WC.region ?_
                  have hc117 : ((T.kind : Int) == 5) = false := beq_eq_false_iff_ne.2 (by omega)
                  refine WL.eql rfl rfl rfl rfl hc117 ?_
                  refine WL.assign rfl rfl rfl ?_
                  refine WL.done' ?_ (fun _ _ h => h)
                  refine WC.cond_f rfl ?_
                  refine WC.skip'' ?_ (fun _ _ h => h)
                  refine WC.seqk ?_
                  refine WC.weaken (r' := [(1, .pointer (some ⟨b1, 0, none⟩)), (2, .bool false), (37, .bool false), (40, .bool false), (42, .bool false), (48, .bool false), (64, .bool false), (75, .bool false)]) (subReg_cons rfl (subReg_cons rfl (subReg_cons rfl (subReg_cons rfl (subReg_cons rfl (subReg_cons rfl (subReg_cons rfl (subReg_cons rfl (subReg_nil _))))))))) ?_
                  refine WC.region ?_
                  refine WL.fieldAddr rfl rfl Ty.fld29_0 rfl ?_
                  refine WL.load_fld rfl rfl Ty.flat5 rfl hR4 rfl ?_
                  cases hc118 : ((T.kind : Int) == 6) with
                  | false =>
                    refine WL.eql rfl rfl rfl rfl hc118 ?_
                    have hp118 := beq_eq_false_iff_ne.1 hc118
                    refine WL.move rfl rfl rfl ?_
                    refine WL.pass rfl rfl ?_
                    refine WL.pass rfl rfl ?_
                    refine WL.pass rfl rfl ?_
                    refine WL.pass rfl rfl ?_
                    refine WL.pick_f rfl rfl rfl rfl ?_
                    refine WL.assign rfl rfl rfl ?_
                    refine WL.done' ?_ (fun _ _ h => h)
                    refine WC.ret (fun a_ ha => ?_)
                    exact bodyPost_tmp rfl ha rfl ⟨(by congr 2; simp only [Nd.right, hc7, hc58, hc59, hc110, hc111, hc112, hc113, hc114, hc115, hc116, hc117, hc118] <;> try simp), hE5⟩
                  | true =>
                    refine WL.eql rfl rfl rfl rfl hc118 ?_
                    have hp118 := beq_iff_eq.1 hc118
                    refine WL.move rfl rfl rfl ?_
                    refine WL.fieldAddr rfl rfl Ty.fld29_4 rfl ?_
                    refine WL.load_fld rfl rfl Ty.flat27 rfl hR4 rfl ?_
                    refine WL.len rfl rfl Try.underlying27 rfl ?_
                    refine WL.eql rfl rfl rfl rfl rfl ?_
                    refine WL.pick_t rfl rfl rfl rfl ?_
                    refine WL.assign rfl rfl rfl ?_
                    refine WL.done' ?_ (fun _ _ h => h)
                    refine WC.ret (fun a_ ha => ?_)
                    exact bodyPost_tmp rfl ha rfl ⟨(by congr 2; simp only [Nd.right, hc7, hc58, hc59, hc110, hc111, hc112, hc113, hc114, hc115, hc116, hc117, hc118] <;> try simp), hE5⟩
                | true =>
                  refine WL.eql rfl rfl rfl rfl hc116 ?_
                  have hp116 := beq_iff_eq.1 hc116
                  refine WL.assign rfl rfl rfl ?_
                  refine WL.done' ?_ (fun _ _ h => h)
                  refine WC.cond_t rfl ?_
                  refine WC.seqk ?_
                  refine WC.region ?_
                  refine WL.fieldAddr rfl rfl Ty.fld29_4 rfl ?_
                  refine WL.load_fld rfl rfl Ty.flat27 rfl hR4 rfl ?_
                  refine WL.len rfl rfl Try.underlying27 rfl ?_
                  cases hc167 : decide ((1 : Int) < T.subs.length) with
                  | false =>
                    refine WL.gtr rfl rfl rfl rfl hc167 ?_
                    have hp167 := of_decide_eq_false hc167
                    refine WL.move rfl rfl rfl ?_
                    refine WL.pass rfl rfl ?_
                    refine WL.pass rfl rfl ?_
                    refine WL.pass rfl rfl ?_
                    refine WL.pick_f rfl rfl rfl rfl ?_
                    refine WL.assign rfl rfl rfl ?_
                    refine WL.done' ?_ (fun _ _ h => h)
                    refine WC.ret (fun a_ ha => ?_)
                    refine ret_block ?_
                    refine ret_then ?_
                    exact bodyPost_tmp rfl ha rfl ⟨(by congr 2; simp only [Nd.right, hc7, hc58, hc59, hc110, hc111, hc112, hc113, hc114, hc115, hc116, hc167] <;> try simp), hE5⟩
                  | true =>
                    refine WL.gtr rfl rfl rfl rfl hc167 ?_
                    have hp167 := of_decide_eq_true hc167
                    refine WL.move rfl rfl rfl ?_
                    refine WL.load_box rfl rfl rfl hR4 Ty.agg29 ?_
                    refine WL.call rfl rfl rfl Ty.ent46 (has_ok _ _ _ T 4 (hT.ext hE5)) ?_
                    rintro _ w219 ⟨rfl, hE218⟩
                    have hzhE218 := hE218.size
                    refine ⟨_, rfl, ?_⟩
                    refine WL.not rfl rfl rfl ?_
                    refine WL.pick_t rfl rfl rfl rfl ?_
                    refine WL.assign rfl rfl rfl ?_
                    refine WL.done' ?_ (fun _ _ h => h)
                    refine WC.ret (fun a_ ha => ?_)
                    refine ret_block ?_
                    refine ret_then ?_
                    exact bodyPost_tmp rfl ha rfl ⟨(by congr 2; simp only [Nd.right, hc7, hc58, hc59, hc110, hc111, hc112, hc113, hc114, hc115, hc116, hc167] <;> try simp), (hE5.trans hE218)⟩
              | true =>
                refine WL.eql rfl rfl rfl rfl hc115 ?_
                have hp115 := beq_iff_eq.1 hc115
                refine WL.assign rfl rfl rfl ?_
                refine WL.done' ?_ (fun _ _ h => h)
                refine WC.cond_t rfl ?_
                refine WC.seqk ?_
                refine WC.region ?_
                refine WL.fieldAddr rfl rfl Ty.fld29_4 rfl ?_
                refine WL.load_fld rfl rfl Ty.flat27 rfl hR4 rfl ?_
                refine WL.len rfl rfl Try.underlying27 rfl ?_
                cases hc166 : decide ((1 : Int) < T.subs.length) with
                | false =>
                  refine WL.gtr rfl rfl rfl rfl hc166 ?_
                  have hp166 := of_decide_eq_false hc166
                  refine WL.move rfl rfl rfl ?_
                  refine WL.pass rfl rfl ?_
                  refine WL.pass rfl rfl ?_
                  refine WL.pass rfl rfl ?_
                  refine WL.pick_f rfl rfl rfl rfl ?_
                  refine WL.move rfl rfl rfl ?_
                  refine WL.pass rfl rfl ?_
                  refine WL.pass rfl rfl ?_
                  refine WL.pass rfl rfl ?_
                  refine WL.pick_f rfl rfl rfl rfl ?_
                  refine WL.assign rfl rfl rfl ?_
                  refine WL.done' ?_ (fun _ _ h => h)
                  refine WC.ret (fun a_ ha => ?_)
                  refine ret_block ?_
                  refine ret_then ?_
                  exact bodyPost_tmp rfl ha rfl ⟨(by congr 2; simp only [Nd.right, hc7, hc58, hc59, hc110, hc111, hc112, hc113, hc114, hc115, hc166] <;> try simp), hE5⟩
                | true =>
                  refine WL.gtr rfl rfl rfl rfl hc166 ?_
                  have hp166 := of_decide_eq_true hc166
                  refine WL.move rfl rfl rfl ?_
                  refine WL.load_box rfl rfl rfl hR4 Ty.agg29 ?_
                  refine WL.call rfl rfl rfl Ty.ent46 (has_ok _ _ _ T 1 (hT.ext hE5)) ?_
                  rintro _ w218 ⟨rfl, hE217⟩
                  have hzhE217 := hE217.size
                  refine ⟨_, rfl, ?_⟩
                  cases hc219 : T.has 1 with
                  | false =>
                    refine WL.not rfl rfl rfl ?_
                    refine WL.pick_t rfl rfl rfl rfl ?_
                    refine WL.move rfl rfl rfl ?_
                    refine WL.load_box rfl rfl rfl (hR4.ext hE217) Ty.agg29 ?_
                    have h220 := ((hT.ext hE5).ext hE217)
                    refine WL.call rfl rfl rfl Ty.ent46 (has_ok _ _ _ T 3 h220) ?_
                    rintro _ w222 ⟨rfl, hE221⟩
                    have hzhE221 := hE221.size
                    refine ⟨_, rfl, ?_⟩
                    refine WL.not rfl rfl rfl ?_
                    refine WL.pick_t rfl rfl rfl rfl ?_
                    refine WL.assign rfl rfl rfl ?_
                    refine WL.done' ?_ (fun _ _ h => h)
                    refine WC.ret (fun a_ ha => ?_)
                    refine ret_block ?_
                    refine ret_then ?_
                    exact bodyPost_tmp rfl ha rfl ⟨(by congr 2; simp only [Nd.right, hc7, hc58, hc59, hc110, hc111, hc112, hc113, hc114, hc115, hc166, hc219] <;> try simp), ((hE5.trans hE217).trans hE221)⟩
                  | true =>
                    refine WL.not rfl rfl rfl ?_
                    refine WL.pick_t rfl rfl rfl rfl ?_
                    refine WL.move rfl rfl rfl ?_
                    refine WL.pass rfl rfl ?_
                    refine WL.pass rfl rfl ?_
                    refine WL.pass rfl rfl ?_
                    refine WL.pick_f rfl rfl rfl rfl ?_
                    refine WL.assign rfl rfl rfl ?_
                    refine WL.done' ?_ (fun _ _ h => h)
                    refine WC.ret (fun a_ ha => ?_)
                    refine ret_block ?_
                    refine ret_then ?_
                    exact bodyPost_tmp rfl ha rfl ⟨(by congr 2; simp only [Nd.right, hc7, hc58, hc59, hc110, hc111, hc112, hc113, hc114, hc115, hc166, hc219] <;> try simp), (hE5.trans hE217)⟩
            | true =>
              refine WL.lss rfl rfl rfl rfl hc112 ?_
              have hp112 := of_decide_eq_true hc112
              refine WL.move rfl rfl rfl ?_
              refine WL.fieldAddr rfl rfl Ty.fld29_4 rfl ?_
              refine WL.load_fld rfl rfl Ty.flat27 rfl hR4 rfl ?_
              refine WL.len rfl rfl Try.underlying27 rfl ?_
              cases hc163 : decide ((0 : Int) < T.subs.length) with
              | false =>
                refine WL.gtr rfl rfl rfl rfl hc163 ?_
                have hp163 := of_decide_eq_false hc163
                refine WL.pick_t rfl rfl rfl rfl ?_
                refine WL.pick_f rfl rfl rfl rfl ?_
                refine WL.done' ?_ (fun _ _ h => h)
                refine WC.cond_f rfl ?_
                refine WC.skip'' ?_ (fun _ _ h => h)
                refine WC.seqk ?_
                refine WC.seqk ?_
                refine WC.weaken (r' := [(1, .pointer (some ⟨b1, 0, none⟩)), (2, .bool false), (37, .bool false)]) (subReg_cons rfl (subReg_cons rfl (subReg_cons rfl (subReg_nil _)))) ?_
                refine WC.region ?_
                refine WL.fieldAddr rfl rfl Ty.fld29_0 rfl ?_
                refine WL.load_fld rfl rfl Ty.flat5 rfl hR4 rfl ?_
                refine WL.done' ?_ (fun _ _ h => h)
                refine WC.block ?_
                refine WC.seqk ?_
                refine WC.region ?_
                cases hc164 : ((T.kind : Int) == 1) with
                | false =>
                  refine WL.eql rfl rfl rfl rfl hc164 ?_
                  have hp164 := beq_eq_false_iff_ne.1 hc164
                  refine WL.assign rfl rfl rfl ?_
                  refine WL.done' ?_ (fun _ _ h => h)
                  refine WC.cond_f rfl ?_
                  refine WC.seqk ?_
                  refine WC.region ?_
                  have hc165 : ((T.kind : Int) == 2) = false := beq_eq_false_iff_ne.2 (by omega)
                  refine WL.eql rfl rfl rfl rfl hc165 ?_
                  refine WL.assign rfl rfl rfl ?_
                  refine WL.done' ?_ (fun _ _ h => h)
                  refine WC.cond_f rfl ?_
                  refine WC.seqk ?_
                  refine WC.region ?_
                  have hc166 : ((T.kind : Int) == 3) = false := beq_eq_false_iff_ne.2 (by omega)
                  refine WL.eql rfl rfl rfl rfl hc166 ?_
                  refine WL.assign rfl rfl rfl ?_
                  refine WL.done' ?_ (fun _ _ h => h)
                  refine WC.cond_f rfl ?_
                  refine WC.seqk ?_
                  refine WC.region ?_
                  have hc167 : ((T.kind : Int) == 4) = false := beq_eq_false_iff_ne.2 (by omega)
                  refine WL.eql rfl rfl rfl rfl hc167 ?_
                  refine WL.assign rfl rfl rfl ?_
                  refine WL.done' ?_ (fun _ _ h => h)
                  refine WC.cond_f rfl ?_
                  refine WC.seqk ?_
                  refine WC.region ?_
                  have hc168 : ((T.kind : Int) == 5) = false := beq_eq_false_iff_ne.2 (by omega)
                  refine WL.eql rfl rfl rfl rfl hc168 ?_
                  refine WL.assign rfl rfl rfl ?_
                  refine WL.done' ?_ (fun _ _ h => h)
                  refine WC.cond_f rfl ?_
                  refine WC.skip'' ?_ (fun _ _ h => h)
                  refine WC.seqk ?_
                  refine WC.weaken (r' := [(1, .pointer (some ⟨b1, 0, none⟩)), (2, .bool false), (37, .bool false), (40, .bool false), (42, .bool false), (48, .bool false), (64, .bool false), (75, .bool false)]) (subReg_cons rfl (subReg_cons rfl (subReg_cons rfl (subReg_cons rfl (subReg_cons rfl (subReg_cons rfl (subReg_cons rfl (subReg_cons rfl (subReg_nil _))))))))) ?_
                  refine WC.region ?_
                  refine WL.fieldAddr rfl rfl Ty.fld29_0 rfl ?_
                  refine WL.load_fld rfl rfl Ty.flat5 rfl hR4 rfl ?_
                  have hc169 : ((T.kind : Int) == 6) = false := beq_eq_false_iff_ne.2 (by omega)
                  refine WL.eql rfl rfl rfl rfl hc169 ?_
                  refine WL.move rfl rfl rfl ?_
                  refine WL.pass rfl rfl ?_
                  refine WL.pass rfl rfl ?_
                  refine WL.pass rfl rfl ?_
                  refine WL.pass rfl rfl ?_
                  refine WL.pick_f rfl rfl rfl rfl ?_
                  refine WL.assign rfl rfl rfl ?_
                  refine WL.done' ?_ (fun _ _ h => h)
                  refine WC.ret (fun a_ ha => ?_)
                  exact bodyPost_tmp rfl ha rfl ⟨(by congr 2; simp only [Nd.right, hc7, hc58, hc59, hc110, hc111, hc112, hc163, hc164, hc165, hc166, hc167, hc168, hc169] <;> try simp), hE5⟩
                | true =>
                  refine WL.eql rfl rfl rfl rfl hc164 ?_
                  have hp164 := beq_iff_eq.1 hc164
                  refine WL.assign rfl rfl rfl ?_
                  refine WL.done' ?_ (fun _ _ h => h)
                  refine WC.cond_t rfl ?_
                  refine WC.seqk ?_
                  refine WC.region ?_
                  refine WL.assign rfl rfl rfl ?_
                  refine WL.done' ?_ (fun _ _ h => h)
                  refine WC.ret (fun a_ ha => ?_)
                  refine ret_block ?_
                  refine ret_then ?_
                  exact bodyPost_tmp rfl ha rfl ⟨(by congr 2; simp only [Nd.right, hc7, hc58, hc59, hc110, hc111, hc112, hc163, hc164] <;> try simp), hE5⟩
              | true =>
                refine WL.gtr rfl rfl rfl rfl hc163 ?_
                have hp163 := of_decide_eq_true hc163
                refine WL.pick_t rfl rfl rfl rfl ?_
                refine WL.pick_f rfl rfl rfl rfl ?_
                refine WL.done' ?_ (fun _ _ h => h)
                refine WC.cond_t rfl ?_
                refine WC.seqk ?_
                refine WC.weaken (r' := [(1, .pointer (some ⟨b1, 0, none⟩)), (2, .bool false), (37, .bool true)]) (subReg_cons rfl (subReg_cons rfl (subReg_cons rfl (subReg_nil _)))) ?_
                refine WC.region ?_
                refine WL.assign rfl rfl rfl ?_
                refine WL.done' ?_ (fun _ _ h => h)
                refine WC.ret (fun a_ ha => ?_)
                refine ret_then ?_
                exact bodyPost_tmp rfl ha rfl ⟨(by congr 2; simp only [Nd.right, hc7, hc58, hc59, hc110, hc111, hc112, hc163] <;> try simp), hE5⟩
          | true =>
            refine WL.neq rfl rfl rfl rfl hc111 ?_
            have hp111 := bne_iff_ne.1 hc111
            refine WL.pick_f rfl rfl rfl rfl ?_
            refine WL.pick_t rfl rfl rfl rfl ?_
            refine WL.pick_f rfl rfl rfl rfl ?_
            refine WL.move rfl rfl rfl ?_
            refine WL.pass rfl rfl ?_
            refine WL.pass rfl rfl ?_
            refine WL.pass rfl rfl ?_
            refine WL.pass rfl rfl ?_
            refine WL.pass rfl rfl ?_
            refine WL.pass rfl rfl ?_
            refine WL.pass rfl rfl ?_
            refine WL.pass rfl rfl ?_
            refine WL.pass rfl rfl ?_
            refine WL.pick_t rfl rfl rfl rfl ?_
            refine WL.done' ?_ (fun _ _ h => h)
            refine WC.cond_t rfl ?_
            refine WC.seqk ?_
            refine WC.weaken (r' := [(1, .pointer (some ⟨b1, 0, none⟩)), (2, .bool false), (37, .bool true)]) (subReg_cons rfl (subReg_cons rfl (subReg_cons rfl (subReg_nil _)))) ?_
            refine WC.region ?_
            refine WL.assign rfl rfl rfl ?_
            refine WL.done' ?_ (fun _ _ h => h)
            refine WC.ret (fun a_ ha => ?_)
            refine ret_then ?_
            exact bodyPost_tmp rfl ha rfl ⟨(by congr 2; simp only [Nd.right, hc7, hc58, hc59, hc110, hc111] <;> try simp), hE5⟩
        | true =>
          refine WL.neq rfl rfl rfl rfl hc110 ?_
          have hp110 := bne_iff_ne.1 hc110
          refine WL.move rfl rfl rfl ?_
          refine WL.pass rfl rfl ?_
          refine WL.pass rfl rfl ?_
          refine WL.pass rfl rfl ?_
          refine WL.pick_t rfl rfl rfl rfl ?_
          refine WL.pick_t rfl rfl rfl rfl ?_
          refine WL.pick_f rfl rfl rfl rfl ?_
          refine WL.move rfl rfl rfl ?_
          refine WL.pass rfl rfl ?_
          refine WL.pass rfl rfl ?_
          refine WL.pass rfl rfl ?_
          refine WL.pass rfl rfl ?_
          refine WL.pass rfl rfl ?_
          refine WL.pass rfl rfl ?_
          refine WL.pass rfl rfl ?_
          refine WL.pass rfl rfl ?_
          refine WL.pass rfl rfl ?_
          refine WL.pick_t rfl rfl rfl rfl ?_
          refine WL.done' ?_ (fun _ _ h => h)
          refine WC.cond_t rfl ?_
          refine WC.seqk ?_
          refine WC.weaken (r' := [(1, .pointer (some ⟨b1, 0, none⟩)), (2, .bool false), (37, .bool true)]) (subReg_cons rfl (subReg_cons rfl (subReg_cons rfl (subReg_nil _)))) ?_
          refine WC.region ?_
          refine WL.assign rfl rfl rfl ?_
          refine WL.done' ?_ (fun _ _ h => h)
          refine WC.ret (fun a_ ha => ?_)
          refine ret_then ?_
          exact bodyPost_tmp rfl ha rfl ⟨(by congr 2; simp only [Nd.right, hc7, hc58, hc59, hc110] <;> try simp), hE5⟩
    | true =>
      refine WL.setneq (s := T.set) (s' := Nd.zero) rfl rfl Ty.arr26 Ty.eqg26 Try.underlying24 rfl rfl hc58 ?_
      refine WL.pick_t rfl rfl rfl rfl ?_
      refine WL.move rfl rfl rfl ?_
      refine WL.pass rfl rfl ?_
      refine WL.pass rfl rfl ?_
      refine WL.pass rfl rfl ?_
      refine WL.pass rfl rfl ?_
      refine WL.pass rfl rfl ?_
      refine WL.pass rfl rfl ?_
      refine WL.pass rfl rfl ?_
      refine WL.pass rfl rfl ?_
      refine WL.pass rfl rfl ?_
      refine WL.pass rfl rfl ?_
      refine WL.pass rfl rfl ?_
      refine WL.pass rfl rfl ?_
      refine WL.pass rfl rfl ?_
      refine WL.pick_t rfl rfl rfl rfl ?_
      refine WL.move rfl rfl rfl ?_
      refine WL.pass rfl rfl ?_
      refine WL.pass rfl rfl ?_
      refine WL.pass rfl rfl ?_
      refine WL.pass rfl rfl ?_
      refine WL.pass rfl rfl ?_
      refine WL.pass rfl rfl ?_
      refine WL.pass rfl rfl ?_
      refine WL.pass rfl rfl ?_
      refine WL.pass rfl rfl ?_
      refine WL.pick_t rfl rfl rfl rfl ?_
      refine WL.done' ?_ (fun _ _ h => h)
      refine WC.cond_t rfl ?_
      refine WC.seqk ?_
      refine WC.weaken (r' := [(1, .pointer (some ⟨b1, 0, none⟩)), (2, .bool false), (37, .bool true)]) (subReg_cons rfl (subReg_cons rfl (subReg_cons rfl (subReg_nil _)))) ?_
      refine WC.region ?_
      refine WL.assign rfl rfl rfl ?_
      refine WL.done' ?_ (fun _ _ h => h)
      refine WC.ret (fun a_ ha => ?_)
      refine ret_then ?_
      exact bodyPost_tmp rfl ha rfl ⟨(by congr 2; simp only [Nd.right, hc7, hc58] <;> try simp), hE5⟩

end Go.Proofs.Ytaggidjijekpbaa
