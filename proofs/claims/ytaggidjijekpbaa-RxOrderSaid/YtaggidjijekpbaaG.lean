/- Walks through the program's functions: each computes what the plain Lean function says. Printed by our own gen/r8.py. -/
import Derived.Test.YtaggidjijekpbaaF
import Derived.KernelRfl
namespace Go.Proofs.Ytaggidjijekpbaa
open Go.Proofs Go.RowKit

set_option maxRecDepth 20000 in
set_option maxHeartbeats 4000000 in
theorem class_ok (w : World) (bs : List UInt8) (hbs : bs.length ≤ 100) :
    Calls Try.prog 20 #[.string ⟨List.toArray bs⟩] w fun e w' => ∃ l', e = .returned (.agg l'.toArray) ∧ NodeL (fun k => w.heap.size ≤ k) w' l' (Nd.classS bs) ∧ Ext w w' := by
  refine Calls.enter (args := [.string ⟨List.toArray bs⟩]) Try.func20 rfl rfl rfl rfl ?_
  refine WC.seqk ?_
  refine WC.region ?_
  refine WL.alloc rfl rfl Ty.zero29 rfl (fun b1 w6 hb2 hE5 hs3 hR4 => ?_)
  refine WL.done' ?_ (fun _ _ h => h)
  refine WC.seqk ?_
  refine WC.region ?_
  refine WL.alloc rfl rfl Ty.zero26 rfl (fun b7 w12 hb8 hE11 hs9 hR10 => ?_)
  refine WL.done' ?_ (fun _ _ h => h)
  refine WC.seqk ?_
  refine WC.seqk ?_
  refine WC.region ?_
  refine WL.move rfl rfl rfl ?_
  refine WL.lenS rfl rfl Try.underlying9 rfl ?_
  refine WL.move rfl rfl rfl ?_
  refine WL.done' ?_ (fun _ _ h => h)
  refine WC.block ?_
  refine WC.weaken (r' := [(0, .string ⟨List.toArray bs⟩), (2, .pointer (some ⟨b1, 0, none⟩)), (3, .pointer (some ⟨b7, 0, none⟩)), (5, .string ⟨List.toArray bs⟩), (6, .int .i64 (bs.length : Int)), (7, .int .i64 0)]) (subReg_cons rfl (subReg_cons rfl (subReg_cons rfl (subReg_cons rfl (subReg_cons rfl (subReg_cons rfl (subReg_nil _))))))) ?_
  refine WC.loop (σ := Nat) (fun k r_ w_ => r_ = [(0, .string ⟨List.toArray bs⟩), (2, .pointer (some ⟨b1, 0, none⟩)), (3, .pointer (some ⟨b7, 0, none⟩)), (5, .string ⟨List.toArray bs⟩), (6, .int .i64 (bs.length : Int)), (7, .int .i64 (k : Int))] ∧ Ext w w_ ∧ (k ≤ bs.length ∧ Row w_ b1 [.int .u8 0, .int .u64 0, .int .u64 0, .int .u64 0, .int .u64 0, .int .i64 0, .int .i64 0, .slice none 0 0] 29 ∧ Row w_ b7 (scells (Nd.setB (bs.take k))) 26)) (fun k => bs.length - k) 0 ⟨rfl, (hE5.trans hE11), ⟨Nat.zero_le _, (hR4.ext hE11), hR10⟩⟩ ?_
  rintro k r_ w15 ⟨rfl, hE13, hI14⟩
  have hzhE13 := hE13.size
  obtain ⟨hk, hR2, hR3⟩ := hI14
  refine WC.seqk ?_
  refine WC.region ?_
  cases hc16 : decide (((k : Int) : Int) < (bs.length : Int)) with
  | false =>
    refine WL.lss rfl rfl rfl rfl hc16 ?_
    have hp16 := of_decide_eq_false hc16
    refine WL.done' ?_ (fun _ _ h => h)
    refine WC.seqk ?_
    refine WC.cond_f rfl ?_
    refine WC.exit (fun a_ ha => ?_)
    refine exit_then ?_
    refine exit_then ?_
    refine exit_here ?_
    refine WC.at ?_ ha
    refine WC.seqk ?_
    refine WC.region ?_
    refine WL.load_box rfl rfl rfl hR3 Ty.agg26 ?_
    refine WL.build (l := [.int .u8 2, .int .u64 (Nd.setB (bs.take k)).a, .int .u64 (Nd.setB (bs.take k)).b, .int .u64 (Nd.setB (bs.take k)).c, .int .u64 (Nd.setB (bs.take k)).d, .int .i64 0, .int .i64 0, .slice none 0 0]) rfl rfl Ty.zero29 Ty.st29 ⟨⟨rfl, rfl⟩, (by kernel_rfl)⟩ ?_
    have hn17 : NodeL _ w15 [.int .u8 2, .int .u64 (Nd.setB (bs.take k)).a, .int .u64 (Nd.setB (bs.take k)).b, .int .u64 (Nd.setB (bs.take k)).c, .int .u64 (Nd.setB (bs.take k)).d, .int .i64 0, .int .i64 0, .slice none 0 0] (Nd.mk 2 (Nd.setB (bs.take k)) 0 0 ([])) := NodeL.shut (k := 2) (s := (Nd.setB (bs.take k))) (mn := 0) (mx := 0) (sl := .slice none 0 0) (ts := []) (NodesV.nil (fun _ => False) _ none 0)
    have hn17 := hn17.lt
    refine WL.store_box rfl rfl rfl hR2 Ty.agg29 rfl rfl (fun w20 hB19 hR18 => ?_)
    have hzhB19 := hB19.size
    refine WL.done' ?_ (fun _ _ h => h)
    refine WC.ret (fun a_ ha => ?_)
    have hkk : k = bs.length := by omega
    have hF := (hn17.but hB19 (by intro h1; first | omega | ((try dsimp only at h1); (repeat' first | (guard_hyp h1 : _ ∨ _; refine Or.elim h1 (fun h1 => ?_) (fun h1 => ?_)) | (guard_hyp h1 : _ ∧ _; have hx := h1.2; replace h1 := h1.1)) <;> first | contradiction | omega)))
    exact bodyPost_cell (l := [.int .u8 2, .int .u64 (Nd.setB (bs.take k)).a, .int .u64 (Nd.setB (bs.take k)).b, .int .u64 (Nd.setB (bs.take k)).c, .int .u64 (Nd.setB (bs.take k)).d, .int .i64 0, .int .i64 0, .slice none 0 0]) rfl ha rfl Ty.agg29 hR18 ⟨_, rfl, (by subst hkk; rw [List.take_length] at *; exact hF.dom (by intro k hk; exact hk.1.elim)), (hB19.onto hE13 (by omega))⟩
  | true =>
    refine WL.lss rfl rfl rfl rfl hc16 ?_
    have hp16 := of_decide_eq_true hc16
    refine WL.done' ?_ (fun _ _ h => h)
    refine WC.seqk ?_
    refine WC.cond_t rfl ?_
    refine WC.skip'' ?_ (fun _ _ h => h)
    refine WC.seqk ?_
    refine WC.block ?_
    refine WC.seqk ?_
    refine WC.region ?_
    refine WL.move rfl rfl rfl ?_
    refine WL.assign rfl rfl rfl ?_
    refine WL.done' ?_ (fun _ _ h => h)
    obtain ⟨c, hcb⟩ : ∃ c, bs[k]? = some c := ⟨_, List.getElem?_eq_getElem (by omega)⟩
    have hcl := c.toNat_lt
    have hc4 : c.toNat / 64 < 4 := by omega
    refine WC.weaken (r' := [(0, .string ⟨List.toArray bs⟩), (2, .pointer (some ⟨b1, 0, none⟩)), (3, .pointer (some ⟨b7, 0, none⟩)), (5, .string ⟨List.toArray bs⟩), (6, .int .i64 (bs.length : Int)), (7, .int .i64 (k : Int)), (8, .bool true), (9, .int .i64 (k : Int)), (4, .int .i64 (k : Int))]) (subReg_cons rfl (subReg_cons rfl (subReg_cons rfl (subReg_cons rfl (subReg_cons rfl (subReg_cons rfl (subReg_cons rfl (subReg_cons rfl (subReg_cons rfl (subReg_nil _)))))))))) ?_
    refine WC.draw 12 [10, 11, 12, 13, 14, 15, 16, 17, 18, 19, 20, 21] [pc (.string ⟨List.toArray bs⟩), pc (.int .i64 (k : Int)), pc (.int .u8 (c.toNat : Int)), pc (.int .u8 ((c.toNat / 64 : Nat) : Int)), pc (.pointer (some ⟨b7, 0 + (c.toNat / 64) * 1, none⟩)), pc (.int .u64 (Nd.S4get (Nd.setB (bs.take k)) (c.toNat / 64))), pc (.string ⟨List.toArray bs⟩), pc (.int .i64 (k : Int)), pc (.int .u8 (c.toNat : Int)), pc (.int .u8 ((c.toNat % 64 : Nat) : Int)), pc (.int .u64 (Nd.bit1 c.toNat)), pc (.int .u64 (Nd.orI (Nd.S4get (Nd.setB (bs.take k)) (c.toNat / 64)) (Nd.bit1 c.toNat)))] (by kernel_rfl) (by kernel_rfl) ⟨KW_pc _, KW_pc _, KW_pc _, KW_pc _, KW_pc _, KW_pc _, KW_pc _, KW_pc _, KW_pc _, KW_pc _, KW_pc _, KW_pc _, trivial⟩ rfl rfl rfl (StepsOn.cons ?_ (StepsOn.cons ?_ (StepsOn.cons ?_ (StepsOn.cons ?_ (StepsOn.cons ?_ (StepsOn.cons ?_ (StepsOn.cons ?_ (StepsOn.cons ?_ (StepsOn.cons ?_ (StepsOn.cons ?_ (StepsOn.cons ?_ (StepsOn.cons ?_ (StepsOn.nil _))))))))))))) ?_
    · intro σ β w1 hE1 hbi hk
      have hz1 := hE1.size
      refine ⟨[], (agree_nil _), ?_⟩
      refine WL.move rfl rfl rfl ?_
      refine WL.nil (fun a_ ha => ?_)
      exact ⟨_, β, ha, (Ext.refl _), BExt.refl _ _, hbi.ext (Ext.refl _), rfl⟩
    · intro σ β w1 hE1 hbi hk
      have hz1 := hE1.size
      refine ⟨[], (agree_nil _), ?_⟩
      refine WL.move rfl rfl rfl ?_
      refine WL.nil (fun a_ ha => ?_)
      exact ⟨_, β, ha, (Ext.refl _), BExt.refl _ _, hbi.ext (Ext.refl _), rfl⟩
    · intro σ β w1 hE1 hbi hk
      have hz1 := hE1.size
      obtain ⟨_, hv1367, rfl⟩ := hk 0 (by kernel_rfl) _ _ rfl rfl
      obtain ⟨_, hv1368, rfl⟩ := hk 1 (by kernel_rfl) _ _ rfl rfl
      refine ⟨[(10, .string ⟨List.toArray bs⟩), (11, .int .i64 (k : Int))], (agree_cons (look_right rfl hv1367) (agree_cons (look_right rfl hv1368) (agree_nil _))), ?_⟩
      refine WL.indexS (i := k) rfl rfl Try.underlying9 rfl rfl rfl hcb ?_
      refine WL.nil (fun a_ ha => ?_)
      exact ⟨_, β, ha, (Ext.refl _), BExt.refl _ _, hbi.ext (Ext.refl _), rfl⟩
    · intro σ β w1 hE1 hbi hk
      have hz1 := hE1.size
      obtain ⟨_, hv1467, rfl⟩ := hk 2 (by kernel_rfl) _ _ rfl rfl
      refine ⟨[(12, .int .u8 (c.toNat : Int))], (agree_cons (look_right rfl hv1467) (agree_nil _)), ?_⟩
      refine WL.quo (v := ((c.toNat / 64 : Nat) : Int)) rfl rfl rfl rfl (by decide) (Nd.quo64 _ hcl) ?_
      refine WL.nil (fun a_ ha => ?_)
      exact ⟨_, β, ha, (Ext.refl _), BExt.refl _ _, hbi.ext (Ext.refl _), rfl⟩
    · intro σ β w1 hE1 hbi hk
      have hz1 := hE1.size
      obtain ⟨_, hv1567, rfl⟩ := hk 3 (by kernel_rfl) _ _ rfl rfl
      refine ⟨[(13, .int .u8 ((c.toNat / 64 : Nat) : Int))], (agree_cons (look_right rfl hv1567) (agree_nil _)), ?_⟩
      refine WL.indexAddrA (i := (c.toNat / 64)) rfl rfl Ty.arr26 rfl rfl rfl hc4 ?_
      refine WL.nil (fun a_ ha => ?_)
      exact ⟨_, β, ha, (Ext.refl _), BExt.refl _ _, hbi.ext (Ext.refl _), rfl⟩
    · intro σ β w1 hE1 hbi hk
      have hz1 := hE1.size
      obtain ⟨_, hv1667, rfl⟩ := hk 4 (by kernel_rfl) _ _ rfl rfl
      refine ⟨[(14, .pointer (some ⟨b7, 0 + (c.toNat / 64) * 1, none⟩))], (agree_cons (look_right rfl hv1667) (agree_nil _)), ?_⟩
      refine WL.load_fld (v := .int .u64 (Nd.S4get (Nd.setB (bs.take k)) (c.toNat / 64))) rfl rfl Ty.flat24 rfl (hR3.ext hE1) (scells_get _ _ hc4) ?_
      refine WL.nil (fun a_ ha => ?_)
      exact ⟨_, β, ha, (Ext.refl _), BExt.refl _ _, hbi.ext (Ext.refl _), rfl⟩
    · intro σ β w1 hE1 hbi hk
      have hz1 := hE1.size
      refine ⟨[], (agree_nil _), ?_⟩
      refine WL.move rfl rfl rfl ?_
      refine WL.nil (fun a_ ha => ?_)
      exact ⟨_, β, ha, (Ext.refl _), BExt.refl _ _, hbi.ext (Ext.refl _), rfl⟩
    · intro σ β w1 hE1 hbi hk
      have hz1 := hE1.size
      refine ⟨[], (agree_nil _), ?_⟩
      refine WL.move rfl rfl rfl ?_
      refine WL.nil (fun a_ ha => ?_)
      exact ⟨_, β, ha, (Ext.refl _), BExt.refl _ _, hbi.ext (Ext.refl _), rfl⟩
    · intro σ β w1 hE1 hbi hk
      have hz1 := hE1.size
      obtain ⟨_, hv1967, rfl⟩ := hk 6 (by kernel_rfl) _ _ rfl rfl
      obtain ⟨_, hv1968, rfl⟩ := hk 7 (by kernel_rfl) _ _ rfl rfl
      refine ⟨[(16, .string ⟨List.toArray bs⟩), (17, .int .i64 (k : Int))], (agree_cons (look_right rfl hv1967) (agree_cons (look_right rfl hv1968) (agree_nil _))), ?_⟩
      refine WL.indexS (i := k) rfl rfl Try.underlying9 rfl rfl rfl hcb ?_
      refine WL.nil (fun a_ ha => ?_)
      exact ⟨_, β, ha, (Ext.refl _), BExt.refl _ _, hbi.ext (Ext.refl _), rfl⟩
    · intro σ β w1 hE1 hbi hk
      have hz1 := hE1.size
      obtain ⟨_, hv2067, rfl⟩ := hk 8 (by kernel_rfl) _ _ rfl rfl
      refine ⟨[(18, .int .u8 (c.toNat : Int))], (agree_cons (look_right rfl hv2067) (agree_nil _)), ?_⟩
      refine WL.rem (v := ((c.toNat % 64 : Nat) : Int)) rfl rfl rfl rfl (by decide) (Nd.rem64 _) ?_
      refine WL.nil (fun a_ ha => ?_)
      exact ⟨_, β, ha, (Ext.refl _), BExt.refl _ _, hbi.ext (Ext.refl _), rfl⟩
    · intro σ β w1 hE1 hbi hk
      have hz1 := hE1.size
      obtain ⟨_, hv2167, rfl⟩ := hk 9 (by kernel_rfl) _ _ rfl rfl
      refine ⟨[(19, .int .u8 ((c.toNat % 64 : Nat) : Int))], (agree_cons (look_right rfl hv2167) (agree_nil _)), ?_⟩
      refine WL.shl (v := Nd.bit1 c.toNat) rfl rfl rfl rfl rfl ?_
      refine WL.nil (fun a_ ha => ?_)
      exact ⟨_, β, ha, (Ext.refl _), BExt.refl _ _, hbi.ext (Ext.refl _), rfl⟩
    · intro σ β w1 hE1 hbi hk
      have hz1 := hE1.size
      obtain ⟨_, hv2267, rfl⟩ := hk 5 (by kernel_rfl) _ _ rfl rfl
      obtain ⟨_, hv2268, rfl⟩ := hk 10 (by kernel_rfl) _ _ rfl rfl
      refine ⟨[(15, .int .u64 (Nd.S4get (Nd.setB (bs.take k)) (c.toNat / 64))), (20, .int .u64 (Nd.bit1 c.toNat))], (agree_cons (look_right rfl hv2267) (agree_cons (look_right rfl hv2268) (agree_nil _))), ?_⟩
      refine WL.or (v := Nd.orI (Nd.S4get (Nd.setB (bs.take k)) (c.toNat / 64)) (Nd.bit1 c.toNat)) rfl rfl rfl rfl rfl ?_
      refine WL.nil (fun a_ ha => ?_)
      exact ⟨_, β, ha, (Ext.refl _), BExt.refl _ _, hbi.ext (Ext.refl _), rfl⟩
    intro σ β w966 hE966 hbi966 hk
    have hz966 := hE966.size
    have hbi := hbi966
    obtain ⟨_, hv967, rfl⟩ := hk 3 (by decide) _ _ rfl rfl
    obtain ⟨_, hv968, rfl⟩ := hk 11 (by decide) _ _ rfl rfl
    refine WL.know [(13, .int .u8 ((c.toNat / 64 : Nat) : Int)), (21, .int .u64 (Nd.orI (Nd.S4get (Nd.setB (bs.take k)) (c.toNat / 64)) (Nd.bit1 c.toNat)))] (agree_cons (look_right rfl hv967) (agree_cons (look_right rfl hv968) (agree_nil _))) ?_
    refine WL.indexAddrA (i := (c.toNat / 64)) rfl rfl Ty.arr26 rfl rfl rfl hc4 ?_
    refine WL.store_fld (new := [.int .u64 (Nd.set1 (Nd.setB (bs.take k)) c.toNat).a, .int .u64 (Nd.set1 (Nd.setB (bs.take k)) c.toNat).b, .int .u64 (Nd.set1 (Nd.setB (bs.take k)) c.toNat).c, .int .u64 (Nd.set1 (Nd.setB (bs.take k)) c.toNat).d]) rfl Ty.flat24 rfl rfl (hR3.ext hE966) rfl rfl (by simp; omega) (scells_put _ _ _ hc4) (fun w971 hB970 hR969 => ?_)
    have hzhB970 := hB970.size
    refine WL.done' ?_ (fun _ _ h => h)
    refine WC.region ?_
    refine WL.add (v := (k : Int) + 1) rfl rfl rfl rfl (IntWalk.i64_in _ (by omega)) ?_
    refine WL.move rfl rfl rfl ?_
    refine WL.nil (fun a_ ha => ?_)
    have h972 := (hB970.row (hR2.ext hE966) (by omega))
    exact ⟨k + 1, _, ha.weaken (subReg_cons rfl (subReg_cons rfl (subReg_cons rfl (subReg_cons rfl (subReg_cons rfl (subReg_cons rfl (subReg_nil _))))))), ⟨rfl, (hB970.onto (hE13.trans hE966) (by omega)), ⟨by omega, h972, (by rw [Nd.setB_succ hcb]; exact hR969)⟩⟩, by first | omega | (dsimp only; omega)⟩

set_option maxRecDepth 20000 in
set_option maxHeartbeats 4000000 in
theorem letters_ok (w : World) (n : Int) (hn : 0 ≤ n) :
    Calls Try.prog 31 #[.int .u8 n] w fun e w' => e = .returned (.string ⟨List.toArray (Nd.lettersS n)⟩) ∧ Ext w w' := by
  have hm : n.tmod 12 = n % 12 := Int.tmod_eq_emod_of_nonneg hn
  refine Calls.enter (args := [.int .u8 n]) Try.func31 rfl rfl rfl rfl ?_
  refine WC.seqk ?_
  refine WC.region ?_
  refine WL.assign rfl rfl rfl ?_
  refine WL.done' ?_ (fun _ _ h => h)
  refine WC.seqk ?_
  refine WC.region ?_
  refine WL.buildSlice (vs := [.string ⟨List.toArray ([97])⟩, .string ⟨List.toArray ([98])⟩, .string ⟨List.toArray ([97, 98])⟩, .string ⟨List.toArray ([97])⟩, .string ⟨List.toArray ([98])⟩, .string ⟨List.toArray ([99])⟩, .string ⟨List.toArray ([97, 98, 99])⟩, .string ⟨List.toArray ([98, 99])⟩, .string ⟨List.toArray ([10])⟩, .string ⟨List.toArray ([0, 255])⟩, .string ⟨List.toArray ([97])⟩, .string ⟨List.toArray ([98])⟩]) (cells := [.string ⟨List.toArray ([97])⟩, .string ⟨List.toArray ([98])⟩, .string ⟨List.toArray ([97, 98])⟩, .string ⟨List.toArray ([97])⟩, .string ⟨List.toArray ([98])⟩, .string ⟨List.toArray ([99])⟩, .string ⟨List.toArray ([97, 98, 99])⟩, .string ⟨List.toArray ([98, 99])⟩, .string ⟨List.toArray ([10])⟩, .string ⟨List.toArray ([0, 255])⟩, .string ⟨List.toArray ([97])⟩, .string ⟨List.toArray ([98])⟩]) rfl rfl Ty.slice62 Ty.zero9 rfl rfl rfl rfl rfl rfl (fun b1 w6 hb2 hE5 hs3 hR4 => ?_)
  refine WL.move rfl rfl rfl ?_
  refine WL.rem (v := (n.tmod 12)) rfl rfl rfl rfl (by decide) rfl ?_
  refine WL.indexAddr (i := (n.tmod 12).toNat) rfl rfl Ty.slice62 rfl rfl (by omega) (by omega) ?_
  refine WL.load_fld (v := .string ⟨List.toArray (Nd.lettersS n)⟩) rfl rfl Ty.flat9 rfl hR4 (by have h : (n.tmod 12).toNat = 0 ∨ (n.tmod 12).toNat = 1 ∨ (n.tmod 12).toNat = 2 ∨ (n.tmod 12).toNat = 3 ∨ (n.tmod 12).toNat = 4 ∨ (n.tmod 12).toNat = 5 ∨ (n.tmod 12).toNat = 6 ∨ (n.tmod 12).toNat = 7 ∨ (n.tmod 12).toNat = 8 ∨ (n.tmod 12).toNat = 9 ∨ (n.tmod 12).toNat = 10 ∨ (n.tmod 12).toNat = 11 := (by omega); unfold Nd.lettersS; rcases h with h | h | h | h | h | h | h | h | h | h | h | h <;> rw [h] <;> rfl) ?_
  refine WL.assign rfl rfl rfl ?_
  refine WL.done' ?_ (fun _ _ h => h)
  refine WC.ret (fun a_ ha => ?_)
  exact bodyPost_tmp rfl ha rfl ⟨rfl, hE5⟩

end Go.Proofs.Ytaggidjijekpbaa
