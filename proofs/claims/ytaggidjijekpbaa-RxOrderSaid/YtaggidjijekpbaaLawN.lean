/- The plain laws of RxTimes, RxTogether and RxWrong: what is put together of trees that Made makes. No program in sight. -/
import Derived.Test.YtaggidjijekpbaaLawM
namespace Go.Proofs.Ytaggidjijekpbaa
namespace Nd
theorem same_self (t : Nd) : t.same t = true := (same_iff t t).2 rfl
theorem Same_self {t : Nd} (h : t.light = true) : (t.light && t.light && t.same t) = true := by rw [h, same_self]; rfl
theorem Same_eq {t u : Nd} (h : t = u) (hl : u.light = true) : (t.light && u.light && t.same u) = true := by subst h; exact Same_self hl
theorem Same_eq' {t u : Nd} (h : u = t) (hl : t.light = true) : (t.light && u.light && t.same u) = true := by subst h; exact Same_self hl
/-! ### Times -/
theorem bounds_iff (mn mx : Int) : bounds mn mx = true ↔ (0 ≤ mn ∧ mn ≤ 16) ∧ ¬ (mn = 1 ∧ mx = 1) ∧ (mx = -1 ∨ (1 ≤ mx ∧ mx ≤ 16 ∧ mn ≤ mx)) := by
  simp only [bounds, Bool.and_eq_true, Bool.or_eq_true, Bool.not_eq_true', decide_eq_true_eq, beq_iff_eq]
  rw [Bool.eq_false_iff]
  simp only [ne_eq, Bool.and_eq_true, beq_iff_eq]
  omega
theorem bounds_no {mn mx : Int} (h : ¬ ((0 ≤ mn ∧ mn ≤ 16) ∧ ¬ (mn = 1 ∧ mx = 1) ∧ (mx = -1 ∨ (1 ≤ mx ∧ mx ≤ 16 ∧ mn ≤ mx)))) : bounds mn mx = false := by
  rw [Bool.eq_false_iff]; intro hb; exact h ((bounds_iff _ _).1 hb)
theorem Fine.kind0 {t : Nd} (h : Fine t) : (t.kind == 0) = false := by rw [beq_eq_false_iff_ne]; have := h.kind; omega
theorem times_one {t : Nd} (h : Fine t) : Nd.times t 1 1 = t := by
  unfold Nd.times
  rw [h.good, h.kind0]
  by_cases hk : t.kind = 1
  · have : (t.kind == 1) = true := by simpa using hk
    rw [this, right_empty (nice_right h.1) hk]; rfl
  · have : (t.kind == 1) = false := by simpa using hk
    rw [this]; rfl
theorem times_zero {t : Nd} (h : Fine t) : Nd.times t 0 0 = Nd.empty := by
  unfold Nd.times
  rw [h.good, h.kind0]; rfl
theorem times_bad {t : Nd} {mn mx : Int} (hb : ¬ (0 ≤ mn ∧ mn ≤ 16 ∧ (mx = -1 ∨ mn ≤ mx ∧ mx ≤ 16))) : Nd.times t mn mx = Nd.none := by
  have h1 : ((mn == 0) && (mx == 0)) = false := by rw [Bool.eq_false_iff]; simp only [ne_eq, Bool.and_eq_true, beq_iff_eq]; omega
  have h2 : ((mn == 1) && (mx == 1)) = false := by rw [Bool.eq_false_iff]; simp only [ne_eq, Bool.and_eq_true, beq_iff_eq]; omega
  have h3 : bounds mn mx = false := bounds_no (by omega)
  unfold Nd.times
  dsimp only
  rw [h1, h2, h3]; simp
theorem times_empty {t : Nd} {mn mx : Int} (h : Fine t) (hb : 0 ≤ mn ∧ mn ≤ 16 ∧ (mx = -1 ∨ mn ≤ mx ∧ mx ≤ 16)) (hk : t.kind = 1 ∨ mx = 0) : Nd.times t mn mx = Nd.empty := by
  unfold Nd.times
  dsimp only
  rw [h.good, h.kind0]
  by_cases h0 : mx = 0
  · have hm : mn = 0 := by omega
    subst h0; subst hm; rfl
  · have h1 : ((mn == 0) && (mx == 0)) = false := by rw [Bool.eq_false_iff]; simp only [ne_eq, Bool.and_eq_true, beq_iff_eq]; omega
    have hk1 : (t.kind == 1) = true := by rw [beq_iff_eq]; omega
    rw [h1, hk1]
    by_cases h11 : mn = 1 ∧ mx = 1
    · obtain ⟨rfl, rfl⟩ := h11; rfl
    · have h2 : ((mn == 1) && (mx == 1)) = false := by rw [Bool.eq_false_iff]; simp only [ne_eq, Bool.and_eq_true, beq_iff_eq]; exact h11
      have h3 : bounds mn mx = true := (bounds_iff _ _).2 (by omega)
      rw [h2, h3]; rfl
theorem times_rep {t : Nd} {mn mx : Int} (h : Fine t) (hb : 0 ≤ mn ∧ mn ≤ 16 ∧ (mx = -1 ∨ mn ≤ mx ∧ mx ≤ 16)) (hk : t.kind ≠ 1) (h0 : mx ≠ 0) (h11 : ¬ (mn = 1 ∧ mx = 1)) : Nd.times t mn mx = mk 5 zero mn mx [t] := by
  have h1 : ((mn == 0) && (mx == 0)) = false := by rw [Bool.eq_false_iff]; simp only [ne_eq, Bool.and_eq_true, beq_iff_eq]; omega
  have h2 : ((mn == 1) && (mx == 1)) = false := by rw [Bool.eq_false_iff]; simp only [ne_eq, Bool.and_eq_true, beq_iff_eq]; exact h11
  have h3 : bounds mn mx = true := (bounds_iff _ _).2 (by omega)
  have hk1 : (t.kind == 1) = false := by rw [beq_eq_false_iff_ne]; exact hk
  have hc : (mk 5 zero mn mx [t]).clean = true := (clean_iff _).2 ⟨by have := h.2; simp [size_mk, sizeL]; omega, rep_nice h.1 hk h3⟩
  unfold Nd.times
  dsimp only
  rw [h.good, h.kind0, h1, h2, h3, hk1]
  exact checked_clean hc
theorem rep_fine {t : Nd} {mn mx : Int} (h : MadeOk t) (hb : 0 ≤ mn ∧ mn ≤ 16 ∧ (mx = -1 ∨ mn ≤ mx ∧ mx ≤ 16)) (hk : t.kind ≠ 1) (h0 : mx ≠ 0) (h11 : ¬ (mn = 1 ∧ mx = 1)) : Fine (mk 5 zero mn mx [t]) :=
  ⟨rep_nice h.nice hk ((bounds_iff _ _).2 (by omega)), by have := h.size; simp [size_mk, sizeL]; omega⟩
theorem tms_eq {mn mx : Int} (hb : 0 ≤ mn ∧ mn ≤ 16 ∧ (mx = -1 ∨ mn ≤ mx ∧ mx ≤ 16)) (h0 : mx ≠ 0) : tms mn mx = max3 mn mx 1 ∧ 1 ≤ max3 mn mx 1 ∧ max3 mn mx 1 ≤ 16 := by
  unfold tms max3 maxI
  rcases hb.2.2 with rfl | h
  · simp only [beq_self_eq_true, cond_true]; (repeat' split) <;> omega
  · have : (mx == -1) = false := by rw [beq_eq_false_iff_ne]; omega
    rw [this]; simp only [cond_false]; (repeat' split) <;> omega
theorem mul_le16 {m p : Int} (h1 : 1 ≤ m) (h2 : m ≤ 16) (h3 : 0 ≤ p) (h4 : p ≤ 400) : 0 ≤ m * p ∧ m * p ≤ 6400 := by
  have a := Int.mul_le_mul h2 h4 (by omega) (by omega)
  have b := Int.mul_nonneg (show 0 ≤ m by omega) h3
  omega
theorem rep_posns {t : Nd} {mn mx : Int} (h : MadeOk t) (hb : 0 ≤ mn ∧ mn ≤ 16 ∧ (mx = -1 ∨ mn ≤ mx ∧ mx ≤ 16)) (hk : t.kind ≠ 1) (h0 : mx ≠ 0) (h11 : ¬ (mn = 1 ∧ mx = 1)) : (mk 5 zero mn mx [t]).posns = max3 mn mx 1 * t.posns := by
  have hf := rep_fine h hb hk h0 h11
  rw [posns_eq hf.light, posns_eq h.fine.light, rep_posn]
  obtain ⟨e1, e2, e3⟩ := tms_eq hb h0
  have hp := posn_bd t
  have hp2 := h.posn
  have hm := mul_le16 e2 e3 hp.1 hp2
  have e4 : minI (tms mn mx) 10001 = max3 mn mx 1 := by rw [e1]; unfold minI; split <;> omega
  rw [e4, Int.mul_comm]
  unfold minI; split <;> omega
theorem rep_sizes {t : Nd} {mn mx : Int} (h : MadeOk t) (hb : 0 ≤ mn ∧ mn ≤ 16 ∧ (mx = -1 ∨ mn ≤ mx ∧ mx ≤ 16)) (hk : t.kind ≠ 1) (h0 : mx ≠ 0) (h11 : ¬ (mn = 1 ∧ mx = 1)) : (mk 5 zero mn mx [t]).sizes = 1 + t.sizes := by
  have hf := rep_fine h hb hk h0 h11
  rw [sizes_eq hf.light, sizes_eq h.fine.light, size_mk]
  simp [sizeL]
theorem MadeOk.sizes {t : Nd} (h : MadeOk t) : 0 ≤ t.sizes ∧ t.sizes ≤ 50 := by rw [sizes_eq h.fine.light]; have := h.size; omega
theorem MadeOk.posns {t : Nd} (h : MadeOk t) : 0 ≤ t.posns ∧ t.posns ≤ 400 := by rw [posns_eq h.fine.light]; have := h.posn; have := posn_bd t; omega
theorem MadeOk.groups {t : Nd} (h : MadeOk t) : 0 ≤ t.groups ∧ t.groups ≤ 9 := by rw [gr_eq h.fine.light]; have := h.gr; omega
/-! ### Together -/
section together
variable {a b c : Nd}
theorem flat2 (kd wo : Int) (a b : Nd) : flat kd wo [a, b] = Nd.flat1 kd wo a ++ Nd.flat1 kd wo b := by simp [flat]
theorem flat3 (kd wo : Int) (a b c : Nd) : flat kd wo [a, b, c] = Nd.flat1 kd wo a ++ (Nd.flat1 kd wo b ++ Nd.flat1 kd wo c) := by simp [flat]
theorem mkJ_fine {kd wo : Int} {e : Nd} (h2 : Two kd wo e) {l : List Nd} (h : Norm kd wo l) (hl : kd = 3 ∨ l ≠ []) (hs : sizeL l ≤ 900) : Fine (mkJ kd l e) :=
  ⟨h2.nice h hl, by have := mkJ_size kd l h2.esize; omega⟩
/-- clean trees of at most 300 nodes -/
def Small3 (t : Nd) : Prop := t.nice = true ∧ t.size ≤ 300
theorem Small3.fine (h : Small3 a) : Fine a := ⟨h.1, by have := h.2; omega⟩
theorem MadeOk.small (h : MadeOk a) : Small3 a := ⟨h.nice, by have := h.size; omega⟩
theorem seq2 (ha : Fine a) (hb : Fine b) : Nd.seq [a, b] = mkJ 3 (Nd.flat1 3 1 a ++ Nd.flat1 3 1 b) Nd.empty := by
  rw [seq_eq (fun t ht => by simp at ht; rcases ht with rfl | rfl; exact ha; exact hb) (by have := ha.2; have := hb.2; simp [sizeL]; omega), flat2]
theorem seq3 (ha : Fine a) (hb : Fine b) (hc : Fine c) : Nd.seq [a, b, c] = mkJ 3 (Nd.flat1 3 1 a ++ (Nd.flat1 3 1 b ++ Nd.flat1 3 1 c)) Nd.empty := by
  rw [seq_eq (fun t ht => by simp at ht; rcases ht with rfl | rfl | rfl; exact ha; exact hb; exact hc) (by have := ha.2; have := hb.2; have := hc.2; simp [sizeL]; omega), flat3]
theorem or2 (ha : Fine a) (hb : Fine b) : Nd.or [a, b] = mkJ 4 (Nd.flat1 4 0 a ++ Nd.flat1 4 0 b) Nd.none := by
  rw [or_eq (fun t ht => by simp at ht; rcases ht with rfl | rfl; exact .inl ha; exact .inl hb) (by have := ha.2; have := hb.2; simp [sizeL]; omega), flat2]
theorem or3 (ha : Fine a) (hb : Fine b) (hc : Fine c) : Nd.or [a, b, c] = mkJ 4 (Nd.flat1 4 0 a ++ (Nd.flat1 4 0 b ++ Nd.flat1 4 0 c)) Nd.none := by
  rw [or_eq (fun t ht => by simp at ht; rcases ht with rfl | rfl | rfl; exact .inl ha; exact .inl hb; exact .inl hc) (by have := ha.2; have := hb.2; have := hc.2; simp [sizeL]; omega), flat3]
theorem norm2 {kd wo : Int} {e : Nd} (h2 : Two kd wo e) (ha : Fine a) (hb : Fine b) : Norm kd wo (Nd.flat1 kd wo a ++ Nd.flat1 kd wo b) := (h2.norm ha.1).append (h2.norm hb.1)
theorem norm3 {kd wo : Int} {e : Nd} (h2 : Two kd wo e) (ha : Fine a) (hb : Fine b) (hc : Fine c) : Norm kd wo (Nd.flat1 kd wo a ++ (Nd.flat1 kd wo b ++ Nd.flat1 kd wo c)) := (h2.norm ha.1).append (norm2 h2 hb hc)
theorem size2 (kd wo : Int) (a b : Nd) : sizeL (Nd.flat1 kd wo a ++ Nd.flat1 kd wo b) ≤ a.size + b.size := by
  have := flat1_size kd wo a; have := flat1_size kd wo b; rw [sizeL_append]; omega
theorem size3 (kd wo : Int) (a b c : Nd) : sizeL (Nd.flat1 kd wo a ++ (Nd.flat1 kd wo b ++ Nd.flat1 kd wo c)) ≤ a.size + b.size + c.size := by
  have := flat1_size kd wo a; have := size2 kd wo b c; rw [sizeL_append]; omega
theorem seq2_fine (ha : Small3 a) (hb : Small3 b) : Fine (Nd.seq [a, b]) := by
  rw [seq2 ha.fine hb.fine]
  exact mkJ_fine two3 (norm2 two3 ha.fine hb.fine) (.inl rfl) (by have := size2 3 1 a b; have := ha.2; have := hb.2; omega)
theorem seq3_fine (ha : Small3 a) (hb : Small3 b) (hc : Small3 c) : Fine (Nd.seq [a, b, c]) := by
  rw [seq3 ha.fine hb.fine hc.fine]
  exact mkJ_fine two3 (norm3 two3 ha.fine hb.fine hc.fine) (.inl rfl) (by have := size3 3 1 a b c; have := ha.2; have := hb.2; have := hc.2; omega)
theorem or_ne {l : List Nd} (ha : a.nice = true) : Nd.flat1 4 0 a ++ l ≠ [] := by
  intro h; simp at h; exact flat1_alt_ne ha h.1
theorem or2_fine (ha : Small3 a) (hb : Small3 b) : Fine (Nd.or [a, b]) := by
  rw [or2 ha.fine hb.fine]
  exact mkJ_fine two4 (norm2 two4 ha.fine hb.fine) (.inr (or_ne ha.1)) (by have := size2 4 0 a b; have := ha.2; have := hb.2; omega)
theorem or3_fine (ha : Small3 a) (hb : Small3 b) (hc : Small3 c) : Fine (Nd.or [a, b, c]) := by
  rw [or3 ha.fine hb.fine hc.fine]
  exact mkJ_fine two4 (norm3 two4 ha.fine hb.fine hc.fine) (.inr (or_ne ha.1)) (by have := size3 4 0 a b c; have := ha.2; have := hb.2; have := hc.2; omega)
theorem seq_l (ha : Small3 a) (hb : Small3 b) (hc : Small3 c) : Nd.seq [Nd.seq [a, b], c] = Nd.seq [a, b, c] := by
  rw [seq2 (seq2_fine ha hb) hc.fine, seq2 ha.fine hb.fine, seq3 ha.fine hb.fine hc.fine, two3.flat1 (norm2 two3 ha.fine hb.fine), List.append_assoc]
theorem seq_r (ha : Small3 a) (hb : Small3 b) (hc : Small3 c) : Nd.seq [a, Nd.seq [b, c]] = Nd.seq [a, b, c] := by
  rw [seq2 ha.fine (seq2_fine hb hc), seq2 hb.fine hc.fine, seq3 ha.fine hb.fine hc.fine, two3.flat1 (norm2 two3 hb.fine hc.fine)]
theorem or_l (ha : Small3 a) (hb : Small3 b) (hc : Small3 c) : Nd.or [Nd.or [a, b], c] = Nd.or [a, b, c] := by
  rw [or2 (or2_fine ha hb) hc.fine, or2 ha.fine hb.fine, or3 ha.fine hb.fine hc.fine, two4.flat1 (norm2 two4 ha.fine hb.fine), List.append_assoc]
theorem or_r (ha : Small3 a) (hb : Small3 b) (hc : Small3 c) : Nd.or [a, Nd.or [b, c]] = Nd.or [a, b, c] := by
  rw [or2 ha.fine (or2_fine hb hc), or2 hb.fine hc.fine, or3 ha.fine hb.fine hc.fine, two4.flat1 (norm2 two4 hb.fine hc.fine)]
theorem flat1_empty : Nd.flat1 3 1 Nd.empty = [] := rfl
theorem seq_empty (ha : Small3 a) : Nd.seq [Nd.empty, a, Nd.empty] = a := by
  rw [seq3 Fine.empty ha.fine Fine.empty, flat1_empty, List.append_nil, List.nil_append, two3.back ha.1]
theorem or_none (ha : Small3 a) : Nd.or [Nd.none, a] = a := by
  rw [or_eq (fun t ht => by simp at ht; rcases ht with rfl | rfl; exact .inr rfl; exact .inl ha.fine) (by have := ha.2; simp [sizeL, Nd.none, size_mk]; omega), flat2]
  show mkJ 4 (Nd.flat1 4 0 a) Nd.none = a
  exact two4.back ha.1
theorem seq_none (a b : Nd) : Nd.seq [a, Nd.none, b] = Nd.none := seq_bad (t := Nd.none) (by simp) (by decide)
theorem seq_nil : Nd.seq [] = Nd.empty := rfl
theorem or_nil : Nd.or [] = Nd.none := rfl
theorem seq_joins (ha : Fine a) (hb : Fine b) : Nd.seq [a, b] = joins 3 a b := by rw [seq2 ha hb, joins_eq two3 ha.1 hb.1]
theorem or_joins (ha : Fine a) (hb : Fine b) : Nd.or [a, b] = joins 4 a b := by rw [or2 ha hb, joins_eq two4 ha.1 hb.1]
theorem j3_posn {kd wo : Int} {e : Nd} (h2 : Two kd wo e) (ha : MadeOk a) (hb : MadeOk b) (hc : MadeOk c) : (mkJ kd (Nd.flat1 kd wo a ++ (Nd.flat1 kd wo b ++ Nd.flat1 kd wo c)) e).posn = a.posn + b.posn + c.posn := by
  have e1 := h2.posn1 ha.nice (by have := ha.posn; omega)
  have e2 := h2.posn1 hb.nice (by have := hb.posn; omega)
  have e3 := h2.posn1 hc.nice (by have := hc.posn; omega)
  have p1 := ha.posn; have p2 := hb.posn; have p3 := hc.posn
  rw [h2.posn (by rw [posnL_append, posnL_append]; omega), posnL_append, posnL_append]; omega
theorem j3_gr {kd wo : Int} {e : Nd} (h2 : Two kd wo e) (ha : MadeOk a) (hb : MadeOk b) (hc : MadeOk c) : (mkJ kd (Nd.flat1 kd wo a ++ (Nd.flat1 kd wo b ++ Nd.flat1 kd wo c)) e).gr = a.gr + b.gr + c.gr := by
  rw [h2.gr, grL_append, grL_append, h2.gr1 ha.nice, h2.gr1 hb.nice, h2.gr1 hc.nice]; omega
theorem seq3_posns (ha : MadeOk a) (hb : MadeOk b) (hc : MadeOk c) : (Nd.seq [a, b, c]).posns = a.posns + b.posns + c.posns := by
  rw [posns_eq (seq3_fine ha.small hb.small hc.small).light, posns_eq ha.fine.light, posns_eq hb.fine.light, posns_eq hc.fine.light, seq3 ha.fine hb.fine hc.fine, j3_posn two3 ha hb hc]
theorem or3_posns (ha : MadeOk a) (hb : MadeOk b) (hc : MadeOk c) : (Nd.or [a, b, c]).posns = a.posns + b.posns + c.posns := by
  rw [posns_eq (or3_fine ha.small hb.small hc.small).light, posns_eq ha.fine.light, posns_eq hb.fine.light, posns_eq hc.fine.light, or3 ha.fine hb.fine hc.fine, j3_posn two4 ha hb hc]
theorem seq3_groups (ha : MadeOk a) (hb : MadeOk b) (hc : MadeOk c) : (Nd.seq [a, b, c]).groups = a.groups + b.groups + c.groups := by
  rw [gr_eq (seq3_fine ha.small hb.small hc.small).light, gr_eq ha.fine.light, gr_eq hb.fine.light, gr_eq hc.fine.light, seq3 ha.fine hb.fine hc.fine, j3_gr two3 ha hb hc]; omega
theorem or3_groups (ha : MadeOk a) (hb : MadeOk b) (hc : MadeOk c) : (Nd.or [a, b, c]).groups = a.groups + b.groups + c.groups := by
  rw [gr_eq (or3_fine ha.small hb.small hc.small).light, gr_eq ha.fine.light, gr_eq hb.fine.light, gr_eq hc.fine.light, or3 ha.fine hb.fine hc.fine, j3_gr two4 ha hb hc]; omega
theorem seq3_sizes (ha : MadeOk a) (hb : MadeOk b) (hc : MadeOk c) : (Nd.seq [a, b, c]).sizes ≤ a.sizes + b.sizes + c.sizes + 1 := by
  rw [sizes_eq (seq3_fine ha.small hb.small hc.small).light, sizes_eq ha.fine.light, sizes_eq hb.fine.light, sizes_eq hc.fine.light, seq3 ha.fine hb.fine hc.fine]
  have h1 := mkJ_size 3 (Nd.flat1 3 1 a ++ (Nd.flat1 3 1 b ++ Nd.flat1 3 1 c)) (e := Nd.empty) rfl
  have h2 := size3 3 1 a b c
  omega
theorem or3_sizes (ha : MadeOk a) (hb : MadeOk b) (hc : MadeOk c) : (Nd.or [a, b, c]).sizes ≤ a.sizes + b.sizes + c.sizes + 1 := by
  rw [sizes_eq (or3_fine ha.small hb.small hc.small).light, sizes_eq ha.fine.light, sizes_eq hb.fine.light, sizes_eq hc.fine.light, or3 ha.fine hb.fine hc.fine]
  have h1 := mkJ_size 4 (Nd.flat1 4 0 a ++ (Nd.flat1 4 0 b ++ Nd.flat1 4 0 c)) (e := Nd.none) rfl
  have h2 := size3 4 0 a b c
  omega
theorem flat1_alt {t : Nd} (h : t.nice = true) : t.size ≤ sizeL (Nd.flat1 4 0 t) + 1 ∧ 0 < (Nd.flat1 4 0 t).length := by
  have hk := right_kind (nice_right h)
  have hs := size_subs t
  have hne := flat1_alt_ne h
  refine ⟨?_, List.length_pos_iff.2 hne⟩
  unfold Nd.flat1
  have h0 : (t.kind == 0) = false := by rw [beq_eq_false_iff_ne]; omega
  rw [h0]
  cases (t.kind == 4) <;> simp [sizeL]; omega
theorem or3_sizes2 (ha : MadeOk a) (hb : MadeOk b) (hc : MadeOk c) : a.sizes + b.sizes + c.sizes - 2 ≤ (Nd.or [a, b, c]).sizes := by
  rw [sizes_eq (or3_fine ha.small hb.small hc.small).light, sizes_eq ha.fine.light, sizes_eq hb.fine.light, sizes_eq hc.fine.light, or3 ha.fine hb.fine hc.fine]
  have q1 := flat1_alt ha.nice
  have q2 := flat1_alt hb.nice
  have q3 := flat1_alt hc.nice
  generalize Nd.flat1 4 0 a = l1 at *
  generalize Nd.flat1 4 0 b = l2 at *
  generalize Nd.flat1 4 0 c = l3 at *
  have hl : 3 ≤ (l1 ++ (l2 ++ l3)).length := by simp only [List.length_append]; omega
  have hs : sizeL (l1 ++ (l2 ++ l3)) = sizeL l1 + (sizeL l2 + sizeL l3) := by rw [sizeL_append, sizeL_append]
  generalize l1 ++ (l2 ++ l3) = l at *
  match l, hl with
  | x :: y :: l, _ => simp only [mkJ, size_mk]; omega
end together
end Nd
end Go.Proofs.Ytaggidjijekpbaa
