/- What the walks use of the types and functions of this seat. Printed by our own gen/tyfile.py. -/
import Derived.Test.YtaggidjijekpbaaSx
import Derived.Test.YtaggidjijekpbaaProg
import Derived.KernelRfl
import Derived.Shelf.Abstract
namespace Go.Proofs.Ytaggidjijekpbaa.Ty
open Go.Proofs Go.Shelf

theorem flat1 : flatB Try.prog 1 = true := by kernel_rfl
theorem zero1 : zeroB Try.prog 1 (.nilFunc) := by unfold zeroB; kernel_rfl
theorem flat2 : flatB Try.prog 2 = true := by kernel_rfl
theorem zero2 : zeroB Try.prog 2 (.int .i64 0) := by unfold zeroB; kernel_rfl
theorem flat3 : flatB Try.prog 3 = true := by kernel_rfl
theorem zero3 : zeroB Try.prog 3 (.int .i64 0) := by unfold zeroB; kernel_rfl
theorem flat4 : flatB Try.prog 4 = true := by kernel_rfl
theorem zero4 : zeroB Try.prog 4 (.bool false) := by unfold zeroB; kernel_rfl
theorem flat5 : flatB Try.prog 5 = true := by kernel_rfl
theorem zero5 : zeroB Try.prog 5 (.int .u8 0) := by unfold zeroB; kernel_rfl
theorem flat6 : flatB Try.prog 6 = true := by kernel_rfl
theorem zero6 : zeroB Try.prog 6 (.int .u8 0) := by unfold zeroB; kernel_rfl
theorem agg7 : aggB Try.prog 7 4 = true := by kernel_rfl
theorem zero7 : zeroB Try.prog 7 (.agg #[.int .i64 0, .int .i64 0, .bool false, .int .u8 0]) := by unfold zeroB; kernel_rfl
theorem st7 : placesOf Try.prog 7 = some [(0, 1), (1, 1), (2, 1), (3, 1)] := by kernel_rfl
theorem fld7_0 : fieldB Try.prog 7 0 0 = true := by kernel_rfl
theorem fty7_0 : (match Try.prog.underlying 7 with | some (.struct fs) => (fs[0]?).map fun f => (f.type, f.offset) | _ => none) = some (2, 0) := by kernel_rfl
theorem fld7_1 : fieldB Try.prog 7 1 1 = true := by kernel_rfl
theorem fty7_1 : (match Try.prog.underlying 7 with | some (.struct fs) => (fs[1]?).map fun f => (f.type, f.offset) | _ => none) = some (3, 1) := by kernel_rfl
theorem fld7_2 : fieldB Try.prog 7 2 2 = true := by kernel_rfl
theorem fty7_2 : (match Try.prog.underlying 7 with | some (.struct fs) => (fs[2]?).map fun f => (f.type, f.offset) | _ => none) = some (4, 2) := by kernel_rfl
theorem fld7_3 : fieldB Try.prog 7 3 3 = true := by kernel_rfl
theorem fty7_3 : (match Try.prog.underlying 7 with | some (.struct fs) => (fs[3]?).map fun f => (f.type, f.offset) | _ => none) = some (6, 3) := by kernel_rfl
theorem bz7 : (placesOf Try.prog 7).isSome = true ∨ ∃ e m q, Try.prog.underlying 7 = some (.array m e) ∧ Try.prog.info? e = some q := Or.inl (by kernel_rfl)
theorem agg8 : aggB Try.prog 8 4 = true := by kernel_rfl
theorem zero8 : zeroB Try.prog 8 (.agg #[.int .i64 0, .int .i64 0, .bool false, .int .u8 0]) := by unfold zeroB; kernel_rfl
theorem st8 : placesOf Try.prog 8 = some [(0, 1), (1, 1), (2, 1), (3, 1)] := by kernel_rfl
theorem fld8_0 : fieldB Try.prog 8 0 0 = true := by kernel_rfl
theorem fty8_0 : (match Try.prog.underlying 8 with | some (.struct fs) => (fs[0]?).map fun f => (f.type, f.offset) | _ => none) = some (2, 0) := by kernel_rfl
theorem fld8_1 : fieldB Try.prog 8 1 1 = true := by kernel_rfl
theorem fty8_1 : (match Try.prog.underlying 8 with | some (.struct fs) => (fs[1]?).map fun f => (f.type, f.offset) | _ => none) = some (3, 1) := by kernel_rfl
theorem fld8_2 : fieldB Try.prog 8 2 2 = true := by kernel_rfl
theorem fty8_2 : (match Try.prog.underlying 8 with | some (.struct fs) => (fs[2]?).map fun f => (f.type, f.offset) | _ => none) = some (4, 2) := by kernel_rfl
theorem fld8_3 : fieldB Try.prog 8 3 3 = true := by kernel_rfl
theorem fty8_3 : (match Try.prog.underlying 8 with | some (.struct fs) => (fs[3]?).map fun f => (f.type, f.offset) | _ => none) = some (6, 3) := by kernel_rfl
theorem bz8 : (placesOf Try.prog 8).isSome = true ∨ ∃ e m q, Try.prog.underlying 8 = some (.array m e) ∧ Try.prog.info? e = some q := Or.inl (by kernel_rfl)
theorem flat9 : flatB Try.prog 9 = true := by kernel_rfl
theorem zero9 : zeroB Try.prog 9 (.string ⟨#[]⟩) := by unfold zeroB; kernel_rfl
theorem flat10 : flatB Try.prog 10 = true := by kernel_rfl
theorem zero10 : zeroB Try.prog 10 (.string ⟨#[]⟩) := by unfold zeroB; kernel_rfl
theorem flat11 : flatB Try.prog 11 = true := by kernel_rfl
theorem zero11 : zeroB Try.prog 11 (.string ⟨#[]⟩) := by unfold zeroB; kernel_rfl
theorem flat12 : flatB Try.prog 12 = true := by kernel_rfl
theorem zero12 : zeroB Try.prog 12 (.int .u64 0) := by unfold zeroB; kernel_rfl
theorem agg13 : aggB Try.prog 13 2 = true := by kernel_rfl
theorem zero13 : zeroB Try.prog 13 (.agg #[.string ⟨#[]⟩, .int .u64 0]) := by unfold zeroB; kernel_rfl
theorem st13 : placesOf Try.prog 13 = some [(0, 1), (1, 1)] := by kernel_rfl
theorem fld13_0 : fieldB Try.prog 13 0 0 = true := by kernel_rfl
theorem fty13_0 : (match Try.prog.underlying 13 with | some (.struct fs) => (fs[0]?).map fun f => (f.type, f.offset) | _ => none) = some (9, 0) := by kernel_rfl
theorem fld13_1 : fieldB Try.prog 13 1 1 = true := by kernel_rfl
theorem fty13_1 : (match Try.prog.underlying 13 with | some (.struct fs) => (fs[1]?).map fun f => (f.type, f.offset) | _ => none) = some (12, 1) := by kernel_rfl
theorem bz13 : (placesOf Try.prog 13).isSome = true ∨ ∃ e m q, Try.prog.underlying 13 = some (.array m e) ∧ Try.prog.info? e = some q := Or.inl (by kernel_rfl)
theorem agg14 : aggB Try.prog 14 2 = true := by kernel_rfl
theorem zero14 : zeroB Try.prog 14 (.agg #[.string ⟨#[]⟩, .int .u64 0]) := by unfold zeroB; kernel_rfl
theorem st14 : placesOf Try.prog 14 = some [(0, 1), (1, 1)] := by kernel_rfl
theorem fld14_0 : fieldB Try.prog 14 0 0 = true := by kernel_rfl
theorem fty14_0 : (match Try.prog.underlying 14 with | some (.struct fs) => (fs[0]?).map fun f => (f.type, f.offset) | _ => none) = some (9, 0) := by kernel_rfl
theorem fld14_1 : fieldB Try.prog 14 1 1 = true := by kernel_rfl
theorem fty14_1 : (match Try.prog.underlying 14 with | some (.struct fs) => (fs[1]?).map fun f => (f.type, f.offset) | _ => none) = some (12, 1) := by kernel_rfl
theorem bz14 : (placesOf Try.prog 14).isSome = true ∨ ∃ e m q, Try.prog.underlying 14 = some (.array m e) ∧ Try.prog.info? e = some q := Or.inl (by kernel_rfl)
theorem flat15 : flatB Try.prog 15 = true := by kernel_rfl
theorem zero15 : zeroB Try.prog 15 (.pointer none) := by unfold zeroB; kernel_rfl
theorem flat16 : flatB Try.prog 16 = true := by kernel_rfl
theorem zero16 : zeroB Try.prog 16 (.pointer none) := by unfold zeroB; kernel_rfl
theorem flat17 : flatB Try.prog 17 = true := by kernel_rfl
theorem zero17 : zeroB Try.prog 17 (.pointer none) := by unfold zeroB; kernel_rfl
theorem agg18 : aggB Try.prog 18 1 = true := by kernel_rfl
theorem zero18 : zeroB Try.prog 18 (.agg #[.pointer none]) := by unfold zeroB; kernel_rfl
theorem st18 : placesOf Try.prog 18 = some [(0, 1)] := by kernel_rfl
theorem fld18_0 : fieldB Try.prog 18 0 0 = true := by kernel_rfl
theorem fty18_0 : (match Try.prog.underlying 18 with | some (.struct fs) => (fs[0]?).map fun f => (f.type, f.offset) | _ => none) = some (17, 0) := by kernel_rfl
theorem bz18 : (placesOf Try.prog 18).isSome = true ∨ ∃ e m q, Try.prog.underlying 18 = some (.array m e) ∧ Try.prog.info? e = some q := Or.inl (by kernel_rfl)
theorem agg19 : aggB Try.prog 19 1 = true := by kernel_rfl
theorem zero19 : zeroB Try.prog 19 (.agg #[.pointer none]) := by unfold zeroB; kernel_rfl
theorem st19 : placesOf Try.prog 19 = some [(0, 1)] := by kernel_rfl
theorem fld19_0 : fieldB Try.prog 19 0 0 = true := by kernel_rfl
theorem fty19_0 : (match Try.prog.underlying 19 with | some (.struct fs) => (fs[0]?).map fun f => (f.type, f.offset) | _ => none) = some (17, 0) := by kernel_rfl
theorem bz19 : (placesOf Try.prog 19).isSome = true ∨ ∃ e m q, Try.prog.underlying 19 = some (.array m e) ∧ Try.prog.info? e = some q := Or.inl (by kernel_rfl)
theorem flat20 : flatB Try.prog 20 = true := by kernel_rfl
theorem zero20 : zeroB Try.prog 20 (.nilIface) := by unfold zeroB; kernel_rfl
theorem flat21 : flatB Try.prog 21 = true := by kernel_rfl
theorem zero21 : zeroB Try.prog 21 (.int .i32 0) := by unfold zeroB; kernel_rfl
theorem flat22 : flatB Try.prog 22 = true := by kernel_rfl
theorem zero22 : zeroB Try.prog 22 (.slice none 0 0) := by unfold zeroB; kernel_rfl
theorem slice22 : sliceB Try.prog 22 53 3 = true := by kernel_rfl
theorem flat23 : flatB Try.prog 23 = true := by kernel_rfl
theorem zero23 : zeroB Try.prog 23 (.nilFunc) := by unfold zeroB; kernel_rfl
theorem flat24 : flatB Try.prog 24 = true := by kernel_rfl
theorem zero24 : zeroB Try.prog 24 (.int .u64 0) := by unfold zeroB; kernel_rfl
theorem agg25 : aggB Try.prog 25 4 = true := by kernel_rfl
theorem zero25 : zeroB Try.prog 25 (.agg #[.int .u64 0, .int .u64 0, .int .u64 0, .int .u64 0]) := by unfold zeroB; kernel_rfl
theorem eqg25 : Try.prog.eqGuardType Try.prog.depth 25 = false := by kernel_rfl
theorem arr25 : arrayB Try.prog 25 24 4 1 = true := by kernel_rfl
theorem bz25 : (placesOf Try.prog 25).isSome = true ∨ ∃ e m q, Try.prog.underlying 25 = some (.array m e) ∧ Try.prog.info? e = some q := by
  obtain ⟨h, q, hq, _⟩ := arrayB_u arr25
  exact Or.inr ⟨_, _, q, h, hq⟩
theorem agg26 : aggB Try.prog 26 4 = true := by kernel_rfl
theorem zero26 : zeroB Try.prog 26 (.agg #[.int .u64 0, .int .u64 0, .int .u64 0, .int .u64 0]) := by unfold zeroB; kernel_rfl
theorem eqg26 : Try.prog.eqGuardType Try.prog.depth 26 = false := by kernel_rfl
theorem arr26 : arrayB Try.prog 26 24 4 1 = true := by kernel_rfl
theorem bz26 : (placesOf Try.prog 26).isSome = true ∨ ∃ e m q, Try.prog.underlying 26 = some (.array m e) ∧ Try.prog.info? e = some q := by
  obtain ⟨h, q, hq, _⟩ := arrayB_u arr26
  exact Or.inr ⟨_, _, q, h, hq⟩
theorem flat27 : flatB Try.prog 27 = true := by kernel_rfl
theorem zero27 : zeroB Try.prog 27 (.slice none 0 0) := by unfold zeroB; kernel_rfl
theorem slice27 : sliceB Try.prog 27 29 8 = true := by kernel_rfl
theorem agg28 : aggB Try.prog 28 8 = true := by kernel_rfl
theorem zero28 : zeroB Try.prog 28 (.agg #[.int .u8 0, .int .u64 0, .int .u64 0, .int .u64 0, .int .u64 0, .int .i64 0, .int .i64 0, .slice none 0 0]) := by unfold zeroB; kernel_rfl
theorem st28 : placesOf Try.prog 28 = some [(0, 1), (1, 4), (5, 1), (6, 1), (7, 1)] := by kernel_rfl
theorem fld28_0 : fieldB Try.prog 28 0 0 = true := by kernel_rfl
theorem fty28_0 : (match Try.prog.underlying 28 with | some (.struct fs) => (fs[0]?).map fun f => (f.type, f.offset) | _ => none) = some (5, 0) := by kernel_rfl
theorem fld28_1 : fieldB Try.prog 28 1 1 = true := by kernel_rfl
theorem fty28_1 : (match Try.prog.underlying 28 with | some (.struct fs) => (fs[1]?).map fun f => (f.type, f.offset) | _ => none) = some (26, 1) := by kernel_rfl
theorem fld28_2 : fieldB Try.prog 28 2 5 = true := by kernel_rfl
theorem fty28_2 : (match Try.prog.underlying 28 with | some (.struct fs) => (fs[2]?).map fun f => (f.type, f.offset) | _ => none) = some (3, 5) := by kernel_rfl
theorem fld28_3 : fieldB Try.prog 28 3 6 = true := by kernel_rfl
theorem fty28_3 : (match Try.prog.underlying 28 with | some (.struct fs) => (fs[3]?).map fun f => (f.type, f.offset) | _ => none) = some (3, 6) := by kernel_rfl
theorem fld28_4 : fieldB Try.prog 28 4 7 = true := by kernel_rfl
theorem fty28_4 : (match Try.prog.underlying 28 with | some (.struct fs) => (fs[4]?).map fun f => (f.type, f.offset) | _ => none) = some (27, 7) := by kernel_rfl
theorem bz28 : (placesOf Try.prog 28).isSome = true ∨ ∃ e m q, Try.prog.underlying 28 = some (.array m e) ∧ Try.prog.info? e = some q := Or.inl (by kernel_rfl)
theorem agg29 : aggB Try.prog 29 8 = true := by kernel_rfl
theorem zero29 : zeroB Try.prog 29 (.agg #[.int .u8 0, .int .u64 0, .int .u64 0, .int .u64 0, .int .u64 0, .int .i64 0, .int .i64 0, .slice none 0 0]) := by unfold zeroB; kernel_rfl
theorem st29 : placesOf Try.prog 29 = some [(0, 1), (1, 4), (5, 1), (6, 1), (7, 1)] := by kernel_rfl
theorem fld29_0 : fieldB Try.prog 29 0 0 = true := by kernel_rfl
theorem fty29_0 : (match Try.prog.underlying 29 with | some (.struct fs) => (fs[0]?).map fun f => (f.type, f.offset) | _ => none) = some (5, 0) := by kernel_rfl
theorem fld29_1 : fieldB Try.prog 29 1 1 = true := by kernel_rfl
theorem fty29_1 : (match Try.prog.underlying 29 with | some (.struct fs) => (fs[1]?).map fun f => (f.type, f.offset) | _ => none) = some (26, 1) := by kernel_rfl
theorem fld29_2 : fieldB Try.prog 29 2 5 = true := by kernel_rfl
theorem fty29_2 : (match Try.prog.underlying 29 with | some (.struct fs) => (fs[2]?).map fun f => (f.type, f.offset) | _ => none) = some (3, 5) := by kernel_rfl
theorem fld29_3 : fieldB Try.prog 29 3 6 = true := by kernel_rfl
theorem fty29_3 : (match Try.prog.underlying 29 with | some (.struct fs) => (fs[3]?).map fun f => (f.type, f.offset) | _ => none) = some (3, 6) := by kernel_rfl
theorem fld29_4 : fieldB Try.prog 29 4 7 = true := by kernel_rfl
theorem fty29_4 : (match Try.prog.underlying 29 with | some (.struct fs) => (fs[4]?).map fun f => (f.type, f.offset) | _ => none) = some (27, 7) := by kernel_rfl
theorem bz29 : (placesOf Try.prog 29).isSome = true ∨ ∃ e m q, Try.prog.underlying 29 = some (.array m e) ∧ Try.prog.info? e = some q := Or.inl (by kernel_rfl)
theorem flat30 : flatB Try.prog 30 = true := by kernel_rfl
theorem zero30 : zeroB Try.prog 30 (.nilFunc) := by unfold zeroB; kernel_rfl
theorem flat31 : flatB Try.prog 31 = true := by kernel_rfl
theorem zero31 : zeroB Try.prog 31 (.nilFunc) := by unfold zeroB; kernel_rfl
theorem flat32 : flatB Try.prog 32 = true := by kernel_rfl
theorem zero32 : zeroB Try.prog 32 (.nilFunc) := by unfold zeroB; kernel_rfl
theorem flat33 : flatB Try.prog 33 = true := by kernel_rfl
theorem zero33 : zeroB Try.prog 33 (.int .i64 0) := by unfold zeroB; kernel_rfl
theorem flat34 : flatB Try.prog 34 = true := by kernel_rfl
theorem zero34 : zeroB Try.prog 34 (.nilFunc) := by unfold zeroB; kernel_rfl
theorem agg35 : aggB Try.prog 35 10 = true := by kernel_rfl
theorem zero35 : zeroB Try.prog 35 (.agg #[.bool false, .bool false, .int .u8 0, .int .u64 0, .int .u64 0, .int .u64 0, .int .u64 0, .int .i64 0, .int .i64 0, .slice none 0 0]) := by unfold zeroB; kernel_rfl
theorem st35 : placesOf Try.prog 35 = some [(0, 1), (1, 1), (2, 8)] := by kernel_rfl
theorem fld35_0 : fieldB Try.prog 35 0 0 = true := by kernel_rfl
theorem fty35_0 : (match Try.prog.underlying 35 with | some (.struct fs) => (fs[0]?).map fun f => (f.type, f.offset) | _ => none) = some (4, 0) := by kernel_rfl
theorem fld35_1 : fieldB Try.prog 35 1 1 = true := by kernel_rfl
theorem fty35_1 : (match Try.prog.underlying 35 with | some (.struct fs) => (fs[1]?).map fun f => (f.type, f.offset) | _ => none) = some (4, 1) := by kernel_rfl
theorem fld35_2 : fieldB Try.prog 35 2 2 = true := by kernel_rfl
theorem fty35_2 : (match Try.prog.underlying 35 with | some (.struct fs) => (fs[2]?).map fun f => (f.type, f.offset) | _ => none) = some (29, 2) := by kernel_rfl
theorem bz35 : (placesOf Try.prog 35).isSome = true ∨ ∃ e m q, Try.prog.underlying 35 = some (.array m e) ∧ Try.prog.info? e = some q := Or.inl (by kernel_rfl)
theorem agg36 : aggB Try.prog 36 10 = true := by kernel_rfl
theorem zero36 : zeroB Try.prog 36 (.agg #[.bool false, .bool false, .int .u8 0, .int .u64 0, .int .u64 0, .int .u64 0, .int .u64 0, .int .i64 0, .int .i64 0, .slice none 0 0]) := by unfold zeroB; kernel_rfl
theorem st36 : placesOf Try.prog 36 = some [(0, 1), (1, 1), (2, 8)] := by kernel_rfl
theorem fld36_0 : fieldB Try.prog 36 0 0 = true := by kernel_rfl
theorem fty36_0 : (match Try.prog.underlying 36 with | some (.struct fs) => (fs[0]?).map fun f => (f.type, f.offset) | _ => none) = some (4, 0) := by kernel_rfl
theorem fld36_1 : fieldB Try.prog 36 1 1 = true := by kernel_rfl
theorem fty36_1 : (match Try.prog.underlying 36 with | some (.struct fs) => (fs[1]?).map fun f => (f.type, f.offset) | _ => none) = some (4, 1) := by kernel_rfl
theorem fld36_2 : fieldB Try.prog 36 2 2 = true := by kernel_rfl
theorem fty36_2 : (match Try.prog.underlying 36 with | some (.struct fs) => (fs[2]?).map fun f => (f.type, f.offset) | _ => none) = some (29, 2) := by kernel_rfl
theorem bz36 : (placesOf Try.prog 36).isSome = true ∨ ∃ e m q, Try.prog.underlying 36 = some (.array m e) ∧ Try.prog.info? e = some q := Or.inl (by kernel_rfl)
theorem flat37 : flatB Try.prog 37 = true := by kernel_rfl
theorem zero37 : zeroB Try.prog 37 (.nilFunc) := by unfold zeroB; kernel_rfl
theorem flat38 : flatB Try.prog 38 = true := by kernel_rfl
theorem zero38 : zeroB Try.prog 38 (.nilFunc) := by unfold zeroB; kernel_rfl
theorem flat39 : flatB Try.prog 39 = true := by kernel_rfl
theorem zero39 : zeroB Try.prog 39 (.nilFunc) := by unfold zeroB; kernel_rfl
theorem flat40 : flatB Try.prog 40 = true := by kernel_rfl
theorem zero40 : zeroB Try.prog 40 (.nilFunc) := by unfold zeroB; kernel_rfl
theorem flat41 : flatB Try.prog 41 = true := by kernel_rfl
theorem zero41 : zeroB Try.prog 41 (.nilFunc) := by unfold zeroB; kernel_rfl
theorem flat42 : flatB Try.prog 42 = true := by kernel_rfl
theorem zero42 : zeroB Try.prog 42 (.nilFunc) := by unfold zeroB; kernel_rfl
theorem flat43 : flatB Try.prog 43 = true := by kernel_rfl
theorem zero43 : zeroB Try.prog 43 (.nilFunc) := by unfold zeroB; kernel_rfl
theorem flat44 : flatB Try.prog 44 = true := by kernel_rfl
theorem zero44 : zeroB Try.prog 44 (.nilFunc) := by unfold zeroB; kernel_rfl
theorem flat45 : flatB Try.prog 45 = true := by kernel_rfl
theorem zero45 : zeroB Try.prog 45 (.nilFunc) := by unfold zeroB; kernel_rfl
theorem flat46 : flatB Try.prog 46 = true := by kernel_rfl
theorem zero46 : zeroB Try.prog 46 (.nilFunc) := by unfold zeroB; kernel_rfl
theorem flat47 : flatB Try.prog 47 = true := by kernel_rfl
theorem zero47 : zeroB Try.prog 47 (.slice none 0 0) := by unfold zeroB; kernel_rfl
theorem slice47 : sliceB Try.prog 47 26 4 = true := by kernel_rfl
theorem flat48 : flatB Try.prog 48 = true := by kernel_rfl
theorem zero48 : zeroB Try.prog 48 (.nilFunc) := by unfold zeroB; kernel_rfl
theorem flat49 : flatB Try.prog 49 = true := by kernel_rfl
theorem zero49 : zeroB Try.prog 49 (.nilFunc) := by unfold zeroB; kernel_rfl
theorem flat50 : flatB Try.prog 50 = true := by kernel_rfl
theorem zero50 : zeroB Try.prog 50 (.nilFunc) := by unfold zeroB; kernel_rfl
theorem flat51 : flatB Try.prog 51 = true := by kernel_rfl
theorem zero51 : zeroB Try.prog 51 (.nilFunc) := by unfold zeroB; kernel_rfl
theorem agg52 : aggB Try.prog 52 3 = true := by kernel_rfl
theorem zero52 : zeroB Try.prog 52 (.agg #[.int .u8 0, .int .u8 0, .int .u8 0]) := by unfold zeroB; kernel_rfl
theorem st52 : placesOf Try.prog 52 = some [(0, 1), (1, 1), (2, 1)] := by kernel_rfl
theorem fld52_0 : fieldB Try.prog 52 0 0 = true := by kernel_rfl
theorem fty52_0 : (match Try.prog.underlying 52 with | some (.struct fs) => (fs[0]?).map fun f => (f.type, f.offset) | _ => none) = some (5, 0) := by kernel_rfl
theorem fld52_1 : fieldB Try.prog 52 1 1 = true := by kernel_rfl
theorem fty52_1 : (match Try.prog.underlying 52 with | some (.struct fs) => (fs[1]?).map fun f => (f.type, f.offset) | _ => none) = some (5, 1) := by kernel_rfl
theorem fld52_2 : fieldB Try.prog 52 2 2 = true := by kernel_rfl
theorem fty52_2 : (match Try.prog.underlying 52 with | some (.struct fs) => (fs[2]?).map fun f => (f.type, f.offset) | _ => none) = some (5, 2) := by kernel_rfl
theorem bz52 : (placesOf Try.prog 52).isSome = true ∨ ∃ e m q, Try.prog.underlying 52 = some (.array m e) ∧ Try.prog.info? e = some q := Or.inl (by kernel_rfl)
theorem agg53 : aggB Try.prog 53 3 = true := by kernel_rfl
theorem zero53 : zeroB Try.prog 53 (.agg #[.int .u8 0, .int .u8 0, .int .u8 0]) := by unfold zeroB; kernel_rfl
theorem st53 : placesOf Try.prog 53 = some [(0, 1), (1, 1), (2, 1)] := by kernel_rfl
theorem fld53_0 : fieldB Try.prog 53 0 0 = true := by kernel_rfl
theorem fty53_0 : (match Try.prog.underlying 53 with | some (.struct fs) => (fs[0]?).map fun f => (f.type, f.offset) | _ => none) = some (5, 0) := by kernel_rfl
theorem fld53_1 : fieldB Try.prog 53 1 1 = true := by kernel_rfl
theorem fty53_1 : (match Try.prog.underlying 53 with | some (.struct fs) => (fs[1]?).map fun f => (f.type, f.offset) | _ => none) = some (5, 1) := by kernel_rfl
theorem fld53_2 : fieldB Try.prog 53 2 2 = true := by kernel_rfl
theorem fty53_2 : (match Try.prog.underlying 53 with | some (.struct fs) => (fs[2]?).map fun f => (f.type, f.offset) | _ => none) = some (5, 2) := by kernel_rfl
theorem bz53 : (placesOf Try.prog 53).isSome = true ∨ ∃ e m q, Try.prog.underlying 53 = some (.array m e) ∧ Try.prog.info? e = some q := Or.inl (by kernel_rfl)
theorem flat54 : flatB Try.prog 54 = true := by kernel_rfl
theorem zero54 : zeroB Try.prog 54 (.nilFunc) := by unfold zeroB; kernel_rfl
theorem flat55 : flatB Try.prog 55 = true := by kernel_rfl
theorem zero55 : zeroB Try.prog 55 (.nilFunc) := by unfold zeroB; kernel_rfl
theorem flat56 : flatB Try.prog 56 = true := by kernel_rfl
theorem zero56 : zeroB Try.prog 56 (.nilFunc) := by unfold zeroB; kernel_rfl
theorem flat57 : flatB Try.prog 57 = true := by kernel_rfl
theorem zero57 : zeroB Try.prog 57 (.nilFunc) := by unfold zeroB; kernel_rfl
theorem flat58 : flatB Try.prog 58 = true := by kernel_rfl
theorem zero58 : zeroB Try.prog 58 (.nilFunc) := by unfold zeroB; kernel_rfl
theorem flat59 : flatB Try.prog 59 = true := by kernel_rfl
theorem zero59 : zeroB Try.prog 59 (.nilFunc) := by unfold zeroB; kernel_rfl
theorem flat60 : flatB Try.prog 60 = true := by kernel_rfl
theorem zero60 : zeroB Try.prog 60 (.nilFunc) := by unfold zeroB; kernel_rfl
theorem flat61 : flatB Try.prog 61 = true := by kernel_rfl
theorem zero61 : zeroB Try.prog 61 (.nilFunc) := by unfold zeroB; kernel_rfl
theorem flat62 : flatB Try.prog 62 = true := by kernel_rfl
theorem zero62 : zeroB Try.prog 62 (.slice none 0 0) := by unfold zeroB; kernel_rfl
theorem slice62 : sliceB Try.prog 62 9 1 = true := by kernel_rfl
theorem flat63 : flatB Try.prog 63 = true := by kernel_rfl
theorem zero63 : zeroB Try.prog 63 (.nilFunc) := by unfold zeroB; kernel_rfl
theorem flat64 : flatB Try.prog 64 = true := by kernel_rfl
theorem zero64 : zeroB Try.prog 64 (.nilFunc) := by unfold zeroB; kernel_rfl
theorem flat65 : flatB Try.prog 65 = true := by kernel_rfl
theorem zero65 : zeroB Try.prog 65 (.nilFunc) := by unfold zeroB; kernel_rfl
theorem flat66 : flatB Try.prog 66 = true := by kernel_rfl
theorem zero66 : zeroB Try.prog 66 (.nilFunc) := by unfold zeroB; kernel_rfl
theorem flat67 : flatB Try.prog 67 = true := by kernel_rfl
theorem zero67 : zeroB Try.prog 67 (.nilFunc) := by unfold zeroB; kernel_rfl
theorem flat68 : flatB Try.prog 68 = true := by kernel_rfl
theorem zero68 : zeroB Try.prog 68 (.nilFunc) := by unfold zeroB; kernel_rfl
theorem flat69 : flatB Try.prog 69 = true := by kernel_rfl
theorem zero69 : zeroB Try.prog 69 (.nilFunc) := by unfold zeroB; kernel_rfl
theorem flat70 : flatB Try.prog 70 = true := by kernel_rfl
theorem zero70 : zeroB Try.prog 70 (.nilFunc) := by unfold zeroB; kernel_rfl
theorem flat71 : flatB Try.prog 71 = true := by kernel_rfl
theorem zero71 : zeroB Try.prog 71 (.nilFunc) := by unfold zeroB; kernel_rfl
theorem flat72 : flatB Try.prog 72 = true := by kernel_rfl
theorem zero72 : zeroB Try.prog 72 (.nilFunc) := by unfold zeroB; kernel_rfl
theorem flat73 : flatB Try.prog 73 = true := by kernel_rfl
theorem zero73 : zeroB Try.prog 73 (.nilFunc) := by unfold zeroB; kernel_rfl
theorem flat75 : flatB Try.prog 75 = true := by kernel_rfl
theorem zero75 : zeroB Try.prog 75 (.nilFunc) := by unfold zeroB; kernel_rfl
theorem flat76 : flatB Try.prog 76 = true := by kernel_rfl
theorem zero76 : zeroB Try.prog 76 (.nilFunc) := by unfold zeroB; kernel_rfl
theorem flat77 : flatB Try.prog 77 = true := by kernel_rfl
theorem zero77 : zeroB Try.prog 77 (.nilFunc) := by unfold zeroB; kernel_rfl
theorem flat78 : flatB Try.prog 78 = true := by kernel_rfl
theorem zero78 : zeroB Try.prog 78 (.slice none 0 0) := by unfold zeroB; kernel_rfl
theorem slice78 : sliceB Try.prog 78 3 1 = true := by kernel_rfl
theorem flat79 : flatB Try.prog 79 = true := by kernel_rfl
theorem zero79 : zeroB Try.prog 79 (.nilFunc) := by unfold zeroB; kernel_rfl
theorem flat80 : flatB Try.prog 80 = true := by kernel_rfl
theorem zero80 : zeroB Try.prog 80 (.nilFunc) := by unfold zeroB; kernel_rfl
theorem flat81 : flatB Try.prog 81 = true := by kernel_rfl
theorem zero81 : zeroB Try.prog 81 (.nilFunc) := by unfold zeroB; kernel_rfl
theorem flat82 : flatB Try.prog 82 = true := by kernel_rfl
theorem zero82 : zeroB Try.prog 82 (.nilFunc) := by unfold zeroB; kernel_rfl
theorem flat83 : flatB Try.prog 83 = true := by kernel_rfl
theorem zero83 : zeroB Try.prog 83 (.nilFunc) := by unfold zeroB; kernel_rfl
theorem flat84 : flatB Try.prog 84 = true := by kernel_rfl
theorem zero84 : zeroB Try.prog 84 (.nilFunc) := by unfold zeroB; kernel_rfl
theorem flat85 : flatB Try.prog 85 = true := by kernel_rfl
theorem zero85 : zeroB Try.prog 85 (.nilFunc) := by unfold zeroB; kernel_rfl
theorem flat86 : flatB Try.prog 86 = true := by kernel_rfl
theorem zero86 : zeroB Try.prog 86 (.int .u64 0) := by unfold zeroB; kernel_rfl
theorem flat87 : flatB Try.prog 87 = true := by kernel_rfl
theorem zero87 : zeroB Try.prog 87 (.nilFunc) := by unfold zeroB; kernel_rfl
theorem agg88 : aggB Try.prog 88 4 = true := by kernel_rfl
theorem zero88 : zeroB Try.prog 88 (.agg #[.pointer none, .pointer none, .pointer none, .string ⟨#[]⟩]) := by unfold zeroB; kernel_rfl
theorem st88 : placesOf Try.prog 88 = some [(0, 1), (1, 1), (2, 1), (3, 1)] := by kernel_rfl
theorem fld88_0 : fieldB Try.prog 88 0 0 = true := by kernel_rfl
theorem fty88_0 : (match Try.prog.underlying 88 with | some (.struct fs) => (fs[0]?).map fun f => (f.type, f.offset) | _ => none) = some (17, 0) := by kernel_rfl
theorem fld88_1 : fieldB Try.prog 88 1 1 = true := by kernel_rfl
theorem fty88_1 : (match Try.prog.underlying 88 with | some (.struct fs) => (fs[1]?).map fun f => (f.type, f.offset) | _ => none) = some (17, 1) := by kernel_rfl
theorem fld88_2 : fieldB Try.prog 88 2 2 = true := by kernel_rfl
theorem fty88_2 : (match Try.prog.underlying 88 with | some (.struct fs) => (fs[2]?).map fun f => (f.type, f.offset) | _ => none) = some (17, 2) := by kernel_rfl
theorem fld88_3 : fieldB Try.prog 88 3 3 = true := by kernel_rfl
theorem fty88_3 : (match Try.prog.underlying 88 with | some (.struct fs) => (fs[3]?).map fun f => (f.type, f.offset) | _ => none) = some (9, 3) := by kernel_rfl
theorem bz88 : (placesOf Try.prog 88).isSome = true ∨ ∃ e m q, Try.prog.underlying 88 = some (.array m e) ∧ Try.prog.info? e = some q := Or.inl (by kernel_rfl)
theorem agg89 : aggB Try.prog 89 4 = true := by kernel_rfl
theorem zero89 : zeroB Try.prog 89 (.agg #[.pointer none, .pointer none, .pointer none, .string ⟨#[]⟩]) := by unfold zeroB; kernel_rfl
theorem st89 : placesOf Try.prog 89 = some [(0, 1), (1, 1), (2, 1), (3, 1)] := by kernel_rfl
theorem fld89_0 : fieldB Try.prog 89 0 0 = true := by kernel_rfl
theorem fty89_0 : (match Try.prog.underlying 89 with | some (.struct fs) => (fs[0]?).map fun f => (f.type, f.offset) | _ => none) = some (17, 0) := by kernel_rfl
theorem fld89_1 : fieldB Try.prog 89 1 1 = true := by kernel_rfl
theorem fty89_1 : (match Try.prog.underlying 89 with | some (.struct fs) => (fs[1]?).map fun f => (f.type, f.offset) | _ => none) = some (17, 1) := by kernel_rfl
theorem fld89_2 : fieldB Try.prog 89 2 2 = true := by kernel_rfl
theorem fty89_2 : (match Try.prog.underlying 89 with | some (.struct fs) => (fs[2]?).map fun f => (f.type, f.offset) | _ => none) = some (17, 2) := by kernel_rfl
theorem fld89_3 : fieldB Try.prog 89 3 3 = true := by kernel_rfl
theorem fty89_3 : (match Try.prog.underlying 89 with | some (.struct fs) => (fs[3]?).map fun f => (f.type, f.offset) | _ => none) = some (9, 3) := by kernel_rfl
theorem bz89 : (placesOf Try.prog 89).isSome = true ∨ ∃ e m q, Try.prog.underlying 89 = some (.array m e) ∧ Try.prog.info? e = some q := Or.inl (by kernel_rfl)
theorem agg90 : aggB Try.prog 90 0 = true := by kernel_rfl
theorem zero90 : zeroB Try.prog 90 (.agg #[]) := by unfold zeroB; kernel_rfl
theorem eqg90 : Try.prog.eqGuardType Try.prog.depth 90 = false := by kernel_rfl
theorem arr90 : arrayB Try.prog 90 16 0 1 = true := by kernel_rfl
theorem bz90 : (placesOf Try.prog 90).isSome = true ∨ ∃ e m q, Try.prog.underlying 90 = some (.array m e) ∧ Try.prog.info? e = some q := by
  obtain ⟨h, q, hq, _⟩ := arrayB_u arr90
  exact Or.inr ⟨_, _, q, h, hq⟩
theorem agg91 : aggB Try.prog 91 0 = true := by kernel_rfl
theorem zero91 : zeroB Try.prog 91 (.agg #[]) := by unfold zeroB; kernel_rfl
theorem st91 : placesOf Try.prog 91 = some [(0, 0)] := by kernel_rfl
theorem bz91 : (placesOf Try.prog 91).isSome = true ∨ ∃ e m q, Try.prog.underlying 91 = some (.array m e) ∧ Try.prog.info? e = some q := Or.inl (by kernel_rfl)
theorem agg92 : aggB Try.prog 92 0 = true := by kernel_rfl
theorem zero92 : zeroB Try.prog 92 (.agg #[]) := by unfold zeroB; kernel_rfl
theorem st92 : placesOf Try.prog 92 = some [(0, 0)] := by kernel_rfl
theorem bz92 : (placesOf Try.prog 92).isSome = true ∨ ∃ e m q, Try.prog.underlying 92 = some (.array m e) ∧ Try.prog.info? e = some q := Or.inl (by kernel_rfl)
theorem flat93 : flatB Try.prog 93 = true := by kernel_rfl
theorem zero93 : zeroB Try.prog 93 (.nilFunc) := by unfold zeroB; kernel_rfl
theorem flat94 : flatB Try.prog 94 = true := by kernel_rfl
theorem zero94 : zeroB Try.prog 94 (.int .u32 0) := by unfold zeroB; kernel_rfl
theorem flat95 : flatB Try.prog 95 = true := by kernel_rfl
theorem zero95 : zeroB Try.prog 95 (.int .u8 0) := by unfold zeroB; kernel_rfl
theorem flat96 : flatB Try.prog 96 = true := by kernel_rfl
theorem zero96 : zeroB Try.prog 96 (.int .u8 0) := by unfold zeroB; kernel_rfl
theorem flat97 : flatB Try.prog 97 = true := by kernel_rfl
theorem zero97 : zeroB Try.prog 97 (.nilFunc) := by unfold zeroB; kernel_rfl
theorem flat98 : flatB Try.prog 98 = true := by kernel_rfl
theorem zero98 : zeroB Try.prog 98 (.pointer none) := by unfold zeroB; kernel_rfl
theorem flat99 : flatB Try.prog 99 = true := by kernel_rfl
theorem zero99 : zeroB Try.prog 99 (.int .i32 0) := by unfold zeroB; kernel_rfl
theorem flat100 : flatB Try.prog 100 = true := by kernel_rfl
theorem zero100 : zeroB Try.prog 100 (.int .i32 0) := by unfold zeroB; kernel_rfl
theorem agg101 : aggB Try.prog 101 11 = true := by kernel_rfl
theorem zero101 : zeroB Try.prog 101 (.agg #[.int .u64 0, .int .u64 0, .int .u32 0, .int .u8 0, .int .u8 0, .int .u8 0, .int .u8 0, .nilFunc, .pointer none, .int .i32 0, .int .i32 0]) := by unfold zeroB; kernel_rfl
theorem st101 : placesOf Try.prog 101 = some [(0, 1), (1, 1), (2, 1), (3, 1), (4, 1), (5, 1), (6, 1), (7, 1), (8, 1), (9, 1), (10, 1)] := by kernel_rfl
theorem fld101_0 : fieldB Try.prog 101 0 0 = true := by kernel_rfl
theorem fty101_0 : (match Try.prog.underlying 101 with | some (.struct fs) => (fs[0]?).map fun f => (f.type, f.offset) | _ => none) = some (12, 0) := by kernel_rfl
theorem fld101_1 : fieldB Try.prog 101 1 1 = true := by kernel_rfl
theorem fty101_1 : (match Try.prog.underlying 101 with | some (.struct fs) => (fs[1]?).map fun f => (f.type, f.offset) | _ => none) = some (12, 1) := by kernel_rfl
theorem fld101_2 : fieldB Try.prog 101 2 2 = true := by kernel_rfl
theorem fty101_2 : (match Try.prog.underlying 101 with | some (.struct fs) => (fs[2]?).map fun f => (f.type, f.offset) | _ => none) = some (94, 2) := by kernel_rfl
theorem fld101_3 : fieldB Try.prog 101 3 3 = true := by kernel_rfl
theorem fty101_3 : (match Try.prog.underlying 101 with | some (.struct fs) => (fs[3]?).map fun f => (f.type, f.offset) | _ => none) = some (95, 3) := by kernel_rfl
theorem fld101_4 : fieldB Try.prog 101 4 4 = true := by kernel_rfl
theorem fty101_4 : (match Try.prog.underlying 101 with | some (.struct fs) => (fs[4]?).map fun f => (f.type, f.offset) | _ => none) = some (5, 4) := by kernel_rfl
theorem fld101_5 : fieldB Try.prog 101 5 5 = true := by kernel_rfl
theorem fty101_5 : (match Try.prog.underlying 101 with | some (.struct fs) => (fs[5]?).map fun f => (f.type, f.offset) | _ => none) = some (5, 5) := by kernel_rfl
theorem fld101_6 : fieldB Try.prog 101 6 6 = true := by kernel_rfl
theorem fty101_6 : (match Try.prog.underlying 101 with | some (.struct fs) => (fs[6]?).map fun f => (f.type, f.offset) | _ => none) = some (96, 6) := by kernel_rfl
theorem fld101_7 : fieldB Try.prog 101 7 7 = true := by kernel_rfl
theorem fty101_7 : (match Try.prog.underlying 101 with | some (.struct fs) => (fs[7]?).map fun f => (f.type, f.offset) | _ => none) = some (97, 7) := by kernel_rfl
theorem fld101_8 : fieldB Try.prog 101 8 8 = true := by kernel_rfl
theorem fty101_8 : (match Try.prog.underlying 101 with | some (.struct fs) => (fs[8]?).map fun f => (f.type, f.offset) | _ => none) = some (98, 8) := by kernel_rfl
theorem fld101_9 : fieldB Try.prog 101 9 9 = true := by kernel_rfl
theorem fty101_9 : (match Try.prog.underlying 101 with | some (.struct fs) => (fs[9]?).map fun f => (f.type, f.offset) | _ => none) = some (99, 9) := by kernel_rfl
theorem fld101_10 : fieldB Try.prog 101 10 10 = true := by kernel_rfl
theorem fty101_10 : (match Try.prog.underlying 101 with | some (.struct fs) => (fs[10]?).map fun f => (f.type, f.offset) | _ => none) = some (100, 10) := by kernel_rfl
theorem bz101 : (placesOf Try.prog 101).isSome = true ∨ ∃ e m q, Try.prog.underlying 101 = some (.array m e) ∧ Try.prog.info? e = some q := Or.inl (by kernel_rfl)
theorem agg102 : aggB Try.prog 102 11 = true := by kernel_rfl
theorem zero102 : zeroB Try.prog 102 (.agg #[.int .u64 0, .int .u64 0, .int .u32 0, .int .u8 0, .int .u8 0, .int .u8 0, .int .u8 0, .nilFunc, .pointer none, .int .i32 0, .int .i32 0]) := by unfold zeroB; kernel_rfl
theorem st102 : placesOf Try.prog 102 = some [(0, 1), (1, 1), (2, 1), (3, 1), (4, 1), (5, 1), (6, 1), (7, 1), (8, 1), (9, 1), (10, 1)] := by kernel_rfl
theorem fld102_0 : fieldB Try.prog 102 0 0 = true := by kernel_rfl
theorem fty102_0 : (match Try.prog.underlying 102 with | some (.struct fs) => (fs[0]?).map fun f => (f.type, f.offset) | _ => none) = some (12, 0) := by kernel_rfl
theorem fld102_1 : fieldB Try.prog 102 1 1 = true := by kernel_rfl
theorem fty102_1 : (match Try.prog.underlying 102 with | some (.struct fs) => (fs[1]?).map fun f => (f.type, f.offset) | _ => none) = some (12, 1) := by kernel_rfl
theorem fld102_2 : fieldB Try.prog 102 2 2 = true := by kernel_rfl
theorem fty102_2 : (match Try.prog.underlying 102 with | some (.struct fs) => (fs[2]?).map fun f => (f.type, f.offset) | _ => none) = some (94, 2) := by kernel_rfl
theorem fld102_3 : fieldB Try.prog 102 3 3 = true := by kernel_rfl
theorem fty102_3 : (match Try.prog.underlying 102 with | some (.struct fs) => (fs[3]?).map fun f => (f.type, f.offset) | _ => none) = some (95, 3) := by kernel_rfl
theorem fld102_4 : fieldB Try.prog 102 4 4 = true := by kernel_rfl
theorem fty102_4 : (match Try.prog.underlying 102 with | some (.struct fs) => (fs[4]?).map fun f => (f.type, f.offset) | _ => none) = some (5, 4) := by kernel_rfl
theorem fld102_5 : fieldB Try.prog 102 5 5 = true := by kernel_rfl
theorem fty102_5 : (match Try.prog.underlying 102 with | some (.struct fs) => (fs[5]?).map fun f => (f.type, f.offset) | _ => none) = some (5, 5) := by kernel_rfl
theorem fld102_6 : fieldB Try.prog 102 6 6 = true := by kernel_rfl
theorem fty102_6 : (match Try.prog.underlying 102 with | some (.struct fs) => (fs[6]?).map fun f => (f.type, f.offset) | _ => none) = some (96, 6) := by kernel_rfl
theorem fld102_7 : fieldB Try.prog 102 7 7 = true := by kernel_rfl
theorem fty102_7 : (match Try.prog.underlying 102 with | some (.struct fs) => (fs[7]?).map fun f => (f.type, f.offset) | _ => none) = some (97, 7) := by kernel_rfl
theorem fld102_8 : fieldB Try.prog 102 8 8 = true := by kernel_rfl
theorem fty102_8 : (match Try.prog.underlying 102 with | some (.struct fs) => (fs[8]?).map fun f => (f.type, f.offset) | _ => none) = some (98, 8) := by kernel_rfl
theorem fld102_9 : fieldB Try.prog 102 9 9 = true := by kernel_rfl
theorem fty102_9 : (match Try.prog.underlying 102 with | some (.struct fs) => (fs[9]?).map fun f => (f.type, f.offset) | _ => none) = some (99, 9) := by kernel_rfl
theorem fld102_10 : fieldB Try.prog 102 10 10 = true := by kernel_rfl
theorem fty102_10 : (match Try.prog.underlying 102 with | some (.struct fs) => (fs[10]?).map fun f => (f.type, f.offset) | _ => none) = some (100, 10) := by kernel_rfl
theorem bz102 : (placesOf Try.prog 102).isSome = true ∨ ∃ e m q, Try.prog.underlying 102 = some (.array m e) ∧ Try.prog.info? e = some q := Or.inl (by kernel_rfl)
theorem ent3 : ∀ vs w, (callFunc 3 vs).run Try.prog w = .ok (.enter 3 vs) w := enters_of Try.func3 (by kernel_rfl) rfl
theorem ent4 : ∀ vs w, (callFunc 4 vs).run Try.prog w = .ok (.enter 4 vs) w := enters_of Try.func4 (by kernel_rfl) rfl
theorem ent5 : ∀ vs w, (callFunc 5 vs).run Try.prog w = .ok (.enter 5 vs) w := enters_of Try.func5 (by kernel_rfl) rfl
theorem ent6 : ∀ vs w, (callFunc 6 vs).run Try.prog w = .ok (.enter 6 vs) w := enters_of Try.func6 (by kernel_rfl) rfl
theorem ent7 : ∀ vs w, (callFunc 7 vs).run Try.prog w = .ok (.enter 7 vs) w := enters_of Try.func7 (by kernel_rfl) rfl
theorem ent8 : ∀ vs w, (callFunc 8 vs).run Try.prog w = .ok (.enter 8 vs) w := enters_of Try.func8 (by kernel_rfl) rfl
theorem ent9 : ∀ vs w, (callFunc 9 vs).run Try.prog w = .ok (.enter 9 vs) w := enters_of Try.func9 (by kernel_rfl) rfl
theorem ent10 : ∀ vs w, (callFunc 10 vs).run Try.prog w = .ok (.enter 10 vs) w := enters_of Try.func10 (by kernel_rfl) rfl
theorem ent11 : ∀ vs w, (callFunc 11 vs).run Try.prog w = .ok (.enter 11 vs) w := enters_of Try.func11 (by kernel_rfl) rfl
theorem ent12 : ∀ vs w, (callFunc 12 vs).run Try.prog w = .ok (.enter 12 vs) w := enters_of Try.func12 (by kernel_rfl) rfl
theorem ent13 : ∀ vs w, (callFunc 13 vs).run Try.prog w = .ok (.enter 13 vs) w := enters_of Try.func13 (by kernel_rfl) rfl
theorem ent14 : ∀ vs w, (callFunc 14 vs).run Try.prog w = .ok (.enter 14 vs) w := enters_of Try.func14 (by kernel_rfl) rfl
theorem ent15 : ∀ vs w, (callFunc 15 vs).run Try.prog w = .ok (.enter 15 vs) w := enters_of Try.func15 (by kernel_rfl) rfl
theorem ent16 : ∀ vs w, (callFunc 16 vs).run Try.prog w = .ok (.enter 16 vs) w := enters_of Try.func16 (by kernel_rfl) rfl
theorem ent17 : ∀ vs w, (callFunc 17 vs).run Try.prog w = .ok (.enter 17 vs) w := enters_of Try.func17 (by kernel_rfl) rfl
theorem ent18 : ∀ vs w, (callFunc 18 vs).run Try.prog w = .ok (.enter 18 vs) w := enters_of Try.func18 (by kernel_rfl) rfl
theorem ent19 : ∀ vs w, (callFunc 19 vs).run Try.prog w = .ok (.enter 19 vs) w := enters_of Try.func19 (by kernel_rfl) rfl
theorem ent20 : ∀ vs w, (callFunc 20 vs).run Try.prog w = .ok (.enter 20 vs) w := enters_of Try.func20 (by kernel_rfl) rfl
theorem ent21 : ∀ vs w, (callFunc 21 vs).run Try.prog w = .ok (.enter 21 vs) w := enters_of Try.func21 (by kernel_rfl) rfl
theorem ent22 : ∀ vs w, (callFunc 22 vs).run Try.prog w = .ok (.enter 22 vs) w := enters_of Try.func22 (by kernel_rfl) rfl
theorem ent23 : ∀ vs w, (callFunc 23 vs).run Try.prog w = .ok (.enter 23 vs) w := enters_of Try.func23 (by kernel_rfl) rfl
theorem ent24 : ∀ vs w, (callFunc 24 vs).run Try.prog w = .ok (.enter 24 vs) w := enters_of Try.func24 (by kernel_rfl) rfl
theorem ent25 : ∀ vs w, (callFunc 25 vs).run Try.prog w = .ok (.enter 25 vs) w := enters_of Try.func25 (by kernel_rfl) rfl
theorem ent26 : ∀ vs w, (callFunc 26 vs).run Try.prog w = .ok (.enter 26 vs) w := enters_of Try.func26 (by kernel_rfl) rfl
theorem ent27 : ∀ vs w, (callFunc 27 vs).run Try.prog w = .ok (.enter 27 vs) w := enters_of Try.func27 (by kernel_rfl) rfl
theorem ent28 : ∀ vs w, (callFunc 28 vs).run Try.prog w = .ok (.enter 28 vs) w := enters_of Try.func28 (by kernel_rfl) rfl
theorem ent29 : ∀ vs w, (callFunc 29 vs).run Try.prog w = .ok (.enter 29 vs) w := enters_of Try.func29 (by kernel_rfl) rfl
theorem ent30 : ∀ vs w, (callFunc 30 vs).run Try.prog w = .ok (.enter 30 vs) w := enters_of Try.func30 (by kernel_rfl) rfl
theorem ent31 : ∀ vs w, (callFunc 31 vs).run Try.prog w = .ok (.enter 31 vs) w := enters_of Try.func31 (by kernel_rfl) rfl
theorem ent32 : ∀ vs w, (callFunc 32 vs).run Try.prog w = .ok (.enter 32 vs) w := enters_of Try.func32 (by kernel_rfl) rfl
theorem ent33 : ∀ vs w, (callFunc 33 vs).run Try.prog w = .ok (.enter 33 vs) w := enters_of Try.func33 (by kernel_rfl) rfl
theorem ent34 : ∀ vs w, (callFunc 34 vs).run Try.prog w = .ok (.enter 34 vs) w := enters_of Try.func34 (by kernel_rfl) rfl
theorem ent35 : ∀ vs w, (callFunc 35 vs).run Try.prog w = .ok (.enter 35 vs) w := enters_of Try.func35 (by kernel_rfl) rfl
theorem ent36 : ∀ vs w, (callFunc 36 vs).run Try.prog w = .ok (.enter 36 vs) w := enters_of Try.func36 (by kernel_rfl) rfl
theorem ent37 : ∀ vs w, (callFunc 37 vs).run Try.prog w = .ok (.enter 37 vs) w := enters_of Try.func37 (by kernel_rfl) rfl
theorem ent38 : ∀ vs w, (callFunc 38 vs).run Try.prog w = .ok (.enter 38 vs) w := enters_of Try.func38 (by kernel_rfl) rfl
theorem ent39 : ∀ vs w, (callFunc 39 vs).run Try.prog w = .ok (.enter 39 vs) w := enters_of Try.func39 (by kernel_rfl) rfl
theorem ent40 : ∀ vs w, (callFunc 40 vs).run Try.prog w = .ok (.enter 40 vs) w := enters_of Try.func40 (by kernel_rfl) rfl
theorem ent41 : ∀ vs w, (callFunc 41 vs).run Try.prog w = .ok (.enter 41 vs) w := enters_of Try.func41 (by kernel_rfl) rfl
theorem ent42 : ∀ vs w, (callFunc 42 vs).run Try.prog w = .ok (.enter 42 vs) w := enters_of Try.func42 (by kernel_rfl) rfl
theorem ent43 : ∀ vs w, (callFunc 43 vs).run Try.prog w = .ok (.enter 43 vs) w := enters_of Try.func43 (by kernel_rfl) rfl
theorem ent44 : ∀ vs w, (callFunc 44 vs).run Try.prog w = .ok (.enter 44 vs) w := enters_of Try.func44 (by kernel_rfl) rfl
theorem ent45 : ∀ vs w, (callFunc 45 vs).run Try.prog w = .ok (.enter 45 vs) w := enters_of Try.func45 (by kernel_rfl) rfl
theorem ent46 : ∀ vs w, (callFunc 46 vs).run Try.prog w = .ok (.enter 46 vs) w := enters_of Try.func46 (by kernel_rfl) rfl
theorem ent47 : ∀ vs w, (callFunc 47 vs).run Try.prog w = .ok (.enter 47 vs) w := enters_of Try.func47 (by kernel_rfl) rfl
theorem ent48 : ∀ vs w, (callFunc 48 vs).run Try.prog w = .ok (.enter 48 vs) w := enters_of Try.func48 (by kernel_rfl) rfl
theorem ent49 : ∀ vs w, (callFunc 49 vs).run Try.prog w = .ok (.enter 49 vs) w := enters_of Try.func49 (by kernel_rfl) rfl
theorem ent50 : ∀ vs w, (callFunc 50 vs).run Try.prog w = .ok (.enter 50 vs) w := enters_of Try.func50 (by kernel_rfl) rfl
theorem ent51 : ∀ vs w, (callFunc 51 vs).run Try.prog w = .ok (.enter 51 vs) w := enters_of Try.func51 (by kernel_rfl) rfl
theorem ent52 : ∀ vs w, (callFunc 52 vs).run Try.prog w = .ok (.enter 52 vs) w := enters_of Try.func52 (by kernel_rfl) rfl
theorem ent53 : ∀ vs w, (callFunc 53 vs).run Try.prog w = .ok (.enter 53 vs) w := enters_of Try.func53 (by kernel_rfl) rfl
theorem ent54 : ∀ vs w, (callFunc 54 vs).run Try.prog w = .ok (.enter 54 vs) w := enters_of Try.func54 (by kernel_rfl) rfl
theorem ent55 : ∀ vs w, (callFunc 55 vs).run Try.prog w = .ok (.enter 55 vs) w := enters_of Try.func55 (by kernel_rfl) rfl
theorem ent56 : ∀ vs w, (callFunc 56 vs).run Try.prog w = .ok (.enter 56 vs) w := enters_of Try.func56 (by kernel_rfl) rfl
theorem ent57 : ∀ vs w, (callFunc 57 vs).run Try.prog w = .ok (.enter 57 vs) w := enters_of Try.func57 (by kernel_rfl) rfl
theorem ent58 : ∀ vs w, (callFunc 58 vs).run Try.prog w = .ok (.enter 58 vs) w := enters_of Try.func58 (by kernel_rfl) rfl
theorem ent59 : ∀ vs w, (callFunc 59 vs).run Try.prog w = .ok (.enter 59 vs) w := enters_of Try.func59 (by kernel_rfl) rfl
theorem ent60 : ∀ vs w, (callFunc 60 vs).run Try.prog w = .ok (.enter 60 vs) w := enters_of Try.func60 (by kernel_rfl) rfl
theorem ent61 : ∀ vs w, (callFunc 61 vs).run Try.prog w = .ok (.enter 61 vs) w := enters_of Try.func61 (by kernel_rfl) rfl
theorem ent62 : ∀ vs w, (callFunc 62 vs).run Try.prog w = .ok (.enter 62 vs) w := enters_of Try.func62 (by kernel_rfl) rfl
theorem ent63 : ∀ vs w, (callFunc 63 vs).run Try.prog w = .ok (.enter 63 vs) w := enters_of Try.func63 (by kernel_rfl) rfl
theorem ent64 : ∀ vs w, (callFunc 64 vs).run Try.prog w = .ok (.enter 64 vs) w := enters_of Try.func64 (by kernel_rfl) rfl
theorem ent65 : ∀ vs w, (callFunc 65 vs).run Try.prog w = .ok (.enter 65 vs) w := enters_of Try.func65 (by kernel_rfl) rfl
theorem ent66 : ∀ vs w, (callFunc 66 vs).run Try.prog w = .ok (.enter 66 vs) w := enters_of Try.func66 (by kernel_rfl) rfl
theorem ent67 : ∀ vs w, (callFunc 67 vs).run Try.prog w = .ok (.enter 67 vs) w := enters_of Try.func67 (by kernel_rfl) rfl
theorem ent68 : ∀ vs w, (callFunc 68 vs).run Try.prog w = .ok (.enter 68 vs) w := enters_of Try.func68 (by kernel_rfl) rfl
theorem ent69 : ∀ vs w, (callFunc 69 vs).run Try.prog w = .ok (.enter 69 vs) w := enters_of Try.func69 (by kernel_rfl) rfl
end Go.Proofs.Ytaggidjijekpbaa.Ty
