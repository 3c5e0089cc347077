/- the trees of the program match the specification. No condition. -/
import Derived.Test.YtccepmhhilhajaaLtr1
set_option linter.unusedVariables false
set_option linter.unusedSimpArgs false
set_option maxRecDepth 100000
namespace Go.Proofs.Ytccepmhhilhajaa.K
open Go Go.A Go.ChangeShapes Go.WideShapes Go.ChangeAt Go.RowKit

theorem read4 : ∀ t ∈ Try.f4.params.toList, Try.prog.readableRec t = true ∧ t < Try.prog.types.size := by
  rw [Try.params4]
  intro t ht
  have : t = 37 ∨ t = 3 ∨ t = 3 ∨ t = 22 ∨ t = 38 ∨ t = 40 := by simpa using ht
  rcases this with rfl | rfl | rfl | rfl | rfl | rfl <;> exact ⟨by kernel_rfl, of_decide_eq_true (by kernel_rfl)⟩

theorem lifted4 (os : Os) (started : os.Started) (H : Type) (enc : TypeId × Value → H) :
    ReturnsInHanded {} Try.checked os 4 .any (Rows.sumsTreesSpec.pre6 enc Try.prog Try.f4 Rows.sumsTreesRow.domain false) (Rows.sumsTreesSpec.post enc Try.prog Try.f4 false true false false) := by
  refine returnsInHanded_of_change_sized (C := Try.checked) own started (by kernel_rfl) Try.func4
    (ChangeSpec.witness6 (enc := enc) (C := Try.checked) false ⟨#[], #[.slice none 0 0, .int .i64 0, .int .i64 0, .slice none 0 0, .slice none 0 0, .agg #[.int .u8 0, .int .u8 0, .int .u8 0, .int .u8 0, .int .u8 0, .int .u8 0, .int .u8 0, .int .u8 0, .int .u8 0, .int .u8 0, .int .u8 0, .int .u8 0, .int .u8 0, .int .u8 0, .int .u8 0, .int .u8 0]], []⟩ 8 (by kernel_rfl) (by kernel_rfl) (by kernel_rfl) (by kernel_rfl)) ?_
  intro W base args ds gs before hval0 hW hcnd hsz _
  have hval : ∀ (j : Nat) t v, Try.f4.params[j]? = some t → args[j]? = some v → Value.okWide Try.prog W .any base t v := hval0
  have hW' := hW
  obtain ⟨p, q, hA0, hV, -, -, -⟩ := hW
  have hA : DataW.TrodAll enc Try.prog W 0 (fun _ => true) true Try.f4.params.toList args.toList ds p := hA0
  rw [Try.params4] at hA hval
  obtain ⟨rfl, -⟩ := trodVars_none hV
  obtain ⟨v0, vs0, d0, ds0, p0, q0, hargs, rfl, -, h0, r0⟩ := trodAll_cons hA
  obtain ⟨v1, vs1, d1, ds1, p1, q1, rfl, rfl, -, h1, r1⟩ := trodAll_cons r0
  obtain ⟨v2, vs2, d2, ds2, p2, q2, rfl, rfl, -, h2, r2⟩ := trodAll_cons r1
  obtain ⟨v3, vs3, d3, ds3, p3, q3, rfl, rfl, -, h3, r3⟩ := trodAll_cons r2
  obtain ⟨v4, vs4, d4, ds4, p4, q4, rfl, rfl, -, h4, r4⟩ := trodAll_cons r3
  obtain ⟨v5, vs5, d5, ds5, p5, q5, rfl, rfl, -, h5, r5⟩ := trodAll_cons r4
  obtain ⟨rfl, rfl, -⟩ := trodAll_nil r5
  obtain rfl : args = #[v0, v1, v2, v3, v4, v5] := by cases args; simp_all
  obtain ⟨ls0, vv0, hl0, hm0, hx0, hy0, hz0⟩ := open_lists2 Try.underlying37 Try.underlying22 Try.underlying5 cells5 (show Try.prog.cellsOf 22 = 1 by kernel_rfl) (show Try.prog.bytesOf 5 = 1 by kernel_rfl) (of_decide_eq_true (show decide (0 < Try.prog.bytesOf 22) = true by kernel_rfl)) (fun n hn => by
    rw [Try.params4] at hsz
    have := List.all_eq_true.1 hsz n (DataW.weights_mem_each (j := 0) (t := 37) (d := d0) rfl rfl n hn)
    simpa using this) (hval 0 37 v0 rfl rfl) h0
  obtain ⟨n1, rfl, ha1, hb1⟩ := open_i64 Try.underlying3 (hval 1 3 v1 rfl rfl) h1
  obtain ⟨n2, rfl, ha2, hb2⟩ := open_i64 Try.underlying3 (hval 2 3 v2 rfl rfl) h2
  obtain ⟨l3, hl3, hr3⟩ := open_bytes Try.underlying22 Try.underlying5 cells5 (hval 3 22 v3 rfl rfl) h3
  obtain ⟨dg4, hl4, hd4, hr4⟩ := open_digests Try.underlying38 Try.underlying40 Try.underlying5 cells5 (show Try.prog.cellsOf 40 = 16 by kernel_rfl) (by decide) (hval 4 38 v4 rfl rfl) h4
  obtain ⟨l5, hl5, hr5⟩ := open_u8s Try.underlying40 Try.underlying5 cells5 (show Try.prog.cellsOf 40 = 16 by kernel_rfl) (hval 5 40 v5 rfl rfl) h5
  exact law_of (f := Try.f4) (s := Rows.sumsTreesSpec) (rt := 4) read4 (by kernel_rfl) Try.underlying4 rfl hW' rfl
    [reV W.heap.size 1 v0, i64 n1, i64 n2, reV W.heap.size 1 v3, reV W.heap.size 16 v4, .agg (cu8 l5)] (.cons (reV_rel 1 v0) (.cons (.int _ _) (.cons (.int _ _) (.cons (reV_rel 1 v3) (.cons (reV_rel 16 v4) (.cons (hr5 _) .nil)))))) (law4 ls0 n1 n2 l3 dg4 l5 hl5 hd4 ha1 hb1 ha2 hb2 (Nat.lt_of_le_of_lt hl0 (by decide)) (fun x hx' => Nat.lt_of_le_of_lt (hm0 x hx') (by decide)) _ _ _ _ ⟨vv0, hx0, hy0, hz0⟩ (hr3 1) (hr4 1))

theorem trees_holds : Rows.SumsTreesSaid :=
  OpenClaim.holds_of_wide 4 Try.f4 rfl rfl rfl rfl rfl rfl rfl ⟨rfl, rfl, rfl, rfl, rfl⟩ rfl rfl rfl rfl rfl (by kernel_rfl) Try.func4 (by kernel_rfl)
    (of_decide_eq_true (by kernel_rfl)) (by unfold Func.isWrapper; rw [if_neg (by decide +kernel)]; exact ⟨rfl, rfl⟩)
    (fun os started H enc _ => lifted4 os started H enc)
end Go.Proofs.Ytccepmhhilhajaa.K
