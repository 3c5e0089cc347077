/- Collide of the program matches the specification. No condition. -/
import Derived.Test.YtccepmhhilhajaaLco1
set_option linter.unusedVariables false
set_option linter.unusedSimpArgs false
set_option maxRecDepth 100000
namespace Go.Proofs.Ytccepmhhilhajaa.K
open Go Go.A Go.ChangeShapes Go.WideShapes Go.ChangeAt Go.RowKit

theorem read10 : ∀ t ∈ Try.f10.params.toList, Try.prog.readableRec t = true ∧ t < Try.prog.types.size := by
  rw [Try.params10]
  intro t ht
  have : t = 3 ∨ t = 3 ∨ t = 22 ∨ t = 38 ∨ t = 22 ∨ t = 38 := by simpa using ht
  rcases this with rfl | rfl | rfl | rfl | rfl | rfl <;> exact ⟨by kernel_rfl, of_decide_eq_true (by kernel_rfl)⟩

theorem lifted10 (os : Os) (started : os.Started) (H : Type) (enc : TypeId × Value → H) :
    ReturnsInHanded {} Try.checked os 10 .any (Rows.sumsCollidesSpec.pre6 enc Try.prog Try.f10 Rows.sumsCollidesRow.domain false) (Rows.sumsCollidesSpec.post enc Try.prog Try.f10 false true false false) := by
  refine returnsInHanded_of_change (C := Try.checked) own started (by kernel_rfl) Try.func10
    (ChangeSpec.witness6 (enc := enc) (C := Try.checked) false ⟨#[], #[.int .i64 0, .int .i64 0, .slice none 0 0, .slice none 0 0, .slice none 0 0, .slice none 0 0], []⟩ 8 (by kernel_rfl) (by kernel_rfl) (by kernel_rfl) (by kernel_rfl)) ?_
  intro W base args ds gs before hval0 hW hcnd _
  have hval : ∀ (j : Nat) t v, Try.f10.params[j]? = some t → args[j]? = some v → Value.okWide Try.prog W .any base t v := hval0
  have hW' := hW
  obtain ⟨p, q, hA0, hV, -, -, -⟩ := hW
  have hA : DataW.TrodAll enc Try.prog W 0 (fun _ => true) true Try.f10.params.toList args.toList ds p := hA0
  rw [Try.params10] at hA hval
  obtain ⟨rfl, -⟩ := trodVars_none hV
  obtain ⟨v0, vs0, d0, ds0, p0, q0, hargs, rfl, -, h0, r0⟩ := trodAll_cons hA
  obtain ⟨v1, vs1, d1, ds1, p1, q1, rfl, rfl, -, h1, r1⟩ := trodAll_cons r0
  obtain ⟨v2, vs2, d2, ds2, p2, q2, rfl, rfl, -, h2, r2⟩ := trodAll_cons r1
  obtain ⟨v3, vs3, d3, ds3, p3, q3, rfl, rfl, -, h3, r3⟩ := trodAll_cons r2
  obtain ⟨v4, vs4, d4, ds4, p4, q4, rfl, rfl, -, h4, r4⟩ := trodAll_cons r3
  obtain ⟨v5, vs5, d5, ds5, p5, q5, rfl, rfl, -, h5, r5⟩ := trodAll_cons r4
  obtain ⟨rfl, rfl, -⟩ := trodAll_nil r5
  obtain rfl : args = #[v0, v1, v2, v3, v4, v5] := by cases args; simp_all
  obtain ⟨n0, rfl, ha0, hb0⟩ := open_i64 Try.underlying3 (hval 0 3 v0 rfl rfl) h0
  obtain ⟨n1, rfl, ha1, hb1⟩ := open_i64 Try.underlying3 (hval 1 3 v1 rfl rfl) h1
  obtain ⟨l2, hl2, hr2⟩ := open_bytes Try.underlying22 Try.underlying5 cells5 (hval 2 22 v2 rfl rfl) h2
  obtain ⟨dg3, hl3, hd3, hr3⟩ := open_digests Try.underlying38 Try.underlying40 Try.underlying5 cells5 (show Try.prog.cellsOf 40 = 16 by kernel_rfl) (by decide) (hval 3 38 v3 rfl rfl) h3
  obtain ⟨l4, hl4, hr4⟩ := open_bytes Try.underlying22 Try.underlying5 cells5 (hval 4 22 v4 rfl rfl) h4
  obtain ⟨dg5, hl5, hd5, hr5⟩ := open_digests Try.underlying38 Try.underlying40 Try.underlying5 cells5 (show Try.prog.cellsOf 40 = 16 by kernel_rfl) (by decide) (hval 5 38 v5 rfl rfl) h5
  exact law_of (f := Try.f10) (s := Rows.sumsCollidesSpec) (rt := 4) read10 (by kernel_rfl) Try.underlying4 rfl hW' rfl
    [i64 n0, i64 n1, reV W.heap.size 1 v2, reV W.heap.size 16 v3, reV W.heap.size 1 v4, reV W.heap.size 16 v5] (.cons (.int _ _) (.cons (.int _ _) (.cons (reV_rel 1 v2) (.cons (reV_rel 16 v3) (.cons (reV_rel 1 v4) (.cons (reV_rel 16 v5) .nil)))))) (law10 n0 n1 l2 l4 dg3 dg5 hd3 hd5 _ _ _ _ _ (hr2 1) (hr3 1) (hr4 1) (hr5 1))

theorem collides_holds : Rows.SumsCollidesSaid :=
  OpenClaim.holds_of_wide 10 Try.f10 rfl rfl rfl rfl rfl rfl rfl ⟨rfl, rfl, rfl, rfl, rfl⟩ rfl rfl rfl rfl rfl (by kernel_rfl) Try.func10 (by kernel_rfl)
    (of_decide_eq_true (by kernel_rfl)) (by unfold Func.isWrapper; rw [if_neg (by decide +kernel)]; exact ⟨rfl, rfl⟩)
    (fun os started H enc _ => lifted10 os started H enc)
end Go.Proofs.Ytccepmhhilhajaa.K
