/- Join is the checksum of the sequences one behind the other; it is associative and has neutral sides No condition. -/
import Derived.Test.YtccepmhhilhajaaLjo1
set_option linter.unusedVariables false
set_option linter.unusedSimpArgs false
set_option maxRecDepth 100000
namespace Go.Proofs.Ytccepmhhilhajaa.K
open Go Go.A Go.ChangeShapes Go.WideShapes Go.ChangeAt Go.RowKit

theorem read13 : ∀ t ∈ Try.f13.params.toList, Try.prog.readableRec t = true ∧ t < Try.prog.types.size := by
  rw [Try.params13]
  intro t ht
  have : t = 22 ∨ t = 22 ∨ t = 23 ∨ t = 23 ∨ t = 23 ∨ t = 3 ∨ t = 3 := by simpa using ht
  rcases this with rfl | rfl | rfl | rfl | rfl | rfl | rfl <;> exact ⟨by kernel_rfl, of_decide_eq_true (by kernel_rfl)⟩

theorem lifted13 (os : Os) (started : os.Started) (H : Type) (enc : TypeId × Value → H) :
    ReturnsInHanded {} Try.checked os 13 .any (Rows.sumsJoinedSpec.pre6 enc Try.prog Try.f13 Rows.sumsJoinedRow.domain false) (Rows.sumsJoinedSpec.post enc Try.prog Try.f13 false true false false) := by
  refine returnsInHanded_of_change (C := Try.checked) own started (by kernel_rfl) Try.func13
    (ChangeSpec.witness6 (enc := enc) (C := Try.checked) false ⟨#[], #[.slice none 0 0, .slice none 0 0, .int .u32 0, .int .u32 0, .int .u32 0, .int .i64 0, .int .i64 0], []⟩ 8 (by kernel_rfl) (by kernel_rfl) (by kernel_rfl) (by kernel_rfl)) ?_
  intro W base args ds gs before hval0 hW hcnd _
  have hval : ∀ (j : Nat) t v, Try.f13.params[j]? = some t → args[j]? = some v → Value.okWide Try.prog W .any base t v := hval0
  have hW' := hW
  obtain ⟨p, q, hA0, hV, -, -, -⟩ := hW
  have hA : DataW.TrodAll enc Try.prog W 0 (fun _ => true) true Try.f13.params.toList args.toList ds p := hA0
  rw [Try.params13] at hA hval
  obtain ⟨rfl, -⟩ := trodVars_none hV
  obtain ⟨v0, vs0, d0, ds0, p0, q0, hargs, rfl, -, h0, r0⟩ := trodAll_cons hA
  obtain ⟨v1, vs1, d1, ds1, p1, q1, rfl, rfl, -, h1, r1⟩ := trodAll_cons r0
  obtain ⟨v2, vs2, d2, ds2, p2, q2, rfl, rfl, -, h2, r2⟩ := trodAll_cons r1
  obtain ⟨v3, vs3, d3, ds3, p3, q3, rfl, rfl, -, h3, r3⟩ := trodAll_cons r2
  obtain ⟨v4, vs4, d4, ds4, p4, q4, rfl, rfl, -, h4, r4⟩ := trodAll_cons r3
  obtain ⟨v5, vs5, d5, ds5, p5, q5, rfl, rfl, -, h5, r5⟩ := trodAll_cons r4
  obtain ⟨v6, vs6, d6, ds6, p6, q6, rfl, rfl, -, h6, r6⟩ := trodAll_cons r5
  obtain ⟨rfl, rfl, -⟩ := trodAll_nil r6
  obtain rfl : args = #[v0, v1, v2, v3, v4, v5, v6] := by cases args; simp_all
  obtain ⟨l0, hl0, hr0⟩ := open_bytes Try.underlying22 Try.underlying5 cells5 (hval 0 22 v0 rfl rfl) h0
  obtain ⟨l1, hl1, hr1⟩ := open_bytes Try.underlying22 Try.underlying5 cells5 (hval 1 22 v1 rfl rfl) h1
  obtain ⟨b2, rfl⟩ := open_u32 Try.underlying23 (hval 2 23 v2 rfl rfl) h2
  obtain ⟨b3, rfl⟩ := open_u32 Try.underlying23 (hval 3 23 v3 rfl rfl) h3
  obtain ⟨b4, rfl⟩ := open_u32 Try.underlying23 (hval 4 23 v4 rfl rfl) h4
  obtain ⟨n5, rfl, ha5, hb5⟩ := open_i64 Try.underlying3 (hval 5 3 v5 rfl rfl) h5
  obtain ⟨n6, rfl, ha6, hb6⟩ := open_i64 Try.underlying3 (hval 6 3 v6 rfl rfl) h6
  exact law_of (f := Try.f13) (s := Rows.sumsJoinedSpec) (rt := 4) read13 (by kernel_rfl) Try.underlying4 rfl hW' rfl
    [reV W.heap.size 1 v0, reV W.heap.size 1 v1, u32 b2, u32 b3, u32 b4, i64 n5, i64 n6] (.cons (reV_rel 1 v0) (.cons (reV_rel 1 v1) (.cons (.int _ _) (.cons (.int _ _) (.cons (.int _ _) (.cons (.int _ _) (.cons (.int _ _) .nil))))))) (law13 l0 l1 b2 b3 b4 n5 n6 ha5 hb5 ha6 hb6 _ _ _ (hr0 1) (hr1 1))

theorem joined_holds : Rows.SumsJoinedSaid :=
  OpenClaim.holds_of_wide 13 Try.f13 rfl rfl rfl rfl rfl rfl rfl ⟨rfl, rfl, rfl, rfl, rfl⟩ rfl rfl rfl rfl rfl (by kernel_rfl) Try.func13 (by kernel_rfl)
    (of_decide_eq_true (by kernel_rfl)) (by unfold Func.isWrapper; rw [if_neg (by decide +kernel)]; exact ⟨rfl, rfl⟩)
    (fun os started H enc _ => lifted13 os started H enc)
end Go.Proofs.Ytccepmhhilhajaa.K
