/- a path proves its leaf, and leads to the root with another leaf. No condition. -/
import Derived.Test.YtccepmhhilhajaaLpr1
set_option linter.unusedVariables false
set_option linter.unusedSimpArgs false
set_option maxRecDepth 100000
namespace Go.Proofs.Ytccepmhhilhajaa.K
open Go Go.A Go.ChangeShapes Go.WideShapes Go.ChangeAt Go.RowKit

theorem read8 : ∀ t ∈ Try.f8.params.toList, Try.prog.readableRec t = true ∧ t < Try.prog.types.size := by
  rw [Try.params8]
  intro t ht
  have : t = 37 ∨ t = 3 ∨ t = 22 := by simpa using ht
  rcases this with rfl | rfl | rfl <;> exact ⟨by kernel_rfl, of_decide_eq_true (by kernel_rfl)⟩

theorem lifted8 (os : Os) (started : os.Started) (H : Type) (enc : TypeId × Value → H) :
    ReturnsInHanded {} Try.checked os 8 .any (Rows.sumsProofsSpec.pre6 enc Try.prog Try.f8 Rows.sumsProofsRow.domain false) (Rows.sumsProofsSpec.post enc Try.prog Try.f8 false true false false) := by
  refine returnsInHanded_of_change_sized (C := Try.checked) own started (by kernel_rfl) Try.func8
    (ChangeSpec.witness6 (enc := enc) (C := Try.checked) false ⟨#[], #[.slice none 0 0, .int .i64 0, .slice none 0 0], []⟩ 8 (by kernel_rfl) (by kernel_rfl) (by kernel_rfl) (by kernel_rfl)) ?_
  intro W base args ds gs before hval0 hW hcnd hsz _
  have hval : ∀ (j : Nat) t v, Try.f8.params[j]? = some t → args[j]? = some v → Value.okWide Try.prog W .any base t v := hval0
  have hW' := hW
  obtain ⟨p, q, hA0, hV, -, -, -⟩ := hW
  have hA : DataW.TrodAll enc Try.prog W 0 (fun _ => true) true Try.f8.params.toList args.toList ds p := hA0
  rw [Try.params8] at hA hval
  obtain ⟨rfl, -⟩ := trodVars_none hV
  obtain ⟨v0, vs0, d0, ds0, p0, q0, hargs, rfl, -, h0, r0⟩ := trodAll_cons hA
  obtain ⟨v1, vs1, d1, ds1, p1, q1, rfl, rfl, -, h1, r1⟩ := trodAll_cons r0
  obtain ⟨v2, vs2, d2, ds2, p2, q2, rfl, rfl, -, h2, r2⟩ := trodAll_cons r1
  obtain ⟨rfl, rfl, -⟩ := trodAll_nil r2
  obtain rfl : args = #[v0, v1, v2] := by cases args; simp_all
  obtain ⟨ls0, vv0, hl0, hm0, hx0, hy0, hz0⟩ := open_lists2 Try.underlying37 Try.underlying22 Try.underlying5 cells5 (show Try.prog.cellsOf 22 = 1 by kernel_rfl) (show Try.prog.bytesOf 5 = 1 by kernel_rfl) (of_decide_eq_true (show decide (0 < Try.prog.bytesOf 22) = true by kernel_rfl)) (fun n hn => by
    rw [Try.params8] at hsz
    have := List.all_eq_true.1 hsz n (DataW.weights_mem_each (j := 0) (t := 37) (d := d0) rfl rfl n hn)
    simpa using this) (hval 0 37 v0 rfl rfl) h0
  obtain ⟨n1, rfl, ha1, hb1⟩ := open_i64 Try.underlying3 (hval 1 3 v1 rfl rfl) h1
  obtain ⟨l2, hl2, hr2⟩ := open_bytes Try.underlying22 Try.underlying5 cells5 (hval 2 22 v2 rfl rfl) h2
  exact law_of (f := Try.f8) (s := Rows.sumsProofsSpec) (rt := 4) read8 (by kernel_rfl) Try.underlying4 rfl hW' rfl
    [reV W.heap.size 1 v0, i64 n1, reV W.heap.size 1 v2] (.cons (reV_rel 1 v0) (.cons (.int _ _) (.cons (reV_rel 1 v2) .nil))) (law8 ls0 n1 l2 ha1 hb1 (Nat.lt_of_le_of_lt hl0 (by decide)) (fun x hx' => Nat.lt_of_le_of_lt (hm0 x hx') (by decide)) _ _ _ ⟨vv0, hx0, hy0, hz0⟩ (hr2 1))

theorem proofs_holds : Rows.SumsProofsSaid :=
  OpenClaim.holds_of_wide 8 Try.f8 rfl rfl rfl rfl rfl rfl rfl ⟨rfl, rfl, rfl, rfl, rfl⟩ rfl rfl rfl rfl rfl (by kernel_rfl) Try.func8 (by kernel_rfl)
    (of_decide_eq_true (by kernel_rfl)) (by unfold Func.isWrapper; rw [if_neg (by decide +kernel)]; exact ⟨rfl, rfl⟩)
    (fun os started H enc _ => lifted8 os started H enc)
end Go.Proofs.Ytccepmhhilhajaa.K
