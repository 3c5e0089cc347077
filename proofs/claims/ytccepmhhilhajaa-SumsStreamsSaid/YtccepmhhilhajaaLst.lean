/- absorbing in parts leads to the same sponge as absorbing at once. No condition. -/
import Derived.Test.YtccepmhhilhajaaLst1
set_option linter.unusedVariables false
set_option linter.unusedSimpArgs false
set_option maxRecDepth 100000
namespace Go.Proofs.Ytccepmhhilhajaa.K
open Go Go.A Go.ChangeShapes Go.WideShapes Go.ChangeAt Go.RowKit

theorem read7 : ∀ t ∈ Try.f7.params.toList, Try.prog.readableRec t = true ∧ t < Try.prog.types.size := by
  rw [Try.params7]
  intro t ht
  have : t = 37 := by simpa using ht
  subst this
  exact ⟨by kernel_rfl, of_decide_eq_true (by kernel_rfl)⟩

theorem lifted7 (os : Os) (started : os.Started) (H : Type) (enc : TypeId × Value → H) :
    ReturnsInHanded {} Try.checked os 7 .any (Rows.sumsStreamsSpec.pre6 enc Try.prog Try.f7 Rows.sumsStreamsRow.domain false) (Rows.sumsStreamsSpec.post enc Try.prog Try.f7 false true false false) := by
  refine returnsInHanded_of_change_sized (C := Try.checked) own started (by kernel_rfl) Try.func7
    (ChangeSpec.witness6 (enc := enc) (C := Try.checked) false ⟨#[], #[.slice none 0 0], []⟩ 8 (by kernel_rfl) (by kernel_rfl) (by kernel_rfl) (by kernel_rfl)) ?_
  intro W base args ds gs before hval0 hW hcnd hsz _
  have hval : ∀ (j : Nat) t v, Try.f7.params[j]? = some t → args[j]? = some v → Value.okWide Try.prog W .any base t v := hval0
  have hW' := hW
  obtain ⟨p, q, hA0, hV, -, -, -⟩ := hW
  have hA : DataW.TrodAll enc Try.prog W 0 (fun _ => true) true Try.f7.params.toList args.toList ds p := hA0
  rw [Try.params7] at hA hval
  obtain ⟨rfl, -⟩ := trodVars_none hV
  obtain ⟨v0, vs0, d0, ds0, p0, q0, hargs, rfl, -, h0, r0⟩ := trodAll_cons hA
  obtain ⟨rfl, rfl, -⟩ := trodAll_nil r0
  obtain rfl : args = #[v0] := by cases args; simp_all
  obtain ⟨ls0, vv0, hl0, hm0, hx0, hy0, hz0⟩ := open_lists2 Try.underlying37 Try.underlying22 Try.underlying5 cells5 (show Try.prog.cellsOf 22 = 1 by kernel_rfl) (show Try.prog.bytesOf 5 = 1 by kernel_rfl) (of_decide_eq_true (show decide (0 < Try.prog.bytesOf 22) = true by kernel_rfl)) (fun n hn => by
    rw [Try.params7] at hsz
    have := List.all_eq_true.1 hsz n (DataW.weights_mem_each (j := 0) (t := 37) (d := d0) rfl rfl n hn)
    simpa using this) (hval 0 37 v0 rfl rfl) h0
  exact law_of (f := Try.f7) (s := Rows.sumsStreamsSpec) (rt := 4) read7 (by kernel_rfl) Try.underlying4 rfl hW' rfl
    [reV W.heap.size 1 v0] (.cons (reV_rel 1 v0) .nil) (law7 ls0 (Nat.lt_of_le_of_lt hl0 (by decide)) (fun x hx' => Nat.lt_of_le_of_lt (hm0 x hx') (by decide)) _ _ ⟨vv0, hx0, hy0, hz0⟩)

theorem streams_holds : Rows.SumsStreamsSaid :=
  OpenClaim.holds_of_wide 7 Try.f7 rfl rfl rfl rfl rfl rfl rfl ⟨rfl, rfl, rfl, rfl, rfl⟩ rfl rfl rfl rfl rfl (by kernel_rfl) Try.func7 (by kernel_rfl)
    (of_decide_eq_true (by kernel_rfl)) (by unfold Func.isWrapper; rw [if_neg (by decide +kernel)]; exact ⟨rfl, rfl⟩)
    (fun os started H enc _ => lifted7 os started H enc)
end Go.Proofs.Ytccepmhhilhajaa.K
