/- SumsRolls holds: Sum, Slide, Value and Windows match the specification, for every input. No condition. -/
import Derived.Test.YtccepmhhilhajaaLa5
set_option linter.unusedVariables false
set_option linter.unusedSimpArgs false
set_option maxRecDepth 100000
namespace Go.Proofs.Ytccepmhhilhajaa.K
open Go Go.A Go.ChangeShapes Go.WideShapes Go.ChangeAt Go.RowKit

theorem open_roll {H : Type} {enc : TypeId × Value → H} {W : World} {base : Nat} {v : Value} {d : DataW H} {ps : List MemPlace} (hok : Value.okWide Try.prog W .any base 25 v) (h : DataW.Trod enc Try.prog W 0 (fun _ => true) true 25 v d ps) :
    ∃ r : Roll, ∀ β, VRel β (.agg r.cells) v := by
  obtain ⟨cs, rfl, e2⟩ := ok_agg' (.inr ⟨_, Try.underlying25⟩) hok
  obtain ⟨fuel, hf⟩ := h
  rw [e2] at hf
  obtain ⟨xs, n, -, -, hl, hxl, hx⟩ := DataW.trod_struct Try.underlying25 hf
  have c25 : Try.prog.cellsOf 25 = 3 := by kernel_rfl
  rw [c25] at hl
  have hl3 : cs.toList.length = 3 := hl
  generalize hcs : cs.toList = l at *
  match l, hl3 with
  | [a, b, c], _ =>
    have h0 : DataW.trod enc Try.prog W 0 (fun _ => true) true n 23 (([a, b, c].drop 0).take (Try.prog.cellsOf 23)) = xs[0]? := hx 0 _ rfl
    have h1 : DataW.trod enc Try.prog W 0 (fun _ => true) true n 23 (([a, b, c].drop 1).take (Try.prog.cellsOf 23)) = xs[1]? := hx 1 _ rfl
    have h2 : DataW.trod enc Try.prog W 0 (fun _ => true) true n 3 (([a, b, c].drop 2).take (Try.prog.cellsOf 3)) = xs[2]? := hx 2 _ rfl
    rw [List.getElem?_eq_getElem (by rw [hxl]; decide)] at h0 h1 h2
    simp only [cells23, cells3, List.drop_zero, List.drop_succ_cons, List.take_succ_cons, List.take_zero] at h0 h1 h2
    obtain ⟨x, e1, w1⟩ := trod_int Try.underlying23 h0
    obtain ⟨y, e2, w2⟩ := trod_int Try.underlying23 h1
    obtain ⟨z, e3, w3⟩ := trod_int Try.underlying3 h2
    cases e1; cases e2; cases e3
    obtain ⟨x, rfl⟩ := wf_u32 w1
    obtain ⟨y, rfl⟩ := wf_u32 w2
    refine ⟨⟨x, y, z⟩, fun β => vrel_agg ?_⟩
    rw [hcs]
    exact .cons (.int _ _) (.cons (.int _ _) (.cons (.int _ _) .nil))

theorem read3 : ∀ t ∈ Try.f3.params.toList, Try.prog.readableRec t = true ∧ t < Try.prog.types.size := by
  rw [Try.params3]
  intro t ht
  have : t = 22 ∨ t = 3 ∨ t = 25 ∨ t = 5 ∨ t = 5 := by simpa using ht
  rcases this with rfl | rfl | rfl | rfl | rfl <;> exact ⟨by kernel_rfl, of_decide_eq_true (by kernel_rfl)⟩

theorem lifted3 (os : Os) (started : os.Started) (H : Type) (enc : TypeId × Value → H) :
    ReturnsInHanded {} Try.checked os 3 .any (Rows.sumsRollsSpec.pre6 enc Try.prog Try.f3 Rows.sumsRollsRow.domain false) (Rows.sumsRollsSpec.post enc Try.prog Try.f3 false true false false) := by
  refine returnsInHanded_of_change (C := Try.checked) own started (by kernel_rfl) Try.func3
    (ChangeSpec.witness6 (enc := enc) (C := Try.checked) false ⟨#[], #[.slice none 0 0, .int .i64 0, .agg #[.int .u32 0, .int .u32 0, .int .i64 0], .int .u8 0, .int .u8 0], []⟩ 8 (by kernel_rfl) (by kernel_rfl) (by kernel_rfl) (by kernel_rfl)) ?_
  intro W base args ds gs before hval0 hW hcnd _
  have hval : ∀ (j : Nat) t v, Try.f3.params[j]? = some t → args[j]? = some v → Value.okWide Try.prog W .any base t v := hval0
  have hW' := hW
  obtain ⟨p, q, hA0, hV, -, -, -⟩ := hW
  have hA : DataW.TrodAll enc Try.prog W 0 (fun _ => true) true Try.f3.params.toList args.toList ds p := hA0
  rw [Try.params3] at hA hval
  obtain ⟨rfl, -⟩ := trodVars_none hV
  obtain ⟨v0, vs0, d0, ds0, p0, q0, hargs, rfl, -, h0, r0⟩ := trodAll_cons hA
  obtain ⟨v1, vs1, d1, ds1, p1, q1, rfl, rfl, -, h1, r1⟩ := trodAll_cons r0
  obtain ⟨v2, vs2, d2, ds2, p2, q2, rfl, rfl, -, h2, r2⟩ := trodAll_cons r1
  obtain ⟨v3, vs3, d3, ds3, p3, q3, rfl, rfl, -, h3, r3⟩ := trodAll_cons r2
  obtain ⟨v4, vs4, d4, ds4, p4, q4, rfl, rfl, -, h4, r4⟩ := trodAll_cons r3
  obtain ⟨rfl, rfl, -⟩ := trodAll_nil r4
  obtain rfl : args = #[v0, v1, v2, v3, v4] := by cases args; simp_all
  obtain ⟨l, hl, hr0⟩ := open_bytes Try.underlying22 Try.underlying5 cells5 (hval 0 22 v0 rfl rfl) h0
  obtain ⟨n, rfl, hn0, hn⟩ := open_i64 Try.underlying3 (hval 1 3 v1 rfl rfl) h1
  obtain ⟨r, hr2⟩ := open_roll (hval 2 25 v2 rfl rfl) h2
  obtain ⟨o, rfl⟩ := open_u8 Try.underlying5 (hval 3 5 v3 rfl rfl) h3
  obtain ⟨i, rfl⟩ := open_u8 Try.underlying5 (hval 4 5 v4 rfl rfl) h4
  exact law_of (f := Try.f3) (s := Rows.sumsRollsSpec) (rt := 4) read3 (by kernel_rfl) Try.underlying4 rfl hW' rfl
    [reV W.heap.size 1 v0, i64 n, .agg r.cells, u8 o, u8 i] (.cons (reV_rel 1 v0) (.cons (.int _ _) (.cons (hr2 _) (.cons (.int _ _) (.cons (.int _ _) .nil))))) (law3 l n hn r o i _ _ (hr0 1))

theorem rolls_holds : Rows.SumsRollsSaid :=
  OpenClaim.holds_of_wide 3 Try.f3 rfl rfl rfl rfl rfl rfl rfl ⟨rfl, rfl, rfl, rfl, rfl⟩ rfl rfl rfl rfl rfl (by kernel_rfl) Try.func3 (by kernel_rfl)
    (of_decide_eq_true (by kernel_rfl)) (by unfold Func.isWrapper; rw [if_neg (by decide +kernel)]; exact ⟨rfl, rfl⟩)
    (fun os started H enc _ => lifted3 os started H enc)
end Go.Proofs.Ytccepmhhilhajaa.K
#print axioms Go.Proofs.Ytccepmhhilhajaa.K.rolls_holds
