/- Texts of this claim, put together (KUndo, KLaw9): lemmas towards the statement; no conditions of their own. -/
import Derived.Test.YtccepmhhilhajaaLb5
/- Undo: what it computes; it is the inverse of Permute. -/
set_option linter.unusedVariables false
set_option linter.unusedSimpArgs false
set_option maxRecDepth 100000
namespace Go.Proofs.Ytccepmhhilhajaa.K
open Go Go.A

theorem rot_inv (x : BitVec 32) (m n : Nat) (h : m + n = 32) (hm : 0 < m) (hn : 0 < n) : rotl (rotl x m) n = x := by
  apply BitVec.eq_of_getLsbD_eq
  intro i hi
  have e1 : 32 - m = n := by omega
  have e2 : 32 - n = m := by omega
  simp only [rotl, BitVec.getLsbD_or, BitVec.getLsbD_shiftLeft, BitVec.getLsbD_ushiftRight, e1, e2]
  by_cases hin : i < n
  · have h1 : ¬ m + i < m := by omega
    have h2 : m + i < 32 := by omega
    have h3 : m + i - m = i := by omega
    have h4 : x.getLsbD (n + (m + i)) = false := BitVec.getLsbD_of_ge _ _ (by omega)
    simp [hi, hin, h1, h2, h3, h4]
  · have h1 : i - n < m := by omega
    have h2 : n + (i - n) = i := by omega
    have h3 : ¬ m + i < 32 := by omega
    have h4 : x.getLsbD (n + (m + i)) = false := BitVec.getLsbD_of_ge _ _ (by omega)
    simp [hi, hin, h1, h2, h3, h4]

theorem call59u (x : BitVec 32) (h : Heap) : (run T).call 59 [u32 x, i64 (-7)] none h = some (.ret (u32 (rotl x 25)), none, h) := by
  rw [call59]
  have : (BitVec.ofInt 64 (-7) &&& 31).toNat = 25 := by decide
  rw [this]
theorem call59v (x : BitVec 32) (h : Heap) : (run T).call 59 [u32 x, i64 16] none h = some (.ret (u32 (rotl x 16)), none, h) := (call59c x h).2

theorem s8m (a b c d e f g h : BitVec 32) : (S8.mk a b c d e f g h).cells = [u32 a, u32 b, u32 c, u32 d, u32 e, u32 f, u32 g, u32 h] := Eq.trans rfl rfl

/-- One round back. -/
def und (r : Nat) (s : S8) : S8 :=
  ⟨(rotl s.a 16 - rotl (s.h ^^^ rotl s.a 16) 25) ^^^ BitVec.ofNat 32 (r + 1) * 2654435769, rotl s.b 16 - rotl (s.e ^^^ rotl s.b 16) 25, rotl s.c 16 - rotl (s.f ^^^ rotl s.c 16) 25, rotl s.d 16 - rotl (s.g ^^^ rotl s.d 16) 25,
    rotl (s.h ^^^ rotl s.a 16) 25, rotl (s.e ^^^ rotl s.b 16) 25, rotl (s.f ^^^ rotl s.c 16) 25, rotl (s.g ^^^ rotl s.d 16) 25⟩
theorem und_mk (r : Nat) (a b c d e f g h : BitVec 32) : und r ⟨a, b, c, d, e, f, g, h⟩ =
  ⟨(rotl a 16 - rotl (h ^^^ rotl a 16) 25) ^^^ BitVec.ofNat 32 (r + 1) * 2654435769, rotl b 16 - rotl (e ^^^ rotl b 16) 25, rotl c 16 - rotl (f ^^^ rotl c 16) 25, rotl d 16 - rotl (g ^^^ rotl d 16) 25,
    rotl (h ^^^ rotl a 16) 25, rotl (e ^^^ rotl b 16) 25, rotl (f ^^^ rotl c 16) 25, rotl (g ^^^ rotl d 16) 25⟩ := Eq.trans rfl rfl

theorem round40 (s : S8) (r : Nat) (hr : r < 12) (z : V) (H : Heap) (B : Blk) : Nxt (execC (run T) c40_0 ⟨[1, 2, 3].zip [.ptr H.length 0, .ptr (H.length + 1) 0, i64 r], [], some none⟩ (H ++ [.cells .ex s.cells, B])) [1, 2, 3]
    [.ptr H.length 0, .ptr (H.length + 1) 0, i64 ((r : Int) - 1)] [] (some none) (H ++ [.cells .ex (und r s).cells, B]) := by
  have hge : decide ((r : Int) ≥ 0) = true := by simp
  have hw : wr ((r : Int) + 1) = ((r + 1 : Nat) : Int) := by rw [wr_id (by omega) (by omega)]; rfl
  have hw2 : wr ((r : Int) - 1) = (r : Int) - 1 := wr_id (by omega) (by omega)
  have hcv : BitVec.ofInt 32 ((r + 1 : Nat) : Int) = BitVec.ofNat 32 (r + 1) := by
    apply BitVec.eq_of_toNat_eq
    rw [BitVec.toNat_ofInt, BitVec.toNat_ofNat]; omega
  obtain ⟨a, b, c, d, e, f, g, h⟩ := s
  simp -implicitDefEqProofs only [runEqs, List.zipIdx_cons, List.zipIdx_nil, List.map_cons, List.map_nil, Nat.zero_add, Nat.add_zero, Nat.zero_mul, Nat.reduceAdd, Nat.reduceMul, Nat.reduceBEq, Nat.reduceLT, Nat.reduceSub, Option.map_some, Option.map_none, Option.isSome_some, Option.isSome_none, Bool.not_true, Bool.not_false, Bool.true_or, Bool.false_or, Bool.or_true, List.getElem?_cons_zero, List.getElem?_cons_succ, List.set_cons_zero, List.set_cons_succ, List.length_cons, List.length_nil, List.length_append, List.append_assoc, List.cons_append, List.nil_append, List.zip_cons_cons, List.zip_nil_right, Int.reduceAdd, Int.reduceSub, Int.reduceMul, Int.reduceLT, Int.reduceLE, Int.reduceNeg, Int.reduceToNat, Int.zero_add, Int.add_zero, decide_true, decide_false, Nat.reduceLeDiff, Nat.min_self, List.drop_succ_cons, List.drop_zero, List.drop_nil, List.take_succ_cons, List.take_zero, List.take_nil, List.all_cons, List.all_nil, Bool.and_true, Bool.true_and, Nat.mul_one, List.singleton_append, Int.le_refl, Nat.le_refl, c40_0, c40_1, hge, hw, hw2, c_loop, s8m, und_mk, cv_u32_i64, hcv, mul_u32, xor_u32, sub_u32, wr_id, wr_many, call59u, call59v]
  exact nxt_some _ _ _ _ _ _ _ rfl rfl

def stK (s : S8) : Nat → S8
  | 0 => s
  | k + 1 => und (11 - k) (stK s k)

theorem call40 (s : S8) (h : Heap) : (run T).call 40 [.agg s.cells] none h = some (.ret (.agg (stK s 12).cells), none, h) := by
  refine call_gc1 fn40 _ _ (h' := roH h ++ [.cells .ex (stK s 12).cells, .cells .ex (stK s 12).cells]) ?_ rfl
  generalize roH h = H
  have hlp : ∀ t, kK [1, 2, 3] t = [(1, .ptr H.length 0), (2, .ptr (H.length + 1) 0), (3, i64 11)] → execC (run T) (.loop (.seq (.keep [1, 2, 3]) c40_0)) ⟨t, [], some none⟩ (H ++ [.cells .ex s.cells, .cells .ex (List.replicate 8 (u32 0))]) =
      kLp T (execC (run T) c40_0 ⟨[(1, .ptr H.length 0), (2, .ptr (H.length + 1) 0), (3, i64 (-1))], [], some none⟩ (H ++ [.cells .ex (stK s 12).cells, .cells .ex (List.replicate 8 (u32 0))])) (.seq (.keep [1, 2, 3]) c40_0) :=
    loop_to2 (T := T) (L := [1, 2, 3]) (c := c40_0) (d := []) (u := some none) (fun k => [.ptr H.length 0, .ptr (H.length + 1) 0, i64 (11 - (k : Int))]) (fun k => H ++ [.cells .ex (stK s k).cells, .cells .ex (List.replicate 8 (u32 0))]) 12 (fun k hk => by
      have h1 := round40 (stK s k) (11 - k) (by omega) .nils H (.cells .ex (List.replicate 8 (u32 0)))
      have e1 : ((11 - k : Nat) : Int) = 11 - (k : Int) := by omega
      have e2 : 11 - (k : Int) - 1 = 11 - ((k + 1 : Nat) : Int) := by omega
      rw [e1, e2] at h1
      exact h1) rfl rfl rfl rfl
  have hf : decide ((-1 : Int) ≥ 0) = false := rfl
  generalize stK s 12 = s' at *
  simp -implicitDefEqProofs only [runEqs, List.zipIdx_cons, List.zipIdx_nil, List.map_cons, List.map_nil, Nat.zero_add, Nat.add_zero, Nat.zero_mul, Nat.reduceAdd, Nat.reduceMul, Nat.reduceBEq, Nat.reduceLT, Nat.reduceSub, Option.map_some, Option.map_none, Option.isSome_some, Option.isSome_none, Bool.not_true, Bool.not_false, Bool.true_or, Bool.false_or, Bool.or_true, List.getElem?_cons_zero, List.getElem?_cons_succ, List.set_cons_zero, List.set_cons_succ, List.length_cons, List.length_nil, List.length_append, List.append_assoc, List.cons_append, List.nil_append, List.zip_cons_cons, List.zip_nil_right, Int.reduceAdd, Int.reduceSub, Int.reduceMul, Int.reduceLT, Int.reduceLE, Int.reduceNeg, Int.reduceToNat, Int.zero_add, Int.add_zero, decide_true, decide_false, Nat.reduceLeDiff, Nat.min_self, List.drop_succ_cons, List.drop_zero, List.drop_nil, List.take_succ_cons, List.take_zero, List.take_nil, List.all_cons, List.all_nil, Bool.and_true, Bool.true_and, Nat.mul_one, List.singleton_append, Int.le_refl, Nat.le_refl, c40, r40, hlp]
  simp -implicitDefEqProofs only [runEqs, List.zipIdx_cons, List.zipIdx_nil, List.map_cons, List.map_nil, Nat.zero_add, Nat.add_zero, Nat.zero_mul, Nat.reduceAdd, Nat.reduceMul, Nat.reduceBEq, Nat.reduceLT, Nat.reduceSub, Option.map_some, Option.map_none, Option.isSome_some, Option.isSome_none, Bool.not_true, Bool.not_false, Bool.true_or, Bool.false_or, Bool.or_true, List.getElem?_cons_zero, List.getElem?_cons_succ, List.set_cons_zero, List.set_cons_succ, List.length_cons, List.length_nil, List.length_append, List.append_assoc, List.cons_append, List.nil_append, List.zip_cons_cons, List.zip_nil_right, Int.reduceAdd, Int.reduceSub, Int.reduceMul, Int.reduceLT, Int.reduceLE, Int.reduceNeg, Int.reduceToNat, Int.zero_add, Int.add_zero, decide_true, decide_false, Nat.reduceLeDiff, Nat.min_self, List.drop_succ_cons, List.drop_zero, List.drop_nil, List.take_succ_cons, List.take_zero, List.take_nil, List.all_cons, List.all_nil, Bool.and_true, Bool.true_and, Nat.mul_one, List.singleton_append, Int.le_refl, Nat.le_refl, c40_0, hf, S8.take8, S8.len, S8.one, List.length_replicate]

/-! ### the inverse -/
theorem und_rnd (r : Nat) (s : S8) : und r (rnd r s) = s := by
  obtain ⟨a, b, c, d, e, f, g, h⟩ := s
  have r1 := fun x => rot_inv x 16 16 rfl (by decide) (by decide)
  have r2 := fun x => rot_inv x 7 25 rfl (by decide) (by decide)
  have hx : ∀ x y : BitVec 32, (x ^^^ y) ^^^ y = x := fun x y => by rw [BitVec.xor_assoc, BitVec.xor_self, BitVec.xor_zero]
  have hs : ∀ x y : BitVec 32, x + y - y = x := fun x y => BitVec.add_sub_cancel x y
  show S8.mk _ _ _ _ _ _ _ _ = _
  simp only [rnd, und_mk, r1, r2, hx, hs]
theorem rnd_und (r : Nat) (s : S8) : rnd r (und r s) = s := by
  obtain ⟨a, b, c, d, e, f, g, h⟩ := s
  have r1 := fun x => rot_inv x 16 16 rfl (by decide) (by decide)
  have r2 := fun x => rot_inv x 25 7 rfl (by decide) (by decide)
  have hx : ∀ x y : BitVec 32, (x ^^^ y) ^^^ y = x := fun x y => by rw [BitVec.xor_assoc, BitVec.xor_self, BitVec.xor_zero]
  have hs : ∀ x y : BitVec 32, x - y + y = x := fun x y => BitVec.sub_add_cancel x y
  simp only [rnd, und_mk, r1, r2, hx, hs]
theorem undo_perm (s : S8) : ∀ k, k ≤ 12 → stK (rounds 12 s) k = rounds (12 - k) s
  | 0, _ => rfl
  | k + 1, h => by
    rw [stK, undo_perm s k (by omega)]
    obtain ⟨m, hm⟩ : ∃ m, 12 - k = m + 1 := ⟨11 - k, by omega⟩
    have e1 : 11 - k = m := by omega
    have e2 : 12 - (k + 1) = m := by omega
    rw [hm, e1, e2, rounds, und_rnd]
theorem perm_undo (s : S8) : ∀ j, j ≤ 12 → rounds j (stK s 12) = stK s (12 - j)
  | 0, _ => rfl
  | j + 1, h => by
    rw [rounds, perm_undo s j (by omega)]
    obtain ⟨m, hm⟩ : ∃ m, 12 - j = m + 1 := ⟨11 - j, by omega⟩
    have e1 : 12 - (j + 1) = m := by omega
    have e2 : 11 - m = j := by omega
    rw [hm, e1, stK, e2, rnd_und]
end Go.Proofs.Ytccepmhhilhajaa.K

/- SumsBijection: the law's walk. -/
set_option linter.unusedVariables false
set_option linter.unusedSimpArgs false
set_option maxRecDepth 100000
namespace Go.Proofs.Ytccepmhhilhajaa.K
open Go Go.A

theorem eq8 (s : S8) : evEqL [.int, .int, .int, .int, .int, .int, .int, .int] s.cells s.cells = some true := by
  simp only [S8.cells, eqL_cons, eq_u32, eqL_nil, kE1_some, kE2_some, beq_self_eq_true, Bool.and_self]
theorem eight_of (l : List (BitVec 32)) (h : l.length = 8) : ∃ s : S8, cu32 l = s.cells := by
  match l, h with
  | [a, b, c, d, e, f, g, i], _ => exact ⟨⟨a, b, c, d, e, f, g, i⟩, rfl⟩
theorem law9 (s : S8) (h : Heap) : ∃ u' h', (run T).call 9 [.agg s.cells] none h = some (.ret (.bool true), u', h') := by
  have h41 := call41 s
  have h40 := call40 (rounds 12 s)
  have h40' := call40 s
  have h41' := call41 (stK s 12)
  rw [show stK (rounds 12 s) 12 = s from undo_perm s 12 (by omega)] at h40
  rw [show rounds 12 (stK s 12) = s from perm_undo s 12 (by omega)] at h41'
  have he := eq8 s
  refine ⟨none, ?_⟩
  rw [call_gc0 fn9]
  simp -implicitDefEqProofs only [runEqs, List.zipIdx_cons, List.zipIdx_nil, List.map_cons, List.map_nil, Nat.zero_add, Nat.add_zero, Nat.zero_mul, Nat.reduceAdd, Nat.reduceMul, Nat.reduceBEq, Nat.reduceLT, Nat.reduceSub, Option.map_some, Option.map_none, Option.isSome_some, Option.isSome_none, Bool.not_true, Bool.not_false, Bool.true_or, Bool.false_or, Bool.or_true, List.getElem?_cons_zero, List.getElem?_cons_succ, List.set_cons_zero, List.set_cons_succ, List.length_cons, List.length_nil, List.length_append, List.append_assoc, List.cons_append, List.nil_append, List.zip_cons_cons, List.zip_nil_right, Int.reduceAdd, Int.reduceSub, Int.reduceMul, Int.reduceLT, Int.reduceLE, Int.reduceNeg, Int.reduceToNat, Int.zero_add, Int.add_zero, decide_true, decide_false, Nat.reduceLeDiff, Nat.min_self, List.drop_succ_cons, List.drop_zero, List.drop_nil, List.take_succ_cons, List.take_zero, List.take_nil, List.all_cons, List.all_nil, Bool.and_true, Bool.true_and, Nat.mul_one, List.singleton_append, Int.le_refl, Nat.le_refl, c9, r9, call14, S8.take8, S8.len, h41, h40, h40', h41', he]
  exact ⟨_, rfl⟩
end Go.Proofs.Ytccepmhhilhajaa.K

