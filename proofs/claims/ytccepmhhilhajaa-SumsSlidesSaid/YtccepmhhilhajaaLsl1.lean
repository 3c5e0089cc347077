/- Texts of this claim, put together (KLaw6): lemmas towards the statement; no conditions of their own. -/
import Derived.Test.YtccepmhhilhajaaLb5
/- SumsSlides: the law's walk. -/
set_option linter.unusedVariables false
set_option linter.unusedSimpArgs false
set_option maxRecDepth 100000
namespace Go.Proofs.Ytccepmhhilhajaa.K
open Go Go.A

theorem eqRoll (q : Roll) : evEqL [.int, .int, .int] q.cells q.cells = some true := by
  simp only [Roll.cells, eqL_cons, eq_u32, eq_i64, eqL_nil, kE1_some, kE2_some, beq_self_eq_true, Bool.and_self]

/-- What a round compares. -/
theorem round6 (l : List (BitVec 8)) (hl : l.length ≤ 600) (n k : Nat) (hn : 1 ≤ n) (hk : n + k < l.length) (H : Heap) (v out : V) (hv : rc 1 H v = some (cu8 l)) (ho : rc 1 H out = some (cu32 (wins l n (l.length - n + 1)))) (g : Heap) :
    ∃ g', Nxt (execC (run T) c6_0 ⟨[0, 1, 5, 7, 8].zip [v, i64 n, out, .ptr H.length 0, i64 k], [], some none⟩ (H ++ .cells .ex (sumL (win l n k)).cells :: g)) [0, 1, 5, 7, 8]
      [v, i64 n, out, .ptr H.length 0, i64 ((k + 1 : Nat) : Int)] [] (some none) (H ++ .cells .ex (sumL (win l n (k + 1))).cells :: g') := by
  have hlv : lenOf v = l.length := by have := rc_len hv; rw [cu8_len] at this; omega
  have hs := rc_isS hv
  have hol : lenOf out = l.length - n + 1 := by have := rc_len ho; rw [cu32_len, wins_len] at this; omega
  have had : wr ((k : Int) + (n : Int)) = ((n + k : Nat) : Int) := by rw [wr_id (by omega) (by omega)]; omega
  have hw := wr_succ_nat k (by omega)
  have hle : decide (((n + k : Nat) : Int) ≤ (l.length : Int)) = true := by simpa using by omega
  have hne : (((n + k : Nat) : Int) == (l.length : Int)) = false := by simp only [beq_eq_false_iff_ne, ne_eq]; omega
  have hsl := sl_lh hv (k : Int) ((n + k : Nat) : Int) (by omega) (by omega) (by rw [hlv]; omega)
  have e1 : ((k : Int)).toNat = k := by omega
  have e2 : (((n + k : Nat) : Int)).toNat = n + k := by omega
  rw [e1, e2] at hsl
  have hrc := rc_slc hv k (n + k) (by omega) (by omega)
  simp only [Nat.mul_one, cu8_take, cu8_drop] at hrc
  have hwl := win_len l n k (by omega)
  have h19 := fun X => call19 (win l n k) (by omega) (H ++ X) (slc 1 v k (n + k)) (rc_app hrc X)
  have hkl : k < l.length := by omega
  have hko : k < l.length - n + 1 := by omega
  have hat : ∀ x, kAt (offOf v + k) (cellsAt (H ++ x) (blkOf v)) = some (u8 l[k]) := fun x => by rw [rc_at_app hv x k (by rw [cu8_len]; omega), cu8_at]
  have hat2 : ∀ x, kAt (offOf v + (n + k)) (cellsAt (H ++ x) (blkOf v)) = some (u8 l[n + k]) := fun x => by rw [rc_at_app hv x (n + k) (by rw [cu8_len]; omega), cu8_at]
  have hat3 : ∀ x, kAt (offOf out + k) (cellsAt (H ++ x) (blkOf out)) = some (u32 (sumL (win l n k)).val) := fun x => by
    rw [rc_at_app ho x k (by rw [cu32_len, wins_len]; omega), cu32_at _ _ (by rw [wins_len]; omega)]
    simp [wins]
  have h15 : ∀ h, (run T).call 15 [.agg (sumL (win l n k)).cells, u8 l[k], u8 l[n + k]] none h = some (.ret (.tup [.agg (sumL (win l n (k + 1))).cells, i64 0]), none, h) := fun h => by
    rw [call15, win_slide l n k hn hk (by omega), slideE, if_pos (sumL_ok _ (by omega) (by omega))]
  have heq := eqRoll (sumL (win l n k))
  have hb : ((sumL (win l n k)).val != (sumL (win l n k)).val) = false := by simp
  have h0 : ((0 : Int) != 0) = false := rfl
  generalize sumL (win l n k) = r at *
  generalize sumL (win l n (k + 1)) = r' at *
  refine ⟨g ++ [.cells .ex r'.cells], ?_⟩
  simp -implicitDefEqProofs only [runEqs, List.zipIdx_cons, List.zipIdx_nil, List.map_cons, List.map_nil, Nat.zero_add, Nat.add_zero, Nat.zero_mul, Nat.reduceAdd, Nat.reduceMul, Nat.reduceBEq, Nat.reduceLT, Nat.reduceSub, Option.map_some, Option.map_none, Option.isSome_some, Option.isSome_none, Bool.not_true, Bool.not_false, Bool.true_or, Bool.false_or, Bool.or_true, List.getElem?_cons_zero, List.getElem?_cons_succ, List.set_cons_zero, List.set_cons_succ, List.length_cons, List.length_nil, List.length_append, List.append_assoc, List.cons_append, List.nil_append, List.zip_cons_cons, List.zip_nil_right, Int.reduceAdd, Int.reduceSub, Int.reduceMul, Int.reduceLT, Int.reduceLE, Int.reduceNeg, Int.reduceToNat, Int.zero_add, Int.add_zero, decide_true, decide_false, Nat.reduceLeDiff, Nat.min_self, List.drop_succ_cons, List.drop_zero, List.drop_nil, List.take_succ_cons, List.take_zero, List.take_nil, List.all_cons, List.all_nil, Bool.and_true, Bool.true_and, Nat.mul_one, List.singleton_append, Int.le_refl, Nat.le_refl, c6_0, vLen_of, hs, hlv, had, hw, hle, hne, hsl, h19, Roll.len3, Roll.take3, Roll.one, heq, h21, vIS_of, hol, hkl, hk, hko, hat, hat2, hat3, neq_u32, hb, h15, h0]
  exact nxt_some _ _ _ _ _ _ _ rfl rfl

theorem last6 (l : List (BitVec 8)) (hl : l.length ≤ 600) (n k : Nat) (hn : 1 ≤ n) (hk : n + k = l.length) (H : Heap) (v out : V) (hv : rc 1 H v = some (cu8 l)) (ho : rc 1 H out = some (cu32 (wins l n (l.length - n + 1)))) (g : Heap) :
    ∃ t, execC (run T) c6_0 ⟨[(0, v), (1, i64 n), (5, out), (7, .ptr H.length 0), (8, i64 k)], [], some none⟩ (H ++ .cells .ex (sumL (win l n k)).cells :: g) = some (.exit 0, ⟨t, [], some none⟩, H ++ .cells .ex (sumL (win l n k)).cells :: g) := by
  have hlv : lenOf v = l.length := by have := rc_len hv; rw [cu8_len] at this; omega
  have hs := rc_isS hv
  have hol : lenOf out = l.length - n + 1 := by have := rc_len ho; rw [cu32_len, wins_len] at this; omega
  have had : wr ((k : Int) + (n : Int)) = ((n + k : Nat) : Int) := by rw [wr_id (by omega) (by omega)]; omega
  have hle : decide (((n + k : Nat) : Int) ≤ (l.length : Int)) = true := by simpa using by omega
  have hne : (((n + k : Nat) : Int) == (l.length : Int)) = true := by simp only [beq_iff_eq]; omega
  have hsl := sl_lh hv (k : Int) ((n + k : Nat) : Int) (by omega) (by omega) (by rw [hlv]; omega)
  have e1 : ((k : Int)).toNat = k := by omega
  have e2 : (((n + k : Nat) : Int)).toNat = n + k := by omega
  rw [e1, e2] at hsl
  have hrc := rc_slc hv k (n + k) (by omega) (by omega)
  simp only [Nat.mul_one, cu8_take, cu8_drop] at hrc
  have hwl := win_len l n k (by omega)
  have h19 := fun X => call19 (win l n k) (by omega) (H ++ X) (slc 1 v k (n + k)) (rc_app hrc X)
  have hko : k < l.length - n + 1 := by omega
  have hat3 : ∀ x, kAt (offOf out + k) (cellsAt (H ++ x) (blkOf out)) = some (u32 (sumL (win l n k)).val) := fun x => by
    rw [rc_at_app ho x k (by rw [cu32_len, wins_len]; omega), cu32_at _ _ (by rw [wins_len]; omega)]
    simp [wins]
  have heq := eqRoll (sumL (win l n k))
  have hb : ((sumL (win l n k)).val != (sumL (win l n k)).val) = false := by simp
  generalize sumL (win l n k) = r at *
  simp -implicitDefEqProofs only [runEqs, List.zipIdx_cons, List.zipIdx_nil, List.map_cons, List.map_nil, Nat.zero_add, Nat.add_zero, Nat.zero_mul, Nat.reduceAdd, Nat.reduceMul, Nat.reduceBEq, Nat.reduceLT, Nat.reduceSub, Option.map_some, Option.map_none, Option.isSome_some, Option.isSome_none, Bool.not_true, Bool.not_false, Bool.true_or, Bool.false_or, Bool.or_true, List.getElem?_cons_zero, List.getElem?_cons_succ, List.set_cons_zero, List.set_cons_succ, List.length_cons, List.length_nil, List.length_append, List.append_assoc, List.cons_append, List.nil_append, List.zip_cons_cons, List.zip_nil_right, Int.reduceAdd, Int.reduceSub, Int.reduceMul, Int.reduceLT, Int.reduceLE, Int.reduceNeg, Int.reduceToNat, Int.zero_add, Int.add_zero, decide_true, decide_false, Nat.reduceLeDiff, Nat.min_self, List.drop_succ_cons, List.drop_zero, List.drop_nil, List.take_succ_cons, List.take_zero, List.take_nil, List.all_cons, List.all_nil, Bool.and_true, Bool.true_and, Nat.mul_one, List.singleton_append, Int.le_refl, Nat.le_refl, c6_0, vLen_of, hs, hlv, had, hle, hne, hsl, h19, Roll.len3, Roll.take3, Roll.one, heq, h21, vIS_of, hol, hko, hat3, neq_u32, hb]
  exact ⟨_, rfl⟩

theorem law6 (l : List (BitVec 8)) (n : Int) (hn0 : -9223372036854775808 ≤ n) (hn : n < 9223372036854775808) (h : Heap) (v : V) (hv : rc 1 h v = some (cu8 l)) :
    ∃ u' h', (run T).call 6 [v, i64 n] none h = some (.ret (.bool true), u', h') := by
  have hlv : lenOf v = l.length := by have := rc_len hv; rw [cu8_len] at this; omega
  have hs := rc_isS hv
  by_cases hc : l.length > 600
  · have hg : decide ((l.length : Int) > 600) = true := by simp; omega
    refine ⟨none, h, ?_⟩
    rw [call_gc0 fn6]
    simp -implicitDefEqProofs only [runEqs, List.zipIdx_cons, List.zipIdx_nil, List.map_cons, List.map_nil, Nat.zero_add, Nat.add_zero, Nat.zero_mul, Nat.reduceAdd, Nat.reduceMul, Nat.reduceBEq, Nat.reduceLT, Nat.reduceSub, Option.map_some, Option.map_none, Option.isSome_some, Option.isSome_none, Bool.not_true, Bool.not_false, Bool.true_or, Bool.false_or, Bool.or_true, List.getElem?_cons_zero, List.getElem?_cons_succ, List.set_cons_zero, List.set_cons_succ, List.length_cons, List.length_nil, List.length_append, List.append_assoc, List.cons_append, List.nil_append, List.zip_cons_cons, List.zip_nil_right, Int.reduceAdd, Int.reduceSub, Int.reduceMul, Int.reduceLT, Int.reduceLE, Int.reduceNeg, Int.reduceToNat, Int.zero_add, Int.add_zero, decide_true, decide_false, Nat.reduceLeDiff, Nat.min_self, List.drop_succ_cons, List.drop_zero, List.drop_nil, List.take_succ_cons, List.take_zero, List.take_nil, List.all_cons, List.all_nil, Bool.and_true, Bool.true_and, Nat.mul_one, List.singleton_append, Int.le_refl, Nat.le_refl, c6, r6, vLen_of, hs, hlv, hg, call14]
  have hg : decide ((l.length : Int) > 600) = false := by simp; omega
  by_cases hc1 : n < 1
  · have hg1 : decide (n < 1) = true := by simpa using hc1
    refine ⟨none, h, ?_⟩
    rw [call_gc0 fn6]
    simp -implicitDefEqProofs only [runEqs, List.zipIdx_cons, List.zipIdx_nil, List.map_cons, List.map_nil, Nat.zero_add, Nat.add_zero, Nat.zero_mul, Nat.reduceAdd, Nat.reduceMul, Nat.reduceBEq, Nat.reduceLT, Nat.reduceSub, Option.map_some, Option.map_none, Option.isSome_some, Option.isSome_none, Bool.not_true, Bool.not_false, Bool.true_or, Bool.false_or, Bool.or_true, List.getElem?_cons_zero, List.getElem?_cons_succ, List.set_cons_zero, List.set_cons_succ, List.length_cons, List.length_nil, List.length_append, List.append_assoc, List.cons_append, List.nil_append, List.zip_cons_cons, List.zip_nil_right, Int.reduceAdd, Int.reduceSub, Int.reduceMul, Int.reduceLT, Int.reduceLE, Int.reduceNeg, Int.reduceToNat, Int.zero_add, Int.add_zero, decide_true, decide_false, Nat.reduceLeDiff, Nat.min_self, List.drop_succ_cons, List.drop_zero, List.drop_nil, List.take_succ_cons, List.take_zero, List.take_nil, List.all_cons, List.all_nil, Bool.and_true, Bool.true_and, Nat.mul_one, List.singleton_append, Int.le_refl, Nat.le_refl, c6, r6, vLen_of, hs, hlv, hg, hg1, call14]
  have hg1 : decide (n < 1) = false := by simpa using hc1
  by_cases hc2 : n > (l.length : Int)
  · have hg2 : decide (n > (l.length : Int)) = true := by simpa using hc2
    refine ⟨none, h, ?_⟩
    rw [call_gc0 fn6]
    simp -implicitDefEqProofs only [runEqs, List.zipIdx_cons, List.zipIdx_nil, List.map_cons, List.map_nil, Nat.zero_add, Nat.add_zero, Nat.zero_mul, Nat.reduceAdd, Nat.reduceMul, Nat.reduceBEq, Nat.reduceLT, Nat.reduceSub, Option.map_some, Option.map_none, Option.isSome_some, Option.isSome_none, Bool.not_true, Bool.not_false, Bool.true_or, Bool.false_or, Bool.or_true, List.getElem?_cons_zero, List.getElem?_cons_succ, List.set_cons_zero, List.set_cons_succ, List.length_cons, List.length_nil, List.length_append, List.append_assoc, List.cons_append, List.nil_append, List.zip_cons_cons, List.zip_nil_right, Int.reduceAdd, Int.reduceSub, Int.reduceMul, Int.reduceLT, Int.reduceLE, Int.reduceNeg, Int.reduceToNat, Int.zero_add, Int.add_zero, decide_true, decide_false, Nat.reduceLeDiff, Nat.min_self, List.drop_succ_cons, List.drop_zero, List.drop_nil, List.take_succ_cons, List.take_zero, List.take_nil, List.all_cons, List.all_nil, Bool.and_true, Bool.true_and, Nat.mul_one, List.singleton_append, Int.le_refl, Nat.le_refl, c6, r6, vLen_of, hs, hlv, hg, hg1, hg2, call14]
  have hg2 : decide (n > (l.length : Int)) = false := by simpa using hc2
  obtain ⟨n, rfl⟩ : ∃ m : Nat, n = m := ⟨n.toNat, by omega⟩
  obtain ⟨out, gw, e17, ho⟩ := call17 l (by omega) n h v hv
  have e1 : winE (n : Int) = 0 := by rw [winE, if_neg hc1]
  have e2 : winV l (n : Int) = wins l n (l.length - n + 1) := by rw [winV, if_pos (by omega)]; rfl
  rw [e1] at e17
  rw [e2] at ho
  have hol : lenOf out = l.length - n + 1 := by have := rc_len ho; rw [cu32_len, wins_len] at this; omega
  have hos := rc_isS ho
  have hv' := rc_app hv gw
  have hsl := sl_hi hv (n : Int) (by omega) (by rw [hlv]; omega)
  have hnn : ((n : Int)).toNat = n := by omega
  rw [hnn] at hsl
  have hrc := rc_slc hv 0 n (by omega) (by omega)
  simp only [Nat.mul_one, Nat.zero_mul, List.drop_zero, cu8_take] at hrc
  have h19 := call19 (l.take n) (by simp; omega) (h ++ gw) (slc 1 v 0 n) (rc_app hrc gw)
  have hw0 : l.take n = win l n 0 := by simp [win]
  rw [hw0] at h19
  have hsb : wr ((l.length : Int) - (n : Int)) = ((l.length - n : Nat) : Int) := by rw [wr_id (by omega) (by omega)]; omega
  have hsa : wr (((l.length - n : Nat) : Int) + 1) = ((l.length - n + 1 : Nat) : Int) := wr_succ_nat _ (by omega)
  have hne : (((l.length - n + 1 : Nat) : Int) != ((l.length - n + 1 : Nat) : Int)) = false := by simp
  have h0 : ((0 : Int) != 0) = false := rfl
  obtain ⟨vs', h', ⟨g, rfl, rfl⟩, hlp⟩ := loop_up (T := T) (L := [0, 1, 5, 7, 8]) (c := c6_0) (d := []) (u := some none)
    (fun k vs hh => ∃ g, vs = [v, i64 n, out, .ptr (h ++ gw).length 0, i64 ((k : Nat) : Int)] ∧ hh = (h ++ gw) ++ .cells .ex (sumL (win l n k)).cells :: g) (l.length - n)
    (by
      rintro k vs hh hk ⟨g, rfl, rfl⟩
      obtain ⟨g', a⟩ := round6 l (by omega) n k (by omega) (by omega) (h ++ gw) v out hv' ho g
      exact ⟨_, _, a, g', rfl, rfl⟩)
    [v, i64 n, out, .ptr (h ++ gw).length 0, i64 0] ((h ++ gw) ++ [.cells .ex (sumL (win l n 0)).cells]) ⟨[], rfl, rfl⟩
  obtain ⟨t, hlast⟩ := last6 l (by omega) n (l.length - n) (by omega) (by omega) (h ++ gw) v out hv' ho g
  simp only [List.zip_cons_cons, List.zip_nil_right, hlast, kLp_exit] at hlp
  simp only [List.append_assoc, List.length_append, List.cons_append, List.nil_append] at hlp h19
  refine ⟨none, ?_⟩
  rw [call_gc0 fn6]
  simp -implicitDefEqProofs only [runEqs, List.zipIdx_cons, List.zipIdx_nil, List.map_cons, List.map_nil, Nat.zero_add, Nat.add_zero, Nat.zero_mul, Nat.reduceAdd, Nat.reduceMul, Nat.reduceBEq, Nat.reduceLT, Nat.reduceSub, Option.map_some, Option.map_none, Option.isSome_some, Option.isSome_none, Bool.not_true, Bool.not_false, Bool.true_or, Bool.false_or, Bool.or_true, List.getElem?_cons_zero, List.getElem?_cons_succ, List.set_cons_zero, List.set_cons_succ, List.length_cons, List.length_nil, List.length_append, List.append_assoc, List.cons_append, List.nil_append, List.zip_cons_cons, List.zip_nil_right, Int.reduceAdd, Int.reduceSub, Int.reduceMul, Int.reduceLT, Int.reduceLE, Int.reduceNeg, Int.reduceToNat, Int.zero_add, Int.add_zero, decide_true, decide_false, Nat.reduceLeDiff, Nat.min_self, List.drop_succ_cons, List.drop_zero, List.drop_nil, List.take_succ_cons, List.take_zero, List.take_nil, List.all_cons, List.all_nil, Bool.and_true, Bool.true_and, Nat.mul_one, List.singleton_append, Int.le_refl, Nat.le_refl, c6, r6, vLen_of, hs, hlv, hg, hg1, hg2, e17, h0, hos, hol, hsb, hsa, hne, hsl, h19, Roll.len3, Roll.take3, Roll.one, hlp, call14]
  exact ⟨_, rfl⟩
end Go.Proofs.Ytccepmhhilhajaa.K

