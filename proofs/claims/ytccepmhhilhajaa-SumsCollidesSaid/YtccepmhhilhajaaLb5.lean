/- Texts of this claim, put together (KWin2, KCrc, KCrc2, KEval, KSane): lemmas towards the statement; no conditions of their own. -/
import Derived.Test.YtccepmhhilhajaaLb4
/- Windows: what it computes. -/
set_option linter.unusedVariables false
set_option linter.unusedSimpArgs false
set_option maxRecDepth 100000
namespace Go.Proofs.Ytccepmhhilhajaa.K
open Go Go.A

theorem Roll.len3 (r : Roll) : r.cells.length = 3 := Eq.trans rfl rfl
theorem Roll.take3 (r : Roll) : r.cells.take 3 = r.cells := Eq.trans rfl rfl
theorem Roll.ag3 (r : Roll) : kAg 0 3 (some r.cells) = some (.agg r.cells) := Eq.trans rfl rfl
theorem h21 (r : Roll) (h : Heap) : (run T).call 21 [.agg r.cells] none h = some (.ret (u32 r.val), none, h) := call21 r h
theorem h22 (r : Roll) (h : Heap) : (run T).call 22 [.agg r.cells] none h = some (.ret (u32 r.val), none, h) := call22 r h

def winV (l : List (BitVec 8)) (n : Int) : List (BitVec 32) := if 1 ≤ n ∧ n ≤ l.length then wins l n.toNat (l.length - n.toNat + 1) else []
def winE (n : Int) : Int := if n < 1 then 1 else 0

theorem round17 (l : List (BitVec 8)) (hl : l.length < 2147483648) (n k : Nat) (hn : 1 ≤ n) (hk : n + k < l.length) (H : Heap) (v : V) (hv : rc 1 H v = some (cu8 l)) (out : V) (g : Heap)
    (ho : Own (H.length + 1) 1 (H ++ .cells .ex (sumL (win l n k)).cells :: g) out (cu32 (wins l n (k + 1)))) :
    ∃ out' g', Nxt (execC (run T) c17_0 ⟨[0, 1, 6, 7, 8].zip [v, i64 n, .ptr H.length 0, out, i64 ((n + k : Nat) : Int)], [], some none⟩ (H ++ .cells .ex (sumL (win l n k)).cells :: g)) [0, 1, 6, 7, 8]
      [v, i64 n, .ptr H.length 0, out', i64 ((n + (k + 1) : Nat) : Int)] [] (some none) (H ++ .cells .ex (sumL (win l n (k + 1))).cells :: g') ∧
      Own (H.length + 1) 1 (H ++ .cells .ex (sumL (win l n (k + 1))).cells :: g') out' (cu32 (wins l n (k + 1 + 1))) := by
  have hlt : decide (((n + k : Nat) : Int) < (l.length : Int)) = true := by simpa using by omega
  have hw := wr_succ_nat (n + k) (by omega)
  have hsb : wr (((n + k : Nat) : Int) - (n : Int)) = (k : Int) := by rw [wr_id (by omega) (by omega)]; omega
  have hlv : lenOf v = l.length := by have := rc_len hv; rw [cu8_len] at this; omega
  have hs := rc_isS hv
  have hk' : k < l.length := by omega
  have hat : ∀ x, kAt (offOf v + k) (cellsAt (H ++ x) (blkOf v)) = some (u8 l[k]) := fun x => by rw [rc_at_app hv x k (by rw [cu8_len]; omega), cu8_at]
  have hat2 : ∀ x, kAt (offOf v + (n + k)) (cellsAt (H ++ x) (blkOf v)) = some (u8 l[n + k]) := fun x => by rw [rc_at_app hv x (n + k) (by rw [cu8_len]; omega), cu8_at]
  have h15 : ∀ h, (run T).call 15 [.agg (sumL (win l n k)).cells, u8 l[k], u8 l[n + k]] none h = some (.ret (.tup [.agg (sumL (win l n (k + 1))).cells, i64 (slideE (sumL (win l n k)))]), none, h) := fun h => by
    rw [call15, win_slide l n k hn hk hl]
  have hol : lenOf out = k + 1 := by have := ho.len; rw [cu32_len, wins_len] at this; omega
  have ho1 : Own (H.length + 1) 1 (H ++ .cells .ex (sumL (win l n (k + 1))).cells :: (g ++ [.cells .ex [u32 (sumL (win l n (k + 1))).val]])) out (cu32 (wins l n (k + 1))) := by
    rcases ho with ⟨rfl, e⟩ | ⟨b, m, q, a1, a2, a3, a4, rfl⟩
    · exact .inl ⟨rfl, e⟩
    · refine .inr ⟨b, m, q, a1, ?_, a3, a4, rfl⟩
      rw [List.getElem?_append_right (by omega)] at a2 ⊢
      obtain ⟨j, hj⟩ : ∃ j, b - H.length = j + 1 := ⟨b - H.length - 1, by omega⟩
      rw [hj, List.getElem?_cons_succ] at a2 ⊢
      rw [List.getElem?_append_left (List.getElem?_eq_some_iff.1 a2).1]
      exact a2
  have hx : rc 1 (H ++ .cells .ex (sumL (win l n (k + 1))).cells :: (g ++ [.cells .ex [u32 (sumL (win l n (k + 1))).val]])) (.sl 1 (H.length + (g.length + 1)) 0 1 1) = some (cu32 [(sumL (win l n (k + 1))).val]) := by
    refine rc_newAt 1 _ .ex _ 1 _ rfl ?_
    rw [List.getElem?_append_right (by omega), show H.length + (g.length + 1) - H.length = g.length + 1 by omega, List.getElem?_cons_succ, List.getElem?_append_right (by omega), Nat.sub_self]
    rfl
  obtain ⟨out', g', e1, e2, e3⟩ := app_own' (bts := 4) (by omega) (by simp) ho1 hx (cu32_one _) (by rw [hol]; simp only [lenOf]; omega) (by rw [hol]; simp only [lenOf]; omega) (H ++ [.cells .ex (sumL (win l n (k + 1))).cells]) (take_one _ _ _)
  rw [cu32_app, ← wins_succ] at e2
  rw [List.append_assoc, List.singleton_append] at e1 e2
  refine ⟨out', g', ?_, e2⟩
  simp -implicitDefEqProofs only [runEqs, List.zipIdx_cons, List.zipIdx_nil, List.map_cons, List.map_nil, Nat.zero_add, Nat.add_zero, Nat.zero_mul, Nat.reduceAdd, Nat.reduceMul, Nat.reduceBEq, Nat.reduceLT, Nat.reduceSub, Option.map_some, Option.map_none, Option.isSome_some, Option.isSome_none, Bool.not_true, Bool.not_false, Bool.true_or, Bool.false_or, Bool.or_true, List.getElem?_cons_zero, List.getElem?_cons_succ, List.set_cons_zero, List.set_cons_succ, List.length_cons, List.length_nil, List.length_append, List.append_assoc, List.cons_append, List.nil_append, List.zip_cons_cons, List.zip_nil_right, Int.reduceAdd, Int.reduceSub, Int.reduceMul, Int.reduceLT, Int.reduceLE, Int.reduceNeg, Int.reduceToNat, Int.zero_add, Int.add_zero, decide_true, decide_false, Nat.reduceLeDiff, Nat.min_self, List.drop_succ_cons, List.drop_zero, List.drop_nil, List.take_succ_cons, List.take_zero, List.take_nil, List.all_cons, List.all_nil, Bool.and_true, Bool.true_and, Nat.mul_one, List.singleton_append, Int.le_refl, Nat.le_refl, c17_0, vLen_of, hs, hlv, hlt, hw, hsb, vIS_of, hk, hk', hat, hat2, h15, h21, Roll.len3, Roll.take3, Roll.one, e1]
  exact nxt_some _ _ _ _ _ _ _ rfl rfl

theorem call17 (l : List (BitVec 8)) (hl : l.length < 2147483648) (n : Int) (h : Heap) (v : V) (hv : rc 1 h v = some (cu8 l)) :
    ∃ out g, (run T).call 17 [v, i64 n] none h = some (.ret (.tup [out, i64 (winE n)]), none, h ++ g) ∧ rc 1 (h ++ g) out = some (cu32 (winV l n)) := by
  have hlv : lenOf v = l.length := by have := rc_len hv; rw [cu8_len] at this; omega
  have hs := rc_isS hv
  cases h1 : decide (n < 1) with
  | true =>
    have h1' : n < 1 := by simpa using h1
    refine ⟨.nils, [], ?_, ?_⟩
    · rw [call_gc0 fn17, winE, if_pos h1', List.append_nil]
      simp -implicitDefEqProofs only [runEqs, List.zipIdx_cons, List.zipIdx_nil, List.map_cons, List.map_nil, Nat.zero_add, Nat.add_zero, Nat.zero_mul, Nat.reduceAdd, Nat.reduceMul, Nat.reduceBEq, Nat.reduceLT, Nat.reduceSub, Option.map_some, Option.map_none, Option.isSome_some, Option.isSome_none, Bool.not_true, Bool.not_false, Bool.true_or, Bool.false_or, Bool.or_true, List.getElem?_cons_zero, List.getElem?_cons_succ, List.set_cons_zero, List.set_cons_succ, List.length_cons, List.length_nil, List.length_append, List.append_assoc, List.cons_append, List.nil_append, List.zip_cons_cons, List.zip_nil_right, Int.reduceAdd, Int.reduceSub, Int.reduceMul, Int.reduceLT, Int.reduceLE, Int.reduceNeg, Int.reduceToNat, Int.zero_add, Int.add_zero, decide_true, decide_false, Nat.reduceLeDiff, Nat.min_self, List.drop_succ_cons, List.drop_zero, List.drop_nil, List.take_succ_cons, List.take_zero, List.take_nil, List.all_cons, List.all_nil, Bool.and_true, Bool.true_and, Nat.mul_one, List.singleton_append, Int.le_refl, Nat.le_refl, c17, r17, h1]
    · rw [winV, if_neg (by omega)]; rfl
  | false =>
  have h1' : ¬ n < 1 := by simpa using h1
  cases h2 : decide (n > (l.length : Int)) with
  | true =>
    have h2' : n > (l.length : Int) := by simpa using h2
    refine ⟨.nils, [], ?_, ?_⟩
    · rw [call_gc0 fn17, winE, if_neg h1', List.append_nil]
      simp -implicitDefEqProofs only [runEqs, List.zipIdx_cons, List.zipIdx_nil, List.map_cons, List.map_nil, Nat.zero_add, Nat.add_zero, Nat.zero_mul, Nat.reduceAdd, Nat.reduceMul, Nat.reduceBEq, Nat.reduceLT, Nat.reduceSub, Option.map_some, Option.map_none, Option.isSome_some, Option.isSome_none, Bool.not_true, Bool.not_false, Bool.true_or, Bool.false_or, Bool.or_true, List.getElem?_cons_zero, List.getElem?_cons_succ, List.set_cons_zero, List.set_cons_succ, List.length_cons, List.length_nil, List.length_append, List.append_assoc, List.cons_append, List.nil_append, List.zip_cons_cons, List.zip_nil_right, Int.reduceAdd, Int.reduceSub, Int.reduceMul, Int.reduceLT, Int.reduceLE, Int.reduceNeg, Int.reduceToNat, Int.zero_add, Int.add_zero, decide_true, decide_false, Nat.reduceLeDiff, Nat.min_self, List.drop_succ_cons, List.drop_zero, List.drop_nil, List.take_succ_cons, List.take_zero, List.take_nil, List.all_cons, List.all_nil, Bool.and_true, Bool.true_and, Nat.mul_one, List.singleton_append, Int.le_refl, Nat.le_refl, c17, r17, h1, vLen_of, hs, hlv, h2]
    · rw [winV, if_neg (by omega)]; rfl
  | false =>
  have h2' : ¬ n > (l.length : Int) := by simpa using h2
  obtain ⟨n, rfl⟩ : ∃ m : Nat, n = m := ⟨n.toNat, by omega⟩
  have hn : 1 ≤ n := by omega
  have hnl : n ≤ l.length := by omega
  have e1 : winE (n : Int) = 0 := by rw [winE, if_neg h1']
  have e2 : winV l (n : Int) = wins l n (l.length - n + 1) := by rw [winV, if_pos (by omega)]; rfl
  rw [e1, e2]
  have hsl := sl_hi hv (n : Int) (by omega) (by rw [hlv]; exact hnl)
  have hnn : ((n : Int)).toNat = n := by omega
  rw [hnn] at hsl
  have hrc := rc_slc hv 0 n (by omega) (by omega)
  simp only [Nat.mul_one, Nat.zero_mul, List.drop_zero, cu8_take] at hrc
  have h19 := call19 (l.take n) (by simp; omega) h (slc 1 v 0 n) hrc
  have hw0 : l.take n = win l n 0 := by simp [win]
  rw [hw0] at h19
  have hr0 : Own (h.length + 1) 1 (h ++ .cells .ex (sumL (win l n 0)).cells :: [.cells .ex [u32 (sumL (win l n 0)).val]]) (.sl 1 (h.length + 1) 0 1 1) (cu32 (wins l n 1)) :=
    Own.mk (m := .ex) (by omega) (by rw [List.getElem?_append_right (by omega), show h.length + 1 - h.length = 1 by omega]; rfl) (.inl rfl) rfl
  obtain ⟨vs', h', ⟨out, g, rfl, rfl, ho⟩, hlp⟩ := loop_up (T := T) (L := [0, 1, 6, 7, 8]) (c := c17_0) (d := []) (u := some none)
    (fun k vs hh => ∃ out g, vs = [v, i64 n, .ptr h.length 0, out, i64 ((n + k : Nat) : Int)] ∧ hh = h ++ .cells .ex (sumL (win l n k)).cells :: g ∧ Own (h.length + 1) 1 (h ++ .cells .ex (sumL (win l n k)).cells :: g) out (cu32 (wins l n (k + 1)))) (l.length - n)
    (by
      rintro k vs hh hk ⟨out, g, rfl, rfl, ho⟩
      obtain ⟨out', g', a, b⟩ := round17 l hl n k hn (by omega) h v hv out g ho
      exact ⟨_, _, a, out', g', rfl, rfl, b⟩)
    [v, i64 n, .ptr h.length 0, .sl 1 (h.length + 1) 0 1 1, i64 n] (h ++ .cells .ex (sumL (win l n 0)).cells :: [.cells .ex [u32 (sumL (win l n 0)).val]])
    ⟨_, _, rfl, rfl, hr0⟩
  refine ⟨out, .cells .ex (sumL (win l n (l.length - n))).cells :: g, ?_, ho.rcn⟩
  have hf : decide (((n + (l.length - n) : Nat) : Int) < (l.length : Int)) = false := by simpa using by omega
  rw [call_gc0 fn17]
  simp only [List.zip_cons_cons, List.zip_nil_right] at hlp
  simp -implicitDefEqProofs only [runEqs, List.zipIdx_cons, List.zipIdx_nil, List.map_cons, List.map_nil, Nat.zero_add, Nat.add_zero, Nat.zero_mul, Nat.reduceAdd, Nat.reduceMul, Nat.reduceBEq, Nat.reduceLT, Nat.reduceSub, Option.map_some, Option.map_none, Option.isSome_some, Option.isSome_none, Bool.not_true, Bool.not_false, Bool.true_or, Bool.false_or, Bool.or_true, List.getElem?_cons_zero, List.getElem?_cons_succ, List.set_cons_zero, List.set_cons_succ, List.length_cons, List.length_nil, List.length_append, List.append_assoc, List.cons_append, List.nil_append, List.zip_cons_cons, List.zip_nil_right, Int.reduceAdd, Int.reduceSub, Int.reduceMul, Int.reduceLT, Int.reduceLE, Int.reduceNeg, Int.reduceToNat, Int.zero_add, Int.add_zero, decide_true, decide_false, Nat.reduceLeDiff, Nat.min_self, List.drop_succ_cons, List.drop_zero, List.drop_nil, List.take_succ_cons, List.take_zero, List.take_nil, List.all_cons, List.all_nil, Bool.and_true, Bool.true_and, Nat.mul_one, List.singleton_append, Int.le_refl, Nat.le_refl, c17, r17, h1, h2, vLen_of, hs, hlv, hsl, h19, h21, Roll.len3, Roll.take3, Roll.one, hlp]
  simp -implicitDefEqProofs only [runEqs, List.zipIdx_cons, List.zipIdx_nil, List.map_cons, List.map_nil, Nat.zero_add, Nat.add_zero, Nat.zero_mul, Nat.reduceAdd, Nat.reduceMul, Nat.reduceBEq, Nat.reduceLT, Nat.reduceSub, Option.map_some, Option.map_none, Option.isSome_some, Option.isSome_none, Bool.not_true, Bool.not_false, Bool.true_or, Bool.false_or, Bool.or_true, List.getElem?_cons_zero, List.getElem?_cons_succ, List.set_cons_zero, List.set_cons_succ, List.length_cons, List.length_nil, List.length_append, List.append_assoc, List.cons_append, List.nil_append, List.zip_cons_cons, List.zip_nil_right, Int.reduceAdd, Int.reduceSub, Int.reduceMul, Int.reduceLT, Int.reduceLE, Int.reduceNeg, Int.reduceToNat, Int.zero_add, Int.add_zero, decide_true, decide_false, Nat.reduceLeDiff, Nat.min_self, List.drop_succ_cons, List.drop_zero, List.drop_nil, List.take_succ_cons, List.take_zero, List.take_nil, List.all_cons, List.all_nil, Bool.and_true, Bool.true_and, Nat.mul_one, List.singleton_append, Int.le_refl, Nat.le_refl, c17_0, vLen_of, hs, hlv, hf]
end Go.Proofs.Ytccepmhhilhajaa.K

/- The checksum: what its functions compute. -/
set_option linter.unusedVariables false
set_option linter.unusedSimpArgs false
set_option maxRecDepth 100000
namespace Go.Proofs.Ytccepmhhilhajaa.K
open Go Go.A

/-- One step of the register. -/
def bit (p c : BitVec 32) : BitVec 32 := if (c &&& 1 == 1) = true then c >>> 1 ^^^ p else c >>> 1

def bits (p : BitVec 32) : Nat → BitVec 32 → BitVec 32
  | 0, c => c
  | n + 1, c => bit p (bits p n c)

def pol : BitVec 32 := 3252574743

def stp (c : BitVec 32) (x : BitVec 8) : BitVec 32 := bits pol 8 (c ^^^ x.setWidth 32)

theorem round75 (c p : BitVec 32) (b : Nat) (i : Nat) (hi : i < 8) (H : Heap) (hc : cellsAt H b = some [u32 p]) :
    Nxt (execC (run T) c75_0 ⟨[0, 2, 10].zip [u32 c, .ptr b 0, i64 i], [], some none⟩ H) [0, 2, 10] [u32 (bit p c), .ptr b 0, i64 ((i + 1 : Nat) : Int)] [] (some none) H := by
  have hlt : decide ((i : Int) < 8) = true := by simpa using by omega
  have hw : wr ((i : Int) + 1) = ((i + 1 : Nat) : Int) := by rw [wr_id (by omega) (by omega)]; rfl
  by_cases hb : (c &&& 1 == 1) = true
  · have e : bit p c = c >>> 1 ^^^ p := by unfold bit; rw [if_pos hb]
    rw [e]
    simp -implicitDefEqProofs only [runEqs, List.zipIdx_cons, List.zipIdx_nil, List.map_cons, List.map_nil, Nat.zero_add, Nat.add_zero, Nat.zero_mul, Nat.reduceAdd, Nat.reduceMul, Nat.reduceBEq, Nat.reduceLT, Nat.reduceSub, Option.map_some, Option.map_none, Option.isSome_some, Option.isSome_none, Bool.not_true, Bool.not_false, Bool.true_or, Bool.false_or, Bool.or_true, List.getElem?_cons_zero, List.getElem?_cons_succ, List.set_cons_zero, List.set_cons_succ, List.length_cons, List.length_nil, List.length_append, List.append_assoc, List.cons_append, List.nil_append, List.zip_cons_cons, List.zip_nil_right, Int.reduceAdd, Int.reduceSub, Int.reduceMul, Int.reduceLT, Int.reduceLE, Int.reduceNeg, Int.reduceToNat, Int.zero_add, Int.add_zero, decide_true, decide_false, Nat.reduceLeDiff, Nat.min_self, List.drop_succ_cons, List.drop_zero, List.drop_nil, List.take_succ_cons, List.take_zero, List.take_nil, List.all_cons, List.all_nil, Bool.and_true, Bool.true_and, Nat.mul_one, List.singleton_append, Int.le_refl, Nat.le_refl, c75_0, List.zip_cons_cons, List.zip_nil_right, lss_i64, hlt, hw, and_u32, eql_u32, hb, shr_u32_u64, xor_u32, add_i64, hc]
    exact nxt_some _ _ _ _ _ _ _ rfl rfl
  · have e : bit p c = c >>> 1 := by unfold bit; rw [if_neg hb]
    have hb' : (c &&& 1 == 1) = false := by simpa using hb
    rw [e]
    simp -implicitDefEqProofs only [runEqs, List.zipIdx_cons, List.zipIdx_nil, List.map_cons, List.map_nil, Nat.zero_add, Nat.add_zero, Nat.zero_mul, Nat.reduceAdd, Nat.reduceMul, Nat.reduceBEq, Nat.reduceLT, Nat.reduceSub, Option.map_some, Option.map_none, Option.isSome_some, Option.isSome_none, Bool.not_true, Bool.not_false, Bool.true_or, Bool.false_or, Bool.or_true, List.getElem?_cons_zero, List.getElem?_cons_succ, List.set_cons_zero, List.set_cons_succ, List.length_cons, List.length_nil, List.length_append, List.append_assoc, List.cons_append, List.nil_append, List.zip_cons_cons, List.zip_nil_right, Int.reduceAdd, Int.reduceSub, Int.reduceMul, Int.reduceLT, Int.reduceLE, Int.reduceNeg, Int.reduceToNat, Int.zero_add, Int.add_zero, decide_true, decide_false, Nat.reduceLeDiff, Nat.min_self, List.drop_succ_cons, List.drop_zero, List.drop_nil, List.take_succ_cons, List.take_zero, List.take_nil, List.all_cons, List.all_nil, Bool.and_true, Bool.true_and, Nat.mul_one, List.singleton_append, Int.le_refl, Nat.le_refl, c75_0, List.zip_cons_cons, List.zip_nil_right, lss_i64, hlt, hw, and_u32, eql_u32, hb', shr_u32_u64, xor_u32, add_i64, hc]
    exact nxt_some _ _ _ _ _ _ _ rfl rfl

theorem loop75 (c p : BitVec 32) (b : Nat) (H : Heap) (hc : cellsAt H b = some [u32 p]) (t : Env) (ht : kK [0, 2, 10] t = [(0, u32 c), (2, .ptr b 0), (10, i64 0)]) :
    execC (run T) (.loop (.seq (.keep [0, 2, 10]) c75_0)) ⟨t, [], some none⟩ H = some (.exit 0, ⟨[(11, .bool false), (0, u32 (bits p 8 c)), (2, .ptr b 0), (10, i64 8)], [], some none⟩, H) := by
  refine loop_keep (T := T) (L := [0, 2, 10]) (c := c75_0) (d := []) (u := some none) (fun i => [u32 (bits p i c), .ptr b 0, i64 i]) (fun _ => H) (e := .exit 0) (fun e => by cases e) 8
    (fun i hi => round75 (bits p i c) p b i hi H hc) ?_ t ht
  have hf : decide (((8 : Nat) : Int) < 8) = false := by decide
  simp -implicitDefEqProofs only [runEqs, List.zipIdx_cons, List.zipIdx_nil, List.map_cons, List.map_nil, Nat.zero_add, Nat.add_zero, Nat.zero_mul, Nat.reduceAdd, Nat.reduceMul, Nat.reduceBEq, Nat.reduceLT, Nat.reduceSub, Option.map_some, Option.map_none, Option.isSome_some, Option.isSome_none, Bool.not_true, Bool.not_false, Bool.true_or, Bool.false_or, Bool.or_true, List.getElem?_cons_zero, List.getElem?_cons_succ, List.set_cons_zero, List.set_cons_succ, List.length_cons, List.length_nil, List.length_append, List.append_assoc, List.cons_append, List.nil_append, List.zip_cons_cons, List.zip_nil_right, Int.reduceAdd, Int.reduceSub, Int.reduceMul, Int.reduceLT, Int.reduceLE, Int.reduceNeg, Int.reduceToNat, Int.zero_add, Int.add_zero, decide_true, decide_false, Nat.reduceLeDiff, Nat.min_self, List.drop_succ_cons, List.drop_zero, List.drop_nil, List.take_succ_cons, List.take_zero, List.take_nil, List.all_cons, List.all_nil, Bool.and_true, Bool.true_and, Nat.mul_one, List.singleton_append, Int.le_refl, Nat.le_refl, c75_0, List.zip_cons_cons, List.zip_nil_right, lss_i64, hf]
  rfl

theorem call75 (c p : BitVec 32) (x : BitVec 8) (b : Nat) (H : Heap) (hc : cellsAt H b = some [u32 p]) :
    (run T).call 75 [u32 c, u8 x, .ptr b 0] none H = some (.ret (u32 (bits p 8 (c ^^^ x.setWidth 32))), none, H) := by
  rw [call_gc0 fn75]
  have hl := loop75 (c ^^^ x.setWidth 32) p b H hc
  simp -implicitDefEqProofs only [runEqs, List.zipIdx_cons, List.zipIdx_nil, List.map_cons, List.map_nil, Nat.zero_add, Nat.add_zero, Nat.zero_mul, Nat.reduceAdd, Nat.reduceMul, Nat.reduceBEq, Nat.reduceLT, Nat.reduceSub, Option.map_some, Option.map_none, Option.isSome_some, Option.isSome_none, Bool.not_true, Bool.not_false, Bool.true_or, Bool.false_or, Bool.or_true, List.getElem?_cons_zero, List.getElem?_cons_succ, List.set_cons_zero, List.set_cons_succ, List.length_cons, List.length_nil, List.length_append, List.append_assoc, List.cons_append, List.nil_append, List.zip_cons_cons, List.zip_nil_right, Int.reduceAdd, Int.reduceSub, Int.reduceMul, Int.reduceLT, Int.reduceLE, Int.reduceNeg, Int.reduceToNat, Int.zero_add, Int.add_zero, decide_true, decide_false, Nat.reduceLeDiff, Nat.min_self, List.drop_succ_cons, List.drop_zero, List.drop_nil, List.take_succ_cons, List.take_zero, List.take_nil, List.all_cons, List.all_nil, Bool.and_true, Bool.true_and, Nat.mul_one, List.singleton_append, Int.le_refl, Nat.le_refl, c75, r75, cv_u32_u8, xor_u32, hl]

theorem call55 (p : BitVec 32) (H : Heap) : (run T).call 55 [u32 p] none H = some (.ret (.fn (.func 75) [] [.ptr H.length 0]), none, H ++ [.cells .ex [u32 p]]) := by
  rw [call_gc0 fn55]
  simp -implicitDefEqProofs only [runEqs, List.zipIdx_cons, List.zipIdx_nil, List.map_cons, List.map_nil, Nat.zero_add, Nat.add_zero, Nat.zero_mul, Nat.reduceAdd, Nat.reduceMul, Nat.reduceBEq, Nat.reduceLT, Nat.reduceSub, Option.map_some, Option.map_none, Option.isSome_some, Option.isSome_none, Bool.not_true, Bool.not_false, Bool.true_or, Bool.false_or, Bool.or_true, List.getElem?_cons_zero, List.getElem?_cons_succ, List.set_cons_zero, List.set_cons_succ, List.length_cons, List.length_nil, List.length_append, List.append_assoc, List.cons_append, List.nil_append, List.zip_cons_cons, List.zip_nil_right, Int.reduceAdd, Int.reduceSub, Int.reduceMul, Int.reduceLT, Int.reduceLE, Int.reduceNeg, Int.reduceToNat, Int.zero_add, Int.add_zero, decide_true, decide_false, Nat.reduceLeDiff, Nat.min_self, List.drop_succ_cons, List.drop_zero, List.drop_nil, List.take_succ_cons, List.take_zero, List.take_nil, List.all_cons, List.all_nil, Bool.and_true, Bool.true_and, Nat.mul_one, List.singleton_append, Int.le_refl, Nat.le_refl, c55, r55]
end Go.Proofs.Ytccepmhhilhajaa.K

/- Crc: what it computes. -/
set_option linter.unusedVariables false
set_option linter.unusedSimpArgs false
set_option maxRecDepth 100000
namespace Go.Proofs.Ytccepmhhilhajaa.K
open Go Go.A

def crcK (l : List (BitVec 8)) (i : Nat) : BitVec 32 := (l.take i).foldl stp 4294967295
def crcL (l : List (BitVec 8)) : BitVec 32 := ~~~ (l.foldl stp 4294967295)
theorem crcK_succ (l : List (BitVec 8)) (i : Nat) (hi : i < l.length) : crcK l (i + 1) = stp (crcK l i) l[i] := by
  unfold crcK
  rw [List.take_succ_eq_append_getElem hi, List.foldl_append]
  rfl

theorem call34 (l : List (BitVec 8)) (hl : l.length < 4611686018427387904) (h : Heap) (v : V) (hv : rc 1 h v = some (cu8 l)) : (run T).call 34 [v] none h = some (.ret (u32 (crcL l)), none, h) := by
  refine call_gc1 fn34 _ _ (h' := roH h ++ [.cells .ex [u32 pol]]) ?_ rfl
  replace hv := rc_ro hv
  generalize roH h = H at hv ⊢
  have hn : lenOf v = l.length := by have := rc_len hv; rw [cu8_len] at this; omega
  have hs := rc_isS hv
  have h55 := call55 pol H
  have hpol : (3252574743 : BitVec 32) = pol := rfl
  have hlp : ∀ t, kK [3, 4, 8, 9, 10] t = [(3, .fn (.func 75) [] [.ptr H.length 0]), (4, u32 4294967295), (8, v), (9, i64 l.length), (10, i64 0)] → execC (run T) (.loop (.seq (.keep [3, 4, 8, 9, 10]) c34_0)) ⟨t, [], some none⟩ (H ++ [.cells .ex [u32 pol]]) =
      kLp T (execC (run T) c34_0 ⟨[(3, .fn (.func 75) [] [.ptr H.length 0]), (4, u32 (crcK l l.length)), (8, v), (9, i64 l.length), (10, i64 l.length)], [], some none⟩ (H ++ [.cells .ex [u32 pol]])) (.seq (.keep [3, 4, 8, 9, 10]) c34_0) := by
    refine loop_to2 (T := T) (L := [3, 4, 8, 9, 10]) (c := c34_0) (d := []) (u := some none) (fun i => [.fn (.func 75) [] [.ptr H.length 0], u32 (crcK l i), v, i64 l.length, i64 i]) (fun i => H ++ [.cells .ex [u32 pol]]) l.length (fun i hi => ?_) rfl rfl rfl rfl
    have hlt : decide ((i : Int) < (l.length : Int)) = true := by simpa using by omega
    have hw := wr_succ_nat i (by omega)
    have hat : ∀ x, kAt (offOf v + i) (cellsAt (H ++ x) (blkOf v)) = some (u8 l[i]) := fun x => by rw [rc_at_app hv x i (by rw [cu8_len]; omega), cu8_at]
    have h75 := call75 (crcK l i) pol l[i] H.length (H ++ [.cells .ex [u32 pol]]) (by rw [at_app0]; rfl)
    have hst : bits pol 8 (crcK l i ^^^ l[i].setWidth 32) = stp (crcK l i) l[i] := rfl
    rw [hst] at h75
    rw [crcK_succ l i hi]
    generalize stp (crcK l i) l[i] = z at *
    simp -implicitDefEqProofs only [runEqs, List.zipIdx_cons, List.zipIdx_nil, List.map_cons, List.map_nil, Nat.zero_add, Nat.add_zero, Nat.zero_mul, Nat.reduceAdd, Nat.reduceMul, Nat.reduceBEq, Nat.reduceLT, Nat.reduceSub, Option.map_some, Option.map_none, Option.isSome_some, Option.isSome_none, Bool.not_true, Bool.not_false, Bool.true_or, Bool.false_or, Bool.or_true, List.getElem?_cons_zero, List.getElem?_cons_succ, List.set_cons_zero, List.set_cons_succ, List.length_cons, List.length_nil, List.length_append, List.append_assoc, List.cons_append, List.nil_append, List.zip_cons_cons, List.zip_nil_right, Int.reduceAdd, Int.reduceSub, Int.reduceMul, Int.reduceLT, Int.reduceLE, Int.reduceNeg, Int.reduceToNat, Int.zero_add, Int.add_zero, decide_true, decide_false, Nat.reduceLeDiff, Nat.min_self, List.drop_succ_cons, List.drop_zero, List.drop_nil, List.take_succ_cons, List.take_zero, List.take_nil, List.all_cons, List.all_nil, Bool.and_true, Bool.true_and, Nat.mul_one, List.singleton_append, Int.le_refl, Nat.le_refl, c34_0, hlt, hw, vIS_of, hn, hi, hat, callC_dyn, h75]
    exact nxt_some _ _ _ _ _ _ _ rfl rfl
  have hf : decide ((l.length : Int) < (l.length : Int)) = false := by simp
  have hk : crcK l l.length = l.foldl stp 4294967295 := by rw [crcK, List.take_length]
  rw [hk] at hlp
  have hcl : crcL l = ~~~ (l.foldl stp 4294967295) := rfl
  rw [hcl]
  generalize l.foldl stp 4294967295 = z at *
  simp -implicitDefEqProofs only [runEqs, List.zipIdx_cons, List.zipIdx_nil, List.map_cons, List.map_nil, Nat.zero_add, Nat.add_zero, Nat.zero_mul, Nat.reduceAdd, Nat.reduceMul, Nat.reduceBEq, Nat.reduceLT, Nat.reduceSub, Option.map_some, Option.map_none, Option.isSome_some, Option.isSome_none, Bool.not_true, Bool.not_false, Bool.true_or, Bool.false_or, Bool.or_true, List.getElem?_cons_zero, List.getElem?_cons_succ, List.set_cons_zero, List.set_cons_succ, List.length_cons, List.length_nil, List.length_append, List.append_assoc, List.cons_append, List.nil_append, List.zip_cons_cons, List.zip_nil_right, Int.reduceAdd, Int.reduceSub, Int.reduceMul, Int.reduceLT, Int.reduceLE, Int.reduceNeg, Int.reduceToNat, Int.zero_add, Int.add_zero, decide_true, decide_false, Nat.reduceLeDiff, Nat.min_self, List.drop_succ_cons, List.drop_zero, List.drop_nil, List.take_succ_cons, List.take_zero, List.take_nil, List.all_cons, List.all_nil, Bool.and_true, Bool.true_and, Nat.mul_one, List.singleton_append, Int.le_refl, Nat.le_refl, c34, r34, hpol, h55, vLen_of, hs, hn, hlp]
  simp -implicitDefEqProofs only [runEqs, List.zipIdx_cons, List.zipIdx_nil, List.map_cons, List.map_nil, Nat.zero_add, Nat.add_zero, Nat.zero_mul, Nat.reduceAdd, Nat.reduceMul, Nat.reduceBEq, Nat.reduceLT, Nat.reduceSub, Option.map_some, Option.map_none, Option.isSome_some, Option.isSome_none, Bool.not_true, Bool.not_false, Bool.true_or, Bool.false_or, Bool.or_true, List.getElem?_cons_zero, List.getElem?_cons_succ, List.set_cons_zero, List.set_cons_succ, List.length_cons, List.length_nil, List.length_append, List.append_assoc, List.cons_append, List.nil_append, List.zip_cons_cons, List.zip_nil_right, Int.reduceAdd, Int.reduceSub, Int.reduceMul, Int.reduceLT, Int.reduceLE, Int.reduceNeg, Int.reduceToNat, Int.zero_add, Int.add_zero, decide_true, decide_false, Nat.reduceLeDiff, Nat.min_self, List.drop_succ_cons, List.drop_zero, List.drop_nil, List.take_succ_cons, List.take_zero, List.take_nil, List.all_cons, List.all_nil, Bool.and_true, Bool.true_and, Nat.mul_one, List.singleton_append, Int.le_refl, Nat.le_refl, c34_0, hf, not_u32]
end Go.Proofs.Ytccepmhhilhajaa.K

/- The examples of the document. -/
set_option linter.unusedVariables false
set_option linter.unusedSimpArgs false
set_option maxRecDepth 100000
namespace Go.Proofs.Ytccepmhhilhajaa.K
open Go Go.A

theorem ev1 : sumL [1, 2, 3] = ⟨6, 10, 3⟩ := Roll.ext' (by decide +kernel) (by decide +kernel) (by decide +kernel)
theorem ev2 : slideV ⟨6, 10, 3⟩ 1 4 = ⟨9, 16, 3⟩ := Roll.ext' (by decide +kernel) (by decide +kernel) (by decide +kernel)
theorem ev3 : slideE ⟨6, 10, 3⟩ = 0 := by decide +kernel
theorem ev4 : winV [1, 2, 3, 4] 3 = [655366, 1048585] := by decide +kernel
theorem ev5 : (crcL [97] != crcL [98]) = true := by decide +kernel
def exL : List (List (BitVec 8)) := [[1], [2], [3]]
theorem ev7 : rootE exL = 0 := by decide +kernel
theorem ev8 : proveE exL 2 = 0 := by decide +kernel
theorem ev9 : (proveV exL 2).length = 1 := by decide +kernel
theorem ev10 : placeE 3 0 (proveV exL 2).length = 22 := by decide +kernel
theorem ev11 : checkV (rootV exL) 3 2 [3] (proveV exL 2) = 0 := by decide +kernel
theorem ev12 : checkV (rootV exL) 3 2 [4] (proveV exL 2) = 22 := by decide +kernel
end Go.Proofs.Ytccepmhhilhajaa.K

/- The examples of the document hold. -/
set_option linter.unusedVariables false
set_option linter.unusedSimpArgs false
set_option maxRecDepth 100000
namespace Go.Proofs.Ytccepmhhilhajaa.K
open Go Go.A

def kMr (v : V) (h : Heap) : Option Blk → Option (V × Heap)
  | some (.cells .ex _) => some (v, h)
  | _ => none
def vMark (h : Heap) : V → Option (V × Heap)
  | .sl e b o n c => kMr (.sl e b o n c) h h[b]?
  | _ => none
theorem ev_mark (ρ : Rho) (h : Heap) (x : Opd) : (LOp.mark x).ev ρ h = vMark h (ρ x) := by
  simp only [LOp.ev, vMark]
  cases ρ x <;> rfl
theorem vMark_sl (h : Heap) (e b o n c : Nat) : vMark h (.sl e b o n c) = kMr (.sl e b o n c) h h[b]? := Eq.trans rfl rfl
theorem kMr_ex (v : V) (h : Heap) (cs : List V) : kMr v h (some (.cells .ex cs)) = some (v, h) := Eq.trans rfl rfl

theorem sane_run (H : Heap) : ∃ h', kF (run T) r14 (execC (run T) c14 (frame0 [] none) H) = some (.ret (.bool true), none, h') := by
  have a1 : rc 1 (H ++ [.cells .ex [u8 1, u8 2, u8 3]]) (.sl 1 H.length 0 3 3) = some (cu8 [1, 2, 3]) := rc_newAt 1 _ .ex _ 3 _ rfl (by rw [blk_get0]; rfl)
  have e19 := call19 [1, 2, 3] (by decide) _ _ a1
  rw [ev1, cells_mk] at e19
  have e15 := call15 ⟨6, 10, 3⟩ 1 4
  rw [ev2, ev3, cells_mk, cells_mk] at e15
  have a2 : rc 1 (H ++ [.cells .ex [u8 1, u8 2, u8 3], .cells .ex [u32 6, u32 10, i64 3], .cells .ex [u32 9, u32 16, i64 3], .cells .ex [u8 1, u8 2, u8 3, u8 4]]) (.sl 1 (H.length + 3) 0 4 4) = some (cu8 [1, 2, 3, 4]) := rc_newAt 1 _ .ex _ 4 _ rfl (by rw [blk_get]; rfl)
  obtain ⟨out, gw, e17, hout⟩ := call17 [1, 2, 3, 4] (by decide) 3 _ _ a2
  have w3 : winE 3 = 0 := rfl
  rw [w3] at e17
  rw [ev4] at hout
  simp only [List.append_assoc, List.cons_append, List.nil_append] at e17 hout
  simp -implicitDefEqProofs only [runEqs, List.zipIdx_cons, List.zipIdx_nil, List.map_cons, List.map_nil, Nat.zero_add, Nat.add_zero, Nat.zero_mul, Nat.reduceAdd, Nat.reduceMul, Nat.reduceBEq, Nat.reduceLT, Nat.reduceSub, Option.map_some, Option.map_none, Option.isSome_some, Option.isSome_none, Bool.not_true, Bool.not_false, Bool.true_or, Bool.false_or, Bool.or_true, List.getElem?_cons_zero, List.getElem?_cons_succ, List.set_cons_zero, List.set_cons_succ, List.length_cons, List.length_nil, List.length_append, List.append_assoc, List.cons_append, List.nil_append, List.zip_cons_cons, List.zip_nil_right, Int.reduceAdd, Int.reduceSub, Int.reduceMul, Int.reduceLT, Int.reduceLE, Int.reduceNeg, Int.reduceToNat, Int.zero_add, Int.add_zero, decide_true, decide_false, Nat.reduceLeDiff, Nat.min_self, List.drop_succ_cons, List.drop_zero, List.drop_nil, List.take_succ_cons, List.take_zero, List.take_nil, List.all_cons, List.all_nil, Bool.and_true, Bool.true_and, Nat.mul_one, List.singleton_append, Int.le_refl, Nat.le_refl, c14, r14, ok_u8, e19, e15, e17]
  have p1 : ∀ x, cellsAt (H ++ Blk.cells Md.ex [u8 1, u8 2, u8 3] :: Blk.cells Md.ex [u32 6, u32 10, i64 3] :: Blk.cells Md.ex [u32 9, u32 16, i64 3] :: Blk.cells Md.ex [u8 1, u8 2, u8 3, u8 4] :: gw ++ x) (H.length + 1) = some [u32 6, u32 10, i64 3] := fun x => by
    rw [List.append_assoc, at_app]; rfl
  have p2 : ∀ x, cellsAt (H ++ Blk.cells Md.ex [u8 1, u8 2, u8 3] :: Blk.cells Md.ex [u32 6, u32 10, i64 3] :: Blk.cells Md.ex [u32 9, u32 16, i64 3] :: Blk.cells Md.ex [u8 1, u8 2, u8 3, u8 4] :: gw ++ x) (H.length + 2) = some [u32 9, u32 16, i64 3] := fun x => by
    rw [List.append_assoc, at_app]; rfl
  clear a1 a2 e19 e15 e17
  generalize H ++ Blk.cells Md.ex [u8 1, u8 2, u8 3] :: Blk.cells Md.ex [u32 6, u32 10, i64 3] :: Blk.cells Md.ex [u32 9, u32 16, i64 3] :: Blk.cells Md.ex [u8 1, u8 2, u8 3, u8 4] :: gw = P at *
  generalize H.length + 1 = n1 at *
  generalize H.length + 2 = n2 at *
  have e35 := call35 P
  have e37 := fun X => call37 S0 [] (by decide) X .nils rfl
  have f1 : endD S0 [] = digL [] := rfl
  rw [f1] at e37
  have d1 := len16 _ (digL_len [])
  have d2 := take16 _ (digL_len [])
  have dl := digL_len []
  have e39 := fun X => call39 [] (by decide) X .nils rfl
  generalize digL [] = dg at *
  obtain ⟨S, hS⟩ : ∃ b : Blk, b = .cells .ex (S0.cells ++ [.nils]) := ⟨_, rfl⟩
  rw [← hS] at e35
  have hLv : ∀ X, Lv (P ++ S :: S :: .cells .ex (cu8 dg) :: .cells .ex [u8 1] :: .cells .ex [u8 2] :: .cells .ex [u8 3] :: .cells .ex [.sl 1 (P.length + 3) 0 1 1, .sl 1 (P.length + 4) 0 1 1, .sl 1 (P.length + 5) 0 1 1] :: X) (.sl 1 (P.length + 6) 0 3 3) exL := fun X => by
    refine ⟨_, rc_newAt 1 _ .ex _ 3 _ rfl (by rw [blk_get]; rfl), rfl, fun i hi => ?_⟩
    match i, hi with
    | 0, _ => exact ⟨_, rfl, rc_newAt 1 _ .ex _ 1 _ rfl (by rw [blk_get]; rfl)⟩
    | 1, _ => exact ⟨_, rfl, rc_newAt 1 _ .ex _ 1 _ rfl (by rw [blk_get]; rfl)⟩
    | 2, _ => exact ⟨_, rfl, rc_newAt 1 _ .ex _ 1 _ rfl (by rw [blk_get]; rfl)⟩
  have hsm : ∀ x ∈ exL, x.length < 8796093022000 := by decide
  have e25 := call25 exL (by decide) (fun _ => hsm) _ _ (hLv [])
  rw [ev7] at e25
  have hrl : (rootV exL).length = 16 := by decide +kernel
  have r1 := len16 _ hrl
  have r2 := take16 _ hrl
  have e12 := ev12
  have e11 := ev11
  generalize hrt : rootV exL = rt at *
  obtain ⟨pv, gp, e27, hpv⟩ := call27 exL 2 (by decide) (fun _ => hsm) _ _ (hLv [.cells .ex (cu8 rt)])
  rw [ev8] at e27
  have hpr := hpv.rcn
  have e9 := ev9
  have e10 := ev10
  have hp16 : all16 (proveV exL 2) := (wayL_16 3 exL 2 (by decide)).1
  generalize proveV exL 2 = pth at *
  have hpn := cdg_len pth hp16
  have hpl : lenOf pv = 1 := by have := rc_len hpr; omega
  have hps := rc_isS hpr
  have hos := rc_isS hout
  have hol : lenOf out = 2 := by have := rc_len hout; rw [cu32_len] at this; simpa using this.symm
  simp only [List.append_assoc, List.cons_append, List.nil_append, cu32, List.map_cons, List.map_nil] at e27 hpr hout
  have n0 : ((0 : Int) != 0) = false := rfl
  have c2 : ((2 : Nat) : Int) = 2 := rfl
  have c1 : ((1 : Nat) : Int) = 1 := rfl
  have n2' : ((2 : Int) != 2) = false := rfl
  have n1' : ((1 : Int) != 1) = false := rfl
  simp -implicitDefEqProofs only [runEqs, List.zipIdx_cons, List.zipIdx_nil, List.map_cons, List.map_nil, Nat.zero_add, Nat.add_zero, Nat.zero_mul, Nat.reduceAdd, Nat.reduceMul, Nat.reduceBEq, Nat.reduceLT, Nat.reduceSub, Option.map_some, Option.map_none, Option.isSome_some, Option.isSome_none, Bool.not_true, Bool.not_false, Bool.true_or, Bool.false_or, Bool.or_true, List.getElem?_cons_zero, List.getElem?_cons_succ, List.set_cons_zero, List.set_cons_succ, List.length_cons, List.length_nil, List.length_append, List.append_assoc, List.cons_append, List.nil_append, List.zip_cons_cons, List.zip_nil_right, Int.reduceAdd, Int.reduceSub, Int.reduceMul, Int.reduceLT, Int.reduceLE, Int.reduceNeg, Int.reduceToNat, Int.zero_add, Int.add_zero, decide_true, decide_false, Nat.reduceLeDiff, Nat.min_self, List.drop_succ_cons, List.drop_zero, List.drop_nil, List.take_succ_cons, List.take_zero, List.take_nil, List.all_cons, List.all_nil, Bool.and_true, Bool.true_and, Nat.mul_one, List.singleton_append, Int.le_refl, Nat.le_refl, e35, e37, d1, d2, List.length_replicate, cu8_one, ok_u8, e25, r1, r2, e27, n0, vLen_of, hos, hol, c2, n2', hps, hpl, c1, n1']
  have o0 : ∀ x, kAt (offOf out) (cellsAt (P ++ x) (blkOf out)) = some (u32 655366) := fun x => rc_at_app hout x 0 (by decide)
  have o1 : ∀ x, kAt (offOf out + 1) (cellsAt (P ++ x) (blkOf out)) = some (u32 1048585) := fun x => rc_at_app hout x 1 (by decide)
  have i0 : (i64 0).nat? = some 0 := rfl
  have i1 : (i64 1).nat? = some 1 := rfl
  have l0 : 0 < 2 := by decide
  have l1 : 1 < 2 := by decide
  have hdd := eq16 dg dg dl dl
  rw [BEq.rfl] at hdd
  simp -implicitDefEqProofs only [runEqs, List.zipIdx_cons, List.zipIdx_nil, List.map_cons, List.map_nil, Nat.zero_add, Nat.add_zero, Nat.zero_mul, Nat.reduceAdd, Nat.reduceMul, Nat.reduceBEq, Nat.reduceLT, Nat.reduceSub, Option.map_some, Option.map_none, Option.isSome_some, Option.isSome_none, Bool.not_true, Bool.not_false, Bool.true_or, Bool.false_or, Bool.or_true, List.getElem?_cons_zero, List.getElem?_cons_succ, List.set_cons_zero, List.set_cons_succ, List.length_cons, List.length_nil, List.length_append, List.append_assoc, List.cons_append, List.nil_append, List.zip_cons_cons, List.zip_nil_right, Int.reduceAdd, Int.reduceSub, Int.reduceMul, Int.reduceLT, Int.reduceLE, Int.reduceNeg, Int.reduceToNat, Int.zero_add, Int.add_zero, decide_true, decide_false, Nat.reduceLeDiff, Nat.min_self, List.drop_succ_cons, List.drop_zero, List.drop_nil, List.take_succ_cons, List.take_zero, List.take_nil, List.all_cons, List.all_nil, Bool.and_true, Bool.true_and, Nat.mul_one, List.singleton_append, Int.le_refl, Nat.le_refl, p1, p2, i0, i1, vIS_of, hol, l0, l1, o0, o1, Nat.zero_mul, neq_u32, beq_self_eq_true, bne_self_eq_false, e39, hdd, d1, d2, ok_u8, ok_u32]
  obtain ⟨Q, hQd⟩ : ∃ Q, Q = P ++ S :: S :: Blk.cells Md.ex (cu8 dg) :: Blk.cells Md.ex [u8 1] :: Blk.cells Md.ex [u8 2] :: Blk.cells Md.ex [u8 3] :: Blk.cells Md.ex [V.sl 1 (P.length + 3) 0 1 1, V.sl 1 (P.length + 4) 0 1 1, V.sl 1 (P.length + 5) 0 1 1] :: Blk.cells Md.ex (cu8 rt) :: gp := ⟨_, rfl⟩
  have hQ : ∀ x, P ++ S :: S :: Blk.cells Md.ex (cu8 dg) :: Blk.cells Md.ex [u8 1] :: Blk.cells Md.ex [u8 2] :: Blk.cells Md.ex [u8 3] :: Blk.cells Md.ex [V.sl 1 (P.length + 3) 0 1 1, V.sl 1 (P.length + 4) 0 1 1, V.sl 1 (P.length + 5) 0 1 1] :: Blk.cells Md.ex (cu8 rt) :: (gp ++ x) = Q ++ x := fun x => by rw [hQd]; simp only [List.append_assoc, List.cons_append]
  have hQl : P.length + (gp.length + 1 + 1 + 1 + 1 + 1 + 1 + 1 + 1) = Q.length := by rw [hQd]; simp only [List.length_append, List.length_cons]
  have q9 : ∀ x, cellsAt (Q ++ x) (P.length + 7) = some (cu8 rt) := fun x => by rw [hQd, List.append_assoc, at_app]; rfl
  have qp : ∀ x, rc 16 (Q ++ x) pv = some (cdg pth) := fun x => by rw [hQd]; exact rc_app hpr x
  have z1 : ∀ (y : BitVec 8) (h : Heap) (x : Heap), rc 1 (h ++ [.cells .ex [u8 y]]) (.sl 1 h.length 0 1 1) = some (cu8 [y]) := fun y h x => rc_new 1 h .ex [u8 y] 1 rfl
  have e30 := call30 3 0 [1] (by decide) pth hp16 (by omega) _ (.sl 1 Q.length 0 1 1) pv (z1 1 Q []) (qp _)
  have av := aboveV_len 3 0 [1] pth
  rw [e10] at e30
  generalize aboveV 3 0 [1] pth = ab at *
  have av1 := len16 _ av
  have e32 := call32 rt hrl 3 2 [3] (by decide) pth hp16 (by omega) (Q ++ [.cells .ex [u8 1], .cells .ex (cu8 ab), .cells .ex [u8 3]]) (.sl 1 (Q.length + 2) 0 1 1) pv (rc_newAt 1 _ .ex _ 1 _ rfl (by rw [blk_get]; rfl)) (qp _)
  rw [e11] at e32
  have e32' := call32 rt hrl 3 2 [4] (by decide) pth hp16 (by omega) (Q ++ [.cells .ex [u8 1], .cells .ex (cu8 ab), .cells .ex [u8 3], .cells .ex [u8 4]]) (.sl 1 (Q.length + 3) 0 1 1) pv (rc_newAt 1 _ .ex _ 1 _ rfl (by rw [blk_get]; rfl)) (qp _)
  rw [e12] at e32'
  have e34 := call34 [97] (by decide) (Q ++ [.cells .ex [u8 1], .cells .ex (cu8 ab), .cells .ex [u8 3], .cells .ex [u8 4], .cells .ex [u8 97]]) (.sl 1 (Q.length + 4) 0 1 1) (rc_newAt 1 _ .ex _ 1 _ rfl (by rw [blk_get]; rfl))
  have e34' := call34 [98] (by decide) (Q ++ [.cells .ex [u8 1], .cells .ex (cu8 ab), .cells .ex [u8 3], .cells .ex [u8 4], .cells .ex [u8 97], .cells .ex [u8 98]]) (.sl 1 (Q.length + 5) 0 1 1) (rc_newAt 1 _ .ex _ 1 _ rfl (by rw [blk_get]; rfl))
  have e5 := ev5
  simp only [hQ, hQl]
  simp -implicitDefEqProofs only [runEqs, List.zipIdx_cons, List.zipIdx_nil, List.map_cons, List.map_nil, Nat.zero_add, Nat.add_zero, Nat.zero_mul, Nat.reduceAdd, Nat.reduceMul, Nat.reduceBEq, Nat.reduceLT, Nat.reduceSub, Option.map_some, Option.map_none, Option.isSome_some, Option.isSome_none, Bool.not_true, Bool.not_false, Bool.true_or, Bool.false_or, Bool.or_true, List.getElem?_cons_zero, List.getElem?_cons_succ, List.set_cons_zero, List.set_cons_succ, List.length_cons, List.length_nil, List.length_append, List.append_assoc, List.cons_append, List.nil_append, List.zip_cons_cons, List.zip_nil_right, Int.reduceAdd, Int.reduceSub, Int.reduceMul, Int.reduceLT, Int.reduceLE, Int.reduceNeg, Int.reduceToNat, Int.zero_add, Int.add_zero, decide_true, decide_false, Nat.reduceLeDiff, Nat.min_self, List.drop_succ_cons, List.drop_zero, List.drop_nil, List.take_succ_cons, List.take_zero, List.take_nil, List.all_cons, List.all_nil, Bool.and_true, Bool.true_and, Nat.mul_one, List.singleton_append, Int.le_refl, Nat.le_refl, e30, av1, q9, r1, r2, e32, e32', e34, e34', List.length_replicate, cu8_one, ok_u8, beq_self_eq_true, ev_mark, vMark_sl, blk_get, kMr_ex, neq_u32, e5]
  exact ⟨_, rfl⟩

theorem call14 (h : Heap) : (run T).call 14 [] none h = some (.ret (.bool true), none, h) := by
  obtain ⟨h', hk⟩ := sane_run []
  rw [run_call]
  simp only [callG, fn14]
  show (if (none : Option V).isNone = true ∧ belowL T.tab.length [] = true then (kF (run T) r14 (execC (run T) c14 (frame0 [] none) T.tab)).bind fun (o, u', _) => if (o.bel T.tab.length && belO T.tab.length u') = true then some (o, u', h) else none else none) = _
  have ht : T.tab = [] := rfl
  rw [ht, hk]
  rfl
end Go.Proofs.Ytccepmhhilhajaa.K

