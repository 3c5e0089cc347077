/- Texts of this claim, put together (KStream, KCol, KCol2, KPerm2, KRefBlk, KAbs4, KRefAbs, KRefEnd, KRefDig, KRefWay, KRefInp, KRefInp2, KRefCol, KLaw10): lemmas towards the statement; no conditions of their own. -/
import Derived.Test.YtccepmhhilhajaaLb5
/- The bound of lists, equal sponges, and absorbing in parts. -/
set_option linter.unusedVariables false
set_option linter.unusedSimpArgs false
set_option maxRecDepth 100000
namespace Go.Proofs.Ytccepmhhilhajaa.K
open Go Go.A

def strL (l : List (BitVec 8)) : List UInt8 := l.map fun x => UInt8.ofNat x.toNat
theorem bytesOf_cu8 : ∀ l : List (BitVec 8), bytesOf (cu8 l) = some (strL l)
  | [] => rfl
  | x :: l => by
    have h := bytesOf_cu8 l
    show (bytesOf (cu8 l)).map (UInt8.ofNat ((x.toNat : Int)).toNat :: ·) = _
    rw [h]
    rfl
theorem vStr_rc {h : Heap} {v : V} {l : List (BitVec 8)} (hv : rc 1 h v = some (cu8 l)) : vStr h v = some (.str (strL l)) := by
  rcases rc_cases hv with ⟨rfl, e⟩ | ⟨b, o, n, c, bs, rfl, h1, h2, h3, e⟩
  · have : l = [] := by cases l with
      | nil => rfl
      | cons x l => simp [cu8] at e
    subst this; rfl
  · have hr : readN h b o n = some (cu8 l) := by
      have := hv
      simp only [rc, h1, and_self, if_true, Nat.mul_one] at this
      exact this
    show ((readN h b o n).bind bytesOf).map V.str = _
    rw [hr, Option.bind_some, bytesOf_cu8]
    rfl
theorem eql_str (a b : List UInt8) : evBin .eql (.str a) (.str b) = some (.bool (a == b)) := Eq.trans rfl rfl

theorem eq8' (s : S8) : evEqL [.int, .int, .int, .int, .int, .int, .int, .int] s.cells s.cells = some true := by
  simp only [S8.cells, eqL_cons, eq_u32, eqL_nil, kE1_some, kE2_some, beq_self_eq_true, Bool.and_self]

theorem call38 (s : S8) (rest : List (BitVec 8)) (h : Heap) (r q : V) (hr : rc 1 h r = some (cu8 rest)) (hq : rc 1 h q = some (cu8 rest)) :
    (run T).call 38 [.agg (s.cells ++ [r]), .agg (s.cells ++ [q])] none h = some (.ret (.bool true), none, h) := by
  have key : ∃ h', kF (run T) r38 (execC (run T) c38 (frame0 [.agg (s.cells ++ [r]), .agg (s.cells ++ [q])] none) (roH h)) = some (.ret (.bool true), none, h') := by
    replace hr := rc_ro hr
    replace hq := rc_ro hq
    generalize roH h = H at hr hq ⊢
    have r1 := isS_one (rc_isS hr)
    have q1 := isS_one (rc_isS hq)
    have s1 := fun X => vStr_rc (rc_app hr X)
    have s2 := fun X => vStr_rc (rc_app hq X)
    have he := eq8' s
    simp -implicitDefEqProofs only [runEqs, List.zipIdx_cons, List.zipIdx_nil, List.map_cons, List.map_nil, Nat.zero_add, Nat.add_zero, Nat.zero_mul, Nat.reduceAdd, Nat.reduceMul, Nat.reduceBEq, Nat.reduceLT, Nat.reduceSub, Option.map_some, Option.map_none, Option.isSome_some, Option.isSome_none, Bool.not_true, Bool.not_false, Bool.true_or, Bool.false_or, Bool.or_true, List.getElem?_cons_zero, List.getElem?_cons_succ, List.set_cons_zero, List.set_cons_succ, List.length_cons, List.length_nil, List.length_append, List.append_assoc, List.cons_append, List.nil_append, List.zip_cons_cons, List.zip_nil_right, Int.reduceAdd, Int.reduceSub, Int.reduceMul, Int.reduceLT, Int.reduceLE, Int.reduceNeg, Int.reduceToNat, Int.zero_add, Int.add_zero, decide_true, decide_false, Nat.reduceLeDiff, Nat.min_self, List.drop_succ_cons, List.drop_zero, List.drop_nil, List.take_succ_cons, List.take_zero, List.take_nil, List.all_cons, List.all_nil, Bool.and_true, Bool.true_and, Nat.mul_one, List.singleton_append, Int.le_refl, Nat.le_refl, c38, r38, len_s8, S8.len, one_s8, r1, q1, at8_s8, take8_s8, he, s1, s2, eql_str, beq_self_eq_true]
    exact ⟨_, rfl⟩
  obtain ⟨h', hk⟩ := key
  exact call_gc1 fn38 _ _ hk rfl

/-- What a list counts. -/
def smK (ls : List (List (BitVec 8))) : Nat → Nat
  | 0 => 0
  | i + 1 => smK ls i + (20 + (ls.getD i []).length)

theorem call24 (ls : List (List (BitVec 8))) (hsz : ls.length < 2305843009213693952) (hx : ∀ x ∈ ls, x.length < 2305843009213693952) (h : Heap) (v : V) (hv : Lv h v ls) :
    ∃ b, (run T).call 24 [v] none h = some (.ret (.bool b), none, h) ∧ (b = true → ls.length ≤ 4096 → smK ls ls.length ≤ 4000) := by
  have key : ∃ b h', kF (run T) r24 (execC (run T) c24 (frame0 [v] none) (roH h)) = some (.ret (.bool b), none, h') ∧ (b = true → ls.length ≤ 4096 → smK ls ls.length ≤ 4000) := by
    replace hv := hv.ro
    generalize roH h = H at hv ⊢
    have hl := hv.len
    have hs := hv.isS
    obtain ⟨k, vs', h', ⟨i0, hi0, -, hvs0, hh0, hb0⟩, ⟨i, hi, rfl, rfl, hend⟩, hlp⟩ := loop_st (T := T) (L := [0, 3, 4]) (c := c24_0) (d := []) (u := some none)
      (fun m vs hh => ∃ i, i ≤ ls.length ∧ m = ls.length - i ∧ vs = [v, i64 (smK ls i), i64 i] ∧ hh = H ∧ smK ls i < 4611686018427387904)
      (fun m vs hh => ∃ i, i ≤ ls.length ∧ vs = [v, i64 (smK ls i), i64 i] ∧ hh = H ∧ (i = ls.length ∨ 4000 < smK ls i))
      (by
        rintro m vs hh ⟨i, hi, rfl, rfl, rfl, hb⟩
        by_cases he : i = ls.length ∨ 4000 < smK ls i
        · exact .inl ⟨i, hi, rfl, rfl, he⟩
        right
        have hlt' : i < ls.length := by omega
        have hsm : ¬ 4000 < smK ls i := by omega
        have hlt : decide ((i : Int) < (ls.length : Int)) = true := by simpa using hlt'
        have hle : decide ((smK ls i : Int) ≤ 4000) = true := by simp; omega
        have hw := wr_succ_nat i (by omega)
        obtain ⟨w, -, hat, hwc⟩ := hv.at i hlt'
        have hwl : lenOf w = ls[i].length := by have := rc_len hwc; rw [cu8_len] at this; omega
        have hws := rc_isS hwc
        have hxi := hx ls[i] (List.getElem_mem _)
        have hgd : ls.getD i [] = ls[i] := by simp [hlt']
        have hw2 : wr (20 + (ls[i].length : Int)) = 20 + (ls[i].length : Int) := wr_id (by omega) (by omega)
        have hw3 : wr ((smK ls i : Int) + (20 + (ls[i].length : Int))) = ((smK ls (i + 1) : Nat) : Int) := by
          rw [smK, hgd, wr_id (by omega) (by omega)]; omega
        refine ⟨ls.length - (i + 1), _, _, by omega, ?_, i + 1, by omega, rfl, rfl, rfl, by rw [smK, hgd]; omega⟩
        simp -implicitDefEqProofs only [runEqs, List.zipIdx_cons, List.zipIdx_nil, List.map_cons, List.map_nil, Nat.zero_add, Nat.add_zero, Nat.zero_mul, Nat.reduceAdd, Nat.reduceMul, Nat.reduceBEq, Nat.reduceLT, Nat.reduceSub, Option.map_some, Option.map_none, Option.isSome_some, Option.isSome_none, Bool.not_true, Bool.not_false, Bool.true_or, Bool.false_or, Bool.or_true, List.getElem?_cons_zero, List.getElem?_cons_succ, List.set_cons_zero, List.set_cons_succ, List.length_cons, List.length_nil, List.length_append, List.append_assoc, List.cons_append, List.nil_append, List.zip_cons_cons, List.zip_nil_right, Int.reduceAdd, Int.reduceSub, Int.reduceMul, Int.reduceLT, Int.reduceLE, Int.reduceNeg, Int.reduceToNat, Int.zero_add, Int.add_zero, decide_true, decide_false, Nat.reduceLeDiff, Nat.min_self, List.drop_succ_cons, List.drop_zero, List.drop_nil, List.take_succ_cons, List.take_zero, List.take_nil, List.all_cons, List.all_nil, Bool.and_true, Bool.true_and, Nat.mul_one, List.singleton_append, Int.le_refl, Nat.le_refl, c24_0, vLen_of, hs, hl, hlt, hle, hw, vIS_of, hlt', hat, hws, hwl, hw2, hw3]
        exact nxt_some _ _ _ _ _ _ _ rfl rfl)
      ls.length [v, i64 0, i64 0] H ⟨0, by omega, by omega, rfl, rfl, by simp [smK]⟩
    have hg : (decide ((i : Int) < (ls.length : Int)) = false) ∨ (decide ((i : Int) < (ls.length : Int)) = true ∧ decide ((smK ls i : Int) ≤ 4000) = false) := by
      by_cases h1 : i < ls.length
      · right; refine ⟨by simpa using h1, ?_⟩; simp; omega
      · left; simpa using by omega
    have hres : ((decide ((smK ls i : Int) ≤ 4000) || decide ((ls.length : Int) > 4096)) = true → ls.length ≤ 4096 → smK ls ls.length ≤ 4000) := by
      intro h1 h2
      have h3 : smK ls i ≤ 4000 := by
        simp only [Bool.or_eq_true, decide_eq_true_eq] at h1
        omega
      have : i = ls.length := by omega
      subst this
      exact h3
    refine ⟨_, h', ?_, hres⟩
    simp only [List.zip_cons_cons, List.zip_nil_right] at hlp
    simp -implicitDefEqProofs only [runEqs, List.zipIdx_cons, List.zipIdx_nil, List.map_cons, List.map_nil, Nat.zero_add, Nat.add_zero, Nat.zero_mul, Nat.reduceAdd, Nat.reduceMul, Nat.reduceBEq, Nat.reduceLT, Nat.reduceSub, Option.map_some, Option.map_none, Option.isSome_some, Option.isSome_none, Bool.not_true, Bool.not_false, Bool.true_or, Bool.false_or, Bool.or_true, List.getElem?_cons_zero, List.getElem?_cons_succ, List.set_cons_zero, List.set_cons_succ, List.length_cons, List.length_nil, List.length_append, List.append_assoc, List.cons_append, List.nil_append, List.zip_cons_cons, List.zip_nil_right, Int.reduceAdd, Int.reduceSub, Int.reduceMul, Int.reduceLT, Int.reduceLE, Int.reduceNeg, Int.reduceToNat, Int.zero_add, Int.add_zero, decide_true, decide_false, Nat.reduceLeDiff, Nat.min_self, List.drop_succ_cons, List.drop_zero, List.drop_nil, List.take_succ_cons, List.take_zero, List.take_nil, List.all_cons, List.all_nil, Bool.and_true, Bool.true_and, Nat.mul_one, List.singleton_append, Int.le_refl, Nat.le_refl, c24, r24, hlp]
    rcases hg with hg | ⟨hg, hg2⟩
    · cases h2 : decide ((smK ls i : Int) ≤ 4000) with
      | true => simp -implicitDefEqProofs only [runEqs, List.zipIdx_cons, List.zipIdx_nil, List.map_cons, List.map_nil, Nat.zero_add, Nat.add_zero, Nat.zero_mul, Nat.reduceAdd, Nat.reduceMul, Nat.reduceBEq, Nat.reduceLT, Nat.reduceSub, Option.map_some, Option.map_none, Option.isSome_some, Option.isSome_none, Bool.not_true, Bool.not_false, Bool.true_or, Bool.false_or, Bool.or_true, List.getElem?_cons_zero, List.getElem?_cons_succ, List.set_cons_zero, List.set_cons_succ, List.length_cons, List.length_nil, List.length_append, List.append_assoc, List.cons_append, List.nil_append, List.zip_cons_cons, List.zip_nil_right, Int.reduceAdd, Int.reduceSub, Int.reduceMul, Int.reduceLT, Int.reduceLE, Int.reduceNeg, Int.reduceToNat, Int.zero_add, Int.add_zero, decide_true, decide_false, Nat.reduceLeDiff, Nat.min_self, List.drop_succ_cons, List.drop_zero, List.drop_nil, List.take_succ_cons, List.take_zero, List.take_nil, List.all_cons, List.all_nil, Bool.and_true, Bool.true_and, Nat.mul_one, List.singleton_append, Int.le_refl, Nat.le_refl, c24_0, vLen_of, hs, hl, hg, h2]
      | false =>
        cases h3 : decide ((ls.length : Int) > 4096) with
        | true => simp -implicitDefEqProofs only [runEqs, List.zipIdx_cons, List.zipIdx_nil, List.map_cons, List.map_nil, Nat.zero_add, Nat.add_zero, Nat.zero_mul, Nat.reduceAdd, Nat.reduceMul, Nat.reduceBEq, Nat.reduceLT, Nat.reduceSub, Option.map_some, Option.map_none, Option.isSome_some, Option.isSome_none, Bool.not_true, Bool.not_false, Bool.true_or, Bool.false_or, Bool.or_true, List.getElem?_cons_zero, List.getElem?_cons_succ, List.set_cons_zero, List.set_cons_succ, List.length_cons, List.length_nil, List.length_append, List.append_assoc, List.cons_append, List.nil_append, List.zip_cons_cons, List.zip_nil_right, Int.reduceAdd, Int.reduceSub, Int.reduceMul, Int.reduceLT, Int.reduceLE, Int.reduceNeg, Int.reduceToNat, Int.zero_add, Int.add_zero, decide_true, decide_false, Nat.reduceLeDiff, Nat.min_self, List.drop_succ_cons, List.drop_zero, List.drop_nil, List.take_succ_cons, List.take_zero, List.take_nil, List.all_cons, List.all_nil, Bool.and_true, Bool.true_and, Nat.mul_one, List.singleton_append, Int.le_refl, Nat.le_refl, c24_0, vLen_of, hs, hl, hg, h2, h3]
        | false => simp -implicitDefEqProofs only [runEqs, List.zipIdx_cons, List.zipIdx_nil, List.map_cons, List.map_nil, Nat.zero_add, Nat.add_zero, Nat.zero_mul, Nat.reduceAdd, Nat.reduceMul, Nat.reduceBEq, Nat.reduceLT, Nat.reduceSub, Option.map_some, Option.map_none, Option.isSome_some, Option.isSome_none, Bool.not_true, Bool.not_false, Bool.true_or, Bool.false_or, Bool.or_true, List.getElem?_cons_zero, List.getElem?_cons_succ, List.set_cons_zero, List.set_cons_succ, List.length_cons, List.length_nil, List.length_append, List.append_assoc, List.cons_append, List.nil_append, List.zip_cons_cons, List.zip_nil_right, Int.reduceAdd, Int.reduceSub, Int.reduceMul, Int.reduceLT, Int.reduceLE, Int.reduceNeg, Int.reduceToNat, Int.zero_add, Int.add_zero, decide_true, decide_false, Nat.reduceLeDiff, Nat.min_self, List.drop_succ_cons, List.drop_zero, List.drop_nil, List.take_succ_cons, List.take_zero, List.take_nil, List.all_cons, List.all_nil, Bool.and_true, Bool.true_and, Nat.mul_one, List.singleton_append, Int.le_refl, Nat.le_refl, c24_0, vLen_of, hs, hl, hg, h2, h3]
    · cases h3 : decide ((ls.length : Int) > 4096) with
      | true => simp -implicitDefEqProofs only [runEqs, List.zipIdx_cons, List.zipIdx_nil, List.map_cons, List.map_nil, Nat.zero_add, Nat.add_zero, Nat.zero_mul, Nat.reduceAdd, Nat.reduceMul, Nat.reduceBEq, Nat.reduceLT, Nat.reduceSub, Option.map_some, Option.map_none, Option.isSome_some, Option.isSome_none, Bool.not_true, Bool.not_false, Bool.true_or, Bool.false_or, Bool.or_true, List.getElem?_cons_zero, List.getElem?_cons_succ, List.set_cons_zero, List.set_cons_succ, List.length_cons, List.length_nil, List.length_append, List.append_assoc, List.cons_append, List.nil_append, List.zip_cons_cons, List.zip_nil_right, Int.reduceAdd, Int.reduceSub, Int.reduceMul, Int.reduceLT, Int.reduceLE, Int.reduceNeg, Int.reduceToNat, Int.zero_add, Int.add_zero, decide_true, decide_false, Nat.reduceLeDiff, Nat.min_self, List.drop_succ_cons, List.drop_zero, List.drop_nil, List.take_succ_cons, List.take_zero, List.take_nil, List.all_cons, List.all_nil, Bool.and_true, Bool.true_and, Nat.mul_one, List.singleton_append, Int.le_refl, Nat.le_refl, c24_0, vLen_of, hs, hl, hg, hg2, h3]
      | false => simp -implicitDefEqProofs only [runEqs, List.zipIdx_cons, List.zipIdx_nil, List.map_cons, List.map_nil, Nat.zero_add, Nat.add_zero, Nat.zero_mul, Nat.reduceAdd, Nat.reduceMul, Nat.reduceBEq, Nat.reduceLT, Nat.reduceSub, Option.map_some, Option.map_none, Option.isSome_some, Option.isSome_none, Bool.not_true, Bool.not_false, Bool.true_or, Bool.false_or, Bool.or_true, List.getElem?_cons_zero, List.getElem?_cons_succ, List.set_cons_zero, List.set_cons_succ, List.length_cons, List.length_nil, List.length_append, List.append_assoc, List.cons_append, List.nil_append, List.zip_cons_cons, List.zip_nil_right, Int.reduceAdd, Int.reduceSub, Int.reduceMul, Int.reduceLT, Int.reduceLE, Int.reduceNeg, Int.reduceToNat, Int.zero_add, Int.add_zero, decide_true, decide_false, Nat.reduceLeDiff, Nat.min_self, List.drop_succ_cons, List.drop_zero, List.drop_nil, List.take_succ_cons, List.take_zero, List.take_nil, List.all_cons, List.all_nil, Bool.and_true, Bool.true_and, Nat.mul_one, List.singleton_append, Int.le_refl, Nat.le_refl, c24_0, vLen_of, hs, hl, hg, hg2, h3]
  obtain ⟨b, h', hk, hb⟩ := key
  exact ⟨b, call_gc1 fn24 _ _ hk rfl, hb⟩

/-! ### absorbing in parts -/
theorem absN_congr (s : S8) (c l : List (BitVec 8)) : ∀ k, 16 * k ≤ c.length → absN s (c ++ l) k = absN s c k
  | 0, _ => rfl
  | k + 1, h => by
    rw [absN, absN, absN_congr s c l k (by omega), List.drop_append_of_le_length (by omega), List.take_append_of_le_length (by rw [List.length_drop]; omega)]
theorem absN_add (s : S8) (a : List (BitVec 8)) (k0 : Nat) : ∀ k, absN s a (k0 + k) = absN (absN s a k0) (a.drop (16 * k0)) k
  | 0 => rfl
  | k + 1 => by
    rw [← Nat.add_assoc, absN, absN, absN_add s a k0 k, List.drop_drop, show 16 * k0 + 16 * k = 16 * (k0 + k) by omega]
theorem abs_app (s : S8) (c l : List (BitVec 8)) : absS (absS s c) (restL c ++ l) = absS s (c ++ l) ∧ restL (restL c ++ l) = restL (c ++ l) := by
  have e1 : restL c ++ l = (c ++ l).drop (16 * (c.length / 16)) := by
    rw [restL, List.drop_append_of_le_length (by omega), Nat.mul_comm]
  have e2 : (restL c ++ l).length / 16 + c.length / 16 = (c ++ l).length / 16 := by
    rw [e1, List.length_drop, List.length_append]; omega
  constructor
  · unfold absS
    rw [← absN_congr s c l (c.length / 16) (by omega)]
    rw [← e2, Nat.add_comm, absN_add s (c ++ l) (c.length / 16), ← e1]
  · rw [restL, e1, restL, List.drop_drop]
    congr 1
    rw [← e1, ← e2]; omega

end Go.Proofs.Ytccepmhhilhajaa.K

/- Collide of the program; two lists of digests, compared. -/
set_option linter.unusedVariables false
set_option linter.unusedSimpArgs false
set_option maxRecDepth 100000
namespace Go.Proofs.Ytccepmhhilhajaa.K
open Go Go.A

theorem strL_inj : ∀ (a b : List (BitVec 8)), strL a = strL b → a = b
  | [], [], _ => rfl
  | [], _ :: _, h => by simp [strL] at h
  | _ :: _, [], h => by simp [strL] at h
  | x :: a, y :: b, h => by
    simp only [strL, List.map_cons, List.cons.injEq] at h
    have h1 := congrArg UInt8.toNat h.1
    rw [UInt8.toNat_ofNat', UInt8.toNat_ofNat', Nat.mod_eq_of_lt x.isLt, Nat.mod_eq_of_lt y.isLt] at h1
    rw [BitVec.eq_of_toNat_eq h1, strL_inj a b h.2]
theorem str_beq (a b : List (BitVec 8)) : (strL a == strL b) = (a == b) := by
  rw [Bool.eq_iff_iff, beq_iff_eq, beq_iff_eq]
  exact ⟨strL_inj a b, fun h => by rw [h]⟩
theorem neq_str (a b : List UInt8) : evBin .neq (.str a) (.str b) = some (.bool (!(a == b))) := Eq.trans rfl rfl

theorem call42 (n i : Int) (leaf other : List (BitVec 8)) (hlf : leaf.length < 8796093000000) (hlo : other.length < 8796093000000) (path way : List (List (BitVec 8))) (h16 : all16 path) (k16 : all16 way) (hpl : path.length < 4611686018427387) (hwl : way.length < 4611686018427387)
    (h : Heap) (lv p ov q : V) (hlv : rc 1 h lv = some (cu8 leaf)) (hp : rc 16 h p = some (cdg path)) (hov : rc 1 h ov = some (cu8 other)) (hq : rc 16 h q = some (cdg way)) :
    ∃ x y e g, (run T).call 42 [i64 n, i64 i, lv, p, ov, q] none h = some (.ret (.tup [x, y, i64 e]), none, h ++ g) ∧
      (placeE n i path.length ≠ 0 → e = placeE n i path.length) ∧ (placeE n i path.length = 0 → placeE n i way.length ≠ 0 → e = placeE n i way.length) ∧
      (placeE n i path.length = 0 → placeE n i way.length = 0 → (e = 3 ∧ ∀ j, j ≤ (sidL n.toNat i.toNat).length → curK (0 :: leaf) (nodesL path (sidL n.toNat i.toNat)) j ≠ curK (0 :: other) (nodesL way (sidL n.toNat i.toNat)) j →
          digL (curK (0 :: leaf) (nodesL path (sidL n.toNat i.toNat)) j) ≠ digL (curK (0 :: other) (nodesL way (sidL n.toNat i.toNat)) j)) ∨
        (e = 0 ∧ ¬ (leaf = other ∧ path = way) ∧ ∃ lx ly, rc 1 (h ++ g) x = some (cu8 lx) ∧ rc 1 (h ++ g) y = some (cu8 ly) ∧ lx ≠ ly ∧ digL lx = digL ly ∧ lx.length < 8796093022208 ∧ ly.length < 8796093022208)) := by
  obtain ⟨o1, g1, e1, L1, N1⟩ := call52 n i leaf hlf path h16 (by omega) h lv p hlv hp
  by_cases hE1 : placeE n i path.length = 0
  rotate_left
  · have hne : (placeE n i path.length != 0) = true := by simpa using hE1
    refine ⟨.nils, .nils, placeE n i path.length, g1, ?_, fun _ => rfl, fun hh => absurd hh hE1, fun hh => absurd hh hE1⟩
    rw [call_gc0 fn42]
    generalize placeE n i path.length = E at *
    simp -implicitDefEqProofs only [runEqs, List.zipIdx_cons, List.zipIdx_nil, List.map_cons, List.map_nil, Nat.zero_add, Nat.add_zero, Nat.zero_mul, Nat.reduceAdd, Nat.reduceMul, Nat.reduceBEq, Nat.reduceLT, Nat.reduceSub, Option.map_some, Option.map_none, Option.isSome_some, Option.isSome_none, Bool.not_true, Bool.not_false, Bool.true_or, Bool.false_or, Bool.or_true, List.getElem?_cons_zero, List.getElem?_cons_succ, List.set_cons_zero, List.set_cons_succ, List.length_cons, List.length_nil, List.length_append, List.append_assoc, List.cons_append, List.nil_append, List.zip_cons_cons, List.zip_nil_right, Int.reduceAdd, Int.reduceSub, Int.reduceMul, Int.reduceLT, Int.reduceLE, Int.reduceNeg, Int.reduceToNat, Int.zero_add, Int.add_zero, decide_true, decide_false, Nat.reduceLeDiff, Nat.min_self, List.drop_succ_cons, List.drop_zero, List.drop_nil, List.take_succ_cons, List.take_zero, List.take_nil, List.all_cons, List.all_nil, Bool.and_true, Bool.true_and, Nat.mul_one, List.singleton_append, Int.le_refl, Nat.le_refl, c42, r42, e1, hne]
  obtain ⟨o2, g2, e2, L2, N2⟩ := call52 n i other hlo way k16 (by omega) (h ++ g1) ov q (rc_app hov _) (rc_app hq _)
  have ne0 : ((0 : Int) != 0) = false := rfl
  rw [hE1] at e1
  by_cases hE2 : placeE n i way.length = 0
  rotate_left
  · have hne : (placeE n i way.length != 0) = true := by simpa using hE2
    refine ⟨.nils, .nils, placeE n i way.length, g1 ++ g2, ?_, fun hh => absurd hE1 hh, fun _ _ => rfl, fun _ hh => absurd hh hE2⟩
    rw [call_gc0 fn42]
    simp only [List.append_assoc] at e2
    generalize placeE n i way.length = E at *
    simp -implicitDefEqProofs only [runEqs, List.zipIdx_cons, List.zipIdx_nil, List.map_cons, List.map_nil, Nat.zero_add, Nat.add_zero, Nat.zero_mul, Nat.reduceAdd, Nat.reduceMul, Nat.reduceBEq, Nat.reduceLT, Nat.reduceSub, Option.map_some, Option.map_none, Option.isSome_some, Option.isSome_none, Bool.not_true, Bool.not_false, Bool.true_or, Bool.false_or, Bool.or_true, List.getElem?_cons_zero, List.getElem?_cons_succ, List.set_cons_zero, List.set_cons_succ, List.length_cons, List.length_nil, List.length_append, List.append_assoc, List.cons_append, List.nil_append, List.zip_cons_cons, List.zip_nil_right, Int.reduceAdd, Int.reduceSub, Int.reduceMul, Int.reduceLT, Int.reduceLE, Int.reduceNeg, Int.reduceToNat, Int.zero_add, Int.add_zero, decide_true, decide_false, Nat.reduceLeDiff, Nat.min_self, List.drop_succ_cons, List.drop_zero, List.drop_nil, List.take_succ_cons, List.take_zero, List.take_nil, List.all_cons, List.all_nil, Bool.and_true, Bool.true_and, Nat.mul_one, List.singleton_append, Int.le_refl, Nat.le_refl, c42, r42, e1, ne0, e2, hne]
  have L1 := (L1 hE1).app g2
  have L2 := L2 hE2
  rw [hE2] at e2
  have hm1 : path.length = (sidL n.toNat i.toNat).length := by
    rw [placeE] at hE1
    split at hE1
    · cases hE1
    · split at hE1
      · cases hE1
      · split at hE1
        · cases hE1
        · omega
  have hm2 : way.length = (sidL n.toNat i.toNat).length := by
    rw [placeE] at hE2
    split at hE2
    · cases hE2
    · split at hE2
      · cases hE2
      · split at hE2
        · cases hE2
        · omega
  generalize sidL n.toNat i.toNat = sd at *
  have hsame : leaf = other ∧ path = way → ∀ j, curK (0 :: leaf) (nodesL path sd) j = curK (0 :: other) (nodesL way sd) j := by rintro ⟨rfl, rfl⟩ j; rfl
  have a1 := nodes_ok path h16 sd
  have a2 := nodes_ok way k16 sd
  have n1 : (nodesL path sd).length = sd.length := by rw [nodesL, List.length_zip, List.length_reverse, hm1, Nat.min_self]
  have n2 : (nodesL way sd).length = sd.length := by rw [nodesL, List.length_zip, List.length_reverse, hm2, Nat.min_self]
  generalize nodesL path sd = nd1 at *
  generalize nodesL way sd = nd2 at *
  have hl1 : (hashL leaf nd1).length = sd.length + 1 := by simp [hashL, n1]
  have hl2 : (hashL other nd2).length = sd.length + 1 := by simp [hashL, n2]
  have c1 := fun j (hj : j ≤ sd.length) => curK_len leaf nd1 a1 j (by omega)
  have c2 := fun j (hj : j ≤ sd.length) => curK_len other nd2 a2 j (by omega)
  have ol1 := L1.len
  have ol2 := L2.len
  rw [hl1] at ol1
  rw [hl2] at ol2
  have os1 := L1.isS
  have os2 := L2.isS
  simp only [List.append_assoc] at e2 L1 L2
  generalize hHc : h ++ (g1 ++ g2) = Hc at *
  have hat : ∀ j, j ≤ sd.length → ∃ w1 w2, kAt (offOf o1 + j) (cellsAt Hc (blkOf o1)) = some w1 ∧ kAt (offOf o2 + j) (cellsAt Hc (blkOf o2)) = some w2 ∧ rc 1 Hc w1 = some (cu8 (curK (0 :: leaf) nd1 j)) ∧ rc 1 Hc w2 = some (cu8 (curK (0 :: other) nd2 j)) := fun j hj => by
    obtain ⟨w1, -, b1, b2⟩ := L1.at j (by omega)
    obtain ⟨w2, -, b3, b4⟩ := L2.at j (by omega)
    refine ⟨w1, w2, b1, b3, ?_, ?_⟩
    · rw [b2]; simp [hashL]
    · rw [b4]; simp [hashL]
  obtain ⟨k, vs', h', -, ⟨j, hj, rfl, rfl, hall, hend⟩, hlp⟩ := loop_st (T := T) (L := [15, 17, 42, 43]) (c := c42_0) (d := []) (u := some none)
    (fun m vs hh => ∃ j, j ≤ sd.length + 1 ∧ m = sd.length + 1 - j ∧ vs = [o1, o2, i64 ((sd.length + 1 : Nat) : Int), i64 j] ∧ hh = Hc ∧ ∀ j', j' < j → curK (0 :: leaf) nd1 j' ≠ curK (0 :: other) nd2 j' → digL (curK (0 :: leaf) nd1 j') ≠ digL (curK (0 :: other) nd2 j'))
    (fun m vs hh => ∃ j, j ≤ sd.length + 1 ∧ vs = [o1, o2, i64 ((sd.length + 1 : Nat) : Int), i64 j] ∧ hh = Hc ∧ (∀ j', j' < j → curK (0 :: leaf) nd1 j' ≠ curK (0 :: other) nd2 j' → digL (curK (0 :: leaf) nd1 j') ≠ digL (curK (0 :: other) nd2 j')) ∧
      (j = sd.length + 1 ∨ (j ≤ sd.length ∧ curK (0 :: leaf) nd1 j ≠ curK (0 :: other) nd2 j ∧ digL (curK (0 :: leaf) nd1 j) = digL (curK (0 :: other) nd2 j))))
    (by
      rintro m vs hh ⟨j, hj, rfl, rfl, rfl, hall⟩
      by_cases hs : j = sd.length + 1
      · exact .inl ⟨j, hj, rfl, rfl, hall, .inl hs⟩
      by_cases hd : curK (0 :: leaf) nd1 j ≠ curK (0 :: other) nd2 j ∧ digL (curK (0 :: leaf) nd1 j) = digL (curK (0 :: other) nd2 j)
      · exact .inl ⟨j, hj, rfl, rfl, hall, .inr ⟨by omega, hd⟩⟩
      right
      have hjm : j ≤ sd.length := by omega
      obtain ⟨w1, w2, t1, t2, r1, r2⟩ := hat j hjm
      have cc1 := c1 j hjm
      have cc2 := c2 j hjm
      refine ⟨sd.length + 1 - (j + 1), _, _, by omega, ?_, j + 1, by omega, rfl, rfl, rfl, fun j' hj' hn => ?_⟩
      rotate_left
      · by_cases hjj : j' < j
        · exact hall j' hjj hn
        · have : j' = j := by omega
          subst this
          exact fun he => hd ⟨hn, he⟩
      generalize curK (0 :: leaf) nd1 j = A at *
      generalize curK (0 :: other) nd2 j = B at *
      have hlt : decide ((j : Int) < ((sd.length + 1 : Nat) : Int)) = true := by simp; omega
      have hw := wr_succ_nat j (by omega)
      have s1 := vStr_rc r1
      have s2 := vStr_rc r2
      have hj1 : j < sd.length + 1 := by omega
      have d1 := call39 A (by omega) _ w1 r1
      have d2 := call39 B (by omega) _ w2 r2
      have heq := eq16 _ _ (digL_len A) (digL_len B)
      by_cases hAB : A = B
      · have hb : (A == B) = true := by simpa using hAB
        simp -implicitDefEqProofs only [runEqs, List.zipIdx_cons, List.zipIdx_nil, List.map_cons, List.map_nil, Nat.zero_add, Nat.add_zero, Nat.zero_mul, Nat.reduceAdd, Nat.reduceMul, Nat.reduceBEq, Nat.reduceLT, Nat.reduceSub, Option.map_some, Option.map_none, Option.isSome_some, Option.isSome_none, Bool.not_true, Bool.not_false, Bool.true_or, Bool.false_or, Bool.or_true, List.getElem?_cons_zero, List.getElem?_cons_succ, List.set_cons_zero, List.set_cons_succ, List.length_cons, List.length_nil, List.length_append, List.append_assoc, List.cons_append, List.nil_append, List.zip_cons_cons, List.zip_nil_right, Int.reduceAdd, Int.reduceSub, Int.reduceMul, Int.reduceLT, Int.reduceLE, Int.reduceNeg, Int.reduceToNat, Int.zero_add, Int.add_zero, decide_true, decide_false, Nat.reduceLeDiff, Nat.min_self, List.drop_succ_cons, List.drop_zero, List.drop_nil, List.take_succ_cons, List.take_zero, List.take_nil, List.all_cons, List.all_nil, Bool.and_true, Bool.true_and, Nat.mul_one, List.singleton_append, Int.le_refl, Nat.le_refl, c42_0, hlt, hw, vIS_of, ol1, ol2, hj1, t1, t2, s1, s2, neq_str, str_beq, hb]
        exact nxt_some _ _ _ _ _ _ _ rfl rfl
      · have hb : (A == B) = false := by simpa using hAB
        have hdd : digL A ≠ digL B := fun he => hd ⟨hAB, he⟩
        have hdb : (digL A == digL B) = false := by simpa using hdd
        rw [hdb] at heq
        simp -implicitDefEqProofs only [runEqs, List.zipIdx_cons, List.zipIdx_nil, List.map_cons, List.map_nil, Nat.zero_add, Nat.add_zero, Nat.zero_mul, Nat.reduceAdd, Nat.reduceMul, Nat.reduceBEq, Nat.reduceLT, Nat.reduceSub, Option.map_some, Option.map_none, Option.isSome_some, Option.isSome_none, Bool.not_true, Bool.not_false, Bool.true_or, Bool.false_or, Bool.or_true, List.getElem?_cons_zero, List.getElem?_cons_succ, List.set_cons_zero, List.set_cons_succ, List.length_cons, List.length_nil, List.length_append, List.append_assoc, List.cons_append, List.nil_append, List.zip_cons_cons, List.zip_nil_right, Int.reduceAdd, Int.reduceSub, Int.reduceMul, Int.reduceLT, Int.reduceLE, Int.reduceNeg, Int.reduceToNat, Int.zero_add, Int.add_zero, decide_true, decide_false, Nat.reduceLeDiff, Nat.min_self, List.drop_succ_cons, List.drop_zero, List.drop_nil, List.take_succ_cons, List.take_zero, List.take_nil, List.all_cons, List.all_nil, Bool.and_true, Bool.true_and, Nat.mul_one, List.singleton_append, Int.le_refl, Nat.le_refl, c42_0, hlt, hw, vIS_of, ol1, ol2, hj1, t1, t2, s1, s2, neq_str, str_beq, hb, d1, d2, heq]
        exact nxt_some _ _ _ _ _ _ _ rfl rfl)
    (sd.length + 1) [o1, o2, i64 ((sd.length + 1 : Nat) : Int), i64 0] Hc ⟨0, by omega, by omega, rfl, rfl, fun j' hj' => absurd hj' (by omega)⟩
  simp only [List.zip_cons_cons, List.zip_nil_right] at hlp
  by_cases hs : j = sd.length + 1
  · subst hs
    have hf : decide (((sd.length + 1 : Nat) : Int) < ((sd.length + 1 : Nat) : Int)) = false := by simp
    refine ⟨.nils, .nils, 3, g1 ++ g2, ?_, fun hh => absurd hE1 hh, fun _ hh => absurd hE2 hh, fun _ _ => .inl ⟨rfl, fun j' hj' => hall j' (by omega)⟩⟩
    rw [call_gc0 fn42]
    subst hHc
    simp -implicitDefEqProofs only [runEqs, List.zipIdx_cons, List.zipIdx_nil, List.map_cons, List.map_nil, Nat.zero_add, Nat.add_zero, Nat.zero_mul, Nat.reduceAdd, Nat.reduceMul, Nat.reduceBEq, Nat.reduceLT, Nat.reduceSub, Option.map_some, Option.map_none, Option.isSome_some, Option.isSome_none, Bool.not_true, Bool.not_false, Bool.true_or, Bool.false_or, Bool.or_true, List.getElem?_cons_zero, List.getElem?_cons_succ, List.set_cons_zero, List.set_cons_succ, List.length_cons, List.length_nil, List.length_append, List.append_assoc, List.cons_append, List.nil_append, List.zip_cons_cons, List.zip_nil_right, Int.reduceAdd, Int.reduceSub, Int.reduceMul, Int.reduceLT, Int.reduceLE, Int.reduceNeg, Int.reduceToNat, Int.zero_add, Int.add_zero, decide_true, decide_false, Nat.reduceLeDiff, Nat.min_self, List.drop_succ_cons, List.drop_zero, List.drop_nil, List.take_succ_cons, List.take_zero, List.take_nil, List.all_cons, List.all_nil, Bool.and_true, Bool.true_and, Nat.mul_one, List.singleton_append, Int.le_refl, Nat.le_refl, c42, r42, e1, ne0, e2, vLen_of, os1, ol1, hlp]
    simp -implicitDefEqProofs only [runEqs, List.zipIdx_cons, List.zipIdx_nil, List.map_cons, List.map_nil, Nat.zero_add, Nat.add_zero, Nat.zero_mul, Nat.reduceAdd, Nat.reduceMul, Nat.reduceBEq, Nat.reduceLT, Nat.reduceSub, Option.map_some, Option.map_none, Option.isSome_some, Option.isSome_none, Bool.not_true, Bool.not_false, Bool.true_or, Bool.false_or, Bool.or_true, List.getElem?_cons_zero, List.getElem?_cons_succ, List.set_cons_zero, List.set_cons_succ, List.length_cons, List.length_nil, List.length_append, List.append_assoc, List.cons_append, List.nil_append, List.zip_cons_cons, List.zip_nil_right, Int.reduceAdd, Int.reduceSub, Int.reduceMul, Int.reduceLT, Int.reduceLE, Int.reduceNeg, Int.reduceToNat, Int.zero_add, Int.add_zero, decide_true, decide_false, Nat.reduceLeDiff, Nat.min_self, List.drop_succ_cons, List.drop_zero, List.drop_nil, List.take_succ_cons, List.take_zero, List.take_nil, List.all_cons, List.all_nil, Bool.and_true, Bool.true_and, Nat.mul_one, List.singleton_append, Int.le_refl, Nat.le_refl, c42_0, hf]
  · obtain ⟨hjm, hn, he⟩ := hend.resolve_left hs
    obtain ⟨w1, w2, t1, t2, r1, r2⟩ := hat j hjm
    have cc1 := c1 j hjm
    have cc2 := c2 j hjm
    refine ⟨w1, w2, 0, g1 ++ g2, ?_, fun hh => absurd hE1 hh, fun _ hh => absurd hE2 hh, fun _ _ => .inr ⟨rfl, fun hh => hn (hsame hh j), _, _, by rw [hHc]; exact r1, by rw [hHc]; exact r2, hn, he, by omega, by omega⟩⟩
    generalize curK (0 :: leaf) nd1 j = A at *
    generalize curK (0 :: other) nd2 j = B at *
    have hlt : decide ((j : Int) < ((sd.length + 1 : Nat) : Int)) = true := by simp; omega
    have s1 := vStr_rc r1
    have s2 := vStr_rc r2
    have hj1 : j < sd.length + 1 := by omega
    have d1 := call39 A (by omega) _ w1 r1
    have d2 := call39 B (by omega) _ w2 r2
    have heq := eq16 _ _ (digL_len A) (digL_len B)
    rw [he, beq_self_eq_true] at heq
    rw [he] at d1
    have hb : (A == B) = false := by simpa using hn
    rw [call_gc0 fn42]
    subst hHc
    simp -implicitDefEqProofs only [runEqs, List.zipIdx_cons, List.zipIdx_nil, List.map_cons, List.map_nil, Nat.zero_add, Nat.add_zero, Nat.zero_mul, Nat.reduceAdd, Nat.reduceMul, Nat.reduceBEq, Nat.reduceLT, Nat.reduceSub, Option.map_some, Option.map_none, Option.isSome_some, Option.isSome_none, Bool.not_true, Bool.not_false, Bool.true_or, Bool.false_or, Bool.or_true, List.getElem?_cons_zero, List.getElem?_cons_succ, List.set_cons_zero, List.set_cons_succ, List.length_cons, List.length_nil, List.length_append, List.append_assoc, List.cons_append, List.nil_append, List.zip_cons_cons, List.zip_nil_right, Int.reduceAdd, Int.reduceSub, Int.reduceMul, Int.reduceLT, Int.reduceLE, Int.reduceNeg, Int.reduceToNat, Int.zero_add, Int.add_zero, decide_true, decide_false, Nat.reduceLeDiff, Nat.min_self, List.drop_succ_cons, List.drop_zero, List.drop_nil, List.take_succ_cons, List.take_zero, List.take_nil, List.all_cons, List.all_nil, Bool.and_true, Bool.true_and, Nat.mul_one, List.singleton_append, Int.le_refl, Nat.le_refl, c42, r42, e1, ne0, e2, vLen_of, os1, ol1, hlp]
    simp -implicitDefEqProofs only [runEqs, List.zipIdx_cons, List.zipIdx_nil, List.map_cons, List.map_nil, Nat.zero_add, Nat.add_zero, Nat.zero_mul, Nat.reduceAdd, Nat.reduceMul, Nat.reduceBEq, Nat.reduceLT, Nat.reduceSub, Option.map_some, Option.map_none, Option.isSome_some, Option.isSome_none, Bool.not_true, Bool.not_false, Bool.true_or, Bool.false_or, Bool.or_true, List.getElem?_cons_zero, List.getElem?_cons_succ, List.set_cons_zero, List.set_cons_succ, List.length_cons, List.length_nil, List.length_append, List.append_assoc, List.cons_append, List.nil_append, List.zip_cons_cons, List.zip_nil_right, Int.reduceAdd, Int.reduceSub, Int.reduceMul, Int.reduceLT, Int.reduceLE, Int.reduceNeg, Int.reduceToNat, Int.zero_add, Int.add_zero, decide_true, decide_false, Nat.reduceLeDiff, Nat.min_self, List.drop_succ_cons, List.drop_zero, List.drop_nil, List.take_succ_cons, List.take_zero, List.take_nil, List.all_cons, List.all_nil, Bool.and_true, Bool.true_and, Nat.mul_one, List.singleton_append, Int.le_refl, Nat.le_refl, c42_0, hlt, vIS_of, ol1, ol2, hj1, t1, t2, s1, s2, neq_str, str_beq, hb, d1, d2, heq]
end Go.Proofs.Ytccepmhhilhajaa.K

/- Collide of the program: which pair comes back. -/
set_option linter.unusedVariables false
set_option linter.unusedSimpArgs false
set_option maxRecDepth 100000
namespace Go.Proofs.Ytccepmhhilhajaa.K
open Go Go.A

theorem call42w (n i : Int) (leaf other : List (BitVec 8)) (hlf : leaf.length < 8796093000000) (hlo : other.length < 8796093000000) (path way : List (List (BitVec 8))) (h16 : all16 path) (k16 : all16 way) (hpl : path.length < 4611686018427387) (hwl : way.length < 4611686018427387)
    (h : Heap) (lv p ov q : V) (hlv : rc 1 h lv = some (cu8 leaf)) (hp : rc 16 h p = some (cdg path)) (hov : rc 1 h ov = some (cu8 other)) (hq : rc 16 h q = some (cdg way)) :
    ∃ x y e g, (run T).call 42 [i64 n, i64 i, lv, p, ov, q] none h = some (.ret (.tup [x, y, i64 e]), none, h ++ g) ∧ (e ≠ 0 → x = .nils ∧ y = .nils) ∧
      (placeE n i path.length ≠ 0 → e = placeE n i path.length) ∧ (placeE n i path.length = 0 → placeE n i way.length ≠ 0 → e = placeE n i way.length) ∧
      (placeE n i path.length = 0 → placeE n i way.length = 0 → (e = 3 ∧ ∀ j, j ≤ (sidL n.toNat i.toNat).length → curK (0 :: leaf) (nodesL path (sidL n.toNat i.toNat)) j ≠ curK (0 :: other) (nodesL way (sidL n.toNat i.toNat)) j →
          digL (curK (0 :: leaf) (nodesL path (sidL n.toNat i.toNat)) j) ≠ digL (curK (0 :: other) (nodesL way (sidL n.toNat i.toNat)) j)) ∨
        (e = 0 ∧ ¬ (leaf = other ∧ path = way) ∧ ∃ lx ly, rc 1 (h ++ g) x = some (cu8 lx) ∧ rc 1 (h ++ g) y = some (cu8 ly) ∧ lx ≠ ly ∧ digL lx = digL ly ∧ lx.length < 8796093022208 ∧ ly.length < 8796093022208 ∧ ∃ j, j ≤ (sidL n.toNat i.toNat).length ∧ lx = curK (0 :: leaf) (nodesL path (sidL n.toNat i.toNat)) j ∧ ly = curK (0 :: other) (nodesL way (sidL n.toNat i.toNat)) j ∧ ∀ j', j' < j → curK (0 :: leaf) (nodesL path (sidL n.toNat i.toNat)) j' ≠ curK (0 :: other) (nodesL way (sidL n.toNat i.toNat)) j' → digL (curK (0 :: leaf) (nodesL path (sidL n.toNat i.toNat)) j') ≠ digL (curK (0 :: other) (nodesL way (sidL n.toNat i.toNat)) j'))) := by
  obtain ⟨o1, g1, e1, L1, N1⟩ := call52 n i leaf hlf path h16 (by omega) h lv p hlv hp
  by_cases hE1 : placeE n i path.length = 0
  rotate_left
  · have hne : (placeE n i path.length != 0) = true := by simpa using hE1
    refine ⟨.nils, .nils, placeE n i path.length, g1, ?_, fun _ => ⟨rfl, rfl⟩, fun _ => rfl, fun hh => absurd hh hE1, fun hh => absurd hh hE1⟩
    rw [call_gc0 fn42]
    generalize placeE n i path.length = E at *
    simp -implicitDefEqProofs only [runEqs, List.zipIdx_cons, List.zipIdx_nil, List.map_cons, List.map_nil, Nat.zero_add, Nat.add_zero, Nat.zero_mul, Nat.reduceAdd, Nat.reduceMul, Nat.reduceBEq, Nat.reduceLT, Nat.reduceSub, Option.map_some, Option.map_none, Option.isSome_some, Option.isSome_none, Bool.not_true, Bool.not_false, Bool.true_or, Bool.false_or, Bool.or_true, List.getElem?_cons_zero, List.getElem?_cons_succ, List.set_cons_zero, List.set_cons_succ, List.length_cons, List.length_nil, List.length_append, List.append_assoc, List.cons_append, List.nil_append, List.zip_cons_cons, List.zip_nil_right, Int.reduceAdd, Int.reduceSub, Int.reduceMul, Int.reduceLT, Int.reduceLE, Int.reduceNeg, Int.reduceToNat, Int.zero_add, Int.add_zero, decide_true, decide_false, Nat.reduceLeDiff, Nat.min_self, List.drop_succ_cons, List.drop_zero, List.drop_nil, List.take_succ_cons, List.take_zero, List.take_nil, List.all_cons, List.all_nil, Bool.and_true, Bool.true_and, Nat.mul_one, List.singleton_append, Int.le_refl, Nat.le_refl, c42, r42, e1, hne]
  obtain ⟨o2, g2, e2, L2, N2⟩ := call52 n i other hlo way k16 (by omega) (h ++ g1) ov q (rc_app hov _) (rc_app hq _)
  have ne0 : ((0 : Int) != 0) = false := rfl
  rw [hE1] at e1
  by_cases hE2 : placeE n i way.length = 0
  rotate_left
  · have hne : (placeE n i way.length != 0) = true := by simpa using hE2
    refine ⟨.nils, .nils, placeE n i way.length, g1 ++ g2, ?_, fun _ => ⟨rfl, rfl⟩, fun hh => absurd hE1 hh, fun _ _ => rfl, fun _ hh => absurd hh hE2⟩
    rw [call_gc0 fn42]
    simp only [List.append_assoc] at e2
    generalize placeE n i way.length = E at *
    simp -implicitDefEqProofs only [runEqs, List.zipIdx_cons, List.zipIdx_nil, List.map_cons, List.map_nil, Nat.zero_add, Nat.add_zero, Nat.zero_mul, Nat.reduceAdd, Nat.reduceMul, Nat.reduceBEq, Nat.reduceLT, Nat.reduceSub, Option.map_some, Option.map_none, Option.isSome_some, Option.isSome_none, Bool.not_true, Bool.not_false, Bool.true_or, Bool.false_or, Bool.or_true, List.getElem?_cons_zero, List.getElem?_cons_succ, List.set_cons_zero, List.set_cons_succ, List.length_cons, List.length_nil, List.length_append, List.append_assoc, List.cons_append, List.nil_append, List.zip_cons_cons, List.zip_nil_right, Int.reduceAdd, Int.reduceSub, Int.reduceMul, Int.reduceLT, Int.reduceLE, Int.reduceNeg, Int.reduceToNat, Int.zero_add, Int.add_zero, decide_true, decide_false, Nat.reduceLeDiff, Nat.min_self, List.drop_succ_cons, List.drop_zero, List.drop_nil, List.take_succ_cons, List.take_zero, List.take_nil, List.all_cons, List.all_nil, Bool.and_true, Bool.true_and, Nat.mul_one, List.singleton_append, Int.le_refl, Nat.le_refl, c42, r42, e1, ne0, e2, hne]
  have L1 := (L1 hE1).app g2
  have L2 := L2 hE2
  rw [hE2] at e2
  have hm1 : path.length = (sidL n.toNat i.toNat).length := by
    rw [placeE] at hE1
    split at hE1
    · cases hE1
    · split at hE1
      · cases hE1
      · split at hE1
        · cases hE1
        · omega
  have hm2 : way.length = (sidL n.toNat i.toNat).length := by
    rw [placeE] at hE2
    split at hE2
    · cases hE2
    · split at hE2
      · cases hE2
      · split at hE2
        · cases hE2
        · omega
  generalize sidL n.toNat i.toNat = sd at *
  have hsame : leaf = other ∧ path = way → ∀ j, curK (0 :: leaf) (nodesL path sd) j = curK (0 :: other) (nodesL way sd) j := by rintro ⟨rfl, rfl⟩ j; rfl
  have a1 := nodes_ok path h16 sd
  have a2 := nodes_ok way k16 sd
  have n1 : (nodesL path sd).length = sd.length := by rw [nodesL, List.length_zip, List.length_reverse, hm1, Nat.min_self]
  have n2 : (nodesL way sd).length = sd.length := by rw [nodesL, List.length_zip, List.length_reverse, hm2, Nat.min_self]
  generalize nodesL path sd = nd1 at *
  generalize nodesL way sd = nd2 at *
  have hl1 : (hashL leaf nd1).length = sd.length + 1 := by simp [hashL, n1]
  have hl2 : (hashL other nd2).length = sd.length + 1 := by simp [hashL, n2]
  have c1 := fun j (hj : j ≤ sd.length) => curK_len leaf nd1 a1 j (by omega)
  have c2 := fun j (hj : j ≤ sd.length) => curK_len other nd2 a2 j (by omega)
  have ol1 := L1.len
  have ol2 := L2.len
  rw [hl1] at ol1
  rw [hl2] at ol2
  have os1 := L1.isS
  have os2 := L2.isS
  simp only [List.append_assoc] at e2 L1 L2
  generalize hHc : h ++ (g1 ++ g2) = Hc at *
  have hat : ∀ j, j ≤ sd.length → ∃ w1 w2, kAt (offOf o1 + j) (cellsAt Hc (blkOf o1)) = some w1 ∧ kAt (offOf o2 + j) (cellsAt Hc (blkOf o2)) = some w2 ∧ rc 1 Hc w1 = some (cu8 (curK (0 :: leaf) nd1 j)) ∧ rc 1 Hc w2 = some (cu8 (curK (0 :: other) nd2 j)) := fun j hj => by
    obtain ⟨w1, -, b1, b2⟩ := L1.at j (by omega)
    obtain ⟨w2, -, b3, b4⟩ := L2.at j (by omega)
    refine ⟨w1, w2, b1, b3, ?_, ?_⟩
    · rw [b2]; simp [hashL]
    · rw [b4]; simp [hashL]
  obtain ⟨k, vs', h', -, ⟨j, hj, rfl, rfl, hall, hend⟩, hlp⟩ := loop_st (T := T) (L := [15, 17, 42, 43]) (c := c42_0) (d := []) (u := some none)
    (fun m vs hh => ∃ j, j ≤ sd.length + 1 ∧ m = sd.length + 1 - j ∧ vs = [o1, o2, i64 ((sd.length + 1 : Nat) : Int), i64 j] ∧ hh = Hc ∧ ∀ j', j' < j → curK (0 :: leaf) nd1 j' ≠ curK (0 :: other) nd2 j' → digL (curK (0 :: leaf) nd1 j') ≠ digL (curK (0 :: other) nd2 j'))
    (fun m vs hh => ∃ j, j ≤ sd.length + 1 ∧ vs = [o1, o2, i64 ((sd.length + 1 : Nat) : Int), i64 j] ∧ hh = Hc ∧ (∀ j', j' < j → curK (0 :: leaf) nd1 j' ≠ curK (0 :: other) nd2 j' → digL (curK (0 :: leaf) nd1 j') ≠ digL (curK (0 :: other) nd2 j')) ∧
      (j = sd.length + 1 ∨ (j ≤ sd.length ∧ curK (0 :: leaf) nd1 j ≠ curK (0 :: other) nd2 j ∧ digL (curK (0 :: leaf) nd1 j) = digL (curK (0 :: other) nd2 j))))
    (by
      rintro m vs hh ⟨j, hj, rfl, rfl, rfl, hall⟩
      by_cases hs : j = sd.length + 1
      · exact .inl ⟨j, hj, rfl, rfl, hall, .inl hs⟩
      by_cases hd : curK (0 :: leaf) nd1 j ≠ curK (0 :: other) nd2 j ∧ digL (curK (0 :: leaf) nd1 j) = digL (curK (0 :: other) nd2 j)
      · exact .inl ⟨j, hj, rfl, rfl, hall, .inr ⟨by omega, hd⟩⟩
      right
      have hjm : j ≤ sd.length := by omega
      obtain ⟨w1, w2, t1, t2, r1, r2⟩ := hat j hjm
      have cc1 := c1 j hjm
      have cc2 := c2 j hjm
      refine ⟨sd.length + 1 - (j + 1), _, _, by omega, ?_, j + 1, by omega, rfl, rfl, rfl, fun j' hj' hn => ?_⟩
      rotate_left
      · by_cases hjj : j' < j
        · exact hall j' hjj hn
        · have : j' = j := by omega
          subst this
          exact fun he => hd ⟨hn, he⟩
      generalize curK (0 :: leaf) nd1 j = A at *
      generalize curK (0 :: other) nd2 j = B at *
      have hlt : decide ((j : Int) < ((sd.length + 1 : Nat) : Int)) = true := by simp; omega
      have hw := wr_succ_nat j (by omega)
      have s1 := vStr_rc r1
      have s2 := vStr_rc r2
      have hj1 : j < sd.length + 1 := by omega
      have d1 := call39 A (by omega) _ w1 r1
      have d2 := call39 B (by omega) _ w2 r2
      have heq := eq16 _ _ (digL_len A) (digL_len B)
      by_cases hAB : A = B
      · have hb : (A == B) = true := by simpa using hAB
        simp -implicitDefEqProofs only [runEqs, List.zipIdx_cons, List.zipIdx_nil, List.map_cons, List.map_nil, Nat.zero_add, Nat.add_zero, Nat.zero_mul, Nat.reduceAdd, Nat.reduceMul, Nat.reduceBEq, Nat.reduceLT, Nat.reduceSub, Option.map_some, Option.map_none, Option.isSome_some, Option.isSome_none, Bool.not_true, Bool.not_false, Bool.true_or, Bool.false_or, Bool.or_true, List.getElem?_cons_zero, List.getElem?_cons_succ, List.set_cons_zero, List.set_cons_succ, List.length_cons, List.length_nil, List.length_append, List.append_assoc, List.cons_append, List.nil_append, List.zip_cons_cons, List.zip_nil_right, Int.reduceAdd, Int.reduceSub, Int.reduceMul, Int.reduceLT, Int.reduceLE, Int.reduceNeg, Int.reduceToNat, Int.zero_add, Int.add_zero, decide_true, decide_false, Nat.reduceLeDiff, Nat.min_self, List.drop_succ_cons, List.drop_zero, List.drop_nil, List.take_succ_cons, List.take_zero, List.take_nil, List.all_cons, List.all_nil, Bool.and_true, Bool.true_and, Nat.mul_one, List.singleton_append, Int.le_refl, Nat.le_refl, c42_0, hlt, hw, vIS_of, ol1, ol2, hj1, t1, t2, s1, s2, neq_str, str_beq, hb]
        exact nxt_some _ _ _ _ _ _ _ rfl rfl
      · have hb : (A == B) = false := by simpa using hAB
        have hdd : digL A ≠ digL B := fun he => hd ⟨hAB, he⟩
        have hdb : (digL A == digL B) = false := by simpa using hdd
        rw [hdb] at heq
        simp -implicitDefEqProofs only [runEqs, List.zipIdx_cons, List.zipIdx_nil, List.map_cons, List.map_nil, Nat.zero_add, Nat.add_zero, Nat.zero_mul, Nat.reduceAdd, Nat.reduceMul, Nat.reduceBEq, Nat.reduceLT, Nat.reduceSub, Option.map_some, Option.map_none, Option.isSome_some, Option.isSome_none, Bool.not_true, Bool.not_false, Bool.true_or, Bool.false_or, Bool.or_true, List.getElem?_cons_zero, List.getElem?_cons_succ, List.set_cons_zero, List.set_cons_succ, List.length_cons, List.length_nil, List.length_append, List.append_assoc, List.cons_append, List.nil_append, List.zip_cons_cons, List.zip_nil_right, Int.reduceAdd, Int.reduceSub, Int.reduceMul, Int.reduceLT, Int.reduceLE, Int.reduceNeg, Int.reduceToNat, Int.zero_add, Int.add_zero, decide_true, decide_false, Nat.reduceLeDiff, Nat.min_self, List.drop_succ_cons, List.drop_zero, List.drop_nil, List.take_succ_cons, List.take_zero, List.take_nil, List.all_cons, List.all_nil, Bool.and_true, Bool.true_and, Nat.mul_one, List.singleton_append, Int.le_refl, Nat.le_refl, c42_0, hlt, hw, vIS_of, ol1, ol2, hj1, t1, t2, s1, s2, neq_str, str_beq, hb, d1, d2, heq]
        exact nxt_some _ _ _ _ _ _ _ rfl rfl)
    (sd.length + 1) [o1, o2, i64 ((sd.length + 1 : Nat) : Int), i64 0] Hc ⟨0, by omega, by omega, rfl, rfl, fun j' hj' => absurd hj' (by omega)⟩
  simp only [List.zip_cons_cons, List.zip_nil_right] at hlp
  by_cases hs : j = sd.length + 1
  · subst hs
    have hf : decide (((sd.length + 1 : Nat) : Int) < ((sd.length + 1 : Nat) : Int)) = false := by simp
    refine ⟨.nils, .nils, 3, g1 ++ g2, ?_, fun _ => ⟨rfl, rfl⟩, fun hh => absurd hE1 hh, fun _ hh => absurd hE2 hh, fun _ _ => .inl ⟨rfl, fun j' hj' => hall j' (by omega)⟩⟩
    rw [call_gc0 fn42]
    subst hHc
    simp -implicitDefEqProofs only [runEqs, List.zipIdx_cons, List.zipIdx_nil, List.map_cons, List.map_nil, Nat.zero_add, Nat.add_zero, Nat.zero_mul, Nat.reduceAdd, Nat.reduceMul, Nat.reduceBEq, Nat.reduceLT, Nat.reduceSub, Option.map_some, Option.map_none, Option.isSome_some, Option.isSome_none, Bool.not_true, Bool.not_false, Bool.true_or, Bool.false_or, Bool.or_true, List.getElem?_cons_zero, List.getElem?_cons_succ, List.set_cons_zero, List.set_cons_succ, List.length_cons, List.length_nil, List.length_append, List.append_assoc, List.cons_append, List.nil_append, List.zip_cons_cons, List.zip_nil_right, Int.reduceAdd, Int.reduceSub, Int.reduceMul, Int.reduceLT, Int.reduceLE, Int.reduceNeg, Int.reduceToNat, Int.zero_add, Int.add_zero, decide_true, decide_false, Nat.reduceLeDiff, Nat.min_self, List.drop_succ_cons, List.drop_zero, List.drop_nil, List.take_succ_cons, List.take_zero, List.take_nil, List.all_cons, List.all_nil, Bool.and_true, Bool.true_and, Nat.mul_one, List.singleton_append, Int.le_refl, Nat.le_refl, c42, r42, e1, ne0, e2, vLen_of, os1, ol1, hlp]
    simp -implicitDefEqProofs only [runEqs, List.zipIdx_cons, List.zipIdx_nil, List.map_cons, List.map_nil, Nat.zero_add, Nat.add_zero, Nat.zero_mul, Nat.reduceAdd, Nat.reduceMul, Nat.reduceBEq, Nat.reduceLT, Nat.reduceSub, Option.map_some, Option.map_none, Option.isSome_some, Option.isSome_none, Bool.not_true, Bool.not_false, Bool.true_or, Bool.false_or, Bool.or_true, List.getElem?_cons_zero, List.getElem?_cons_succ, List.set_cons_zero, List.set_cons_succ, List.length_cons, List.length_nil, List.length_append, List.append_assoc, List.cons_append, List.nil_append, List.zip_cons_cons, List.zip_nil_right, Int.reduceAdd, Int.reduceSub, Int.reduceMul, Int.reduceLT, Int.reduceLE, Int.reduceNeg, Int.reduceToNat, Int.zero_add, Int.add_zero, decide_true, decide_false, Nat.reduceLeDiff, Nat.min_self, List.drop_succ_cons, List.drop_zero, List.drop_nil, List.take_succ_cons, List.take_zero, List.take_nil, List.all_cons, List.all_nil, Bool.and_true, Bool.true_and, Nat.mul_one, List.singleton_append, Int.le_refl, Nat.le_refl, c42_0, hf]
  · obtain ⟨hjm, hn, he⟩ := hend.resolve_left hs
    obtain ⟨w1, w2, t1, t2, r1, r2⟩ := hat j hjm
    have cc1 := c1 j hjm
    have cc2 := c2 j hjm
    refine ⟨w1, w2, 0, g1 ++ g2, ?_, fun hh => absurd rfl hh, fun hh => absurd hE1 hh, fun _ hh => absurd hE2 hh, fun _ _ => .inr ⟨rfl, fun hh => hn (hsame hh j), _, _, by rw [hHc]; exact r1, by rw [hHc]; exact r2, hn, he, by omega, by omega, j, hjm, rfl, rfl, hall⟩⟩
    generalize curK (0 :: leaf) nd1 j = A at *
    generalize curK (0 :: other) nd2 j = B at *
    have hlt : decide ((j : Int) < ((sd.length + 1 : Nat) : Int)) = true := by simp; omega
    have s1 := vStr_rc r1
    have s2 := vStr_rc r2
    have hj1 : j < sd.length + 1 := by omega
    have d1 := call39 A (by omega) _ w1 r1
    have d2 := call39 B (by omega) _ w2 r2
    have heq := eq16 _ _ (digL_len A) (digL_len B)
    rw [he, beq_self_eq_true] at heq
    rw [he] at d1
    have hb : (A == B) = false := by simpa using hn
    rw [call_gc0 fn42]
    subst hHc
    simp -implicitDefEqProofs only [runEqs, List.zipIdx_cons, List.zipIdx_nil, List.map_cons, List.map_nil, Nat.zero_add, Nat.add_zero, Nat.zero_mul, Nat.reduceAdd, Nat.reduceMul, Nat.reduceBEq, Nat.reduceLT, Nat.reduceSub, Option.map_some, Option.map_none, Option.isSome_some, Option.isSome_none, Bool.not_true, Bool.not_false, Bool.true_or, Bool.false_or, Bool.or_true, List.getElem?_cons_zero, List.getElem?_cons_succ, List.set_cons_zero, List.set_cons_succ, List.length_cons, List.length_nil, List.length_append, List.append_assoc, List.cons_append, List.nil_append, List.zip_cons_cons, List.zip_nil_right, Int.reduceAdd, Int.reduceSub, Int.reduceMul, Int.reduceLT, Int.reduceLE, Int.reduceNeg, Int.reduceToNat, Int.zero_add, Int.add_zero, decide_true, decide_false, Nat.reduceLeDiff, Nat.min_self, List.drop_succ_cons, List.drop_zero, List.drop_nil, List.take_succ_cons, List.take_zero, List.take_nil, List.all_cons, List.all_nil, Bool.and_true, Bool.true_and, Nat.mul_one, List.singleton_append, Int.le_refl, Nat.le_refl, c42, r42, e1, ne0, e2, vLen_of, os1, ol1, hlp]
    simp -implicitDefEqProofs only [runEqs, List.zipIdx_cons, List.zipIdx_nil, List.map_cons, List.map_nil, Nat.zero_add, Nat.add_zero, Nat.zero_mul, Nat.reduceAdd, Nat.reduceMul, Nat.reduceBEq, Nat.reduceLT, Nat.reduceSub, Option.map_some, Option.map_none, Option.isSome_some, Option.isSome_none, Bool.not_true, Bool.not_false, Bool.true_or, Bool.false_or, Bool.or_true, List.getElem?_cons_zero, List.getElem?_cons_succ, List.set_cons_zero, List.set_cons_succ, List.length_cons, List.length_nil, List.length_append, List.append_assoc, List.cons_append, List.nil_append, List.zip_cons_cons, List.zip_nil_right, Int.reduceAdd, Int.reduceSub, Int.reduceMul, Int.reduceLT, Int.reduceLE, Int.reduceNeg, Int.reduceToNat, Int.zero_add, Int.add_zero, decide_true, decide_false, Nat.reduceLeDiff, Nat.min_self, List.drop_succ_cons, List.drop_zero, List.drop_nil, List.take_succ_cons, List.take_zero, List.take_nil, List.all_cons, List.all_nil, Bool.and_true, Bool.true_and, Nat.mul_one, List.singleton_append, Int.le_refl, Nat.le_refl, c42_0, hlt, vIS_of, ol1, ol2, hj1, t1, t2, s1, s2, neq_str, str_beq, hb, d1, d2, heq]
end Go.Proofs.Ytccepmhhilhajaa.K

/- The permutation of the reference. -/
set_option linter.unusedVariables false
set_option linter.unusedSimpArgs false
set_option maxRecDepth 100000
namespace Go.Proofs.Ytccepmhhilhajaa.K
open Go Go.A

theorem round79 (s : S8) (r : Nat) (hr : r < 12) (H : Heap) : Nxt (execC (run T) c79_0 ⟨[1, 2, 3].zip [.ptr H.length 0, .ptr (H.length + 1) 0, i64 r], [], some none⟩ (H ++ [.cells .ex s.cells, .cells .ex (List.replicate 8 (u32 0))])) [1, 2, 3]
    [.ptr H.length 0, .ptr (H.length + 1) 0, i64 ((r + 1 : Nat) : Int)] [] (some none) (H ++ [.cells .ex (rnd r s).cells, .cells .ex (List.replicate 8 (u32 0))]) := by
  have hlt : decide ((r : Int) < 12) = true := by simpa using by omega
  have hw : wr ((r : Int) + 1) = ((r + 1 : Nat) : Int) := by rw [wr_id (by omega) (by omega)]; rfl
  simp -implicitDefEqProofs only [runEqs, List.zipIdx_cons, List.zipIdx_nil, List.map_cons, List.map_nil, Nat.zero_add, Nat.add_zero, Nat.zero_mul, Nat.reduceAdd, Nat.reduceMul, Nat.reduceBEq, Nat.reduceLT, Nat.reduceSub, Option.map_some, Option.map_none, Option.isSome_some, Option.isSome_none, Bool.not_true, Bool.not_false, Bool.true_or, Bool.false_or, Bool.or_true, List.getElem?_cons_zero, List.getElem?_cons_succ, List.set_cons_zero, List.set_cons_succ, List.length_cons, List.length_nil, List.length_append, List.append_assoc, List.cons_append, List.nil_append, List.zip_cons_cons, List.zip_nil_right, Int.reduceAdd, Int.reduceSub, Int.reduceMul, Int.reduceLT, Int.reduceLE, Int.reduceNeg, Int.reduceToNat, Int.zero_add, Int.add_zero, decide_true, decide_false, Nat.reduceLeDiff, Nat.min_self, List.drop_succ_cons, List.drop_zero, List.drop_nil, List.take_succ_cons, List.take_zero, List.take_nil, List.all_cons, List.all_nil, Bool.and_true, Bool.true_and, Nat.mul_one, List.singleton_append, Int.le_refl, Nat.le_refl, c79_0, c79_1, List.zip_cons_cons, List.zip_nil_right, lss_i64, hlt, hw, c_loop, kLp_norm, kLp_exit, S8.cells, add_i64, cv_u32_i64, mul_u32, xor_u32, add_u32, wr_id, Int.reduceAdd, Int.reduceLT, Int.reduceLE, Int.reduceNeg, Int.reduceToNat, Int.zero_add, Int.le_refl, decide_true, decide_false, Nat.reduceLeDiff, Nat.min_self, wr_many, List.drop_succ_cons, List.drop_zero, List.take_succ_cons, List.take_zero, List.all_cons, List.all_nil, Bool.and_true, call80c]
  exact nxt_some _ _ _ _ _ _ _ rfl rfl

theorem loop79 (s : S8) (H : Heap) (t : Env) (ht : kK [1, 2, 3] t = [(1, .ptr H.length 0), (2, .ptr (H.length + 1) 0), (3, i64 0)]) :
    execC (run T) (.loop (.seq (.keep [1, 2, 3]) c79_0)) ⟨t, [], some none⟩ (H ++ [.cells .ex s.cells, .cells .ex (List.replicate 8 (u32 0))]) =
      some (.exit 0, ⟨[(8, .bool false), (7, i64 12), (1, .ptr H.length 0), (2, .ptr (H.length + 1) 0), (3, i64 12)], [], some none⟩, H ++ [.cells .ex (rounds 12 s).cells, .cells .ex (List.replicate 8 (u32 0))]) := by
  refine loop_keep (T := T) (L := [1, 2, 3]) (c := c79_0) (d := []) (u := some none) (fun i => [.ptr H.length 0, .ptr (H.length + 1) 0, i64 i])
    (fun i => H ++ [.cells .ex (rounds i s).cells, .cells .ex (List.replicate 8 (u32 0))]) (e := .exit 0) (fun e => by cases e) 12 (fun i hi => round79 (rounds i s) i hi H) ?_ t ht
  have hf : decide (((12 : Nat) : Int) < 12) = false := by decide
  simp -implicitDefEqProofs only [runEqs, List.zipIdx_cons, List.zipIdx_nil, List.map_cons, List.map_nil, Nat.zero_add, Nat.add_zero, Nat.zero_mul, Nat.reduceAdd, Nat.reduceMul, Nat.reduceBEq, Nat.reduceLT, Nat.reduceSub, Option.map_some, Option.map_none, Option.isSome_some, Option.isSome_none, Bool.not_true, Bool.not_false, Bool.true_or, Bool.false_or, Bool.or_true, List.getElem?_cons_zero, List.getElem?_cons_succ, List.set_cons_zero, List.set_cons_succ, List.length_cons, List.length_nil, List.length_append, List.append_assoc, List.cons_append, List.nil_append, List.zip_cons_cons, List.zip_nil_right, Int.reduceAdd, Int.reduceSub, Int.reduceMul, Int.reduceLT, Int.reduceLE, Int.reduceNeg, Int.reduceToNat, Int.zero_add, Int.add_zero, decide_true, decide_false, Nat.reduceLeDiff, Nat.min_self, List.drop_succ_cons, List.drop_zero, List.drop_nil, List.take_succ_cons, List.take_zero, List.take_nil, List.all_cons, List.all_nil, Bool.and_true, Bool.true_and, Nat.mul_one, List.singleton_append, Int.le_refl, Nat.le_refl, c79_0, List.zip_cons_cons, List.zip_nil_right, lss_i64, hf]
  rfl

theorem call79 (s : S8) (h : Heap) : (run T).call 79 [.agg s.cells] none h = some (.ret (.agg (rounds 12 s).cells), none, h) := by
  refine call_gc1 fn79 _ _ (h' := roH h ++ [.cells .ex (rounds 12 s).cells, .cells .ex (rounds 12 s).cells]) ?_ rfl
  generalize roH h = H
  simp -implicitDefEqProofs only [runEqs, List.zipIdx_cons, List.zipIdx_nil, List.map_cons, List.map_nil, Nat.zero_add, Nat.add_zero, Nat.zero_mul, Nat.reduceAdd, Nat.reduceMul, Nat.reduceBEq, Nat.reduceLT, Nat.reduceSub, Option.map_some, Option.map_none, Option.isSome_some, Option.isSome_none, Bool.not_true, Bool.not_false, Bool.true_or, Bool.false_or, Bool.or_true, List.getElem?_cons_zero, List.getElem?_cons_succ, List.set_cons_zero, List.set_cons_succ, List.length_cons, List.length_nil, List.length_append, List.append_assoc, List.cons_append, List.nil_append, List.zip_cons_cons, List.zip_nil_right, Int.reduceAdd, Int.reduceSub, Int.reduceMul, Int.reduceLT, Int.reduceLE, Int.reduceNeg, Int.reduceToNat, Int.zero_add, Int.add_zero, decide_true, decide_false, Nat.reduceLeDiff, Nat.min_self, List.drop_succ_cons, List.drop_zero, List.drop_nil, List.take_succ_cons, List.take_zero, List.take_nil, List.all_cons, List.all_nil, Bool.and_true, Bool.true_and, Nat.mul_one, List.singleton_append, Int.le_refl, Nat.le_refl, c79, r79, loop79, S8.take8, S8.len, S8.one, List.length_replicate, res_cellN]
end Go.Proofs.Ytccepmhhilhajaa.K

/- The reference's block. -/
set_option linter.unusedVariables false
set_option linter.unusedSimpArgs false
set_option maxRecDepth 100000
namespace Go.Proofs.Ytccepmhhilhajaa.K
open Go Go.A

def blkK (W : List (BitVec 32)) (l : List (BitVec 8)) : Nat → List (BitVec 32)
  | 0 => W
  | i + 1 => (blkK W l i).set (i / 4) ((blkK W l i).getD (i / 4) 0 ^^^ (l.getD i 0).setWidth 32 <<< (8 * (i % 4)))
theorem blkK_len (W : List (BitVec 32)) (l : List (BitVec 8)) : ∀ k, (blkK W l k).length = W.length
  | 0 => rfl
  | k + 1 => by rw [blkK, List.length_set, blkK_len W l k]

theorem xor_or4 (a : BitVec 32) (x y z w : BitVec 8) :
    (((a ^^^ x.setWidth 32 <<< (8 * (0 % 4))) ^^^ y.setWidth 32 <<< (8 * (1 % 4))) ^^^ z.setWidth 32 <<< (8 * (2 % 4))) ^^^ w.setWidth 32 <<< (8 * (3 % 4)) =
      a ^^^ (((((0 : BitVec 32) ||| x.setWidth 32 <<< (8 * 0)) ||| y.setWidth 32 <<< (8 * (0 + 1))) ||| z.setWidth 32 <<< (8 * (0 + 1 + 1))) ||| w.setWidth 32 <<< (8 * (0 + 1 + 1 + 1))) := by
  apply BitVec.eq_of_getLsbD_eq
  intro i hi
  have e0 : (0 : BitVec 32).getLsbD i = false := BitVec.getLsbD_zero
  have sh : ∀ (b : BitVec 8) (k : Nat), (b.setWidth 32 <<< k).getLsbD i = (!decide (i < k) && b.getLsbD (i - k)) := fun b k => by
    rw [BitVec.getLsbD_shiftLeft, BitVec.getLsbD_setWidth]
    have : i - k < 32 := by omega
    simp [hi, this]
  simp only [BitVec.getLsbD_xor, BitVec.getLsbD_or, sh, e0]
  rcases (show i < 8 ∨ (8 ≤ i ∧ i < 16) ∨ (16 ≤ i ∧ i < 24) ∨ 24 ≤ i by omega) with h | h | h | h
  · have h1 : i < 16 := by omega
    have h2 : i < 24 := by omega
    simp [h, h1, h2]
  · have h0 : ¬ i < 8 := by omega
    have h1 : i < 16 := by omega
    have h2 : i < 24 := by omega
    have g0 : x.getLsbD i = false := BitVec.getLsbD_of_ge _ _ (by omega)
    simp [h0, h1, h2, g0]
  · have h0 : ¬ i < 8 := by omega
    have h1 : ¬ i < 16 := by omega
    have h2 : i < 24 := by omega
    have g0 : x.getLsbD i = false := BitVec.getLsbD_of_ge _ _ (by omega)
    have g1 : y.getLsbD (i - 8) = false := BitVec.getLsbD_of_ge _ _ (by omega)
    simp [h0, h1, h2, g0, g1]
  · have h0 : ¬ i < 8 := by omega
    have h1 : ¬ i < 16 := by omega
    have h2 : ¬ i < 24 := by omega
    have g0 : x.getLsbD i = false := BitVec.getLsbD_of_ge _ _ (by omega)
    have g1 : y.getLsbD (i - 8) = false := BitVec.getLsbD_of_ge _ _ (by omega)
    have g2 : z.getLsbD (i - 16) = false := BitVec.getLsbD_of_ge _ _ (by omega)
    simp [h0, h1, h2, g0, g1, g2]

def absW (s : S8) (b : List (BitVec 8)) : S8 :=
  ⟨s.a ^^^ rdA 0 0 ((b.take 4).drop 0), s.b ^^^ rdA 0 0 ((b.take 8).drop 4), s.c ^^^ rdA 0 0 ((b.take 12).drop 8), s.d ^^^ rdA 0 0 ((b.take 16).drop 12), s.e, s.f, s.g, s.h⟩
theorem absB_W (s : S8) (b : List (BitVec 8)) : absB s b = rounds 12 (absW s b) := rfl
theorem blk_end (a b c d e f g h : BitVec 32) (l : List (BitVec 8)) (hl : l.length = 16) : cu32 (blkK [a, b, c, d, e, f, g, h] l 16) = (absW ⟨a, b, c, d, e, f, g, h⟩ l).cells := by
  match l, hl with
  | [b0, b1, b2, b3, b4, b5, b6, b7, b8, b9, b10, b11, b12, b13, b14, b15], _ =>
    have h1 := xor_or4 a b0 b1 b2 b3
    have h2 := xor_or4 b b4 b5 b6 b7
    have h3 := xor_or4 c b8 b9 b10 b11
    have h4 := xor_or4 d b12 b13 b14 b15
    simp only [Nat.reduceMod, Nat.reduceMul, Nat.reduceAdd, Nat.mul_zero, Nat.zero_add, Nat.mul_one] at h1 h2 h3 h4
    simp only [blkK, List.set_cons_zero, List.set_cons_succ, List.getD_cons_zero, List.getD_cons_succ, Nat.reduceDiv, Nat.reduceMod, Nat.reduceMul, Nat.mul_zero, Nat.zero_mod, Nat.zero_div, absW, s8_mk, rdA, List.take_succ_cons, List.take_zero, List.drop_succ_cons, List.drop_zero, List.drop_nil, Nat.reduceAdd, Nat.zero_add, Nat.mul_one, cu32, List.map_cons, List.map_nil]
    rw [h1, h2, h3, h4]

theorem cu32_at' (m : List (BitVec 32)) (i : Nat) (h : i < m.length) : (cu32 m)[i]? = some (u32 (m.getD i 0)) := by
  rw [cu32_at m i h]; simp [h]
theorem cu32_set' (l : List (BitVec 32)) (o : Nat) (b : BitVec 32) : (cu32 l).set o (u32 b) = cu32 (l.set o b) := by simp [cu32, List.map_set]

theorem call78 (s : S8) (l : List (BitVec 8)) (hl : l.length = 16) (h : Heap) (v : V) (hv : rc 1 h v = some (cu8 l)) : (run T).call 78 [.agg s.cells, v] none h = some (.ret (.agg (absB s l).cells), none, h) := by
  have key : ∃ h', kF (run T) r78 (execC (run T) c78 (frame0 [.agg s.cells, v] none) (roH h)) = some (.ret (.agg (absB s l).cells), none, h') := by
    replace hv := rc_ro hv
    generalize roH h = H at hv ⊢
    have hn : lenOf v = 16 := by have := rc_len hv; rw [cu8_len] at this; omega
    have hs := rc_isS hv
    obtain ⟨a, b, c, d, e, f, g, i⟩ := s
    obtain ⟨Z, hZ⟩ : ∃ Z, Z = Blk.cells .ex (List.replicate 8 (u32 0)) := ⟨_, rfl⟩
    have hlp : ∀ t, kK [1, 2, 4, 5] t = [(1, v), (2, .ptr H.length 0), (4, .ptr (H.length + 1) 0), (5, i64 0)] → execC (run T) (.loop (.seq (.keep [1, 2, 4, 5]) c78_0)) ⟨t, [], some none⟩ (H ++ [.cells .ex [u32 a, u32 b, u32 c, u32 d, u32 e, u32 f, u32 g, u32 i], Z]) =
        kLp T (execC (run T) c78_0 ⟨[(1, v), (2, .ptr H.length 0), (4, .ptr (H.length + 1) 0), (5, i64 16)], [], some none⟩ (H ++ [.cells .ex (cu32 (blkK [a, b, c, d, e, f, g, i] l 16)), Z])) (.seq (.keep [1, 2, 4, 5]) c78_0) := by
      refine loop_to2 (T := T) (L := [1, 2, 4, 5]) (c := c78_0) (d := []) (u := some none) (fun k => [v, .ptr H.length 0, .ptr (H.length + 1) 0, i64 k]) (fun k => H ++ [.cells .ex (cu32 (blkK [a, b, c, d, e, f, g, i] l k)), Z]) 16 (fun k hk => ?_) rfl rfl rfl rfl
      have hlt : decide ((k : Int) < 16) = true := by simpa using by omega
      have hw := wr_succ_nat k (by omega)
      have hW := blkK_len [a, b, c, d, e, f, g, i] l k
      have hW8 : (blkK [a, b, c, d, e, f, g, i] l k).length = 8 := hW
      have hq : wr ((k : Int).tdiv 4) = ((k / 4 : Nat) : Int) := by rw [Int.tdiv_eq_ediv_of_nonneg (by omega), wr_id (by omega) (by omega)]; omega
      have hr : (k : Int).tmod 4 = ((k % 4 : Nat) : Int) := by rw [Int.tmod_eq_emod_of_nonneg (by omega)]; omega
      have hm : wr (8 * ((k % 4 : Nat) : Int)) = ((8 * (k % 4) : Nat) : Int) := by rw [wr_id (by omega) (by omega)]; omega
      have h0 : (0 : Int) ≤ ((8 * (k % 4) : Nat) : Int) := by omega
      have ht : (((8 * (k % 4) : Nat) : Int)).toNat = 8 * (k % 4) := by omega
      have hk4 : k / 4 < 8 := by omega
      have hat : ∀ x, kAt (offOf v + k) (cellsAt (H ++ x) (blkOf v)) = some (u8 (l.getD k 0)) := fun x => by
        rw [rc_at_app hv x k (by rw [cu8_len]; omega), cu8_at l k (by omega)]; simp [show k < l.length by omega]
      have hcl : (cu32 (blkK [a, b, c, d, e, f, g, i] l k)).length = 8 := by rw [cu32_len, hW8]
      have hga := cu32_at' (blkK [a, b, c, d, e, f, g, i] l k) (k / 4) (by omega)
      show Nxt _ _ _ _ _ (H ++ [.cells .ex (cu32 ((blkK [a, b, c, d, e, f, g, i] l k).set (k / 4) ((blkK [a, b, c, d, e, f, g, i] l k).getD (k / 4) 0 ^^^ (l.getD k 0).setWidth 32 <<< (8 * (k % 4))))), Z])
      generalize blkK [a, b, c, d, e, f, g, i] l k = W at *
      simp -implicitDefEqProofs only [runEqs, List.zipIdx_cons, List.zipIdx_nil, List.map_cons, List.map_nil, Nat.zero_add, Nat.add_zero, Nat.zero_mul, Nat.reduceAdd, Nat.reduceMul, Nat.reduceBEq, Nat.reduceLT, Nat.reduceSub, Option.map_some, Option.map_none, Option.isSome_some, Option.isSome_none, Bool.not_true, Bool.not_false, Bool.true_or, Bool.false_or, Bool.or_true, List.getElem?_cons_zero, List.getElem?_cons_succ, List.set_cons_zero, List.set_cons_succ, List.length_cons, List.length_nil, List.length_append, List.append_assoc, List.cons_append, List.nil_append, List.zip_cons_cons, List.zip_nil_right, Int.reduceAdd, Int.reduceSub, Int.reduceMul, Int.reduceLT, Int.reduceLE, Int.reduceNeg, Int.reduceToNat, Int.zero_add, Int.add_zero, decide_true, decide_false, Nat.reduceLeDiff, Nat.min_self, List.drop_succ_cons, List.drop_zero, List.drop_nil, List.take_succ_cons, List.take_zero, List.take_nil, List.all_cons, List.all_nil, Bool.and_true, Bool.true_and, Nat.mul_one, List.singleton_append, Int.le_refl, Nat.le_refl, c78_0, hlt, hw, quo_4i, rem_4i, hq, hr, hm, vIS_of, hn, hk, hat, hk4, hcl, hga, cv_u32_u8, shl_u32_i64, h0, ht, xor_u32, cu32_set']
      exact nxt_some _ _ _ _ _ _ _ rfl rfl
    have hf : decide ((16 : Int) < 16) = false := rfl
    rw [blk_end a b c d e f g i l hl] at hlp
    have h79 := fun X => call79 (absW ⟨a, b, c, d, e, f, g, i⟩ l) X
    rw [absB_W]
    generalize absW ⟨a, b, c, d, e, f, g, i⟩ l = s' at *
    generalize rounds 12 s' = s2 at *
    have hz : (List.replicate 8 (u32 0)).length = 8 := rfl
    subst hZ
    simp -implicitDefEqProofs only [runEqs, List.zipIdx_cons, List.zipIdx_nil, List.map_cons, List.map_nil, Nat.zero_add, Nat.add_zero, Nat.zero_mul, Nat.reduceAdd, Nat.reduceMul, Nat.reduceBEq, Nat.reduceLT, Nat.reduceSub, Option.map_some, Option.map_none, Option.isSome_some, Option.isSome_none, Bool.not_true, Bool.not_false, Bool.true_or, Bool.false_or, Bool.or_true, List.getElem?_cons_zero, List.getElem?_cons_succ, List.set_cons_zero, List.set_cons_succ, List.length_cons, List.length_nil, List.length_append, List.append_assoc, List.cons_append, List.nil_append, List.zip_cons_cons, List.zip_nil_right, Int.reduceAdd, Int.reduceSub, Int.reduceMul, Int.reduceLT, Int.reduceLE, Int.reduceNeg, Int.reduceToNat, Int.zero_add, Int.add_zero, decide_true, decide_false, Nat.reduceLeDiff, Nat.min_self, List.drop_succ_cons, List.drop_zero, List.drop_nil, List.take_succ_cons, List.take_zero, List.take_nil, List.all_cons, List.all_nil, Bool.and_true, Bool.true_and, Nat.mul_one, List.singleton_append, Int.le_refl, Nat.le_refl, c78, r78, s8_mk, hlp]
    simp -implicitDefEqProofs only [runEqs, List.zipIdx_cons, List.zipIdx_nil, List.map_cons, List.map_nil, Nat.zero_add, Nat.add_zero, Nat.zero_mul, Nat.reduceAdd, Nat.reduceMul, Nat.reduceBEq, Nat.reduceLT, Nat.reduceSub, Option.map_some, Option.map_none, Option.isSome_some, Option.isSome_none, Bool.not_true, Bool.not_false, Bool.true_or, Bool.false_or, Bool.or_true, List.getElem?_cons_zero, List.getElem?_cons_succ, List.set_cons_zero, List.set_cons_succ, List.length_cons, List.length_nil, List.length_append, List.append_assoc, List.cons_append, List.nil_append, List.zip_cons_cons, List.zip_nil_right, Int.reduceAdd, Int.reduceSub, Int.reduceMul, Int.reduceLT, Int.reduceLE, Int.reduceNeg, Int.reduceToNat, Int.zero_add, Int.add_zero, decide_true, decide_false, Nat.reduceLeDiff, Nat.min_self, List.drop_succ_cons, List.drop_zero, List.drop_nil, List.take_succ_cons, List.take_zero, List.take_nil, List.all_cons, List.all_nil, Bool.and_true, Bool.true_and, Nat.mul_one, List.singleton_append, Int.le_refl, Nat.le_refl, c78_0, hf, S8.len, S8.one, S8.take8, h79, hz]
    exact ⟨_, rfl⟩
  obtain ⟨h', hk⟩ := key
  exact call_gc1 fn78 _ _ hk rfl
end Go.Proofs.Ytccepmhhilhajaa.K

/- Absorb: what is left over is new. -/
set_option linter.unusedVariables false
set_option linter.unusedSimpArgs false
set_option maxRecDepth 100000
namespace Go.Proofs.Ytccepmhhilhajaa.K
open Go Go.A

/-- As call36, and what is left over is new. -/
theorem call36o (s : S8) (rest l : List (BitVec 8)) (hr : rest.length < 16) (hl : l.length < 8796093022208) (h : Heap) (r v : V) (hrr : rc 1 h r = some (cu8 rest)) (hv : rc 1 h v = some (cu8 l)) :
    ∃ r' g, (run T).call 36 [.agg (s.cells ++ [r]), v] none h = some (.ret (.tup [.agg ((absS s (rest ++ l)).cells ++ [r']), i64 0]), none, h ++ g) ∧ Own h.length 1 (h ++ g) r' (cu8 (restL (rest ++ l))) := by
  have hrs := rc_isS hrr
  have hr1 := isS_one hrs
  have hrl : lenOf r = rest.length := by have := rc_len hrr; rw [cu8_len] at this; omega
  have hvl : lenOf v = l.length := by have := rc_len hv; rw [cu8_len] at this; omega
  have hc : decide ((rest.length : Int) ≥ 16) = false := by simp; omega
  obtain ⟨B, hB⟩ : ∃ B : Blk, B = .cells .ex [u32 0, u32 0, u32 0, u32 0, u32 0, u32 0, u32 0, u32 0, .nils] := ⟨_, rfl⟩
  -- the bytes together
  have o0 : Own (h.length + 2) 1 (h ++ [.cells .ex (s.cells ++ [r]), B, .cells .ex []]) (.sl 1 (h.length + 2) 0 0 0) (cu8 []) := Own.mk (m := .ex) (Nat.le_refl _) (by rw [blk_get]; rfl) (.inl rfl) rfl
  obtain ⟨v1, g1, e1, o1, n1⟩ := app_own' (bts := 1) (by omega) (by simp) o0 (rc_app hrr _) (cu8_one _) (by rw [hrl]; simp only [lenOf]; omega) (by rw [hrl]; simp only [lenOf]; omega) _ (take_two _ _ _ _)
  simp only [List.append_assoc, List.cons_append, List.nil_append] at e1 o1
  have n1' : lenOf v1 = rest.length := by rw [n1, hrl]; simp [lenOf]
  obtain ⟨v2, g2, e2, o2, n2⟩ := app_own' (bts := 1) (by omega) (by simp) o1 (rc_app hv _) (cu8_one _) (by rw [n1', hvl]; omega) (by rw [n1', hvl]; omega) _ (take_two _ _ _ _)
  simp only [List.append_assoc, List.cons_append, List.nil_append, cu8_app] at e2 o2
  have n2' : lenOf v2 = (rest ++ l).length := by rw [n2, n1', hvl, List.length_append]
  have hal : (rest ++ l).length < 8796093022300 := by rw [List.length_append]; omega
  generalize rest ++ l = al at *
  have hs2 := rc_isS o2.rcn
  have h56 := call56 v2 hs2 (h ++ .cells .ex (s.cells ++ [r]) :: B :: g2)
  -- the loop
  obtain ⟨t0, ht0⟩ : ∃ t0 : Env, t0 = [(21, .fn (.func 76) [] [.ptr (h.length + (g2.length + 1 + 1)) 0]), (20, v2), (2, .ptr h.length 0), (4, .ptr (h.length + 1) 0), (5, i64 0), (6, v2)] := ⟨_, rfl⟩
  have ho : ∀ A X, rc 1 (h ++ A :: ((B :: g2) ++ X)) v2 = some (cu8 al) := fun A X => by
    have := (own_swap2 (A' := A) (B' := B) o2).app X
    simpa using this.rcn
  have h76 := call76 al (by omega) s r hr1 h (B :: g2) v2 ho t0 (by rw [ht0]; rfl)
  simp only [List.cons_append, List.length_cons] at h76
  have hrg : execRng (run T) (.fn (.func 76) [] [.ptr (h.length + (g2.length + 1 + 1)) 0]) [22] c36_0a c36_0 ⟨t0, [], some none⟩ (h ++ .cells .ex (s.cells ++ [r]) :: B :: (g2 ++ [.cells .ex [v2]])) =
      some (.norm, ⟨t0, [.coll (h.length + (g2.length + 1 + 1 + 1))], some none⟩, h ++ .cells .ex ((absS s al).cells ++ [r]) :: B :: (g2 ++ [.cells .ex [sx v2 (al.length / 16)], .dfl, .loop 3 none t0 [22] c36_0a c36_0])) := by
    have hln : (h ++ .cells .ex (s.cells ++ [r]) :: B :: (g2 ++ [.cells .ex [v2]])).length = h.length + (g2.length + 1 + 1 + 1) := by simp
    have := rngf_ok (r := run T) (f := .fn (.func 76) [] [.ptr (h.length + (g2.length + 1 + 1)) 0]) (v := .tup []) (ps := [22]) (asg := c36_0a) (body := c36_0) (t := t0) (d := []) (u := none) (h := h ++ .cells .ex (s.cells ++ [r]) :: B :: (g2 ++ [.cells .ex [v2]]))
      (h2 := h ++ .cells .ex ((absS s al).cells ++ [r]) :: B :: (g2 ++ [.cells .ex [sx v2 (al.length / 16)], .dfl, .loop 0 none t0 [22] c36_0a c36_0])) (e := t0) (p := [22]) (a := c36_0a) (b := c36_0)
      (by
        rw [callV76, hln]
        rw [show h.length + (g2.length + 1 + 1 + 1) + 1 = h.length + (g2.length + 1 + 2 + 1) by omega]
        simp only [List.append_assoc, List.cons_append, List.nil_append]
        rw [h76]; rfl)
      (by rw [hln, show h.length + (g2.length + 1 + 1 + 1) + 1 = h.length + (g2.length + 2 + 1 + 1) by omega, blk_get, List.getElem?_cons_succ, List.getElem?_cons_succ, blk_get]; rfl)
    rw [this, hln, show h.length + (g2.length + 1 + 1 + 1) + 1 = h.length + (g2.length + 2 + 1 + 1) by omega, blk_set, List.set_cons_succ, List.set_cons_succ, blk_set]
    rfl
  -- the rest
  have hq : wr ((al.length : Int).tdiv 16) = ((al.length / 16 : Nat) : Int) := by rw [Int.tdiv_eq_ediv_of_nonneg (by omega), wr_id (by omega) (by omega)]; omega
  have hm : wr (((al.length / 16 : Nat) : Int) * 16) = ((al.length / 16 * 16 : Nat) : Int) := by rw [wr_id (by omega) (by omega)]; omega
  have hsl := sl_lo o2.rcn ((al.length / 16 * 16 : Nat) : Int) (by omega) (by rw [n2']; omega)
  rw [show (((al.length / 16 * 16 : Nat) : Int)).toNat = al.length / 16 * 16 by omega, n2'] at hsl
  obtain ⟨L3, hL3⟩ : ∃ b : Blk, b = .loop 3 none t0 [22] c36_0a c36_0 := ⟨_, rfl⟩
  obtain ⟨C, hC⟩ : ∃ b : Blk, b = .cells .ex [sx v2 (al.length / 16)] := ⟨_, rfl⟩
  have hx := fun X => rc_slc (ho (.cells .ex ((absS s al).cells ++ [r])) X) (al.length / 16 * 16) al.length (by omega) (by omega)
  simp only [Nat.mul_one, cu8_take, cu8_drop, List.take_length, List.cons_append] at hx
  have o3 : Own (h.length + (g2.length + 3 + 1 + 1)) 1 (h ++ .cells .ex ((absS s al).cells ++ [r]) :: B :: (g2 ++ [C, .dfl, L3, .cells .ex []])) (.sl 1 (h.length + (g2.length + 3 + 1 + 1)) 0 0 0) (cu8 []) :=
    Own.mk (m := .ex) (Nat.le_refl _) (by rw [blk_get, List.getElem?_cons_succ, List.getElem?_cons_succ, blk_get]; rfl) (.inl rfl) rfl
  obtain ⟨r', g3, e3, o3', n3⟩ := app_own' (bts := 1) (by omega) (by simp) o3 (hx _) (cu8_one _) (by rw [slc_len _ _ _ _ (by omega)]; simp only [lenOf]; omega) (by rw [slc_len _ _ _ _ (by omega)]; simp only [lenOf]; omega)
    (h ++ .cells .ex ((absS s al).cells ++ [r]) :: B :: (g2 ++ [C, .dfl, L3])) (by
      have := take_all (h ++ .cells .ex ((absS s al).cells ++ [r]) :: B :: (g2 ++ [C, .dfl, L3])) [.cells .ex []]
      simpa using this)
  simp only [List.append_assoc, List.cons_append, List.nil_append, cu8_app] at e3 o3'
  have hr1' := isS_one (rc_isS o3'.rcn)
  refine ⟨r', ?_⟩
  rw [call_gc0 fn36]
  rw [hC, hL3] at e3
  rw [ht0] at hrg e3
  simp only [List.length_append, List.length_cons, List.append_assoc, List.cons_append, List.nil_append] at h56
  rw [hB] at e1 e2 h56 hrg e3
  have hfin : ∀ A B' X, Own h.length 1 (h ++ A :: B' :: (g2 ++ C :: X :: L3 :: g3)) r' (cu8 (restL al)) := fun A B' X => by
    have h1 : Own (h.length + (g2.length + 3 + 1 + 1)) 1 ((h ++ A :: B' :: (g2 ++ [C, X, L3])) ++ g3) r' (cu8 (restL al)) :=
      own_swap (P := h ++ .cells .ex ((absS s al).cells ++ [r]) :: B :: (g2 ++ [C, .dfl, L3])) (by simpa [restL] using o3') (by simp) (by simp)
    simpa using h1.low (by omega)
  rw [hC, hL3, ht0] at hfin
  clear hC hL3 hB o0 o1 o2 o3 o3' h76 hx
  simp -implicitDefEqProofs only [runEqs, List.zipIdx_cons, List.zipIdx_nil, List.map_cons, List.map_nil, Nat.zero_add, Nat.add_zero, Nat.zero_mul, Nat.reduceAdd, Nat.reduceMul, Nat.reduceBEq, Nat.reduceLT, Nat.reduceSub, Option.map_some, Option.map_none, Option.isSome_some, Option.isSome_none, Bool.not_true, Bool.not_false, Bool.true_or, Bool.false_or, Bool.or_true, List.getElem?_cons_zero, List.getElem?_cons_succ, List.set_cons_zero, List.set_cons_succ, List.length_cons, List.length_nil, List.length_append, List.append_assoc, List.cons_append, List.nil_append, List.zip_cons_cons, List.zip_nil_right, Int.reduceAdd, Int.reduceSub, Int.reduceMul, Int.reduceLT, Int.reduceLE, Int.reduceNeg, Int.reduceToNat, Int.zero_add, Int.add_zero, decide_true, decide_false, Nat.reduceLeDiff, Nat.min_self, List.drop_succ_cons, List.drop_zero, List.drop_nil, List.take_succ_cons, List.take_zero, List.take_nil, List.all_cons, List.all_nil, Bool.and_true, Bool.true_and, Nat.mul_one, List.singleton_append, Int.le_refl, Nat.le_refl, c36, r36, S8.len, len_s8, one_s8, hr1, hr1', at8_s8, set8_s8, take9_s8, vLen_of, hrs, hrl, hc, e1, e2, h56, c_rngf, hrg, hs2, n2', quo_16i, hq, hm, hsl, e3, leave_coll, blk_get, blk_set]
  exact ⟨_, rfl, hfin _ _ _⟩
end Go.Proofs.Ytccepmhhilhajaa.K

/- The reference's Absorb, End and Digest. -/
set_option linter.unusedVariables false
set_option linter.unusedSimpArgs false
set_option maxRecDepth 100000
namespace Go.Proofs.Ytccepmhhilhajaa.K
open Go Go.A

theorem call77 (s : S8) (r : V) (rest : List (BitVec 8)) (hr : rest.length < 16) (h : Heap) (hrr : rc 1 h r = some (cu8 rest)) : (run T).call 77 [.agg (s.cells ++ [r])] none h = some (.ret (.bool true), none, h) := by
  refine call_gc1 fn77 _ _ (h' := roH h ++ [.cells .ex (s.cells ++ [r])]) ?_ rfl
  replace hrr := rc_ro hrr
  generalize roH h = H at hrr ⊢
  have hs := rc_isS hrr
  have h1 := isS_one hs
  have hl : lenOf r = rest.length := by have := rc_len hrr; rw [cu8_len] at this; omega
  have hle : decide ((rest.length : Int) ≤ 15) = true := by simp; omega
  simp -implicitDefEqProofs only [runEqs, List.zipIdx_cons, List.zipIdx_nil, List.map_cons, List.map_nil, Nat.zero_add, Nat.add_zero, Nat.zero_mul, Nat.reduceAdd, Nat.reduceMul, Nat.reduceBEq, Nat.reduceLT, Nat.reduceSub, Option.map_some, Option.map_none, Option.isSome_some, Option.isSome_none, Bool.not_true, Bool.not_false, Bool.true_or, Bool.false_or, Bool.or_true, List.getElem?_cons_zero, List.getElem?_cons_succ, List.set_cons_zero, List.set_cons_succ, List.length_cons, List.length_nil, List.length_append, List.append_assoc, List.cons_append, List.nil_append, List.zip_cons_cons, List.zip_nil_right, Int.reduceAdd, Int.reduceSub, Int.reduceMul, Int.reduceLT, Int.reduceLE, Int.reduceNeg, Int.reduceToNat, Int.zero_add, Int.add_zero, decide_true, decide_false, Nat.reduceLeDiff, Nat.min_self, List.drop_succ_cons, List.drop_zero, List.drop_nil, List.take_succ_cons, List.take_zero, List.take_nil, List.all_cons, List.all_nil, Bool.and_true, Bool.true_and, Nat.mul_one, List.singleton_append, Int.le_refl, Nat.le_refl, c77, r77, len_s8, S8.len, one_s8, h1, at8_s8, vLen_of, hs, hl, hle]

theorem call73 (h : Heap) : ∃ g, (run T).call 73 [] none h = some (.ret (.agg (S0.cells ++ [.nils])), none, h ++ g) := by
  have n1 : V.nils.one = true := rfl
  rw [call_gc0 fn73]
  simp -implicitDefEqProofs only [runEqs, List.zipIdx_cons, List.zipIdx_nil, List.map_cons, List.map_nil, Nat.zero_add, Nat.add_zero, Nat.zero_mul, Nat.reduceAdd, Nat.reduceMul, Nat.reduceBEq, Nat.reduceLT, Nat.reduceSub, Option.map_some, Option.map_none, Option.isSome_some, Option.isSome_none, Bool.not_true, Bool.not_false, Bool.true_or, Bool.false_or, Bool.or_true, List.getElem?_cons_zero, List.getElem?_cons_succ, List.set_cons_zero, List.set_cons_succ, List.length_cons, List.length_nil, List.length_append, List.append_assoc, List.cons_append, List.nil_append, List.zip_cons_cons, List.zip_nil_right, Int.reduceAdd, Int.reduceSub, Int.reduceMul, Int.reduceLT, Int.reduceLE, Int.reduceNeg, Int.reduceToNat, Int.zero_add, Int.add_zero, decide_true, decide_false, Nat.reduceLeDiff, Nat.min_self, List.drop_succ_cons, List.drop_zero, List.drop_nil, List.take_succ_cons, List.take_zero, List.take_nil, List.all_cons, List.all_nil, Bool.and_true, Bool.true_and, Nat.mul_one, List.singleton_append, Int.le_refl, Nat.le_refl, c73, r73, n1]
  exact ⟨_, rfl⟩

theorem set_last (P g : Heap) (A B C D : Blk) : (P ++ A :: B :: (g ++ [C])).set (P.length + (g.length + 2)) D = P ++ A :: B :: (g ++ [D]) := by
  rw [blk_set]
  congr 1
  rw [show g.length + 2 = g.length + 1 + 1 by omega, List.set_cons_succ, List.set_cons_succ]
  congr 2
  rw [List.set_append_right _ _ (Nat.le_refl _)]
  simp

/-- One block. -/
theorem round72 (al : List (BitVec 8)) (hal : al.length < 8796093022300) (s : S8) (P g : Heap) (A B : Blk) (v : V) (ho : ∀ X, rc 1 (P ++ A :: B :: (g ++ X)) v = some (cu8 al)) (k : Nat) (hk : k < al.length / 16) :
    Nxt (execC (run T) c72_0 ⟨[4, 6, 7].zip [.ptr (P.length + 1) 0, sx v k, .ptr (P.length + (g.length + 1 + 1)) 0], [], some none⟩ (P ++ A :: B :: (g ++ [.cells .ex ((absN s al k).cells ++ [.nils])]))) [4, 6, 7]
      [.ptr (P.length + 1) 0, sx v (k + 1), .ptr (P.length + (g.length + 1 + 1)) 0] [] (some none) (P ++ A :: B :: (g ++ [.cells .ex ((absN s al (k + 1)).cells ++ [.nils])])) := by
  have hv := fun X => sx_rc al _ v (ho X) k (by omega)
  have hs := rc_isS (hv [])
  have hlx : lenOf (sx v k) = al.length - 16 * k := by have := rc_len (hv []); rw [cu8_len, List.length_drop] at this; omega
  have hge : decide (((al.length - 16 * k : Nat) : Int) ≥ 16) = true := by simp; omega
  have hsl := sl_hi (hv []) 16 (by omega) (by rw [hlx]; simp; omega)
  have hsl2 := sl_lo (hv []) 16 (by omega) (by rw [hlx]; simp; omega)
  have e16 : (16 : Int).toNat = 16 := rfl
  rw [e16] at hsl hsl2
  have hw := fun X => rc_slc (hv X) 0 16 (by omega) (by rw [hlx]; omega)
  simp only [Nat.mul_one, Nat.zero_mul, cu8_take, cu8_drop, List.drop_zero] at hw
  have hb16 : ((al.drop (16 * k)).take 16).length = 16 := by simp; omega
  have h78 := call78 (absN s al k) ((al.drop (16 * k)).take 16) hb16 _ _ (hw [.cells .ex ((absN s al k).cells ++ [.nils])])
  have hst : absB (absN s al k) ((al.drop (16 * k)).take 16) = absN s al (k + 1) := rfl
  rw [hst] at h78
  have hsx : slc 1 (sx v k) 16 (lenOf (sx v k)) = sx v (k + 1) := rfl
  rw [hsx] at hsl2
  generalize absN s al (k + 1) = s2 at *
  generalize absN s al k = s1 at *
  generalize sx v (k + 1) = v2 at *
  obtain ⟨a, b, c, d, e, f, g', i⟩ := s1
  rw [s8_mk] at *
  simp only [List.cons_append, List.nil_append] at h78
  simp -implicitDefEqProofs only [runEqs, List.zipIdx_cons, List.zipIdx_nil, List.map_cons, List.map_nil, Nat.zero_add, Nat.add_zero, Nat.zero_mul, Nat.reduceAdd, Nat.reduceMul, Nat.reduceBEq, Nat.reduceLT, Nat.reduceSub, Option.map_some, Option.map_none, Option.isSome_some, Option.isSome_none, Bool.not_true, Bool.not_false, Bool.true_or, Bool.false_or, Bool.or_true, List.getElem?_cons_zero, List.getElem?_cons_succ, List.set_cons_zero, List.set_cons_succ, List.length_cons, List.length_nil, List.length_append, List.append_assoc, List.cons_append, List.nil_append, List.zip_cons_cons, List.zip_nil_right, Int.reduceAdd, Int.reduceSub, Int.reduceMul, Int.reduceLT, Int.reduceLE, Int.reduceNeg, Int.reduceToNat, Int.zero_add, Int.add_zero, decide_true, decide_false, Nat.reduceLeDiff, Nat.min_self, List.drop_succ_cons, List.drop_zero, List.drop_nil, List.take_succ_cons, List.take_zero, List.take_nil, List.all_cons, List.all_nil, Bool.and_true, Bool.true_and, Nat.mul_one, List.singleton_append, Int.le_refl, Nat.le_refl, c72_0, vLen_of, hs, hlx, hge, hsl, hsl2, h78, S8.len, S8.one, wr_many]
  exact nxt_some _ _ _ _ _ _ _ rfl rfl

theorem call72 (s : S8) (rest l : List (BitVec 8)) (hr : rest.length < 16) (hl : l.length < 8796093022208) (h : Heap) (r v : V) (hrr : rc 1 h r = some (cu8 rest)) (hv : rc 1 h v = some (cu8 l)) :
    ∃ r' g, (run T).call 72 [.agg (s.cells ++ [r]), v] none h = some (.ret (.tup [.agg ((absS s (rest ++ l)).cells ++ [r']), i64 0]), none, h ++ g) ∧ rc 1 (h ++ g) r' = some (cu8 (restL (rest ++ l))) := by
  have hrs := rc_isS hrr
  have hr1 := isS_one hrs
  have hrl : lenOf r = rest.length := by have := rc_len hrr; rw [cu8_len] at this; omega
  have hvl : lenOf v = l.length := by have := rc_len hv; rw [cu8_len] at this; omega
  obtain ⟨A, hA⟩ : ∃ A : Blk, A = .cells .ex (s.cells ++ [r]) := ⟨_, rfl⟩
  obtain ⟨B, hB⟩ : ∃ B : Blk, B = .cells .ex [u32 0, u32 0, u32 0, u32 0, u32 0, u32 0, u32 0, u32 0, .nils] := ⟨_, rfl⟩
  have e77 := fun X => call77 s r rest hr (h ++ X) (rc_app hrr X)
  obtain ⟨v1, g1, e1, o1, n1⟩ := app_own' (bts := 1) (n := h.length + 2) (by omega) (by simp) (Own.nil _ 1 (h ++ [A, B])) (rc_app hrr _) (cu8_one _) (by rw [hrl]; simp only [lenOf]; omega) (by rw [hrl]; simp only [lenOf]; omega) _ (take_two _ _ _ _)
  simp only [List.append_assoc, List.cons_append, List.nil_append] at e1 o1
  have n1' : lenOf v1 = rest.length := by rw [n1, hrl]; simp [lenOf]
  obtain ⟨v2, g2, e2, o2, n2⟩ := app_own' (bts := 1) (by omega) (by simp) o1 (rc_app hv _) (cu8_one _) (by rw [n1', hvl]; omega) (by rw [n1', hvl]; omega) _ (take_two _ _ _ _)
  simp only [List.append_assoc, List.cons_append, List.nil_append, cu8_app] at e2 o2
  have hal : (rest ++ l).length < 8796093022300 := by rw [List.length_append]; omega
  generalize rest ++ l = al at *
  have ho : ∀ X, rc 1 (h ++ A :: B :: (g2 ++ X)) v2 = some (cu8 al) := fun X => by
    have := (o2.app X).rcn; simpa using this
  have hlp : ∀ t, kK [4, 6, 7] t = [(4, .ptr (h.length + 1) 0), (6, v2), (7, .ptr (h.length + (g2.length + 1 + 1)) 0)] → execC (run T) (.loop (.seq (.keep [4, 6, 7]) c72_0)) ⟨t, [], some none⟩ (h ++ A :: B :: (g2 ++ [.cells .ex (s.cells ++ [.nils])])) =
      kLp T (execC (run T) c72_0 ⟨[(4, .ptr (h.length + 1) 0), (6, sx v2 (al.length / 16)), (7, .ptr (h.length + (g2.length + 1 + 1)) 0)], [], some none⟩ (h ++ A :: B :: (g2 ++ [.cells .ex ((absS s al).cells ++ [.nils])]))) (.seq (.keep [4, 6, 7]) c72_0) :=
    loop_to2 (T := T) (L := [4, 6, 7]) (c := c72_0) (d := []) (u := some none) (fun k => [.ptr (h.length + 1) 0, sx v2 k, .ptr (h.length + (g2.length + 1 + 1)) 0]) (fun k => h ++ A :: B :: (g2 ++ [.cells .ex ((absN s al k).cells ++ [.nils])])) (al.length / 16)
      (fun k hk => by have hr := round72 al hal s h g2 A B v2 ho k hk; exact hr) rfl (by dsimp only [absN, sx]) rfl (by dsimp only [absS])
  have hvx := fun X => sx_rc al _ v2 (ho X) (al.length / 16) (by omega)
  have hsx := rc_isS (hvx [])
  have hlx : lenOf (sx v2 (al.length / 16)) = al.length - 16 * (al.length / 16) := by have := rc_len (hvx []); rw [cu8_len, List.length_drop] at this; omega
  have hge : decide (((al.length - 16 * (al.length / 16) : Nat) : Int) ≥ 16) = false := by simp; omega
  have hrest : restL al = al.drop (16 * (al.length / 16)) := by rw [restL, Nat.mul_comm]
  rw [hrest]
  obtain ⟨C, hC⟩ : ∃ C : Blk, C = .cells .ex ((absS s al).cells ++ [.nils]) := ⟨_, rfl⟩
  obtain ⟨r', g3, e3, o3, n3⟩ := app_own' (bts := 1) (n := (h ++ A :: B :: (g2 ++ [C])).length) (by omega) (Nat.le_refl _) (Own.nil _ 1 (h ++ A :: B :: (g2 ++ [C]))) (hvx [C]) (cu8_one _) (by rw [hlx]; simp only [lenOf]; omega) (by rw [hlx]; simp only [lenOf]; omega) (h ++ A :: B :: (g2 ++ [C])) (by rw [List.take_length])
  rw [List.nil_append] at o3
  have hr1' := isS_one (rc_isS o3.rcn)
  simp only [List.append_assoc, List.cons_append, List.nil_append] at e3
  have hfin : ∀ B' C', rc 1 (h ++ A :: B' :: (g2 ++ C' :: g3)) r' = some (cu8 (al.drop (16 * (al.length / 16)))) := fun B' C' => by
    have := (own_swap (P := h ++ A :: B :: (g2 ++ [C])) (P' := h ++ A :: B' :: (g2 ++ [C'])) o3 rfl (by simp)).rcn
    simpa using this
  have nn : V.nils.one = true := rfl
  clear o1 o2 o3 hrest
  rw [hC] at e3
  generalize absS s al = s' at *
  refine ⟨r', A :: .cells .ex (s'.cells ++ [r']) :: (g2 ++ .cells .ex (s'.cells ++ [r']) :: g3), ?_, hfin _ _⟩
  rw [call_gc0 fn72]
  subst hC hA hB
  simp -implicitDefEqProofs only [runEqs, List.zipIdx_cons, List.zipIdx_nil, List.map_cons, List.map_nil, Nat.zero_add, Nat.add_zero, Nat.zero_mul, Nat.reduceAdd, Nat.reduceMul, Nat.reduceBEq, Nat.reduceLT, Nat.reduceSub, Option.map_some, Option.map_none, Option.isSome_some, Option.isSome_none, Bool.not_true, Bool.not_false, Bool.true_or, Bool.false_or, Bool.or_true, List.getElem?_cons_zero, List.getElem?_cons_succ, List.set_cons_zero, List.set_cons_succ, List.length_cons, List.length_nil, List.length_append, List.append_assoc, List.cons_append, List.nil_append, List.zip_cons_cons, List.zip_nil_right, Int.reduceAdd, Int.reduceSub, Int.reduceMul, Int.reduceLT, Int.reduceLE, Int.reduceNeg, Int.reduceToNat, Int.zero_add, Int.add_zero, decide_true, decide_false, Nat.reduceLeDiff, Nat.min_self, List.drop_succ_cons, List.drop_zero, List.drop_nil, List.take_succ_cons, List.take_zero, List.take_nil, List.all_cons, List.all_nil, Bool.and_true, Bool.true_and, Nat.mul_one, List.singleton_append, Int.le_refl, Nat.le_refl, c72, r72, len_s8, S8.len, one_s8, hr1, e77, not_bool, at8_s8, take9_s8, take8_s8, e1, e2, nn, hlp]
  simp -implicitDefEqProofs only [runEqs, List.zipIdx_cons, List.zipIdx_nil, List.map_cons, List.map_nil, Nat.zero_add, Nat.add_zero, Nat.zero_mul, Nat.reduceAdd, Nat.reduceMul, Nat.reduceBEq, Nat.reduceLT, Nat.reduceSub, Option.map_some, Option.map_none, Option.isSome_some, Option.isSome_none, Bool.not_true, Bool.not_false, Bool.true_or, Bool.false_or, Bool.or_true, List.getElem?_cons_zero, List.getElem?_cons_succ, List.set_cons_zero, List.set_cons_succ, List.length_cons, List.length_nil, List.length_append, List.append_assoc, List.cons_append, List.nil_append, List.zip_cons_cons, List.zip_nil_right, Int.reduceAdd, Int.reduceSub, Int.reduceMul, Int.reduceLT, Int.reduceLE, Int.reduceNeg, Int.reduceToNat, Int.zero_add, Int.add_zero, decide_true, decide_false, Nat.reduceLeDiff, Nat.min_self, List.drop_succ_cons, List.drop_zero, List.drop_nil, List.take_succ_cons, List.take_zero, List.take_nil, List.all_cons, List.all_nil, Bool.and_true, Bool.true_and, Nat.mul_one, List.singleton_append, Int.le_refl, Nat.le_refl, c72_0, vLen_of, hsx, hlx, hge, at8_s8, e3, hr1', len_s8, S8.len, one_s8, set8_s8, take9_s8]
end Go.Proofs.Ytccepmhhilhajaa.K

/- The reference's End and Digest. -/
set_option linter.unusedVariables false
set_option linter.unusedSimpArgs false
set_option maxRecDepth 100000
namespace Go.Proofs.Ytccepmhhilhajaa.K
open Go Go.A

def dK (s : S8) : Nat → List (BitVec 8)
  | 0 => List.replicate 16 0
  | i + 1 => (dK s i).set i ((wd s (i / 4) >>> (8 * (i % 4))).setWidth 8)
theorem dK_len (s : S8) : ∀ k, (dK s k).length = 16
  | 0 => by simp [dK]
  | k + 1 => by rw [dK, List.length_set, dK_len s k]
theorem dK_end (s : S8) : dK s 16 = outD s := by
  simp only [dK, outD, outK, wrB, wrK, List.replicate_succ, List.replicate_zero, List.set_cons_zero, List.set_cons_succ, Nat.reduceDiv, Nat.reduceMod, Nat.reduceMul, Nat.mul_zero, Nat.zero_mod, Nat.zero_div, Nat.mul_one, List.nil_append, List.cons_append]
theorem absS_one (s : S8) (l : List (BitVec 8)) (h : l.length = 16) : absS s l = absB s l := by
  rw [absS, h]
  show absB s ((l.drop 0).take 16) = _
  rw [List.drop_zero, List.take_of_length_le (by omega)]

theorem cpy_rc {h : Heap} {b : Nat} {cs old : List V} {r : V} (hr : rc 1 h r = some cs) (hb : h[b]? = some (.cells .ex old)) (ho : old.length = 16) (hcs : cs.length ≤ 16) (h1 : cs.all V.one = true) :
    ∃ n, evCpy 1 h (.sl 1 b 0 16 16) r = some (i64 n, h.set b (.cells .ex (cs ++ old.drop cs.length))) := by
  have hself : h.set b (.cells .ex old) = h := by
    apply List.ext_getElem?
    intro j
    by_cases hj : j = b
    · subst hj
      rw [List.getElem?_set_self (List.getElem?_eq_some_iff.1 hb).1, hb]
    · rw [List.getElem?_set_ne (by omega)]
  have hl := rc_len hr
  rcases rc_cases hr with ⟨rfl, rfl⟩ | ⟨b', o, n, c, bs, rfl, p1, p2, p3, e⟩
  · refine ⟨0, ?_⟩
    rw [List.nil_append, List.length_nil, List.drop_zero, hself]
    rfl
  · rw [lenOf_sl, Nat.mul_one] at hl
    by_cases hn : n = 0
    · subst hn
      have : cs = [] := List.length_eq_zero_iff.1 hl
      subst this
      refine ⟨0, ?_⟩
      rw [List.nil_append, List.length_nil, List.drop_zero, hself]
      rfl
    · have hm : min n 16 = n := by omega
      refine ⟨n, ?_⟩
      rw [cpy_sl 1 1 b 0 16 16 1 b' o n c h (by rw [hm]; simpa using hn), hm]
      have hrd : readN h b' o (n * 1) = some cs := by
        have := hr
        simp only [rc, p1, and_self, if_true] at this
        exact this
      rw [hrd, kCp_some]
      have hw : writeN h b 0 cs = some (h.set b (.cells .ex (cs ++ old.drop cs.length))) := by
        simp only [writeN, hb]
        rw [if_pos ⟨by simp, by omega, h1⟩]
        simp
      rw [hw]
      rfl

theorem pad_eq (rest : List (BitVec 8)) (hr : rest.length < 16) : (cu8 rest ++ (rep 16 [u8 0]).drop (cu8 rest).length).set rest.length (u8 128) = cu8 (rest ++ padL rest.length) := by
  rw [rep_u8, List.drop_replicate, cu8_len, padL]
  have : (16 : Nat) - rest.length = (15 - rest.length) + 1 := by omega
  rw [this, List.replicate_succ, List.set_append_right _ _ (by rw [cu8_len]; omega), cu8_len, Nat.sub_self, List.set_cons_zero]
  simp [cu8]

theorem wd_at' (s : S8) (i : Nat) (hi : i < 8) : s.cells[i]? = some (u32 (wd s i)) := by
  match i, hi with
  | 0, _ => rfl
  | 1, _ => rfl
  | 2, _ => rfl
  | 3, _ => rfl
  | 4, _ => rfl
  | 5, _ => rfl
  | 6, _ => rfl
  | 7, _ => rfl
theorem cu8_set1 (l : List (BitVec 8)) (o : Nat) (b : BitVec 8) : (cu8 l).set o (u8 b) = cu8 (l.set o b) := by simp [cu8, List.map_set]

theorem call74 (s : S8) (rest : List (BitVec 8)) (hr : rest.length < 16) (h : Heap) (r : V) (hrr : rc 1 h r = some (cu8 rest)) :
    (run T).call 74 [.agg (s.cells ++ [r])] none h = some (.ret (.tup [.agg (cu8 (endD s rest)), i64 0]), none, h) := by
  have key : ∃ h', kF (run T) r74 (execC (run T) c74 (frame0 [.agg (s.cells ++ [r])] none) (roH h)) = some (.ret (.tup [.agg (cu8 (endD s rest)), i64 0]), none, h') := by
    replace hrr := rc_ro hrr
    generalize roH h = H at hrr ⊢
    have hrs := rc_isS hrr
    have hr1 := isS_one hrs
    have hrl : lenOf r = rest.length := by have := rc_len hrr; rw [cu8_len] at this; omega
    obtain ⟨A, hA⟩ : ∃ A : Blk, A = .cells .ex (s.cells ++ [r]) := ⟨_, rfl⟩
    obtain ⟨D, hD⟩ : ∃ D : Blk, D = .cells .ex (List.replicate 16 (u8 0)) := ⟨_, rfl⟩
    have e77 := fun X => call77 s r rest hr (H ++ X) (rc_app hrr X)
    obtain ⟨n, e1⟩ := cpy_rc (h := H ++ [A, D, .cells .ex (rep 16 [u8 0])]) (b := H.length + 2) (old := rep 16 [u8 0]) (rc_app hrr _) (by rw [blk_get]; rfl) (by rw [rep_len]) (by rw [cu8_len]; omega) (cu8_one _)
    rw [blk_set] at e1
    simp only [List.set_cons_succ, List.set_cons_zero] at e1
    have hpl : (rest ++ padL rest.length).length = 16 := by rw [List.length_append, padL, List.length_cons, List.length_replicate]; omega
    have hpe := pad_eq rest hr
    have hcl : (cu8 rest ++ (rep 16 [u8 0]).drop (cu8 rest).length).length = 16 := by rw [List.length_append, List.length_drop, rep_len, cu8_len]; omega
    have hrc : rc 1 (H ++ [A, D, .cells .ex (cu8 (rest ++ padL rest.length))]) (.sl 1 (H.length + 2) 0 16 16) = some (cu8 (rest ++ padL rest.length)) :=
      rc_newAt 1 _ .ex _ _ _ (by rw [cu8_len, hpl]) (by rw [blk_get]; rfl)
    have h78 := call78 s (rest ++ padL rest.length) hpl _ _ hrc
    rw [← absS_one s _ hpl] at h78
    have hend : endD s rest = dK (absS s (rest ++ padL rest.length)) 16 := by rw [dK_end]; rfl
    rw [hend]
    generalize absS s (rest ++ padL rest.length) = s' at *
    generalize rest ++ padL rest.length = pl at *
    generalize cu8 rest ++ (rep 16 [u8 0]).drop (cu8 rest).length = pc at *
    have hlp : ∀ t, kK [2, 5, 6, 7] t = [(2, .ptr (H.length + 1) 0), (5, .ptr (H.length + 3) 0), (6, .ptr (H.length + 4) 0), (7, i64 0)] →
        execC (run T) (.loop (.seq (.keep [2, 5, 6, 7]) c74_0)) ⟨t, [], some none⟩ (H ++ [A, D, .cells .ex (cu8 pl), .cells .ex s'.cells, .cells .ex (List.replicate 16 (u8 0))]) =
        kLp T (execC (run T) c74_0 ⟨[(2, .ptr (H.length + 1) 0), (5, .ptr (H.length + 3) 0), (6, .ptr (H.length + 4) 0), (7, i64 16)], [], some none⟩ (H ++ [A, D, .cells .ex (cu8 pl), .cells .ex s'.cells, .cells .ex (cu8 (dK s' 16))])) (.seq (.keep [2, 5, 6, 7]) c74_0) := by
      refine loop_to2 (T := T) (L := [2, 5, 6, 7]) (c := c74_0) (d := []) (u := some none) (fun k => [.ptr (H.length + 1) 0, .ptr (H.length + 3) 0, .ptr (H.length + 4) 0, i64 k]) (fun k => H ++ [A, D, .cells .ex (cu8 pl), .cells .ex s'.cells, .cells .ex (cu8 (dK s' k))]) 16 (fun k hk => ?_) rfl (by simp [dK, cu8]) rfl rfl
      have hlt : decide ((k : Int) < 16) = true := by simpa using by omega
      have hw := wr_succ_nat k (by omega)
      have hq : wr ((k : Int).tdiv 4) = ((k / 4 : Nat) : Int) := by rw [Int.tdiv_eq_ediv_of_nonneg (by omega), wr_id (by omega) (by omega)]; omega
      have hrm : (k : Int).tmod 4 = ((k % 4 : Nat) : Int) := by rw [Int.tmod_eq_emod_of_nonneg (by omega)]; omega
      have hm : wr (8 * ((k % 4 : Nat) : Int)) = ((8 * (k % 4) : Nat) : Int) := by rw [wr_id (by omega) (by omega)]; omega
      have h0 : (0 : Int) ≤ ((8 * (k % 4) : Nat) : Int) := by omega
      have ht : (((8 * (k % 4) : Nat) : Int)).toNat = 8 * (k % 4) := by omega
      have hk4 : k / 4 < 8 := by omega
      have hga := wd_at' s' (k / 4) hk4
      have hcd : (cu8 (dK s' k)).length = 16 := by rw [cu8_len, dK_len]
      show Nxt _ _ _ _ _ (H ++ [A, D, .cells .ex (cu8 pl), .cells .ex s'.cells, .cells .ex (cu8 ((dK s' k).set k ((wd s' (k / 4) >>> (8 * (k % 4))).setWidth 8)))])
      generalize dK s' k = W at *
      simp -implicitDefEqProofs only [runEqs, List.zipIdx_cons, List.zipIdx_nil, List.map_cons, List.map_nil, Nat.zero_add, Nat.add_zero, Nat.zero_mul, Nat.reduceAdd, Nat.reduceMul, Nat.reduceBEq, Nat.reduceLT, Nat.reduceSub, Option.map_some, Option.map_none, Option.isSome_some, Option.isSome_none, Bool.not_true, Bool.not_false, Bool.true_or, Bool.false_or, Bool.or_true, List.getElem?_cons_zero, List.getElem?_cons_succ, List.set_cons_zero, List.set_cons_succ, List.length_cons, List.length_nil, List.length_append, List.append_assoc, List.cons_append, List.nil_append, List.zip_cons_cons, List.zip_nil_right, Int.reduceAdd, Int.reduceSub, Int.reduceMul, Int.reduceLT, Int.reduceLE, Int.reduceNeg, Int.reduceToNat, Int.zero_add, Int.add_zero, decide_true, decide_false, Nat.reduceLeDiff, Nat.min_self, List.drop_succ_cons, List.drop_zero, List.drop_nil, List.take_succ_cons, List.take_zero, List.take_nil, List.all_cons, List.all_nil, Bool.and_true, Bool.true_and, Nat.mul_one, List.singleton_append, Int.le_refl, Nat.le_refl, c74_0, hlt, hw, quo_4i, rem_4i, hq, hrm, hm, hk, hk4, hga, S8.len, shr_u32_i64, h0, ht, cv_u8_u32, hcd, cu8_set1]
      exact nxt_some _ _ _ _ _ _ _ rfl rfl
    have hf : decide ((16 : Int) < 16) = false := rfl
    have hdl := len16 _ (dK_len s' 16)
    have hdt := take16 _ (dK_len s' 16)
    generalize dK s' 16 = dd at *
    have hz8 : (List.replicate 8 (u32 0)).length = 8 := rfl
    subst hD
    subst hA
    have hlt : rest.length < 16 := hr
    have hs8 := S8.take8 s'
    simp -implicitDefEqProofs only [runEqs, List.zipIdx_cons, List.zipIdx_nil, List.map_cons, List.map_nil, Nat.zero_add, Nat.add_zero, Nat.zero_mul, Nat.reduceAdd, Nat.reduceMul, Nat.reduceBEq, Nat.reduceLT, Nat.reduceSub, Option.map_some, Option.map_none, Option.isSome_some, Option.isSome_none, Bool.not_true, Bool.not_false, Bool.true_or, Bool.false_or, Bool.or_true, List.getElem?_cons_zero, List.getElem?_cons_succ, List.set_cons_zero, List.set_cons_succ, List.length_cons, List.length_nil, List.length_append, List.append_assoc, List.cons_append, List.nil_append, List.zip_cons_cons, List.zip_nil_right, Int.reduceAdd, Int.reduceSub, Int.reduceMul, Int.reduceLT, Int.reduceLE, Int.reduceNeg, Int.reduceToNat, Int.zero_add, Int.add_zero, decide_true, decide_false, Nat.reduceLeDiff, Nat.min_self, List.drop_succ_cons, List.drop_zero, List.drop_nil, List.take_succ_cons, List.take_zero, List.take_nil, List.all_cons, List.all_nil, Bool.and_true, Bool.true_and, Nat.mul_one, List.singleton_append, Int.le_refl, Nat.le_refl, c74, r74, len_s8, S8.len, one_s8, hr1, e77, not_bool, at8_s8, take9_s8, take8_s8, e1, vLen_of, hrs, hrl, vIS_of, lenOf_sl, blkOf_sl, offOf_sl, hlt, hcl, hpe, h78, S8.one, hz8, List.length_replicate, List.all_replicate, one_u8, ite_self, hlp]
    simp -implicitDefEqProofs only [runEqs, List.zipIdx_cons, List.zipIdx_nil, List.map_cons, List.map_nil, Nat.zero_add, Nat.add_zero, Nat.zero_mul, Nat.reduceAdd, Nat.reduceMul, Nat.reduceBEq, Nat.reduceLT, Nat.reduceSub, Option.map_some, Option.map_none, Option.isSome_some, Option.isSome_none, Bool.not_true, Bool.not_false, Bool.true_or, Bool.false_or, Bool.or_true, List.getElem?_cons_zero, List.getElem?_cons_succ, List.set_cons_zero, List.set_cons_succ, List.length_cons, List.length_nil, List.length_append, List.append_assoc, List.cons_append, List.nil_append, List.zip_cons_cons, List.zip_nil_right, Int.reduceAdd, Int.reduceSub, Int.reduceMul, Int.reduceLT, Int.reduceLE, Int.reduceNeg, Int.reduceToNat, Int.zero_add, Int.add_zero, decide_true, decide_false, Nat.reduceLeDiff, Nat.min_self, List.drop_succ_cons, List.drop_zero, List.drop_nil, List.take_succ_cons, List.take_zero, List.take_nil, List.all_cons, List.all_nil, Bool.and_true, Bool.true_and, Nat.mul_one, List.singleton_append, Int.le_refl, Nat.le_refl, c74_0, hf, hdl, hdt, cu8_one, List.length_replicate]
    exact ⟨_, rfl⟩
  obtain ⟨h', hk⟩ := key
  exact call_gc1 fn74 _ _ hk (by simp only [V.bel, belowL, bel_cu8, i64, Bool.and_true])
end Go.Proofs.Ytccepmhhilhajaa.K

/- The reference's Digest, node, Root. -/
set_option linter.unusedVariables false
set_option linter.unusedSimpArgs false
set_option maxRecDepth 100000
namespace Go.Proofs.Ytccepmhhilhajaa.K
open Go Go.A

theorem call54 (l : List (BitVec 8)) (hl : l.length < 8796093022208) (h : Heap) (v : V) (hv : rc 1 h v = some (cu8 l)) : (run T).call 54 [v] none h = some (.ret (.agg (cu8 (digL l))), none, h) := by
  have key : ∃ h', kF (run T) r54 (execC (run T) c54 (frame0 [v] none) (roH h)) = some (.ret (.agg (cu8 (digL l))), none, h') := by
    replace hv := rc_ro hv
    generalize roH h = H at hv ⊢
    obtain ⟨g1, e0⟩ := call73 (H ++ [.cells .ex (List.replicate 16 (u8 0))])
    obtain ⟨r', g, e1, hr'⟩ := call72 S0 [] l (by simp) hl _ .nils v (rfl : rc 1 (H ++ [.cells .ex (List.replicate 16 (u8 0))] ++ g1) .nils = some (cu8 [])) (rc_app (rc_app hv _) _)
    rw [List.nil_append] at e1 hr'
    have hr1' := isS_one (rc_isS hr')
    have e2 := fun X => call74 (absS S0 l) (restL l) (restL_len l) _ r' (rc_app hr' X)
    simp only [List.append_assoc, List.cons_append, List.nil_append] at e0 e1 e2
    have hl16 := len16 _ (digL_len l)
    have ht16 := take16 _ (digL_len l)
    have hd : endD (absS S0 l) (restL l) = digL l := rfl
    rw [hd] at e2
    generalize absS S0 l = s' at *
    generalize digL l = dg at *
    have hz : [u32 0, u32 0, u32 0, u32 0, u32 0, u32 0, u32 0, u32 0, V.nils].length = 9 := rfl
    simp -implicitDefEqProofs only [runEqs, List.zipIdx_cons, List.zipIdx_nil, List.map_cons, List.map_nil, Nat.zero_add, Nat.add_zero, Nat.zero_mul, Nat.reduceAdd, Nat.reduceMul, Nat.reduceBEq, Nat.reduceLT, Nat.reduceSub, Option.map_some, Option.map_none, Option.isSome_some, Option.isSome_none, Bool.not_true, Bool.not_false, Bool.true_or, Bool.false_or, Bool.or_true, List.getElem?_cons_zero, List.getElem?_cons_succ, List.set_cons_zero, List.set_cons_succ, List.length_cons, List.length_nil, List.length_append, List.append_assoc, List.cons_append, List.nil_append, List.zip_cons_cons, List.zip_nil_right, Int.reduceAdd, Int.reduceSub, Int.reduceMul, Int.reduceLT, Int.reduceLE, Int.reduceNeg, Int.reduceToNat, Int.zero_add, Int.add_zero, decide_true, decide_false, Nat.reduceLeDiff, Nat.min_self, List.drop_succ_cons, List.drop_zero, List.drop_nil, List.take_succ_cons, List.take_zero, List.take_nil, List.all_cons, List.all_nil, Bool.and_true, Bool.true_and, Nat.mul_one, List.singleton_append, Int.le_refl, Nat.le_refl, c54, r54, e0, e1, len_s8, S8.len, one_s8, hr1', take9_s8, e2, hl16, ht16, List.length_replicate, cu8_one]
    exact ⟨_, rfl⟩
  obtain ⟨h', hk⟩ := key
  exact call_gc1 fn54 _ _ hk (by simp only [V.bel, bel_cu8])

theorem call49 : ∀ (n : Nat) (ls : List (List (BitVec 8))), ls.length = n → n < 2305843009213693952 → (∀ x ∈ ls, x.length < 8796093022000) → ∀ (h : Heap) (v : V), Lv h v ls →
    (run T).call 49 [v] none h = some (.ret (.agg (cu8 (topL ls))), none, h) := by
  intro n
  induction n using Nat.strongRecOn with
  | ind n ih =>
    intro ls hn hsz hx h v hv
    have key : ∃ h', kF (run T) r49 (execC (run T) c49 (frame0 [v] none) (roH h)) = some (.ret (.agg (cu8 (topL ls))), none, h') := by
      replace hv := hv.ro
      generalize roH h = H at hv ⊢
      have hl := hv.len
      have hs := hv.isS
      match ls, hn with
      | [], hn =>
        have h54 := call54 [2] (by simp) (H ++ [.cells .ex (List.replicate 16 (u8 0)), .cells .ex [u8 2]]) (.sl 1 (H.length + 1) 0 1 1) (rc_newAt 1 _ .ex _ 1 _ rfl (by rw [blk_get]; rfl))
        have ht : topL [] = digL [2] := rfl
        have h16 := len16 _ (digL_len [2])
        have ht16 := take16 _ (digL_len [2])
        have hz : ((([] : List (List (BitVec 8))).length : Int) == 0) = true := rfl
        rw [ht]
        generalize digL [2] = d at *
        have h0 : lenOf v = 0 := hl
        have hz' : (0 : Int) == 0 := rfl
        simp -implicitDefEqProofs only [runEqs, List.zipIdx_cons, List.zipIdx_nil, List.map_cons, List.map_nil, Nat.zero_add, Nat.add_zero, Nat.zero_mul, Nat.reduceAdd, Nat.reduceMul, Nat.reduceBEq, Nat.reduceLT, Nat.reduceSub, Option.map_some, Option.map_none, Option.isSome_some, Option.isSome_none, Bool.not_true, Bool.not_false, Bool.true_or, Bool.false_or, Bool.or_true, List.getElem?_cons_zero, List.getElem?_cons_succ, List.set_cons_zero, List.set_cons_succ, List.length_cons, List.length_nil, List.length_append, List.append_assoc, List.cons_append, List.nil_append, List.zip_cons_cons, List.zip_nil_right, Int.reduceAdd, Int.reduceSub, Int.reduceMul, Int.reduceLT, Int.reduceLE, Int.reduceNeg, Int.reduceToNat, Int.zero_add, Int.add_zero, decide_true, decide_false, Nat.reduceLeDiff, Nat.min_self, List.drop_succ_cons, List.drop_zero, List.drop_nil, List.take_succ_cons, List.take_zero, List.take_nil, List.all_cons, List.all_nil, Bool.and_true, Bool.true_and, Nat.mul_one, List.singleton_append, Int.le_refl, Nat.le_refl, c49, r49, vLen_of, hs, h0, hz', h54, h16, ht16, List.length_replicate, cu8_one, ok_u8]
        exact ⟨_, rfl⟩
      | [x], hn =>
        have h0 : lenOf v = 1 := hl
        obtain ⟨w, hat, -, hw⟩ := hv.at 0 (by simp)
        have hat' := hat [.cells .ex (List.replicate 16 (u8 0))]
        rw [Nat.add_zero] at hat'
        obtain ⟨v', g, h66, o'⟩ := call66 x (by have := hx x (by simp); omega) _ w (rc_app hw [.cells .ex (List.replicate 16 (u8 0))])
        have h54 := call54 (0 :: x) (by have := hx x (by simp); rw [List.length_cons]; omega) _ v' o'.rcn
        simp only [List.append_assoc, List.cons_append, List.nil_append] at h66 h54
        have ht : topL [x] = digL (0 :: x) := rfl
        have h16 := len16 _ (digL_len (0 :: x))
        have ht16 := take16 _ (digL_len (0 :: x))
        rw [ht]
        generalize digL (0 :: x) = d at *
        have hz : ((1 : Int) == 0) = false := rfl
        have hz' : ((1 : Int) == 1) = true := rfl
        have hc1 : ((1 : Nat) : Int) = 1 := rfl
        have hi0 : vIS 1 v (some 0) = some (.ptr (blkOf v) (offOf v)) := by rw [vIS_of 1 0 (by omega)]; rfl
        have hi1 : (i64 0).nat? = some 0 := rfl
        simp -implicitDefEqProofs only [runEqs, List.zipIdx_cons, List.zipIdx_nil, List.map_cons, List.map_nil, Nat.zero_add, Nat.add_zero, Nat.zero_mul, Nat.reduceAdd, Nat.reduceMul, Nat.reduceBEq, Nat.reduceLT, Nat.reduceSub, Option.map_some, Option.map_none, Option.isSome_some, Option.isSome_none, Bool.not_true, Bool.not_false, Bool.true_or, Bool.false_or, Bool.or_true, List.getElem?_cons_zero, List.getElem?_cons_succ, List.set_cons_zero, List.set_cons_succ, List.length_cons, List.length_nil, List.length_append, List.append_assoc, List.cons_append, List.nil_append, List.zip_cons_cons, List.zip_nil_right, Int.reduceAdd, Int.reduceSub, Int.reduceMul, Int.reduceLT, Int.reduceLE, Int.reduceNeg, Int.reduceToNat, Int.zero_add, Int.add_zero, decide_true, decide_false, Nat.reduceLeDiff, Nat.min_self, List.drop_succ_cons, List.drop_zero, List.drop_nil, List.take_succ_cons, List.take_zero, List.take_nil, List.all_cons, List.all_nil, Bool.and_true, Bool.true_and, Nat.mul_one, List.singleton_append, Int.le_refl, Nat.le_refl, c49, r49, vLen_of, hs, h0, hc1, hz, hz', hi1, hi0, hat', h66, h54, h16, ht16, List.length_replicate, cu8_one, ok_u8]
        exact ⟨_, rfl⟩
      | x :: y :: r, hn =>
        generalize hls : x :: y :: r = ls at *
        have h1 : 1 < ls.length := by rw [← hls]; simp
        clear hls
        have hb := half_bd _ h1
        have h67 := call67 ls.length (by omega)
        rw [topL_two ls h1]
        generalize half ls.length = k at *
        obtain ⟨s1, l1⟩ := (hv.app [.cells .ex (List.replicate 16 (u8 0))]).hi k (by omega)
        obtain ⟨s2, l2⟩ := (hv.app [.cells .ex (List.replicate 16 (u8 0))]).lo k (by omega)
        have i1 := ih (ls.take k).length (by rw [List.length_take]; exact Nat.lt_of_le_of_lt (Nat.min_le_left _ _) (Nat.lt_of_lt_of_eq hb.2 hn)) (ls.take k) rfl (by rw [List.length_take, Nat.min_eq_left (by omega)]; omega) (fun z hz => hx z (List.mem_of_mem_take hz)) _ _ l1
        have i2 := ih (ls.drop k).length (by rw [List.length_drop]; exact Nat.lt_of_lt_of_eq (Nat.sub_lt (by omega) hb.1) hn) (ls.drop k) rfl (by rw [List.length_drop]; omega) (fun z hz => hx z (List.mem_of_mem_drop hz)) _ _ l2
        obtain ⟨v', g, h68, o'⟩ := call68 (topL (ls.take k)) (topL (ls.drop k)) (topL_len _) (topL_len _) (H ++ [.cells .ex (List.replicate 16 (u8 0))])
        have h54 := call54 _ (by simp [topL_len]) _ v' o'.rcn
        simp only [List.append_assoc, List.cons_append, List.nil_append] at h68 h54
        have h16 := len16 _ (digL_len (1 :: (topL (ls.take k) ++ topL (ls.drop k))))
        have ht16 := take16 _ (digL_len (1 :: (topL (ls.take k) ++ topL (ls.drop k))))
        generalize digL (1 :: (topL (ls.take k) ++ topL (ls.drop k))) = d at *
        have hz : ((ls.length : Int) == 0) = false := by simp only [beq_eq_false_iff_ne, ne_eq]; omega
        have hz' : ((ls.length : Int) == 1) = false := by simp only [beq_eq_false_iff_ne, ne_eq]; omega
        simp -implicitDefEqProofs only [runEqs, List.zipIdx_cons, List.zipIdx_nil, List.map_cons, List.map_nil, Nat.zero_add, Nat.add_zero, Nat.zero_mul, Nat.reduceAdd, Nat.reduceMul, Nat.reduceBEq, Nat.reduceLT, Nat.reduceSub, Option.map_some, Option.map_none, Option.isSome_some, Option.isSome_none, Bool.not_true, Bool.not_false, Bool.true_or, Bool.false_or, Bool.or_true, List.getElem?_cons_zero, List.getElem?_cons_succ, List.set_cons_zero, List.set_cons_succ, List.length_cons, List.length_nil, List.length_append, List.append_assoc, List.cons_append, List.nil_append, List.zip_cons_cons, List.zip_nil_right, Int.reduceAdd, Int.reduceSub, Int.reduceMul, Int.reduceLT, Int.reduceLE, Int.reduceNeg, Int.reduceToNat, Int.zero_add, Int.add_zero, decide_true, decide_false, Nat.reduceLeDiff, Nat.min_self, List.drop_succ_cons, List.drop_zero, List.drop_nil, List.take_succ_cons, List.take_zero, List.take_nil, List.all_cons, List.all_nil, Bool.and_true, Bool.true_and, Nat.mul_one, List.singleton_append, Int.le_refl, Nat.le_refl, c49, r49, vLen_of, hs, hl, hz, hz', h67, s1, s2, i1, i2, h68, h54, h16, ht16, List.length_replicate, cu8_one]
        exact ⟨_, rfl⟩
    obtain ⟨h', hk⟩ := key
    exact call_gc1 fn49 _ _ hk (by simp only [V.bel, bel_cu8])


theorem call26 (ls : List (List (BitVec 8))) (hsz : ls.length < 2305843009213693952) (hx : ls.length ≤ 4096 → ∀ x ∈ ls, x.length < 8796093022000) (h : Heap) (v : V) (hv : Lv h v ls) :
    (run T).call 26 [v] none h = some (.ret (.tup [.agg (cu8 (rootV ls)), i64 (rootE ls)]), none, h) := by
  have key : ∃ h', kF (run T) r26 (execC (run T) c26 (frame0 [v] none) (roH h)) = some (.ret (.tup [.agg (cu8 (rootV ls)), i64 (rootE ls)]), none, h') := by
    replace hv := hv.ro
    generalize roH h = H at hv ⊢
    have hl := hv.len
    have hs := hv.isS
    by_cases hc : 4096 < ls.length
    · rw [rootV, rootE, if_pos hc, if_pos hc, zer16_c]
      have hg : decide ((ls.length : Int) > 4096) = true := by simp; omega
      simp -implicitDefEqProofs only [runEqs, List.zipIdx_cons, List.zipIdx_nil, List.map_cons, List.map_nil, Nat.zero_add, Nat.add_zero, Nat.zero_mul, Nat.reduceAdd, Nat.reduceMul, Nat.reduceBEq, Nat.reduceLT, Nat.reduceSub, Option.map_some, Option.map_none, Option.isSome_some, Option.isSome_none, Bool.not_true, Bool.not_false, Bool.true_or, Bool.false_or, Bool.or_true, List.getElem?_cons_zero, List.getElem?_cons_succ, List.set_cons_zero, List.set_cons_succ, List.length_cons, List.length_nil, List.length_append, List.append_assoc, List.cons_append, List.nil_append, List.zip_cons_cons, List.zip_nil_right, Int.reduceAdd, Int.reduceSub, Int.reduceMul, Int.reduceLT, Int.reduceLE, Int.reduceNeg, Int.reduceToNat, Int.zero_add, Int.add_zero, decide_true, decide_false, Nat.reduceLeDiff, Nat.min_self, List.drop_succ_cons, List.drop_zero, List.drop_nil, List.take_succ_cons, List.take_zero, List.take_nil, List.all_cons, List.all_nil, Bool.and_true, Bool.true_and, Nat.mul_one, List.singleton_append, Int.le_refl, Nat.le_refl, c26, r26, vLen_of, hs, hl, hg, List.length_replicate, List.all_replicate, one_u8, ite_self]
      exact ⟨_, rfl⟩
    · rw [rootV, rootE, if_neg hc, if_neg hc]
      have hg : decide ((ls.length : Int) > 4096) = false := by simp; omega
      have h49 := call49 _ ls rfl hsz (hx (by omega)) _ v (hv.app [.cells .ex (List.replicate 16 (u8 0))])
      have h16 := len16 _ (topL_len ls)
      have ht16 := take16 _ (topL_len ls)
      generalize topL ls = d at *
      simp -implicitDefEqProofs only [runEqs, List.zipIdx_cons, List.zipIdx_nil, List.map_cons, List.map_nil, Nat.zero_add, Nat.add_zero, Nat.zero_mul, Nat.reduceAdd, Nat.reduceMul, Nat.reduceBEq, Nat.reduceLT, Nat.reduceSub, Option.map_some, Option.map_none, Option.isSome_some, Option.isSome_none, Bool.not_true, Bool.not_false, Bool.true_or, Bool.false_or, Bool.or_true, List.getElem?_cons_zero, List.getElem?_cons_succ, List.set_cons_zero, List.set_cons_succ, List.length_cons, List.length_nil, List.length_append, List.append_assoc, List.cons_append, List.nil_append, List.zip_cons_cons, List.zip_nil_right, Int.reduceAdd, Int.reduceSub, Int.reduceMul, Int.reduceLT, Int.reduceLE, Int.reduceNeg, Int.reduceToNat, Int.zero_add, Int.add_zero, decide_true, decide_false, Nat.reduceLeDiff, Nat.min_self, List.drop_succ_cons, List.drop_zero, List.drop_nil, List.take_succ_cons, List.take_zero, List.take_nil, List.all_cons, List.all_nil, Bool.and_true, Bool.true_and, Nat.mul_one, List.singleton_append, Int.le_refl, Nat.le_refl, c26, r26, vLen_of, hs, hl, hg, h49, h16, ht16, List.length_replicate, cu8_one]
      exact ⟨_, rfl⟩
  obtain ⟨h', hk⟩ := key
  exact call_gc1 fn26 _ _ hk (by simp only [V.bel, belowL, bel_cu8, i64, Bool.and_true])
end Go.Proofs.Ytccepmhhilhajaa.K

/- The reference's sides, way, Prove. -/
set_option linter.unusedVariables false
set_option linter.unusedSimpArgs false
set_option maxRecDepth 100000
namespace Go.Proofs.Ytccepmhhilhajaa.K
open Go Go.A

def lftL (n i : Nat) : List Bool := (sidL n i).reverse.map not
theorem lftL_len (n i : Nat) : (lftL n i).length ≤ n := by rw [lftL, List.length_map, List.length_reverse]; exact sidL_len n i

theorem call71 : ∀ (n i : Nat), i < n → n ≤ 100000 → ∀ (h : Heap), ∃ out g, (run T).call 71 [i64 n, i64 i] none h = some (.ret out, none, h ++ g) ∧ Own h.length 1 (h ++ g) out (cbo (lftL n i)) := by
  intro n
  induction n using Nat.strongRecOn with
  | ind n ih =>
    intro i hi hsz h
    by_cases h1 : n = 1
    · subst h1
      refine ⟨.nils, [], ?_, ?_⟩
      · have hz : (((1 : Nat) : Int) == 1) = true := rfl
        rw [call_gc0 fn71, List.append_nil]
        simp -implicitDefEqProofs only [runEqs, List.zipIdx_cons, List.zipIdx_nil, List.map_cons, List.map_nil, Nat.zero_add, Nat.add_zero, Nat.zero_mul, Nat.reduceAdd, Nat.reduceMul, Nat.reduceBEq, Nat.reduceLT, Nat.reduceSub, Option.map_some, Option.map_none, Option.isSome_some, Option.isSome_none, Bool.not_true, Bool.not_false, Bool.true_or, Bool.false_or, Bool.or_true, List.getElem?_cons_zero, List.getElem?_cons_succ, List.set_cons_zero, List.set_cons_succ, List.length_cons, List.length_nil, List.length_append, List.append_assoc, List.cons_append, List.nil_append, List.zip_cons_cons, List.zip_nil_right, Int.reduceAdd, Int.reduceSub, Int.reduceMul, Int.reduceLT, Int.reduceLE, Int.reduceNeg, Int.reduceToNat, Int.zero_add, Int.add_zero, decide_true, decide_false, Nat.reduceLeDiff, Nat.min_self, List.drop_succ_cons, List.drop_zero, List.drop_nil, List.take_succ_cons, List.take_zero, List.take_nil, List.all_cons, List.all_nil, Bool.and_true, Bool.true_and, Nat.mul_one, List.singleton_append, Int.le_refl, Nat.le_refl, c71, r71, hz]
      · rw [lftL, sidL_one _ _ (Nat.le_refl _)]; exact Own.nil _ _ _
    have hn1 : 1 < n := by omega
    have hb := half_bd n hn1
    have hz : ((n : Int) == 1) = false := by simp only [beq_eq_false_iff_ne, ne_eq]; omega
    have h67 := fun X => call67 n (by omega) X
    have slt := sidL_lt n i hn1
    have sge := sidL_ge n i hn1
    generalize half n = k at *
    by_cases hik : i < k
    · have hg : decide ((i : Int) < (k : Int)) = true := by simpa using hik
      obtain ⟨v1, g1, e1, o1⟩ := ih k (by omega) i hik (by omega) h
      have hol : lenOf v1 = (lftL k i).length := by have := o1.len; rw [cbo_len] at this; omega
      have hll := lftL_len k i
      obtain ⟨out, g', e2, o2, n2⟩ := app_own' (bts := 1) (by omega) (by simp) (o1.app [.cells .ex [.bool false]]) (rc_new 1 (h ++ g1) .ex [.bool false] 1 rfl) (by simp [one_bool])
        (by rw [hol]; simp only [lenOf]; omega) (by rw [hol]; simp only [lenOf]; omega) h (by rw [List.append_assoc]; exact take_zero _ _)
      rw [show cbo (lftL k i) ++ [V.bool false] = cbo (lftL n i) by rw [lftL, lftL, slt hik]; simp [cbo]] at o2
      simp only [List.append_assoc, List.length_append] at e2
      refine ⟨out, g', ?_, o2⟩
      rw [call_gc0 fn71]
      simp -implicitDefEqProofs only [runEqs, List.zipIdx_cons, List.zipIdx_nil, List.map_cons, List.map_nil, Nat.zero_add, Nat.add_zero, Nat.zero_mul, Nat.reduceAdd, Nat.reduceMul, Nat.reduceBEq, Nat.reduceLT, Nat.reduceSub, Option.map_some, Option.map_none, Option.isSome_some, Option.isSome_none, Bool.not_true, Bool.not_false, Bool.true_or, Bool.false_or, Bool.or_true, List.getElem?_cons_zero, List.getElem?_cons_succ, List.set_cons_zero, List.set_cons_succ, List.length_cons, List.length_nil, List.length_append, List.append_assoc, List.cons_append, List.nil_append, List.zip_cons_cons, List.zip_nil_right, Int.reduceAdd, Int.reduceSub, Int.reduceMul, Int.reduceLT, Int.reduceLE, Int.reduceNeg, Int.reduceToNat, Int.zero_add, Int.add_zero, decide_true, decide_false, Nat.reduceLeDiff, Nat.min_self, List.drop_succ_cons, List.drop_zero, List.drop_nil, List.take_succ_cons, List.take_zero, List.take_nil, List.all_cons, List.all_nil, Bool.and_true, Bool.true_and, Nat.mul_one, List.singleton_append, Int.le_refl, Nat.le_refl, c71, r71, hz, h67, hg, e1, ok_bool, one_bool, e2]
    · have hg : decide ((i : Int) < (k : Int)) = false := by simpa using by omega
      have hs1 : wr ((n : Int) - (k : Int)) = ((n - k : Nat) : Int) := by rw [wr_id (by omega) (by omega)]; omega
      have hs2 : wr ((i : Int) - (k : Int)) = ((i - k : Nat) : Int) := by rw [wr_id (by omega) (by omega)]; omega
      obtain ⟨v1, g1, e1, o1⟩ := ih (n - k) (by omega) (i - k) (by omega) (by omega) h
      have hol : lenOf v1 = (lftL (n - k) (i - k)).length := by have := o1.len; rw [cbo_len] at this; omega
      have hll := lftL_len (n - k) (i - k)
      obtain ⟨out, g', e2, o2, n2⟩ := app_own' (bts := 1) (by omega) (by simp) (o1.app [.cells .ex [.bool true]]) (rc_new 1 (h ++ g1) .ex [.bool true] 1 rfl) (by simp [one_bool])
        (by rw [hol]; simp only [lenOf]; omega) (by rw [hol]; simp only [lenOf]; omega) h (by rw [List.append_assoc]; exact take_zero _ _)
      rw [show cbo (lftL (n - k) (i - k)) ++ [V.bool true] = cbo (lftL n i) by rw [lftL, lftL, sge hik]; simp [cbo]] at o2
      simp only [List.append_assoc, List.length_append] at e2
      refine ⟨out, g', ?_, o2⟩
      rw [call_gc0 fn71]
      simp -implicitDefEqProofs only [runEqs, List.zipIdx_cons, List.zipIdx_nil, List.map_cons, List.map_nil, Nat.zero_add, Nat.add_zero, Nat.zero_mul, Nat.reduceAdd, Nat.reduceMul, Nat.reduceBEq, Nat.reduceLT, Nat.reduceSub, Option.map_some, Option.map_none, Option.isSome_some, Option.isSome_none, Bool.not_true, Bool.not_false, Bool.true_or, Bool.false_or, Bool.or_true, List.getElem?_cons_zero, List.getElem?_cons_succ, List.set_cons_zero, List.set_cons_succ, List.length_cons, List.length_nil, List.length_append, List.append_assoc, List.cons_append, List.nil_append, List.zip_cons_cons, List.zip_nil_right, Int.reduceAdd, Int.reduceSub, Int.reduceMul, Int.reduceLT, Int.reduceLE, Int.reduceNeg, Int.reduceToNat, Int.zero_add, Int.add_zero, decide_true, decide_false, Nat.reduceLeDiff, Nat.min_self, List.drop_succ_cons, List.drop_zero, List.drop_nil, List.take_succ_cons, List.take_zero, List.take_nil, List.all_cons, List.all_nil, Bool.and_true, Bool.true_and, Nat.mul_one, List.singleton_append, Int.le_refl, Nat.le_refl, c71, r71, hz, h67, hg, hs1, hs2, e1, ok_bool, one_bool, e2]

theorem call51 : ∀ (n : Nat) (ls : List (List (BitVec 8))) (i : Nat), ls.length = n → i < n → n ≤ 100000 → (∀ x ∈ ls, x.length < 8796093022000) → ∀ (h : Heap) (v : V), Lv h v ls →
    ∃ out g, (run T).call 51 [v, i64 i] none h = some (.ret out, none, h ++ g) ∧ Own h.length 16 (h ++ g) out (cdg (wayL ls i)) := by
  intro n
  induction n using Nat.strongRecOn with
  | ind n ih =>
    intro ls i hn hi hsz hx h v hv
    have hl := hv.len
    have hs := hv.isS
    rw [hn] at hl
    by_cases h1 : n = 1
    · subst h1
      refine ⟨.nils, [], ?_, ?_⟩
      · have hz : (((1 : Nat) : Int) == 1) = true := rfl
        rw [call_gc0 fn51, List.append_nil]
        simp -implicitDefEqProofs only [runEqs, List.zipIdx_cons, List.zipIdx_nil, List.map_cons, List.map_nil, Nat.zero_add, Nat.add_zero, Nat.zero_mul, Nat.reduceAdd, Nat.reduceMul, Nat.reduceBEq, Nat.reduceLT, Nat.reduceSub, Option.map_some, Option.map_none, Option.isSome_some, Option.isSome_none, Bool.not_true, Bool.not_false, Bool.true_or, Bool.false_or, Bool.or_true, List.getElem?_cons_zero, List.getElem?_cons_succ, List.set_cons_zero, List.set_cons_succ, List.length_cons, List.length_nil, List.length_append, List.append_assoc, List.cons_append, List.nil_append, List.zip_cons_cons, List.zip_nil_right, Int.reduceAdd, Int.reduceSub, Int.reduceMul, Int.reduceLT, Int.reduceLE, Int.reduceNeg, Int.reduceToNat, Int.zero_add, Int.add_zero, decide_true, decide_false, Nat.reduceLeDiff, Nat.min_self, List.drop_succ_cons, List.drop_zero, List.drop_nil, List.take_succ_cons, List.take_zero, List.take_nil, List.all_cons, List.all_nil, Bool.and_true, Bool.true_and, Nat.mul_one, List.singleton_append, Int.le_refl, Nat.le_refl, c51, r51, vLen_of, hs, hl, hz]
      · rw [wayL_one _ _ (by omega)]; exact Own.nil _ _ _
    have hn1 : 1 < n := by omega
    have hb := half_bd n hn1
    have hz : ((n : Int) == 1) = false := by simp only [beq_eq_false_iff_ne, ne_eq]; omega
    have h67 := fun X => call67 n (by omega) X
    have wlt := wayL_lt ls i (by omega)
    have wge := wayL_ge ls i (by omega)
    rw [hn] at wlt wge
    generalize half n = k at *
    obtain ⟨s1, l1⟩ := hv.hi k (by omega)
    obtain ⟨s2, l2⟩ := hv.lo k (by omega)
    rw [hn] at s2 l2
    have t1 : (ls.take k).length = k := by rw [List.length_take]; omega
    have t2 : (ls.drop k).length = n - k := by rw [List.length_drop]; omega
    by_cases hik : i < k
    · have hg : decide ((i : Int) < (k : Int)) = true := by simpa using hik
      obtain ⟨v1, g1, e1, o1⟩ := ih k (by omega) (ls.take k) i t1 hik (by omega) (fun z hz => hx z (List.mem_of_mem_take hz)) h _ l1
      have a16 := (wayL_16 k (ls.take k) i (by omega))
      have hol : lenOf v1 = (wayL (ls.take k) i).length := by have := o1.len; rw [cdg_len _ a16.1] at this; omega
      have h49 := call49 _ (ls.drop k) rfl (by omega) (fun z hz => hx z (List.mem_of_mem_drop hz)) _ _ (l2.app g1)
      have h16 := topL_len (ls.drop k)
      have hw := wlt hik
      generalize topL (ls.drop k) = d at *
      have hl16 := len16 d h16
      obtain ⟨out, g', e2, o2, n2⟩ := app_own' (bts := 16) (by omega) (by simp) (o1.app [.cells .ex (cu8 d)]) (rc_new 16 (h ++ g1) .ex (cu8 d) 1 (by rw [cu8_len, h16])) (cu8_one _)
        (by rw [hol]; simp only [lenOf]; omega) (by rw [hol]; simp only [lenOf]; omega) h (by rw [List.append_assoc]; exact take_zero _ _)
      rw [show cdg (wayL (ls.take k) i) ++ cu8 d = cdg (wayL ls i) by rw [hw, ← cdg_app, cdg_cons, cdg_nil, List.append_nil]] at o2
      simp only [List.append_assoc, List.length_append] at e2
      refine ⟨out, g', ?_, o2⟩
      rw [call_gc0 fn51]
      simp -implicitDefEqProofs only [runEqs, List.zipIdx_cons, List.zipIdx_nil, List.map_cons, List.map_nil, Nat.zero_add, Nat.add_zero, Nat.zero_mul, Nat.reduceAdd, Nat.reduceMul, Nat.reduceBEq, Nat.reduceLT, Nat.reduceSub, Option.map_some, Option.map_none, Option.isSome_some, Option.isSome_none, Bool.not_true, Bool.not_false, Bool.true_or, Bool.false_or, Bool.or_true, List.getElem?_cons_zero, List.getElem?_cons_succ, List.set_cons_zero, List.set_cons_succ, List.length_cons, List.length_nil, List.length_append, List.append_assoc, List.cons_append, List.nil_append, List.zip_cons_cons, List.zip_nil_right, Int.reduceAdd, Int.reduceSub, Int.reduceMul, Int.reduceLT, Int.reduceLE, Int.reduceNeg, Int.reduceToNat, Int.zero_add, Int.add_zero, decide_true, decide_false, Nat.reduceLeDiff, Nat.min_self, List.drop_succ_cons, List.drop_zero, List.drop_nil, List.take_succ_cons, List.take_zero, List.take_nil, List.all_cons, List.all_nil, Bool.and_true, Bool.true_and, Nat.mul_one, List.singleton_append, Int.le_refl, Nat.le_refl, c51, r51, vLen_of, hs, hl, hz, h67, hg, s1, s2, e1, h49, hl16, List.length_replicate, List.drop_replicate, List.replicate_zero, List.append_nil, Nat.sub_self, cu8_one, e2]
    · have hg : decide ((i : Int) < (k : Int)) = false := by simpa using by omega
      have hs2 : wr ((i : Int) - (k : Int)) = ((i - k : Nat) : Int) := by rw [wr_id (by omega) (by omega)]; omega
      obtain ⟨v1, g1, e1, o1⟩ := ih (n - k) (by omega) (ls.drop k) (i - k) t2 (by omega) (by omega) (fun z hz => hx z (List.mem_of_mem_drop hz)) h _ l2
      have a16 := (wayL_16 (n - k) (ls.drop k) (i - k) (by omega))
      have hol : lenOf v1 = (wayL (ls.drop k) (i - k)).length := by have := o1.len; rw [cdg_len _ a16.1] at this; omega
      have h49 := call49 _ (ls.take k) rfl (by omega) (fun z hz => hx z (List.mem_of_mem_take hz)) _ _ (l1.app g1)
      have h16 := topL_len (ls.take k)
      have hw := wge hik
      generalize topL (ls.take k) = d at *
      have hl16 := len16 d h16
      obtain ⟨out, g', e2, o2, n2⟩ := app_own' (bts := 16) (by omega) (by simp) (o1.app [.cells .ex (cu8 d)]) (rc_new 16 (h ++ g1) .ex (cu8 d) 1 (by rw [cu8_len, h16])) (cu8_one _)
        (by rw [hol]; simp only [lenOf]; omega) (by rw [hol]; simp only [lenOf]; omega) h (by rw [List.append_assoc]; exact take_zero _ _)
      rw [show cdg (wayL (ls.drop k) (i - k)) ++ cu8 d = cdg (wayL ls i) by rw [hw, ← cdg_app, cdg_cons, cdg_nil, List.append_nil]] at o2
      simp only [List.append_assoc, List.length_append] at e2
      refine ⟨out, g', ?_, o2⟩
      rw [call_gc0 fn51]
      simp -implicitDefEqProofs only [runEqs, List.zipIdx_cons, List.zipIdx_nil, List.map_cons, List.map_nil, Nat.zero_add, Nat.add_zero, Nat.zero_mul, Nat.reduceAdd, Nat.reduceMul, Nat.reduceBEq, Nat.reduceLT, Nat.reduceSub, Option.map_some, Option.map_none, Option.isSome_some, Option.isSome_none, Bool.not_true, Bool.not_false, Bool.true_or, Bool.false_or, Bool.or_true, List.getElem?_cons_zero, List.getElem?_cons_succ, List.set_cons_zero, List.set_cons_succ, List.length_cons, List.length_nil, List.length_append, List.append_assoc, List.cons_append, List.nil_append, List.zip_cons_cons, List.zip_nil_right, Int.reduceAdd, Int.reduceSub, Int.reduceMul, Int.reduceLT, Int.reduceLE, Int.reduceNeg, Int.reduceToNat, Int.zero_add, Int.add_zero, decide_true, decide_false, Nat.reduceLeDiff, Nat.min_self, List.drop_succ_cons, List.drop_zero, List.drop_nil, List.take_succ_cons, List.take_zero, List.take_nil, List.all_cons, List.all_nil, Bool.and_true, Bool.true_and, Nat.mul_one, List.singleton_append, Int.le_refl, Nat.le_refl, c51, r51, vLen_of, hs, hl, hz, h67, hg, hs2, s1, s2, e1, h49, hl16, List.length_replicate, List.drop_replicate, List.replicate_zero, List.append_nil, Nat.sub_self, cu8_one, e2]

theorem call28 (ls : List (List (BitVec 8))) (i : Int) (hsz : ls.length < 2305843009213693952) (hx : ls.length ≤ 4096 → ∀ x ∈ ls, x.length < 8796093022000) (h : Heap) (v : V) (hv : Lv h v ls) :
    ∃ out g, (run T).call 28 [v, i64 i] none h = some (.ret (.tup [out, i64 (proveE ls i)]), none, h ++ g) ∧ Own h.length 16 (h ++ g) out (cdg (proveV ls i)) := by
  have hl := hv.len
  have hs := hv.isS
  by_cases hc : 4096 < ls.length
  · refine ⟨.nils, [], ?_, ?_⟩
    · rw [call_gc0 fn28, proveE, if_pos hc, List.append_nil]
      have hg : decide ((ls.length : Int) > 4096) = true := by simp; omega
      simp -implicitDefEqProofs only [runEqs, List.zipIdx_cons, List.zipIdx_nil, List.map_cons, List.map_nil, Nat.zero_add, Nat.add_zero, Nat.zero_mul, Nat.reduceAdd, Nat.reduceMul, Nat.reduceBEq, Nat.reduceLT, Nat.reduceSub, Option.map_some, Option.map_none, Option.isSome_some, Option.isSome_none, Bool.not_true, Bool.not_false, Bool.true_or, Bool.false_or, Bool.or_true, List.getElem?_cons_zero, List.getElem?_cons_succ, List.set_cons_zero, List.set_cons_succ, List.length_cons, List.length_nil, List.length_append, List.append_assoc, List.cons_append, List.nil_append, List.zip_cons_cons, List.zip_nil_right, Int.reduceAdd, Int.reduceSub, Int.reduceMul, Int.reduceLT, Int.reduceLE, Int.reduceNeg, Int.reduceToNat, Int.zero_add, Int.add_zero, decide_true, decide_false, Nat.reduceLeDiff, Nat.min_self, List.drop_succ_cons, List.drop_zero, List.drop_nil, List.take_succ_cons, List.take_zero, List.take_nil, List.all_cons, List.all_nil, Bool.and_true, Bool.true_and, Nat.mul_one, List.singleton_append, Int.le_refl, Nat.le_refl, c28, r28, vLen_of, hs, hl, hg]
    · rw [proveV, if_pos hc]; exact Own.nil _ _ _
  have hg : decide ((ls.length : Int) > 4096) = false := by simp; omega
  by_cases hi0 : i < 0
  · refine ⟨.nils, [], ?_, ?_⟩
    · rw [call_gc0 fn28, proveE, if_neg hc, if_pos (.inl hi0), List.append_nil]
      have hg1 : decide (i < 0) = true := by simpa using hi0
      simp -implicitDefEqProofs only [runEqs, List.zipIdx_cons, List.zipIdx_nil, List.map_cons, List.map_nil, Nat.zero_add, Nat.add_zero, Nat.zero_mul, Nat.reduceAdd, Nat.reduceMul, Nat.reduceBEq, Nat.reduceLT, Nat.reduceSub, Option.map_some, Option.map_none, Option.isSome_some, Option.isSome_none, Bool.not_true, Bool.not_false, Bool.true_or, Bool.false_or, Bool.or_true, List.getElem?_cons_zero, List.getElem?_cons_succ, List.set_cons_zero, List.set_cons_succ, List.length_cons, List.length_nil, List.length_append, List.append_assoc, List.cons_append, List.nil_append, List.zip_cons_cons, List.zip_nil_right, Int.reduceAdd, Int.reduceSub, Int.reduceMul, Int.reduceLT, Int.reduceLE, Int.reduceNeg, Int.reduceToNat, Int.zero_add, Int.add_zero, decide_true, decide_false, Nat.reduceLeDiff, Nat.min_self, List.drop_succ_cons, List.drop_zero, List.drop_nil, List.take_succ_cons, List.take_zero, List.take_nil, List.all_cons, List.all_nil, Bool.and_true, Bool.true_and, Nat.mul_one, List.singleton_append, Int.le_refl, Nat.le_refl, c28, r28, vLen_of, hs, hl, hg, hg1]
    · rw [proveV, if_neg hc, if_pos (.inl hi0)]; exact Own.nil _ _ _
  have hg1 : decide (i < 0) = false := by simpa using hi0
  by_cases hi1 : (ls.length : Int) ≤ i
  · refine ⟨.nils, [], ?_, ?_⟩
    · rw [call_gc0 fn28, proveE, if_neg hc, if_pos (.inr hi1), List.append_nil]
      have hg2 : decide (i ≥ (ls.length : Int)) = true := by simpa using hi1
      simp -implicitDefEqProofs only [runEqs, List.zipIdx_cons, List.zipIdx_nil, List.map_cons, List.map_nil, Nat.zero_add, Nat.add_zero, Nat.zero_mul, Nat.reduceAdd, Nat.reduceMul, Nat.reduceBEq, Nat.reduceLT, Nat.reduceSub, Option.map_some, Option.map_none, Option.isSome_some, Option.isSome_none, Bool.not_true, Bool.not_false, Bool.true_or, Bool.false_or, Bool.or_true, List.getElem?_cons_zero, List.getElem?_cons_succ, List.set_cons_zero, List.set_cons_succ, List.length_cons, List.length_nil, List.length_append, List.append_assoc, List.cons_append, List.nil_append, List.zip_cons_cons, List.zip_nil_right, Int.reduceAdd, Int.reduceSub, Int.reduceMul, Int.reduceLT, Int.reduceLE, Int.reduceNeg, Int.reduceToNat, Int.zero_add, Int.add_zero, decide_true, decide_false, Nat.reduceLeDiff, Nat.min_self, List.drop_succ_cons, List.drop_zero, List.drop_nil, List.take_succ_cons, List.take_zero, List.take_nil, List.all_cons, List.all_nil, Bool.and_true, Bool.true_and, Nat.mul_one, List.singleton_append, Int.le_refl, Nat.le_refl, c28, r28, vLen_of, hs, hl, hg, hg1, hg2]
    · rw [proveV, if_neg hc, if_pos (.inr hi1)]; exact Own.nil _ _ _
  have hg2 : decide (i ≥ (ls.length : Int)) = false := by simpa using hi1
  obtain ⟨i, rfl⟩ : ∃ m : Nat, i = m := ⟨i.toNat, by omega⟩
  have e1 : proveE ls (i : Int) = 0 := by rw [proveE, if_neg hc, if_neg (by omega)]
  have e2 : proveV ls (i : Int) = wayL ls i := by rw [proveV, if_neg hc, if_neg (by omega)]; rfl
  rw [e1, e2]
  obtain ⟨out, g, e51, o⟩ := call51 ls.length ls i rfl (by omega) (by omega) (hx (by omega)) h v hv
  refine ⟨out, g, ?_, o⟩
  rw [call_gc0 fn28]
  simp -implicitDefEqProofs only [runEqs, List.zipIdx_cons, List.zipIdx_nil, List.map_cons, List.map_nil, Nat.zero_add, Nat.add_zero, Nat.zero_mul, Nat.reduceAdd, Nat.reduceMul, Nat.reduceBEq, Nat.reduceLT, Nat.reduceSub, Option.map_some, Option.map_none, Option.isSome_some, Option.isSome_none, Bool.not_true, Bool.not_false, Bool.true_or, Bool.false_or, Bool.or_true, List.getElem?_cons_zero, List.getElem?_cons_succ, List.set_cons_zero, List.set_cons_succ, List.length_cons, List.length_nil, List.length_append, List.append_assoc, List.cons_append, List.nil_append, List.zip_cons_cons, List.zip_nil_right, Int.reduceAdd, Int.reduceSub, Int.reduceMul, Int.reduceLT, Int.reduceLE, Int.reduceNeg, Int.reduceToNat, Int.zero_add, Int.add_zero, decide_true, decide_false, Nat.reduceLeDiff, Nat.min_self, List.drop_succ_cons, List.drop_zero, List.drop_nil, List.take_succ_cons, List.take_zero, List.take_nil, List.all_cons, List.all_nil, Bool.and_true, Bool.true_and, Nat.mul_one, List.singleton_append, Int.le_refl, Nat.le_refl, c28, r28, vLen_of, hs, hl, hg, hg1, hg2, e51]
end Go.Proofs.Ytccepmhhilhajaa.K

/- The reference's Inputs: one round. -/
set_option linter.unusedVariables false
set_option linter.unusedSimpArgs false
set_option maxRecDepth 100000
namespace Go.Proofs.Ytccepmhhilhajaa.K
open Go Go.A

/-- The state of the loop. -/
structure HJ (H : Heap) (leaf : List (BitVec 8)) (nd : List (List (BitVec 8) × Bool)) (k : Nat) (out : V) (g : Heap) (ws : List V) : Prop where
  own : Own H.length 1 (H ++ g) out ws
  len : ws.length = k + 1
  wone : ws.all V.one = true
  el : ∀ j, j ≤ k → ∃ w, ws[j]? = some w ∧ rc 1 (H ++ g) w = some (cu8 (curK (0 :: leaf) nd j)) ∧ blkOf w ≠ blkOf out

set_option maxHeartbeats 1000000 in
theorem round53 (H : Heap) (leaf : List (BitVec 8)) (hlf : leaf.length < 8796093000000) (path : List (List (BitVec 8))) (h16 : all16 path) (sd : List Bool) (hps : path.length = sd.length) (hsz : sd.length ≤ 4096) (p lv : V) (hp : rc 16 H p = some (cdg path)) (hlv : rc 1 H lv = some (cbo (sd.reverse.map not)))
    (k : Nat) (hk : k < sd.length) (out : V) (g : Heap) (ws : List V) (I : HJ H leaf (nodesL path sd) k out g ws) :
    ∃ out' g' ws', Nxt (execC (run T) c53_0 ⟨[3, 10, 11, 12].zip [p, lv, out, i64 k], [], some none⟩ (H ++ g)) [3, 10, 11, 12] [p, lv, out', i64 ((k + 1 : Nat) : Int)] [] (some none) (H ++ g') ∧ HJ H leaf (nodesL path sd) (k + 1) out' g' ws' := by
  obtain ⟨own, len, wone, el⟩ := I
  have hnd := nodes_ok path h16 sd
  have hndl : (nodesL path sd).length = sd.length := by rw [nodesL, List.length_zip, List.length_reverse, hps, Nat.min_self]
  have hcl := cdg_len path h16
  have hpl : lenOf p = path.length := by have := rc_len hp; rw [hcl] at this; omega
  have hps' := rc_isS hp
  have hll : lenOf lv = sd.length := by have := rc_len hlv; rw [cbo_len, List.length_map, List.length_reverse] at this; omega
  have hol : lenOf out = k + 1 := by have := own.len; omega
  have hwn : ws ≠ [] := fun e => by rw [e] at len; simp at len
  have hob := own_blk own hwn
  have hkp : k < path.length := by omega
  have hg1 : decide ((k : Int) < (path.length : Int)) = true := by simpa using by omega
  have hw := wr_succ_nat k (by omega)
  obtain ⟨w, hwk, hrw, hb2⟩ := el k (Nat.le_refl _)
  have hcu := curK_len leaf (nodesL path sd) hnd k (by omega)
  have hk1 : k < k + 1 := by omega
  have r2 : kAt (offOf out + k) (cellsAt (H ++ g) (blkOf out)) = some w := by
    have := rc_at own.rcn k (by omega)
    rw [hwk] at this
    exact this
  have r1 : ∀ x, kAg (offOf p + k * 16) 16 (cellsAt (H ++ x) (blkOf p)) = some (.agg (cu8 path[k])) := fun x => by rw [rc_ag_app hp x (k * 16) 16 (by omega) (by omega), cdg_get path h16 k hkp]
  have r3 : ∀ x, kAt (offOf lv + k) (cellsAt (H ++ x) (blkOf lv)) = some (.bool (!(sd.reverse[k]'(by simpa using hk)))) := fun x => by
    rw [rc_at_app hlv x k (by rw [cbo_len]; simpa using hk), cbo_at _ k (by simpa using hk)]
    simp
  have hx16 : path[k].length = 16 := h16 _ (by simp)
  have hcs : curK (0 :: leaf) (nodesL path sd) (k + 1) = nxtB (curK (0 :: leaf) (nodesL path sd) k) (path[k], sd.reverse[k]'(by simpa using hk)) := by
    rw [curK]
    congr 1
    rw [nodesL, List.getD_eq_getElem?_getD, List.getElem?_eq_getElem (by rw [List.length_zip, List.length_reverse]; omega)]
    simp
  generalize hc0 : curK (0 :: leaf) (nodesL path sd) k = cur at *
  have hd := digL_len cur
  have h54 := call54 cur (by omega) (H ++ g) w hrw
  generalize hdl : digL cur = dg at *
  generalize path[k] = d at *
  generalize sd.reverse[k]'(by simpa using hk) = r at *
  have d1 := len16 d hx16
  have d2 := take16 d hx16
  have d3 := len16 dg hd
  have d4 := take16 dg hd
  -- the pair
  obtain ⟨w', g1, e68, o68⟩ : ∃ w' g1, (if r = true then (run T).call 68 [.agg (cu8 dg), .agg (cu8 d)] none (H ++ (g ++ [.cells .ex (cu8 dg)])) else (run T).call 68 [.agg (cu8 d), .agg (cu8 dg)] none (H ++ (g ++ [.cells .ex (cu8 dg)]))) =
      some (.ret w', none, H ++ (g ++ .cells .ex (cu8 dg) :: g1)) ∧ Own (H.length + (g.length + 1)) 1 (H ++ (g ++ .cells .ex (cu8 dg) :: g1)) w' (cu8 (nxtB cur (d, r))) := by
    by_cases hr : r = true
    · obtain ⟨w', g1, a, b⟩ := call68 dg d hd hx16 (H ++ (g ++ [.cells .ex (cu8 dg)]))
      refine ⟨w', g1, ?_, ?_⟩
      · rw [if_pos hr, a]; simp only [List.append_assoc, List.cons_append, List.nil_append]
      · rw [nxtB, if_pos hr, hdl]
        simp only [List.append_assoc, List.cons_append, List.nil_append, List.length_append, List.length_cons, List.length_nil, Nat.zero_add] at b
        exact b
    · obtain ⟨w', g1, a, b⟩ := call68 d dg hx16 hd (H ++ (g ++ [.cells .ex (cu8 dg)]))
      refine ⟨w', g1, ?_, ?_⟩
      · rw [if_neg hr, a]; simp only [List.append_assoc, List.cons_append, List.nil_append]
      · rw [nxtB, if_neg hr, hdl]
        simp only [List.append_assoc, List.cons_append, List.nil_append, List.length_append, List.length_cons, List.length_nil, Nat.zero_add] at b
        exact b
  have hnn : cu8 (nxtB cur (d, r)) ≠ [] := by simp [cu8, nxtB]
  have hwb := own_blk o68 hnn
  have hws := rc_isS o68.rcn
  have hw1 := isS_one hws
  have hwo := isS_ok hws
  have hwc := isS_cells hws
  -- the append
  have o3 : Own H.length 1 (H ++ (g ++ .cells .ex (cu8 dg) :: (g1 ++ [.cells .ex [w']]))) out ws := by
    have := own.app (.cells .ex (cu8 dg) :: (g1 ++ [.cells .ex [w']]))
    simpa using this
  have x3 : rc 1 (H ++ (g ++ .cells .ex (cu8 dg) :: (g1 ++ [.cells .ex [w']]))) (.sl 1 (H.length + (g.length + (g1.length + 1))) 0 1 1) = some [w'] := by
    have := rc_new 1 (H ++ (g ++ .cells .ex (cu8 dg) :: g1)) .ex [w'] 1 rfl
    simpa using this
  obtain ⟨h', e4, o4, k4⟩ := app_new (bts := 24) (by omega) (by simp) o3 x3 (by simp [lenOf]) (by simpa using hw1) (by rw [hol]; simp only [lenOf]; omega) (by rw [hol]; simp only [lenOf]; omega)
  have hlen3 : (H ++ (g ++ Blk.cells .ex (cu8 dg) :: (g1 ++ [Blk.cells .ex [w']]))).length = H.length + (g.length + (g1.length + 1 + 1)) := by simp
  have ht := k4.take (by simp)
  rw [take_zero] at ht
  generalize h'.drop H.length = g2 at ht
  subst ht
  simp only [hlen3, hol, lenOf_sl] at e4 o4
  obtain ⟨out', hout'⟩ : ∃ o : V, o = .sl 1 (H.length + (g.length + (g1.length + 1 + 1))) 0 (k + 1 + 1) (k + 1 + 1) := ⟨_, rfl⟩
  have hob' : blkOf out' = H.length + (g.length + (g1.length + 1 + 1)) := by rw [hout']; rfl
  rw [← hout'] at e4 o4
  have trans : ∀ (z : V) (cs : List V), rc 1 (H ++ g) z = some cs → blkOf z ≠ blkOf out → rc 1 (H ++ g2) z = some cs := fun z cs hz hne => by
    have h1 := rc_app hz (.cells .ex (cu8 dg) :: (g1 ++ [.cells .ex [w']]))
    simp only [List.append_assoc, List.cons_append, List.nil_append] at h1
    exact k4.rc h1 (.inr hne)
  refine ⟨out', g2, ws ++ [w'], ?_, ⟨o4, by simp [len], by rw [List.all_append, wone]; simp [hw1], fun j hj => ?_⟩⟩
  · cases r with
    | true =>
      rw [if_pos rfl] at e68
      simp -implicitDefEqProofs only [runEqs, List.zipIdx_cons, List.zipIdx_nil, List.map_cons, List.map_nil, Nat.zero_add, Nat.add_zero, Nat.zero_mul, Nat.reduceAdd, Nat.reduceMul, Nat.reduceBEq, Nat.reduceLT, Nat.reduceSub, Option.map_some, Option.map_none, Option.isSome_some, Option.isSome_none, Bool.not_true, Bool.not_false, Bool.true_or, Bool.false_or, Bool.or_true, List.getElem?_cons_zero, List.getElem?_cons_succ, List.set_cons_zero, List.set_cons_succ, List.length_cons, List.length_nil, List.length_append, List.append_assoc, List.cons_append, List.nil_append, List.zip_cons_cons, List.zip_nil_right, Int.reduceAdd, Int.reduceSub, Int.reduceMul, Int.reduceLT, Int.reduceLE, Int.reduceNeg, Int.reduceToNat, Int.zero_add, Int.add_zero, decide_true, decide_false, Nat.reduceLeDiff, Nat.min_self, List.drop_succ_cons, List.drop_zero, List.drop_nil, List.take_succ_cons, List.take_zero, List.take_nil, List.all_cons, List.all_nil, Bool.and_true, Bool.true_and, Nat.mul_one, List.singleton_append, Int.le_refl, Nat.le_refl, c53_0, hg1, hw, vIS_of, vLen_of, hps', hpl, hol, hll, hk, hkp, hk1, vLdN_ptr, r1, r2, r3, h54, d1, d2, d3, d4, List.length_replicate, cu8_one, e68, hwo, hwc, hw1, e4]
      exact nxt_some _ _ _ _ _ _ _ rfl rfl
    | false =>
      rw [if_neg (by decide)] at e68
      simp -implicitDefEqProofs only [runEqs, List.zipIdx_cons, List.zipIdx_nil, List.map_cons, List.map_nil, Nat.zero_add, Nat.add_zero, Nat.zero_mul, Nat.reduceAdd, Nat.reduceMul, Nat.reduceBEq, Nat.reduceLT, Nat.reduceSub, Option.map_some, Option.map_none, Option.isSome_some, Option.isSome_none, Bool.not_true, Bool.not_false, Bool.true_or, Bool.false_or, Bool.or_true, List.getElem?_cons_zero, List.getElem?_cons_succ, List.set_cons_zero, List.set_cons_succ, List.length_cons, List.length_nil, List.length_append, List.append_assoc, List.cons_append, List.nil_append, List.zip_cons_cons, List.zip_nil_right, Int.reduceAdd, Int.reduceSub, Int.reduceMul, Int.reduceLT, Int.reduceLE, Int.reduceNeg, Int.reduceToNat, Int.zero_add, Int.add_zero, decide_true, decide_false, Nat.reduceLeDiff, Nat.min_self, List.drop_succ_cons, List.drop_zero, List.drop_nil, List.take_succ_cons, List.take_zero, List.take_nil, List.all_cons, List.all_nil, Bool.and_true, Bool.true_and, Nat.mul_one, List.singleton_append, Int.le_refl, Nat.le_refl, c53_0, hg1, hw, vIS_of, vLen_of, hps', hpl, hol, hll, hk, hkp, hk1, vLdN_ptr, r1, r2, r3, h54, d1, d2, d3, d4, List.length_replicate, cu8_one, e68, hwo, hwc, hw1, e4]
      exact nxt_some _ _ _ _ _ _ _ rfl rfl
  · by_cases hjk : j ≤ k
    · obtain ⟨z, z1, z2, z4⟩ := el j hjk
      have hcj := curK_len leaf (nodesL path sd) hnd j (by omega)
      have hbl := rc_blk z2 (by rw [cu8_len]; omega)
      refine ⟨z, by rw [List.getElem?_append_left (by omega)]; exact z1, trans z _ z2 z4, ?_⟩
      rw [hob']
      simp only [List.length_append] at hbl
      omega
    · have hjk : j = k + 1 := by omega
      subst hjk
      refine ⟨w', by rw [List.getElem?_append_right (by omega), len, Nat.sub_self]; rfl, ?_, ?_⟩
      · rw [hcs]
        have h1 := rc_app o68.rcn [.cells .ex [w']]
        simp only [List.append_assoc, List.cons_append, List.nil_append] at h1
        refine k4.rc h1 (.inr ?_)
        have := hob.2
        simp only [List.length_append] at this
        omega
      · rw [hob']
        have := hwb.2
        simp only [List.length_append, List.length_cons] at this
        omega
end Go.Proofs.Ytccepmhhilhajaa.K

/- The reference's Inputs. -/
set_option linter.unusedVariables false
set_option linter.unusedSimpArgs false
set_option maxRecDepth 100000
namespace Go.Proofs.Ytccepmhhilhajaa.K
open Go Go.A

theorem call53 (n i : Int) (leaf : List (BitVec 8)) (hlf : leaf.length < 8796093000000) (path : List (List (BitVec 8))) (h16 : all16 path) (hpl : path.length < 4611686018427387904) (h : Heap) (lv p : V) (hlv : rc 1 h lv = some (cu8 leaf)) (hp : rc 16 h p = some (cdg path)) :
    ∃ out g, (run T).call 53 [i64 n, i64 i, lv, p] none h = some (.ret (.tup [out, i64 (placeE n i path.length)]), none, h ++ g) ∧
      (placeE n i path.length = 0 → Lv (h ++ g) out (hashL leaf (nodesL path (sidL n.toNat i.toNat)))) ∧ (placeE n i path.length ≠ 0 → out = .nils) := by
  have hps := rc_isS hp
  have hpl' : lenOf p = path.length := by have := rc_len hp; rw [cdg_len _ h16] at this; omega
  by_cases hn : n > 4096
  · rw [placeE, if_pos hn]
    refine ⟨.nils, [], ?_, fun hh => absurd hh (by decide), fun _ => rfl⟩
    have hg : decide (n > 4096) = true := by simpa using hn
    rw [call_gc0 fn53, List.append_nil]
    simp -implicitDefEqProofs only [runEqs, List.zipIdx_cons, List.zipIdx_nil, List.map_cons, List.map_nil, Nat.zero_add, Nat.add_zero, Nat.zero_mul, Nat.reduceAdd, Nat.reduceMul, Nat.reduceBEq, Nat.reduceLT, Nat.reduceSub, Option.map_some, Option.map_none, Option.isSome_some, Option.isSome_none, Bool.not_true, Bool.not_false, Bool.true_or, Bool.false_or, Bool.or_true, List.getElem?_cons_zero, List.getElem?_cons_succ, List.set_cons_zero, List.set_cons_succ, List.length_cons, List.length_nil, List.length_append, List.append_assoc, List.cons_append, List.nil_append, List.zip_cons_cons, List.zip_nil_right, Int.reduceAdd, Int.reduceSub, Int.reduceMul, Int.reduceLT, Int.reduceLE, Int.reduceNeg, Int.reduceToNat, Int.zero_add, Int.add_zero, decide_true, decide_false, Nat.reduceLeDiff, Nat.min_self, List.drop_succ_cons, List.drop_zero, List.drop_nil, List.take_succ_cons, List.take_zero, List.take_nil, List.all_cons, List.all_nil, Bool.and_true, Bool.true_and, Nat.mul_one, List.singleton_append, Int.le_refl, Nat.le_refl, c53, r53, hg]
  have hg : decide (n > 4096) = false := by simpa using hn
  by_cases hi0 : i < 0
  · rw [placeE, if_neg hn, if_pos (.inl hi0)]
    refine ⟨.nils, [], ?_, fun hh => absurd hh (by decide), fun _ => rfl⟩
    have hg1 : decide (i < 0) = true := by simpa using hi0
    rw [call_gc0 fn53, List.append_nil]
    simp -implicitDefEqProofs only [runEqs, List.zipIdx_cons, List.zipIdx_nil, List.map_cons, List.map_nil, Nat.zero_add, Nat.add_zero, Nat.zero_mul, Nat.reduceAdd, Nat.reduceMul, Nat.reduceBEq, Nat.reduceLT, Nat.reduceSub, Option.map_some, Option.map_none, Option.isSome_some, Option.isSome_none, Bool.not_true, Bool.not_false, Bool.true_or, Bool.false_or, Bool.or_true, List.getElem?_cons_zero, List.getElem?_cons_succ, List.set_cons_zero, List.set_cons_succ, List.length_cons, List.length_nil, List.length_append, List.append_assoc, List.cons_append, List.nil_append, List.zip_cons_cons, List.zip_nil_right, Int.reduceAdd, Int.reduceSub, Int.reduceMul, Int.reduceLT, Int.reduceLE, Int.reduceNeg, Int.reduceToNat, Int.zero_add, Int.add_zero, decide_true, decide_false, Nat.reduceLeDiff, Nat.min_self, List.drop_succ_cons, List.drop_zero, List.drop_nil, List.take_succ_cons, List.take_zero, List.take_nil, List.all_cons, List.all_nil, Bool.and_true, Bool.true_and, Nat.mul_one, List.singleton_append, Int.le_refl, Nat.le_refl, c53, r53, hg, hg1]
  have hg1 : decide (i < 0) = false := by simpa using hi0
  by_cases hi1 : n ≤ i
  · rw [placeE, if_neg hn, if_pos (.inr hi1)]
    refine ⟨.nils, [], ?_, fun hh => absurd hh (by decide), fun _ => rfl⟩
    have hg2 : decide (i ≥ n) = true := by simpa using hi1
    rw [call_gc0 fn53, List.append_nil]
    simp -implicitDefEqProofs only [runEqs, List.zipIdx_cons, List.zipIdx_nil, List.map_cons, List.map_nil, Nat.zero_add, Nat.add_zero, Nat.zero_mul, Nat.reduceAdd, Nat.reduceMul, Nat.reduceBEq, Nat.reduceLT, Nat.reduceSub, Option.map_some, Option.map_none, Option.isSome_some, Option.isSome_none, Bool.not_true, Bool.not_false, Bool.true_or, Bool.false_or, Bool.or_true, List.getElem?_cons_zero, List.getElem?_cons_succ, List.set_cons_zero, List.set_cons_succ, List.length_cons, List.length_nil, List.length_append, List.append_assoc, List.cons_append, List.nil_append, List.zip_cons_cons, List.zip_nil_right, Int.reduceAdd, Int.reduceSub, Int.reduceMul, Int.reduceLT, Int.reduceLE, Int.reduceNeg, Int.reduceToNat, Int.zero_add, Int.add_zero, decide_true, decide_false, Nat.reduceLeDiff, Nat.min_self, List.drop_succ_cons, List.drop_zero, List.drop_nil, List.take_succ_cons, List.take_zero, List.take_nil, List.all_cons, List.all_nil, Bool.and_true, Bool.true_and, Nat.mul_one, List.singleton_append, Int.le_refl, Nat.le_refl, c53, r53, hg, hg1, hg2]
  have hg2 : decide (i ≥ n) = false := by simpa using hi1
  have hplace : placeE n i path.length = if path.length ≠ (sidL n.toNat i.toNat).length then 22 else 0 := by rw [placeE, if_neg hn, if_neg (by omega)]
  rw [hplace]
  obtain ⟨n, rfl⟩ : ∃ m : Nat, n = m := ⟨n.toNat, by omega⟩
  obtain ⟨i, rfl⟩ : ∃ m : Nat, i = m := ⟨i.toNat, by omega⟩
  simp only [Int.toNat_natCast]
  obtain ⟨sv, g1, e71, o71⟩ := call71 n i (by omega) (by omega) h
  have hll : lenOf sv = (sidL n i).length := by have := o71.len; rw [cbo_len, lftL, List.length_map, List.length_reverse] at this; omega
  have hss := rc_isS o71.rcn
  have hsdl := sidL_len n i
  rw [lftL] at o71
  by_cases hlen : path.length = (sidL n i).length
  rotate_left
  · have hne : ((path.length : Int) != ((sidL n i).length : Int)) = true := by simp only [bne_iff_ne, ne_eq]; omega
    rw [if_pos hlen]
    refine ⟨.nils, g1, ?_, fun hh => absurd hh (by decide), fun _ => rfl⟩
    rw [call_gc0 fn53]
    simp -implicitDefEqProofs only [runEqs, List.zipIdx_cons, List.zipIdx_nil, List.map_cons, List.map_nil, Nat.zero_add, Nat.add_zero, Nat.zero_mul, Nat.reduceAdd, Nat.reduceMul, Nat.reduceBEq, Nat.reduceLT, Nat.reduceSub, Option.map_some, Option.map_none, Option.isSome_some, Option.isSome_none, Bool.not_true, Bool.not_false, Bool.true_or, Bool.false_or, Bool.or_true, List.getElem?_cons_zero, List.getElem?_cons_succ, List.set_cons_zero, List.set_cons_succ, List.length_cons, List.length_nil, List.length_append, List.append_assoc, List.cons_append, List.nil_append, List.zip_cons_cons, List.zip_nil_right, Int.reduceAdd, Int.reduceSub, Int.reduceMul, Int.reduceLT, Int.reduceLE, Int.reduceNeg, Int.reduceToNat, Int.zero_add, Int.add_zero, decide_true, decide_false, Nat.reduceLeDiff, Nat.min_self, List.drop_succ_cons, List.drop_zero, List.drop_nil, List.take_succ_cons, List.take_zero, List.take_nil, List.all_cons, List.all_nil, Bool.and_true, Bool.true_and, Nat.mul_one, List.singleton_append, Int.le_refl, Nat.le_refl, c53, r53, hg, hg1, hg2, e71, vLen_of, hps, hpl', hss, hll, hne]
  have hne : ((path.length : Int) != ((sidL n i).length : Int)) = false := by simp [hlen]
  rw [if_neg (by simpa using hlen)]
  obtain ⟨w0, g0, e66, o66⟩ := call66 leaf (by omega) (h ++ g1) lv (rc_app hlv _)
  have hw0 := own_blk o66 (by simp [cu8])
  have hws := rc_isS o66.rcn
  have hw1 := isS_one hws
  have hwo := isS_ok hws
  have hwc := isS_cells hws
  obtain ⟨out0, hout0⟩ : ∃ o : V, o = .sl 1 (h.length + (g1.length + g0.length)) 0 1 1 := ⟨_, rfl⟩
  have hob : blkOf out0 = h.length + (g1.length + g0.length) := by rw [hout0]; rfl
  have I0 : HJ (h ++ g1) leaf (nodesL path (sidL n i)) 0 out0 (g0 ++ [.cells .ex [w0]]) [w0] := by
    refine ⟨?_, rfl, by simpa using hw1, fun j hj => ?_⟩
    · have := Own.mk (n := (h ++ g1).length) (e := 1) (h := (h ++ g1) ++ (g0 ++ [.cells .ex [w0]])) (b := h.length + (g1.length + g0.length)) (k := 1) (m := .ex) (cs := [w0]) (by simp) (by
        rw [show h.length + (g1.length + g0.length) = (h ++ g1).length + g0.length by simp; omega, blk_get, blk_get0]; rfl) (.inl rfl) rfl
      rw [hout0]; exact this
    · have hj : j = 0 := by omega
      subst hj
      refine ⟨w0, rfl, ?_, ?_⟩
      · have h1 := rc_app o66.rcn [.cells .ex [w0]]
        simp only [List.append_assoc] at h1 ⊢
        exact h1
      · rw [hob]
        have := hw0.2
        simp only [List.length_append] at this
        omega
  obtain ⟨vs', h', ⟨out, g', ws, rfl, rfl, I⟩, hlp⟩ := loop_up (T := T) (L := [3, 10, 11, 12]) (c := c53_0) (d := []) (u := some none)
    (fun k vs hh => ∃ out g' ws, vs = [p, sv, out, i64 ((k : Nat) : Int)] ∧ hh = (h ++ g1) ++ g' ∧ HJ (h ++ g1) leaf (nodesL path (sidL n i)) k out g' ws) (sidL n i).length
    (by
      rintro k vs hh hk ⟨out, g', ws, rfl, rfl, I⟩
      obtain ⟨out', g2, ws', a, b⟩ := round53 (h ++ g1) leaf hlf path h16 (sidL n i) hlen (by omega) p sv (rc_app hp _) o71.rcn k hk out g' ws I
      exact ⟨_, _, a, out', g2, ws', rfl, rfl, b⟩)
    [p, sv, out0, i64 0] ((h ++ g1) ++ (g0 ++ [.cells .ex [w0]])) ⟨out0, _, [w0], rfl, rfl, I0⟩
  have hf : decide ((path.length : Int) < (path.length : Int)) = false := by simp
  rw [← hlen] at hlp
  simp only [List.append_assoc, List.zip_cons_cons, List.zip_nil_right] at hlp e66
  refine ⟨out, g1 ++ g', ?_, fun _ => ?_, fun hh => absurd rfl hh⟩
  · rw [call_gc0 fn53]
    subst hout0
    simp -implicitDefEqProofs only [runEqs, List.zipIdx_cons, List.zipIdx_nil, List.map_cons, List.map_nil, Nat.zero_add, Nat.add_zero, Nat.zero_mul, Nat.reduceAdd, Nat.reduceMul, Nat.reduceBEq, Nat.reduceLT, Nat.reduceSub, Option.map_some, Option.map_none, Option.isSome_some, Option.isSome_none, Bool.not_true, Bool.not_false, Bool.true_or, Bool.false_or, Bool.or_true, List.getElem?_cons_zero, List.getElem?_cons_succ, List.set_cons_zero, List.set_cons_succ, List.length_cons, List.length_nil, List.length_append, List.append_assoc, List.cons_append, List.nil_append, List.zip_cons_cons, List.zip_nil_right, Int.reduceAdd, Int.reduceSub, Int.reduceMul, Int.reduceLT, Int.reduceLE, Int.reduceNeg, Int.reduceToNat, Int.zero_add, Int.add_zero, decide_true, decide_false, Nat.reduceLeDiff, Nat.min_self, List.drop_succ_cons, List.drop_zero, List.drop_nil, List.take_succ_cons, List.take_zero, List.take_nil, List.all_cons, List.all_nil, Bool.and_true, Bool.true_and, Nat.mul_one, List.singleton_append, Int.le_refl, Nat.le_refl, c53, r53, hg, hg1, hg2, e71, vLen_of, hps, hpl', hss, hll, hne, e66, hwo, hwc, hw1, hlp]
    simp -implicitDefEqProofs only [runEqs, List.zipIdx_cons, List.zipIdx_nil, List.map_cons, List.map_nil, Nat.zero_add, Nat.add_zero, Nat.zero_mul, Nat.reduceAdd, Nat.reduceMul, Nat.reduceBEq, Nat.reduceLT, Nat.reduceSub, Option.map_some, Option.map_none, Option.isSome_some, Option.isSome_none, Bool.not_true, Bool.not_false, Bool.true_or, Bool.false_or, Bool.or_true, List.getElem?_cons_zero, List.getElem?_cons_succ, List.set_cons_zero, List.set_cons_succ, List.length_cons, List.length_nil, List.length_append, List.append_assoc, List.cons_append, List.nil_append, List.zip_cons_cons, List.zip_nil_right, Int.reduceAdd, Int.reduceSub, Int.reduceMul, Int.reduceLT, Int.reduceLE, Int.reduceNeg, Int.reduceToNat, Int.zero_add, Int.add_zero, decide_true, decide_false, Nat.reduceLeDiff, Nat.min_self, List.drop_succ_cons, List.drop_zero, List.drop_nil, List.take_succ_cons, List.take_zero, List.take_nil, List.all_cons, List.all_nil, Bool.and_true, Bool.true_and, Nat.mul_one, List.singleton_append, Int.le_refl, Nat.le_refl, c53_0, vLen_of, hps, hpl', hf]
  · have hnl : (nodesL path (sidL n i)).length = (sidL n i).length := by rw [nodesL, List.length_zip, List.length_reverse, hlen, Nat.min_self]
    refine ⟨ws, by have := I.own.rcn; simpa using this, by rw [I.len, hashL, List.length_map, List.length_range, hnl], fun j hj => ?_⟩
    rw [hashL, List.length_map, List.length_range, hnl] at hj
    obtain ⟨w, a, b, -⟩ := I.el j (by omega)
    refine ⟨w, a, ?_⟩
    simp only [List.append_assoc] at b
    rw [b]
    simp [hashL]
end Go.Proofs.Ytccepmhhilhajaa.K

/- The reference's Collide. -/
set_option linter.unusedVariables false
set_option linter.unusedSimpArgs false
set_option maxRecDepth 100000
namespace Go.Proofs.Ytccepmhhilhajaa.K
open Go Go.A

theorem call43 (n i : Int) (leaf other : List (BitVec 8)) (hlf : leaf.length < 8796093000000) (hlo : other.length < 8796093000000) (path way : List (List (BitVec 8))) (h16 : all16 path) (k16 : all16 way) (hpl : path.length < 4611686018427387) (hwl : way.length < 4611686018427387)
    (h : Heap) (lv p ov q : V) (hlv : rc 1 h lv = some (cu8 leaf)) (hp : rc 16 h p = some (cdg path)) (hov : rc 1 h ov = some (cu8 other)) (hq : rc 16 h q = some (cdg way)) :
    ∃ x y e g, (run T).call 43 [i64 n, i64 i, lv, p, ov, q] none h = some (.ret (.tup [x, y, i64 e]), none, h ++ g) ∧ (e ≠ 0 → x = .nils ∧ y = .nils) ∧
      (placeE n i path.length ≠ 0 → e = placeE n i path.length) ∧ (placeE n i path.length = 0 → placeE n i way.length ≠ 0 → e = placeE n i way.length) ∧
      (placeE n i path.length = 0 → placeE n i way.length = 0 → (e = 3 ∧ ∀ j, j ≤ (sidL n.toNat i.toNat).length → curK (0 :: leaf) (nodesL path (sidL n.toNat i.toNat)) j ≠ curK (0 :: other) (nodesL way (sidL n.toNat i.toNat)) j →
          digL (curK (0 :: leaf) (nodesL path (sidL n.toNat i.toNat)) j) ≠ digL (curK (0 :: other) (nodesL way (sidL n.toNat i.toNat)) j)) ∨
        (e = 0 ∧ ¬ (leaf = other ∧ path = way) ∧ ∃ lx ly, rc 1 (h ++ g) x = some (cu8 lx) ∧ rc 1 (h ++ g) y = some (cu8 ly) ∧ lx ≠ ly ∧ digL lx = digL ly ∧ lx.length < 8796093022208 ∧ ly.length < 8796093022208 ∧ ∃ j, j ≤ (sidL n.toNat i.toNat).length ∧ lx = curK (0 :: leaf) (nodesL path (sidL n.toNat i.toNat)) j ∧ ly = curK (0 :: other) (nodesL way (sidL n.toNat i.toNat)) j ∧ ∀ j', j' < j → curK (0 :: leaf) (nodesL path (sidL n.toNat i.toNat)) j' ≠ curK (0 :: other) (nodesL way (sidL n.toNat i.toNat)) j' → digL (curK (0 :: leaf) (nodesL path (sidL n.toNat i.toNat)) j') ≠ digL (curK (0 :: other) (nodesL way (sidL n.toNat i.toNat)) j'))) := by
  obtain ⟨o1, g1, e1, L1, N1⟩ := call53 n i leaf hlf path h16 (by omega) h lv p hlv hp
  by_cases hE1 : placeE n i path.length = 0
  rotate_left
  · have hne : (placeE n i path.length != 0) = true := by simpa using hE1
    refine ⟨.nils, .nils, placeE n i path.length, g1, ?_, fun _ => ⟨rfl, rfl⟩, fun _ => rfl, fun hh => absurd hh hE1, fun hh => absurd hh hE1⟩
    rw [call_gc0 fn43]
    generalize placeE n i path.length = E at *
    simp -implicitDefEqProofs only [runEqs, List.zipIdx_cons, List.zipIdx_nil, List.map_cons, List.map_nil, Nat.zero_add, Nat.add_zero, Nat.zero_mul, Nat.reduceAdd, Nat.reduceMul, Nat.reduceBEq, Nat.reduceLT, Nat.reduceSub, Option.map_some, Option.map_none, Option.isSome_some, Option.isSome_none, Bool.not_true, Bool.not_false, Bool.true_or, Bool.false_or, Bool.or_true, List.getElem?_cons_zero, List.getElem?_cons_succ, List.set_cons_zero, List.set_cons_succ, List.length_cons, List.length_nil, List.length_append, List.append_assoc, List.cons_append, List.nil_append, List.zip_cons_cons, List.zip_nil_right, Int.reduceAdd, Int.reduceSub, Int.reduceMul, Int.reduceLT, Int.reduceLE, Int.reduceNeg, Int.reduceToNat, Int.zero_add, Int.add_zero, decide_true, decide_false, Nat.reduceLeDiff, Nat.min_self, List.drop_succ_cons, List.drop_zero, List.drop_nil, List.take_succ_cons, List.take_zero, List.take_nil, List.all_cons, List.all_nil, Bool.and_true, Bool.true_and, Nat.mul_one, List.singleton_append, Int.le_refl, Nat.le_refl, c43, r43, e1, hne]
  obtain ⟨o2, g2, e2, L2, N2⟩ := call53 n i other hlo way k16 (by omega) (h ++ g1) ov q (rc_app hov _) (rc_app hq _)
  have ne0 : ((0 : Int) != 0) = false := rfl
  rw [hE1] at e1
  by_cases hE2 : placeE n i way.length = 0
  rotate_left
  · have hne : (placeE n i way.length != 0) = true := by simpa using hE2
    refine ⟨.nils, .nils, placeE n i way.length, g1 ++ g2, ?_, fun _ => ⟨rfl, rfl⟩, fun hh => absurd hE1 hh, fun _ _ => rfl, fun _ hh => absurd hh hE2⟩
    rw [call_gc0 fn43]
    simp only [List.append_assoc] at e2
    generalize placeE n i way.length = E at *
    simp -implicitDefEqProofs only [runEqs, List.zipIdx_cons, List.zipIdx_nil, List.map_cons, List.map_nil, Nat.zero_add, Nat.add_zero, Nat.zero_mul, Nat.reduceAdd, Nat.reduceMul, Nat.reduceBEq, Nat.reduceLT, Nat.reduceSub, Option.map_some, Option.map_none, Option.isSome_some, Option.isSome_none, Bool.not_true, Bool.not_false, Bool.true_or, Bool.false_or, Bool.or_true, List.getElem?_cons_zero, List.getElem?_cons_succ, List.set_cons_zero, List.set_cons_succ, List.length_cons, List.length_nil, List.length_append, List.append_assoc, List.cons_append, List.nil_append, List.zip_cons_cons, List.zip_nil_right, Int.reduceAdd, Int.reduceSub, Int.reduceMul, Int.reduceLT, Int.reduceLE, Int.reduceNeg, Int.reduceToNat, Int.zero_add, Int.add_zero, decide_true, decide_false, Nat.reduceLeDiff, Nat.min_self, List.drop_succ_cons, List.drop_zero, List.drop_nil, List.take_succ_cons, List.take_zero, List.take_nil, List.all_cons, List.all_nil, Bool.and_true, Bool.true_and, Nat.mul_one, List.singleton_append, Int.le_refl, Nat.le_refl, c43, r43, e1, ne0, e2, hne]
  have L1 := (L1 hE1).app g2
  have L2 := L2 hE2
  rw [hE2] at e2
  have hm1 : path.length = (sidL n.toNat i.toNat).length := by
    rw [placeE] at hE1
    split at hE1
    · cases hE1
    · split at hE1
      · cases hE1
      · split at hE1
        · cases hE1
        · omega
  have hm2 : way.length = (sidL n.toNat i.toNat).length := by
    rw [placeE] at hE2
    split at hE2
    · cases hE2
    · split at hE2
      · cases hE2
      · split at hE2
        · cases hE2
        · omega
  generalize sidL n.toNat i.toNat = sd at *
  have hsame : leaf = other ∧ path = way → ∀ j, curK (0 :: leaf) (nodesL path sd) j = curK (0 :: other) (nodesL way sd) j := by rintro ⟨rfl, rfl⟩ j; rfl
  have a1 := nodes_ok path h16 sd
  have a2 := nodes_ok way k16 sd
  have n1 : (nodesL path sd).length = sd.length := by rw [nodesL, List.length_zip, List.length_reverse, hm1, Nat.min_self]
  have n2 : (nodesL way sd).length = sd.length := by rw [nodesL, List.length_zip, List.length_reverse, hm2, Nat.min_self]
  generalize nodesL path sd = nd1 at *
  generalize nodesL way sd = nd2 at *
  have hl1 : (hashL leaf nd1).length = sd.length + 1 := by simp [hashL, n1]
  have hl2 : (hashL other nd2).length = sd.length + 1 := by simp [hashL, n2]
  have c1 := fun j (hj : j ≤ sd.length) => curK_len leaf nd1 a1 j (by omega)
  have c2 := fun j (hj : j ≤ sd.length) => curK_len other nd2 a2 j (by omega)
  have ol1 := L1.len
  have ol2 := L2.len
  rw [hl1] at ol1
  rw [hl2] at ol2
  have os1 := L1.isS
  have os2 := L2.isS
  simp only [List.append_assoc] at e2 L1 L2
  generalize hHc : h ++ (g1 ++ g2) = Hc at *
  have hat : ∀ j, j ≤ sd.length → ∃ w1 w2, kAt (offOf o1 + j) (cellsAt Hc (blkOf o1)) = some w1 ∧ kAt (offOf o2 + j) (cellsAt Hc (blkOf o2)) = some w2 ∧ rc 1 Hc w1 = some (cu8 (curK (0 :: leaf) nd1 j)) ∧ rc 1 Hc w2 = some (cu8 (curK (0 :: other) nd2 j)) := fun j hj => by
    obtain ⟨w1, -, b1, b2⟩ := L1.at j (by omega)
    obtain ⟨w2, -, b3, b4⟩ := L2.at j (by omega)
    refine ⟨w1, w2, b1, b3, ?_, ?_⟩
    · rw [b2]; simp [hashL]
    · rw [b4]; simp [hashL]
  obtain ⟨k, vs', h', -, ⟨j, hj, rfl, rfl, hall, hend⟩, hlp⟩ := loop_st (T := T) (L := [15, 17, 18]) (c := c43_0) (d := []) (u := some none)
    (fun m vs hh => ∃ j, j ≤ sd.length + 1 ∧ m = sd.length + 1 - j ∧ vs = [o1, o2, i64 j] ∧ hh = Hc ∧ ∀ j', j' < j → curK (0 :: leaf) nd1 j' ≠ curK (0 :: other) nd2 j' → digL (curK (0 :: leaf) nd1 j') ≠ digL (curK (0 :: other) nd2 j'))
    (fun m vs hh => ∃ j, j ≤ sd.length + 1 ∧ vs = [o1, o2, i64 j] ∧ hh = Hc ∧ (∀ j', j' < j → curK (0 :: leaf) nd1 j' ≠ curK (0 :: other) nd2 j' → digL (curK (0 :: leaf) nd1 j') ≠ digL (curK (0 :: other) nd2 j')) ∧
      (j = sd.length + 1 ∨ (j ≤ sd.length ∧ curK (0 :: leaf) nd1 j ≠ curK (0 :: other) nd2 j ∧ digL (curK (0 :: leaf) nd1 j) = digL (curK (0 :: other) nd2 j))))
    (by
      rintro m vs hh ⟨j, hj, rfl, rfl, rfl, hall⟩
      by_cases hs : j = sd.length + 1
      · exact .inl ⟨j, hj, rfl, rfl, hall, .inl hs⟩
      by_cases hd : curK (0 :: leaf) nd1 j ≠ curK (0 :: other) nd2 j ∧ digL (curK (0 :: leaf) nd1 j) = digL (curK (0 :: other) nd2 j)
      · exact .inl ⟨j, hj, rfl, rfl, hall, .inr ⟨by omega, hd⟩⟩
      right
      have hjm : j ≤ sd.length := by omega
      obtain ⟨w1, w2, t1, t2, r1, r2⟩ := hat j hjm
      have cc1 := c1 j hjm
      have cc2 := c2 j hjm
      refine ⟨sd.length + 1 - (j + 1), _, _, by omega, ?_, j + 1, by omega, rfl, rfl, rfl, fun j' hj' hn => ?_⟩
      rotate_left
      · by_cases hjj : j' < j
        · exact hall j' hjj hn
        · have : j' = j := by omega
          subst this
          exact fun he => hd ⟨hn, he⟩
      generalize curK (0 :: leaf) nd1 j = A at *
      generalize curK (0 :: other) nd2 j = B at *
      have hlt : decide ((j : Int) < ((sd.length + 1 : Nat) : Int)) = true := by simp; omega
      have hw := wr_succ_nat j (by omega)
      have s1 := vStr_rc r1
      have s2 := vStr_rc r2
      have hj1 : j < sd.length + 1 := by omega
      have d1 := call54 A (by omega) _ w1 r1
      have d2 := call54 B (by omega) _ w2 r2
      have heq := eq16 _ _ (digL_len A) (digL_len B)
      by_cases hAB : A = B
      · have hb : (A == B) = true := by simpa using hAB
        simp -implicitDefEqProofs only [runEqs, List.zipIdx_cons, List.zipIdx_nil, List.map_cons, List.map_nil, Nat.zero_add, Nat.add_zero, Nat.zero_mul, Nat.reduceAdd, Nat.reduceMul, Nat.reduceBEq, Nat.reduceLT, Nat.reduceSub, Option.map_some, Option.map_none, Option.isSome_some, Option.isSome_none, Bool.not_true, Bool.not_false, Bool.true_or, Bool.false_or, Bool.or_true, List.getElem?_cons_zero, List.getElem?_cons_succ, List.set_cons_zero, List.set_cons_succ, List.length_cons, List.length_nil, List.length_append, List.append_assoc, List.cons_append, List.nil_append, List.zip_cons_cons, List.zip_nil_right, Int.reduceAdd, Int.reduceSub, Int.reduceMul, Int.reduceLT, Int.reduceLE, Int.reduceNeg, Int.reduceToNat, Int.zero_add, Int.add_zero, decide_true, decide_false, Nat.reduceLeDiff, Nat.min_self, List.drop_succ_cons, List.drop_zero, List.drop_nil, List.take_succ_cons, List.take_zero, List.take_nil, List.all_cons, List.all_nil, Bool.and_true, Bool.true_and, Nat.mul_one, List.singleton_append, Int.le_refl, Nat.le_refl, c43_0, vLen_of, os1, hlt, hw, vIS_of, ol1, ol2, hj1, t1, t2, s1, s2, neq_str, str_beq, hb]
        exact nxt_some _ _ _ _ _ _ _ rfl rfl
      · have hb : (A == B) = false := by simpa using hAB
        have hdd : digL A ≠ digL B := fun he => hd ⟨hAB, he⟩
        have hdb : (digL A == digL B) = false := by simpa using hdd
        rw [hdb] at heq
        simp -implicitDefEqProofs only [runEqs, List.zipIdx_cons, List.zipIdx_nil, List.map_cons, List.map_nil, Nat.zero_add, Nat.add_zero, Nat.zero_mul, Nat.reduceAdd, Nat.reduceMul, Nat.reduceBEq, Nat.reduceLT, Nat.reduceSub, Option.map_some, Option.map_none, Option.isSome_some, Option.isSome_none, Bool.not_true, Bool.not_false, Bool.true_or, Bool.false_or, Bool.or_true, List.getElem?_cons_zero, List.getElem?_cons_succ, List.set_cons_zero, List.set_cons_succ, List.length_cons, List.length_nil, List.length_append, List.append_assoc, List.cons_append, List.nil_append, List.zip_cons_cons, List.zip_nil_right, Int.reduceAdd, Int.reduceSub, Int.reduceMul, Int.reduceLT, Int.reduceLE, Int.reduceNeg, Int.reduceToNat, Int.zero_add, Int.add_zero, decide_true, decide_false, Nat.reduceLeDiff, Nat.min_self, List.drop_succ_cons, List.drop_zero, List.drop_nil, List.take_succ_cons, List.take_zero, List.take_nil, List.all_cons, List.all_nil, Bool.and_true, Bool.true_and, Nat.mul_one, List.singleton_append, Int.le_refl, Nat.le_refl, c43_0, vLen_of, os1, hlt, hw, vIS_of, ol1, ol2, hj1, t1, t2, s1, s2, neq_str, str_beq, hb, d1, d2, heq]
        exact nxt_some _ _ _ _ _ _ _ rfl rfl)
    (sd.length + 1) [o1, o2, i64 0] Hc ⟨0, by omega, by omega, rfl, rfl, fun j' hj' => absurd hj' (by omega)⟩
  simp only [List.zip_cons_cons, List.zip_nil_right] at hlp
  by_cases hs : j = sd.length + 1
  · subst hs
    have hf : decide (((sd.length + 1 : Nat) : Int) < ((sd.length + 1 : Nat) : Int)) = false := by simp
    refine ⟨.nils, .nils, 3, g1 ++ g2, ?_, fun _ => ⟨rfl, rfl⟩, fun hh => absurd hE1 hh, fun _ hh => absurd hE2 hh, fun _ _ => .inl ⟨rfl, fun j' hj' => hall j' (by omega)⟩⟩
    rw [call_gc0 fn43]
    subst hHc
    simp -implicitDefEqProofs only [runEqs, List.zipIdx_cons, List.zipIdx_nil, List.map_cons, List.map_nil, Nat.zero_add, Nat.add_zero, Nat.zero_mul, Nat.reduceAdd, Nat.reduceMul, Nat.reduceBEq, Nat.reduceLT, Nat.reduceSub, Option.map_some, Option.map_none, Option.isSome_some, Option.isSome_none, Bool.not_true, Bool.not_false, Bool.true_or, Bool.false_or, Bool.or_true, List.getElem?_cons_zero, List.getElem?_cons_succ, List.set_cons_zero, List.set_cons_succ, List.length_cons, List.length_nil, List.length_append, List.append_assoc, List.cons_append, List.nil_append, List.zip_cons_cons, List.zip_nil_right, Int.reduceAdd, Int.reduceSub, Int.reduceMul, Int.reduceLT, Int.reduceLE, Int.reduceNeg, Int.reduceToNat, Int.zero_add, Int.add_zero, decide_true, decide_false, Nat.reduceLeDiff, Nat.min_self, List.drop_succ_cons, List.drop_zero, List.drop_nil, List.take_succ_cons, List.take_zero, List.take_nil, List.all_cons, List.all_nil, Bool.and_true, Bool.true_and, Nat.mul_one, List.singleton_append, Int.le_refl, Nat.le_refl, c43, r43, e1, ne0, e2, vLen_of, os1, ol1, hlp]
    simp -implicitDefEqProofs only [runEqs, List.zipIdx_cons, List.zipIdx_nil, List.map_cons, List.map_nil, Nat.zero_add, Nat.add_zero, Nat.zero_mul, Nat.reduceAdd, Nat.reduceMul, Nat.reduceBEq, Nat.reduceLT, Nat.reduceSub, Option.map_some, Option.map_none, Option.isSome_some, Option.isSome_none, Bool.not_true, Bool.not_false, Bool.true_or, Bool.false_or, Bool.or_true, List.getElem?_cons_zero, List.getElem?_cons_succ, List.set_cons_zero, List.set_cons_succ, List.length_cons, List.length_nil, List.length_append, List.append_assoc, List.cons_append, List.nil_append, List.zip_cons_cons, List.zip_nil_right, Int.reduceAdd, Int.reduceSub, Int.reduceMul, Int.reduceLT, Int.reduceLE, Int.reduceNeg, Int.reduceToNat, Int.zero_add, Int.add_zero, decide_true, decide_false, Nat.reduceLeDiff, Nat.min_self, List.drop_succ_cons, List.drop_zero, List.drop_nil, List.take_succ_cons, List.take_zero, List.take_nil, List.all_cons, List.all_nil, Bool.and_true, Bool.true_and, Nat.mul_one, List.singleton_append, Int.le_refl, Nat.le_refl, c43_0, vLen_of, os1, ol1, hf]
  · obtain ⟨hjm, hn, he⟩ := hend.resolve_left hs
    obtain ⟨w1, w2, t1, t2, r1, r2⟩ := hat j hjm
    have cc1 := c1 j hjm
    have cc2 := c2 j hjm
    refine ⟨w1, w2, 0, g1 ++ g2, ?_, fun hh => absurd rfl hh, fun hh => absurd hE1 hh, fun _ hh => absurd hE2 hh, fun _ _ => .inr ⟨rfl, fun hh => hn (hsame hh j), _, _, by rw [hHc]; exact r1, by rw [hHc]; exact r2, hn, he, by omega, by omega, j, hjm, rfl, rfl, hall⟩⟩
    generalize curK (0 :: leaf) nd1 j = A at *
    generalize curK (0 :: other) nd2 j = B at *
    have hlt : decide ((j : Int) < ((sd.length + 1 : Nat) : Int)) = true := by simp; omega
    have s1 := vStr_rc r1
    have s2 := vStr_rc r2
    have hj1 : j < sd.length + 1 := by omega
    have d1 := call54 A (by omega) _ w1 r1
    have d2 := call54 B (by omega) _ w2 r2
    have heq := eq16 _ _ (digL_len A) (digL_len B)
    rw [he, beq_self_eq_true] at heq
    rw [he] at d1
    have hb : (A == B) = false := by simpa using hn
    rw [call_gc0 fn43]
    subst hHc
    simp -implicitDefEqProofs only [runEqs, List.zipIdx_cons, List.zipIdx_nil, List.map_cons, List.map_nil, Nat.zero_add, Nat.add_zero, Nat.zero_mul, Nat.reduceAdd, Nat.reduceMul, Nat.reduceBEq, Nat.reduceLT, Nat.reduceSub, Option.map_some, Option.map_none, Option.isSome_some, Option.isSome_none, Bool.not_true, Bool.not_false, Bool.true_or, Bool.false_or, Bool.or_true, List.getElem?_cons_zero, List.getElem?_cons_succ, List.set_cons_zero, List.set_cons_succ, List.length_cons, List.length_nil, List.length_append, List.append_assoc, List.cons_append, List.nil_append, List.zip_cons_cons, List.zip_nil_right, Int.reduceAdd, Int.reduceSub, Int.reduceMul, Int.reduceLT, Int.reduceLE, Int.reduceNeg, Int.reduceToNat, Int.zero_add, Int.add_zero, decide_true, decide_false, Nat.reduceLeDiff, Nat.min_self, List.drop_succ_cons, List.drop_zero, List.drop_nil, List.take_succ_cons, List.take_zero, List.take_nil, List.all_cons, List.all_nil, Bool.and_true, Bool.true_and, Nat.mul_one, List.singleton_append, Int.le_refl, Nat.le_refl, c43, r43, e1, ne0, e2, vLen_of, os1, ol1, hlp]
    simp -implicitDefEqProofs only [runEqs, List.zipIdx_cons, List.zipIdx_nil, List.map_cons, List.map_nil, Nat.zero_add, Nat.add_zero, Nat.zero_mul, Nat.reduceAdd, Nat.reduceMul, Nat.reduceBEq, Nat.reduceLT, Nat.reduceSub, Option.map_some, Option.map_none, Option.isSome_some, Option.isSome_none, Bool.not_true, Bool.not_false, Bool.true_or, Bool.false_or, Bool.or_true, List.getElem?_cons_zero, List.getElem?_cons_succ, List.set_cons_zero, List.set_cons_succ, List.length_cons, List.length_nil, List.length_append, List.append_assoc, List.cons_append, List.nil_append, List.zip_cons_cons, List.zip_nil_right, Int.reduceAdd, Int.reduceSub, Int.reduceMul, Int.reduceLT, Int.reduceLE, Int.reduceNeg, Int.reduceToNat, Int.zero_add, Int.add_zero, decide_true, decide_false, Nat.reduceLeDiff, Nat.min_self, List.drop_succ_cons, List.drop_zero, List.drop_nil, List.take_succ_cons, List.take_zero, List.take_nil, List.all_cons, List.all_nil, Bool.and_true, Bool.true_and, Nat.mul_one, List.singleton_append, Int.le_refl, Nat.le_refl, c43_0, vLen_of, os1, hlt, vIS_of, ol1, ol2, hj1, t1, t2, s1, s2, neq_str, str_beq, hb, d1, d2, heq]
end Go.Proofs.Ytccepmhhilhajaa.K

/- SumsCollides: the law's walk. -/
set_option linter.unusedVariables false
set_option linter.unusedSimpArgs false
set_option maxRecDepth 100000
namespace Go.Proofs.Ytccepmhhilhajaa.K
open Go Go.A

theorem law10 (n i : Int) (leaf other : List (BitVec 8)) (path way : List (List (BitVec 8))) (h16 : all16 path) (k16 : all16 way)
    (h : Heap) (lv p ov q : V) (hlv : rc 1 h lv = some (cu8 leaf)) (hp : rc 16 h p = some (cdg path)) (hov : rc 1 h ov = some (cu8 other)) (hq : rc 16 h q = some (cdg way)) :
    ∃ u' h', (run T).call 10 [i64 n, i64 i, lv, p, ov, q] none h = some (.ret (.bool true), u', h') := by
  have ll : lenOf lv = leaf.length := by have := rc_len hlv; rw [cu8_len] at this; omega
  have lo : lenOf ov = other.length := by have := rc_len hov; rw [cu8_len] at this; omega
  have lp : lenOf p = path.length := by have := rc_len hp; rw [cdg_len _ h16] at this; omega
  have lq : lenOf q = way.length := by have := rc_len hq; rw [cdg_len _ k16] at this; omega
  have s1 := rc_isS hlv
  have s2 := rc_isS hov
  have s3 := rc_isS hp
  have s4 := rc_isS hq
  cases g1 : decide ((leaf.length : Int) > 1000) with
  | true =>
    refine ⟨none, ?_⟩
    rw [call_gc0 fn10]
    simp -implicitDefEqProofs only [runEqs, List.zipIdx_cons, List.zipIdx_nil, List.map_cons, List.map_nil, Nat.zero_add, Nat.add_zero, Nat.zero_mul, Nat.reduceAdd, Nat.reduceMul, Nat.reduceBEq, Nat.reduceLT, Nat.reduceSub, Option.map_some, Option.map_none, Option.isSome_some, Option.isSome_none, Bool.not_true, Bool.not_false, Bool.true_or, Bool.false_or, Bool.or_true, List.getElem?_cons_zero, List.getElem?_cons_succ, List.set_cons_zero, List.set_cons_succ, List.length_cons, List.length_nil, List.length_append, List.append_assoc, List.cons_append, List.nil_append, List.zip_cons_cons, List.zip_nil_right, Int.reduceAdd, Int.reduceSub, Int.reduceMul, Int.reduceLT, Int.reduceLE, Int.reduceNeg, Int.reduceToNat, Int.zero_add, Int.add_zero, decide_true, decide_false, Nat.reduceLeDiff, Nat.min_self, List.drop_succ_cons, List.drop_zero, List.drop_nil, List.take_succ_cons, List.take_zero, List.take_nil, List.all_cons, List.all_nil, Bool.and_true, Bool.true_and, Nat.mul_one, List.singleton_append, Int.le_refl, Nat.le_refl, c10, r10, vLen_of, s1, s2, s3, s4, ll, lo, lp, lq, g1, ops_gu, call14]
    exact ⟨_, rfl⟩
  | false =>
  cases g2 : decide ((other.length : Int) > 1000) with
  | true =>
    refine ⟨none, ?_⟩
    rw [call_gc0 fn10]
    simp -implicitDefEqProofs only [runEqs, List.zipIdx_cons, List.zipIdx_nil, List.map_cons, List.map_nil, Nat.zero_add, Nat.add_zero, Nat.zero_mul, Nat.reduceAdd, Nat.reduceMul, Nat.reduceBEq, Nat.reduceLT, Nat.reduceSub, Option.map_some, Option.map_none, Option.isSome_some, Option.isSome_none, Bool.not_true, Bool.not_false, Bool.true_or, Bool.false_or, Bool.or_true, List.getElem?_cons_zero, List.getElem?_cons_succ, List.set_cons_zero, List.set_cons_succ, List.length_cons, List.length_nil, List.length_append, List.append_assoc, List.cons_append, List.nil_append, List.zip_cons_cons, List.zip_nil_right, Int.reduceAdd, Int.reduceSub, Int.reduceMul, Int.reduceLT, Int.reduceLE, Int.reduceNeg, Int.reduceToNat, Int.zero_add, Int.add_zero, decide_true, decide_false, Nat.reduceLeDiff, Nat.min_self, List.drop_succ_cons, List.drop_zero, List.drop_nil, List.take_succ_cons, List.take_zero, List.take_nil, List.all_cons, List.all_nil, Bool.and_true, Bool.true_and, Nat.mul_one, List.singleton_append, Int.le_refl, Nat.le_refl, c10, r10, vLen_of, s1, s2, s3, s4, ll, lo, lp, lq, g1, g2, ops_gu, call14]
    exact ⟨_, rfl⟩
  | false =>
  cases g3 : decide ((path.length : Int) > 50) with
  | true =>
    refine ⟨none, ?_⟩
    rw [call_gc0 fn10]
    simp -implicitDefEqProofs only [runEqs, List.zipIdx_cons, List.zipIdx_nil, List.map_cons, List.map_nil, Nat.zero_add, Nat.add_zero, Nat.zero_mul, Nat.reduceAdd, Nat.reduceMul, Nat.reduceBEq, Nat.reduceLT, Nat.reduceSub, Option.map_some, Option.map_none, Option.isSome_some, Option.isSome_none, Bool.not_true, Bool.not_false, Bool.true_or, Bool.false_or, Bool.or_true, List.getElem?_cons_zero, List.getElem?_cons_succ, List.set_cons_zero, List.set_cons_succ, List.length_cons, List.length_nil, List.length_append, List.append_assoc, List.cons_append, List.nil_append, List.zip_cons_cons, List.zip_nil_right, Int.reduceAdd, Int.reduceSub, Int.reduceMul, Int.reduceLT, Int.reduceLE, Int.reduceNeg, Int.reduceToNat, Int.zero_add, Int.add_zero, decide_true, decide_false, Nat.reduceLeDiff, Nat.min_self, List.drop_succ_cons, List.drop_zero, List.drop_nil, List.take_succ_cons, List.take_zero, List.take_nil, List.all_cons, List.all_nil, Bool.and_true, Bool.true_and, Nat.mul_one, List.singleton_append, Int.le_refl, Nat.le_refl, c10, r10, vLen_of, s1, s2, s3, s4, ll, lo, lp, lq, g1, g2, g3, ops_gu, call14]
    exact ⟨_, rfl⟩
  | false =>
  cases g4 : decide ((way.length : Int) > 50) with
  | true =>
    refine ⟨none, ?_⟩
    rw [call_gc0 fn10]
    simp -implicitDefEqProofs only [runEqs, List.zipIdx_cons, List.zipIdx_nil, List.map_cons, List.map_nil, Nat.zero_add, Nat.add_zero, Nat.zero_mul, Nat.reduceAdd, Nat.reduceMul, Nat.reduceBEq, Nat.reduceLT, Nat.reduceSub, Option.map_some, Option.map_none, Option.isSome_some, Option.isSome_none, Bool.not_true, Bool.not_false, Bool.true_or, Bool.false_or, Bool.or_true, List.getElem?_cons_zero, List.getElem?_cons_succ, List.set_cons_zero, List.set_cons_succ, List.length_cons, List.length_nil, List.length_append, List.append_assoc, List.cons_append, List.nil_append, List.zip_cons_cons, List.zip_nil_right, Int.reduceAdd, Int.reduceSub, Int.reduceMul, Int.reduceLT, Int.reduceLE, Int.reduceNeg, Int.reduceToNat, Int.zero_add, Int.add_zero, decide_true, decide_false, Nat.reduceLeDiff, Nat.min_self, List.drop_succ_cons, List.drop_zero, List.drop_nil, List.take_succ_cons, List.take_zero, List.take_nil, List.all_cons, List.all_nil, Bool.and_true, Bool.true_and, Nat.mul_one, List.singleton_append, Int.le_refl, Nat.le_refl, c10, r10, vLen_of, s1, s2, s3, s4, ll, lo, lp, lq, g1, g2, g3, g4, ops_gu, call14]
    exact ⟨_, rfl⟩
  | false =>
  have q1 : ¬ ((leaf.length : Int) > 1000) := of_decide_eq_false g1
  have q2 : ¬ ((other.length : Int) > 1000) := of_decide_eq_false g2
  have q3 : ¬ ((path.length : Int) > 50) := of_decide_eq_false g3
  have q4 : ¬ ((way.length : Int) > 50) := of_decide_eq_false g4
  obtain ⟨x, y, e, ga, E1, N1, A1, B1, C1⟩ := call42w n i leaf other (by omega) (by omega) path way h16 k16 (by omega) (by omega) h lv p ov q hlv hp hov hq
  obtain ⟨x', y', e', gb, E2, N2, A2, B2, C2⟩ := call43 n i leaf other (by omega) (by omega) path way h16 k16 (by omega) (by omega) (h ++ ga) lv p ov q (rc_app hlv _) (rc_app hp _) (rc_app hov _) (rc_app hq _)
  have same : e = e' ∧ ((x = .nils ∧ y = .nils ∧ x' = .nils ∧ y' = .nils) ∨
      ∃ lx ly, rc 1 (h ++ ga) x = some (cu8 lx) ∧ rc 1 (h ++ ga) y = some (cu8 ly) ∧ rc 1 (h ++ ga ++ gb) x' = some (cu8 lx) ∧ rc 1 (h ++ ga ++ gb) y' = some (cu8 ly)) := by
    by_cases hE1 : placeE n i path.length = 0
    · by_cases hE2 : placeE n i way.length = 0
      · rcases C1 hE1 hE2 with ⟨f1, a1⟩ | ⟨f1, -, lx, ly, r1, r2, hn, hd, -, -, j, hj, rfl, rfl, hb⟩
        · rcases C2 hE1 hE2 with ⟨f2, a2⟩ | ⟨f2, -, lx, ly, r1, r2, hn, hd, -, -, j, hj, rfl, rfl, hb⟩
          · obtain ⟨u1, u2⟩ := N1 (by omega)
            obtain ⟨u3, u4⟩ := N2 (by omega)
            exact ⟨by omega, .inl ⟨u1, u2, u3, u4⟩⟩
          · exact absurd hd (a1 j hj hn)
        · rcases C2 hE1 hE2 with ⟨f2, a2⟩ | ⟨f2, -, mx, my, r3, r4, hn', hd', -, -, k, hk, rfl, rfl, hb'⟩
          · exact absurd hd (a2 j hj hn)
          · have hjk : j = k := by
              rcases Nat.lt_trichotomy j k with hlt | he | hgt
              · exact absurd hd (hb' j hlt hn)
              · exact he
              · exact absurd hd' (hb k hgt hn')
            subst hjk
            exact ⟨by omega, .inr ⟨_, _, r1, r2, r3, r4⟩⟩
      · have f1 := B1 hE1 hE2
        have f2 := B2 hE1 hE2
        obtain ⟨u1, u2⟩ := N1 (by rw [f1]; exact hE2)
        obtain ⟨u3, u4⟩ := N2 (by rw [f2]; exact hE2)
        exact ⟨by rw [f1, f2], .inl ⟨u1, u2, u3, u4⟩⟩
    · have f1 := A1 hE1
      have f2 := A2 hE1
      obtain ⟨u1, u2⟩ := N1 (by rw [f1]; exact hE1)
      obtain ⟨u3, u4⟩ := N2 (by rw [f2]; exact hE1)
      exact ⟨by rw [f1, f2], .inl ⟨u1, u2, u3, u4⟩⟩
  obtain ⟨rfl, hs⟩ := same
  clear N1 A1 B1 C1 N2 A2 B2 C2
  have eb : (e == e) = true := by simp
  simp only [List.append_assoc] at E2 hs
  rcases hs with ⟨rfl, rfl, rfl, rfl⟩ | ⟨lx, ly, r1, r2, r3, r4⟩
  · have z := fun X => vStr_rc (h := X) (v := .nils) (l := []) rfl
    have zz : (strL [] == strL []) = true := rfl
    refine ⟨none, ?_⟩
    rw [call_gc0 fn10]
    simp -implicitDefEqProofs only [runEqs, List.zipIdx_cons, List.zipIdx_nil, List.map_cons, List.map_nil, Nat.zero_add, Nat.add_zero, Nat.zero_mul, Nat.reduceAdd, Nat.reduceMul, Nat.reduceBEq, Nat.reduceLT, Nat.reduceSub, Option.map_some, Option.map_none, Option.isSome_some, Option.isSome_none, Bool.not_true, Bool.not_false, Bool.true_or, Bool.false_or, Bool.or_true, List.getElem?_cons_zero, List.getElem?_cons_succ, List.set_cons_zero, List.set_cons_succ, List.length_cons, List.length_nil, List.length_append, List.append_assoc, List.cons_append, List.nil_append, List.zip_cons_cons, List.zip_nil_right, Int.reduceAdd, Int.reduceSub, Int.reduceMul, Int.reduceLT, Int.reduceLE, Int.reduceNeg, Int.reduceToNat, Int.zero_add, Int.add_zero, decide_true, decide_false, Nat.reduceLeDiff, Nat.min_self, List.drop_succ_cons, List.drop_zero, List.drop_nil, List.take_succ_cons, List.take_zero, List.take_nil, List.all_cons, List.all_nil, Bool.and_true, Bool.true_and, Nat.mul_one, List.singleton_append, Int.le_refl, Nat.le_refl, c10, r10, vLen_of, s1, s2, s3, s4, ll, lo, lp, lq, g1, g2, g3, g4, ops_gu, E1, E2, call14, z, eql_str, zz, eb]
    exact ⟨_, rfl⟩
  · have x1 := vStr_rc (rc_app r1 gb)
    have x2 := vStr_rc (rc_app r2 gb)
    have x3 := vStr_rc r3
    have x4 := vStr_rc r4
    have b1 : (lx == lx) = true := by simp
    have b2 : (ly == ly) = true := by simp
    simp only [List.append_assoc] at x1 x2
    refine ⟨none, ?_⟩
    rw [call_gc0 fn10]
    simp -implicitDefEqProofs only [runEqs, List.zipIdx_cons, List.zipIdx_nil, List.map_cons, List.map_nil, Nat.zero_add, Nat.add_zero, Nat.zero_mul, Nat.reduceAdd, Nat.reduceMul, Nat.reduceBEq, Nat.reduceLT, Nat.reduceSub, Option.map_some, Option.map_none, Option.isSome_some, Option.isSome_none, Bool.not_true, Bool.not_false, Bool.true_or, Bool.false_or, Bool.or_true, List.getElem?_cons_zero, List.getElem?_cons_succ, List.set_cons_zero, List.set_cons_succ, List.length_cons, List.length_nil, List.length_append, List.append_assoc, List.cons_append, List.nil_append, List.zip_cons_cons, List.zip_nil_right, Int.reduceAdd, Int.reduceSub, Int.reduceMul, Int.reduceLT, Int.reduceLE, Int.reduceNeg, Int.reduceToNat, Int.zero_add, Int.add_zero, decide_true, decide_false, Nat.reduceLeDiff, Nat.min_self, List.drop_succ_cons, List.drop_zero, List.drop_nil, List.take_succ_cons, List.take_zero, List.take_nil, List.all_cons, List.all_nil, Bool.and_true, Bool.true_and, Nat.mul_one, List.singleton_append, Int.le_refl, Nat.le_refl, c10, r10, vLen_of, s1, s2, s3, s4, ll, lo, lp, lq, g1, g2, g3, g4, ops_gu, E1, E2, call14, x1, x2, x3, x4, eql_str, str_beq, b1, b2, eb]
    exact ⟨_, rfl⟩
end Go.Proofs.Ytccepmhhilhajaa.K

