/- Texts of this claim, put together (KStream, KCol, KLaw11): lemmas towards the statement; no conditions of their own. -/
import Derived.Test.YtccepmhhilhajaaLb5
/- The bound of lists, equal sponges, and absorbing in parts. -/
set_option linter.unusedVariables false
set_option linter.unusedSimpArgs false
set_option maxRecDepth 100000
namespace Go.Proofs.Ytccepmhhilhajaa.K
open Go Go.A

def strL (l : List (BitVec 8)) : List UInt8 := l.map fun x => UInt8.ofNat x.toNat
theorem bytesOf_cu8 : ∀ l : List (BitVec 8), bytesOf (cu8 l) = some (strL l)
  | [] => rfl
  | x :: l => by
    have h := bytesOf_cu8 l
    show (bytesOf (cu8 l)).map (UInt8.ofNat ((x.toNat : Int)).toNat :: ·) = _
    rw [h]
    rfl
theorem vStr_rc {h : Heap} {v : V} {l : List (BitVec 8)} (hv : rc 1 h v = some (cu8 l)) : vStr h v = some (.str (strL l)) := by
  rcases rc_cases hv with ⟨rfl, e⟩ | ⟨b, o, n, c, bs, rfl, h1, h2, h3, e⟩
  · have : l = [] := by cases l with
      | nil => rfl
      | cons x l => simp [cu8] at e
    subst this; rfl
  · have hr : readN h b o n = some (cu8 l) := by
      have := hv
      simp only [rc, h1, and_self, if_true, Nat.mul_one] at this
      exact this
    show ((readN h b o n).bind bytesOf).map V.str = _
    rw [hr, Option.bind_some, bytesOf_cu8]
    rfl
theorem eql_str (a b : List UInt8) : evBin .eql (.str a) (.str b) = some (.bool (a == b)) := Eq.trans rfl rfl

theorem eq8' (s : S8) : evEqL [.int, .int, .int, .int, .int, .int, .int, .int] s.cells s.cells = some true := by
  simp only [S8.cells, eqL_cons, eq_u32, eqL_nil, kE1_some, kE2_some, beq_self_eq_true, Bool.and_self]

theorem call38 (s : S8) (rest : List (BitVec 8)) (h : Heap) (r q : V) (hr : rc 1 h r = some (cu8 rest)) (hq : rc 1 h q = some (cu8 rest)) :
    (run T).call 38 [.agg (s.cells ++ [r]), .agg (s.cells ++ [q])] none h = some (.ret (.bool true), none, h) := by
  have key : ∃ h', kF (run T) r38 (execC (run T) c38 (frame0 [.agg (s.cells ++ [r]), .agg (s.cells ++ [q])] none) (roH h)) = some (.ret (.bool true), none, h') := by
    replace hr := rc_ro hr
    replace hq := rc_ro hq
    generalize roH h = H at hr hq ⊢
    have r1 := isS_one (rc_isS hr)
    have q1 := isS_one (rc_isS hq)
    have s1 := fun X => vStr_rc (rc_app hr X)
    have s2 := fun X => vStr_rc (rc_app hq X)
    have he := eq8' s
    simp -implicitDefEqProofs only [runEqs, List.zipIdx_cons, List.zipIdx_nil, List.map_cons, List.map_nil, Nat.zero_add, Nat.add_zero, Nat.zero_mul, Nat.reduceAdd, Nat.reduceMul, Nat.reduceBEq, Nat.reduceLT, Nat.reduceSub, Option.map_some, Option.map_none, Option.isSome_some, Option.isSome_none, Bool.not_true, Bool.not_false, Bool.true_or, Bool.false_or, Bool.or_true, List.getElem?_cons_zero, List.getElem?_cons_succ, List.set_cons_zero, List.set_cons_succ, List.length_cons, List.length_nil, List.length_append, List.append_assoc, List.cons_append, List.nil_append, List.zip_cons_cons, List.zip_nil_right, Int.reduceAdd, Int.reduceSub, Int.reduceMul, Int.reduceLT, Int.reduceLE, Int.reduceNeg, Int.reduceToNat, Int.zero_add, Int.add_zero, decide_true, decide_false, Nat.reduceLeDiff, Nat.min_self, List.drop_succ_cons, List.drop_zero, List.drop_nil, List.take_succ_cons, List.take_zero, List.take_nil, List.all_cons, List.all_nil, Bool.and_true, Bool.true_and, Nat.mul_one, List.singleton_append, Int.le_refl, Nat.le_refl, c38, r38, len_s8, S8.len, one_s8, r1, q1, at8_s8, take8_s8, he, s1, s2, eql_str, beq_self_eq_true]
    exact ⟨_, rfl⟩
  obtain ⟨h', hk⟩ := key
  exact call_gc1 fn38 _ _ hk rfl

/-- What a list counts. -/
def smK (ls : List (List (BitVec 8))) : Nat → Nat
  | 0 => 0
  | i + 1 => smK ls i + (20 + (ls.getD i []).length)

theorem call24 (ls : List (List (BitVec 8))) (hsz : ls.length < 2305843009213693952) (hx : ∀ x ∈ ls, x.length < 2305843009213693952) (h : Heap) (v : V) (hv : Lv h v ls) :
    ∃ b, (run T).call 24 [v] none h = some (.ret (.bool b), none, h) ∧ (b = true → ls.length ≤ 4096 → smK ls ls.length ≤ 4000) := by
  have key : ∃ b h', kF (run T) r24 (execC (run T) c24 (frame0 [v] none) (roH h)) = some (.ret (.bool b), none, h') ∧ (b = true → ls.length ≤ 4096 → smK ls ls.length ≤ 4000) := by
    replace hv := hv.ro
    generalize roH h = H at hv ⊢
    have hl := hv.len
    have hs := hv.isS
    obtain ⟨k, vs', h', ⟨i0, hi0, -, hvs0, hh0, hb0⟩, ⟨i, hi, rfl, rfl, hend⟩, hlp⟩ := loop_st (T := T) (L := [0, 3, 4]) (c := c24_0) (d := []) (u := some none)
      (fun m vs hh => ∃ i, i ≤ ls.length ∧ m = ls.length - i ∧ vs = [v, i64 (smK ls i), i64 i] ∧ hh = H ∧ smK ls i < 4611686018427387904)
      (fun m vs hh => ∃ i, i ≤ ls.length ∧ vs = [v, i64 (smK ls i), i64 i] ∧ hh = H ∧ (i = ls.length ∨ 4000 < smK ls i))
      (by
        rintro m vs hh ⟨i, hi, rfl, rfl, rfl, hb⟩
        by_cases he : i = ls.length ∨ 4000 < smK ls i
        · exact .inl ⟨i, hi, rfl, rfl, he⟩
        right
        have hlt' : i < ls.length := by omega
        have hsm : ¬ 4000 < smK ls i := by omega
        have hlt : decide ((i : Int) < (ls.length : Int)) = true := by simpa using hlt'
        have hle : decide ((smK ls i : Int) ≤ 4000) = true := by simp; omega
        have hw := wr_succ_nat i (by omega)
        obtain ⟨w, -, hat, hwc⟩ := hv.at i hlt'
        have hwl : lenOf w = ls[i].length := by have := rc_len hwc; rw [cu8_len] at this; omega
        have hws := rc_isS hwc
        have hxi := hx ls[i] (List.getElem_mem _)
        have hgd : ls.getD i [] = ls[i] := by simp [hlt']
        have hw2 : wr (20 + (ls[i].length : Int)) = 20 + (ls[i].length : Int) := wr_id (by omega) (by omega)
        have hw3 : wr ((smK ls i : Int) + (20 + (ls[i].length : Int))) = ((smK ls (i + 1) : Nat) : Int) := by
          rw [smK, hgd, wr_id (by omega) (by omega)]; omega
        refine ⟨ls.length - (i + 1), _, _, by omega, ?_, i + 1, by omega, rfl, rfl, rfl, by rw [smK, hgd]; omega⟩
        simp -implicitDefEqProofs only [runEqs, List.zipIdx_cons, List.zipIdx_nil, List.map_cons, List.map_nil, Nat.zero_add, Nat.add_zero, Nat.zero_mul, Nat.reduceAdd, Nat.reduceMul, Nat.reduceBEq, Nat.reduceLT, Nat.reduceSub, Option.map_some, Option.map_none, Option.isSome_some, Option.isSome_none, Bool.not_true, Bool.not_false, Bool.true_or, Bool.false_or, Bool.or_true, List.getElem?_cons_zero, List.getElem?_cons_succ, List.set_cons_zero, List.set_cons_succ, List.length_cons, List.length_nil, List.length_append, List.append_assoc, List.cons_append, List.nil_append, List.zip_cons_cons, List.zip_nil_right, Int.reduceAdd, Int.reduceSub, Int.reduceMul, Int.reduceLT, Int.reduceLE, Int.reduceNeg, Int.reduceToNat, Int.zero_add, Int.add_zero, decide_true, decide_false, Nat.reduceLeDiff, Nat.min_self, List.drop_succ_cons, List.drop_zero, List.drop_nil, List.take_succ_cons, List.take_zero, List.take_nil, List.all_cons, List.all_nil, Bool.and_true, Bool.true_and, Nat.mul_one, List.singleton_append, Int.le_refl, Nat.le_refl, c24_0, vLen_of, hs, hl, hlt, hle, hw, vIS_of, hlt', hat, hws, hwl, hw2, hw3]
        exact nxt_some _ _ _ _ _ _ _ rfl rfl)
      ls.length [v, i64 0, i64 0] H ⟨0, by omega, by omega, rfl, rfl, by simp [smK]⟩
    have hg : (decide ((i : Int) < (ls.length : Int)) = false) ∨ (decide ((i : Int) < (ls.length : Int)) = true ∧ decide ((smK ls i : Int) ≤ 4000) = false) := by
      by_cases h1 : i < ls.length
      · right; refine ⟨by simpa using h1, ?_⟩; simp; omega
      · left; simpa using by omega
    have hres : ((decide ((smK ls i : Int) ≤ 4000) || decide ((ls.length : Int) > 4096)) = true → ls.length ≤ 4096 → smK ls ls.length ≤ 4000) := by
      intro h1 h2
      have h3 : smK ls i ≤ 4000 := by
        simp only [Bool.or_eq_true, decide_eq_true_eq] at h1
        omega
      have : i = ls.length := by omega
      subst this
      exact h3
    refine ⟨_, h', ?_, hres⟩
    simp only [List.zip_cons_cons, List.zip_nil_right] at hlp
    simp -implicitDefEqProofs only [runEqs, List.zipIdx_cons, List.zipIdx_nil, List.map_cons, List.map_nil, Nat.zero_add, Nat.add_zero, Nat.zero_mul, Nat.reduceAdd, Nat.reduceMul, Nat.reduceBEq, Nat.reduceLT, Nat.reduceSub, Option.map_some, Option.map_none, Option.isSome_some, Option.isSome_none, Bool.not_true, Bool.not_false, Bool.true_or, Bool.false_or, Bool.or_true, List.getElem?_cons_zero, List.getElem?_cons_succ, List.set_cons_zero, List.set_cons_succ, List.length_cons, List.length_nil, List.length_append, List.append_assoc, List.cons_append, List.nil_append, List.zip_cons_cons, List.zip_nil_right, Int.reduceAdd, Int.reduceSub, Int.reduceMul, Int.reduceLT, Int.reduceLE, Int.reduceNeg, Int.reduceToNat, Int.zero_add, Int.add_zero, decide_true, decide_false, Nat.reduceLeDiff, Nat.min_self, List.drop_succ_cons, List.drop_zero, List.drop_nil, List.take_succ_cons, List.take_zero, List.take_nil, List.all_cons, List.all_nil, Bool.and_true, Bool.true_and, Nat.mul_one, List.singleton_append, Int.le_refl, Nat.le_refl, c24, r24, hlp]
    rcases hg with hg | ⟨hg, hg2⟩
    · cases h2 : decide ((smK ls i : Int) ≤ 4000) with
      | true => simp -implicitDefEqProofs only [runEqs, List.zipIdx_cons, List.zipIdx_nil, List.map_cons, List.map_nil, Nat.zero_add, Nat.add_zero, Nat.zero_mul, Nat.reduceAdd, Nat.reduceMul, Nat.reduceBEq, Nat.reduceLT, Nat.reduceSub, Option.map_some, Option.map_none, Option.isSome_some, Option.isSome_none, Bool.not_true, Bool.not_false, Bool.true_or, Bool.false_or, Bool.or_true, List.getElem?_cons_zero, List.getElem?_cons_succ, List.set_cons_zero, List.set_cons_succ, List.length_cons, List.length_nil, List.length_append, List.append_assoc, List.cons_append, List.nil_append, List.zip_cons_cons, List.zip_nil_right, Int.reduceAdd, Int.reduceSub, Int.reduceMul, Int.reduceLT, Int.reduceLE, Int.reduceNeg, Int.reduceToNat, Int.zero_add, Int.add_zero, decide_true, decide_false, Nat.reduceLeDiff, Nat.min_self, List.drop_succ_cons, List.drop_zero, List.drop_nil, List.take_succ_cons, List.take_zero, List.take_nil, List.all_cons, List.all_nil, Bool.and_true, Bool.true_and, Nat.mul_one, List.singleton_append, Int.le_refl, Nat.le_refl, c24_0, vLen_of, hs, hl, hg, h2]
      | false =>
        cases h3 : decide ((ls.length : Int) > 4096) with
        | true => simp -implicitDefEqProofs only [runEqs, List.zipIdx_cons, List.zipIdx_nil, List.map_cons, List.map_nil, Nat.zero_add, Nat.add_zero, Nat.zero_mul, Nat.reduceAdd, Nat.reduceMul, Nat.reduceBEq, Nat.reduceLT, Nat.reduceSub, Option.map_some, Option.map_none, Option.isSome_some, Option.isSome_none, Bool.not_true, Bool.not_false, Bool.true_or, Bool.false_or, Bool.or_true, List.getElem?_cons_zero, List.getElem?_cons_succ, List.set_cons_zero, List.set_cons_succ, List.length_cons, List.length_nil, List.length_append, List.append_assoc, List.cons_append, List.nil_append, List.zip_cons_cons, List.zip_nil_right, Int.reduceAdd, Int.reduceSub, Int.reduceMul, Int.reduceLT, Int.reduceLE, Int.reduceNeg, Int.reduceToNat, Int.zero_add, Int.add_zero, decide_true, decide_false, Nat.reduceLeDiff, Nat.min_self, List.drop_succ_cons, List.drop_zero, List.drop_nil, List.take_succ_cons, List.take_zero, List.take_nil, List.all_cons, List.all_nil, Bool.and_true, Bool.true_and, Nat.mul_one, List.singleton_append, Int.le_refl, Nat.le_refl, c24_0, vLen_of, hs, hl, hg, h2, h3]
        | false => simp -implicitDefEqProofs only [runEqs, List.zipIdx_cons, List.zipIdx_nil, List.map_cons, List.map_nil, Nat.zero_add, Nat.add_zero, Nat.zero_mul, Nat.reduceAdd, Nat.reduceMul, Nat.reduceBEq, Nat.reduceLT, Nat.reduceSub, Option.map_some, Option.map_none, Option.isSome_some, Option.isSome_none, Bool.not_true, Bool.not_false, Bool.true_or, Bool.false_or, Bool.or_true, List.getElem?_cons_zero, List.getElem?_cons_succ, List.set_cons_zero, List.set_cons_succ, List.length_cons, List.length_nil, List.length_append, List.append_assoc, List.cons_append, List.nil_append, List.zip_cons_cons, List.zip_nil_right, Int.reduceAdd, Int.reduceSub, Int.reduceMul, Int.reduceLT, Int.reduceLE, Int.reduceNeg, Int.reduceToNat, Int.zero_add, Int.add_zero, decide_true, decide_false, Nat.reduceLeDiff, Nat.min_self, List.drop_succ_cons, List.drop_zero, List.drop_nil, List.take_succ_cons, List.take_zero, List.take_nil, List.all_cons, List.all_nil, Bool.and_true, Bool.true_and, Nat.mul_one, List.singleton_append, Int.le_refl, Nat.le_refl, c24_0, vLen_of, hs, hl, hg, h2, h3]
    · cases h3 : decide ((ls.length : Int) > 4096) with
      | true => simp -implicitDefEqProofs only [runEqs, List.zipIdx_cons, List.zipIdx_nil, List.map_cons, List.map_nil, Nat.zero_add, Nat.add_zero, Nat.zero_mul, Nat.reduceAdd, Nat.reduceMul, Nat.reduceBEq, Nat.reduceLT, Nat.reduceSub, Option.map_some, Option.map_none, Option.isSome_some, Option.isSome_none, Bool.not_true, Bool.not_false, Bool.true_or, Bool.false_or, Bool.or_true, List.getElem?_cons_zero, List.getElem?_cons_succ, List.set_cons_zero, List.set_cons_succ, List.length_cons, List.length_nil, List.length_append, List.append_assoc, List.cons_append, List.nil_append, List.zip_cons_cons, List.zip_nil_right, Int.reduceAdd, Int.reduceSub, Int.reduceMul, Int.reduceLT, Int.reduceLE, Int.reduceNeg, Int.reduceToNat, Int.zero_add, Int.add_zero, decide_true, decide_false, Nat.reduceLeDiff, Nat.min_self, List.drop_succ_cons, List.drop_zero, List.drop_nil, List.take_succ_cons, List.take_zero, List.take_nil, List.all_cons, List.all_nil, Bool.and_true, Bool.true_and, Nat.mul_one, List.singleton_append, Int.le_refl, Nat.le_refl, c24_0, vLen_of, hs, hl, hg, hg2, h3]
      | false => simp -implicitDefEqProofs only [runEqs, List.zipIdx_cons, List.zipIdx_nil, List.map_cons, List.map_nil, Nat.zero_add, Nat.add_zero, Nat.zero_mul, Nat.reduceAdd, Nat.reduceMul, Nat.reduceBEq, Nat.reduceLT, Nat.reduceSub, Option.map_some, Option.map_none, Option.isSome_some, Option.isSome_none, Bool.not_true, Bool.not_false, Bool.true_or, Bool.false_or, Bool.or_true, List.getElem?_cons_zero, List.getElem?_cons_succ, List.set_cons_zero, List.set_cons_succ, List.length_cons, List.length_nil, List.length_append, List.append_assoc, List.cons_append, List.nil_append, List.zip_cons_cons, List.zip_nil_right, Int.reduceAdd, Int.reduceSub, Int.reduceMul, Int.reduceLT, Int.reduceLE, Int.reduceNeg, Int.reduceToNat, Int.zero_add, Int.add_zero, decide_true, decide_false, Nat.reduceLeDiff, Nat.min_self, List.drop_succ_cons, List.drop_zero, List.drop_nil, List.take_succ_cons, List.take_zero, List.take_nil, List.all_cons, List.all_nil, Bool.and_true, Bool.true_and, Nat.mul_one, List.singleton_append, Int.le_refl, Nat.le_refl, c24_0, vLen_of, hs, hl, hg, hg2, h3]
  obtain ⟨b, h', hk, hb⟩ := key
  exact ⟨b, call_gc1 fn24 _ _ hk rfl, hb⟩

/-! ### absorbing in parts -/
theorem absN_congr (s : S8) (c l : List (BitVec 8)) : ∀ k, 16 * k ≤ c.length → absN s (c ++ l) k = absN s c k
  | 0, _ => rfl
  | k + 1, h => by
    rw [absN, absN, absN_congr s c l k (by omega), List.drop_append_of_le_length (by omega), List.take_append_of_le_length (by rw [List.length_drop]; omega)]
theorem absN_add (s : S8) (a : List (BitVec 8)) (k0 : Nat) : ∀ k, absN s a (k0 + k) = absN (absN s a k0) (a.drop (16 * k0)) k
  | 0 => rfl
  | k + 1 => by
    rw [← Nat.add_assoc, absN, absN, absN_add s a k0 k, List.drop_drop, show 16 * k0 + 16 * k = 16 * (k0 + k) by omega]
theorem abs_app (s : S8) (c l : List (BitVec 8)) : absS (absS s c) (restL c ++ l) = absS s (c ++ l) ∧ restL (restL c ++ l) = restL (c ++ l) := by
  have e1 : restL c ++ l = (c ++ l).drop (16 * (c.length / 16)) := by
    rw [restL, List.drop_append_of_le_length (by omega), Nat.mul_comm]
  have e2 : (restL c ++ l).length / 16 + c.length / 16 = (c ++ l).length / 16 := by
    rw [e1, List.length_drop, List.length_append]; omega
  constructor
  · unfold absS
    rw [← absN_congr s c l (c.length / 16) (by omega)]
    rw [← e2, Nat.add_comm, absN_add s (c ++ l) (c.length / 16), ← e1]
  · rw [restL, e1, restL, List.drop_drop]
    congr 1
    rw [← e1, ← e2]; omega

end Go.Proofs.Ytccepmhhilhajaa.K

/- Collide of the program; two lists of digests, compared. -/
set_option linter.unusedVariables false
set_option linter.unusedSimpArgs false
set_option maxRecDepth 100000
namespace Go.Proofs.Ytccepmhhilhajaa.K
open Go Go.A

theorem strL_inj : ∀ (a b : List (BitVec 8)), strL a = strL b → a = b
  | [], [], _ => rfl
  | [], _ :: _, h => by simp [strL] at h
  | _ :: _, [], h => by simp [strL] at h
  | x :: a, y :: b, h => by
    simp only [strL, List.map_cons, List.cons.injEq] at h
    have h1 := congrArg UInt8.toNat h.1
    rw [UInt8.toNat_ofNat', UInt8.toNat_ofNat', Nat.mod_eq_of_lt x.isLt, Nat.mod_eq_of_lt y.isLt] at h1
    rw [BitVec.eq_of_toNat_eq h1, strL_inj a b h.2]
theorem str_beq (a b : List (BitVec 8)) : (strL a == strL b) = (a == b) := by
  rw [Bool.eq_iff_iff, beq_iff_eq, beq_iff_eq]
  exact ⟨strL_inj a b, fun h => by rw [h]⟩
theorem neq_str (a b : List UInt8) : evBin .neq (.str a) (.str b) = some (.bool (!(a == b))) := Eq.trans rfl rfl

theorem call42 (n i : Int) (leaf other : List (BitVec 8)) (hlf : leaf.length < 8796093000000) (hlo : other.length < 8796093000000) (path way : List (List (BitVec 8))) (h16 : all16 path) (k16 : all16 way) (hpl : path.length < 4611686018427387) (hwl : way.length < 4611686018427387)
    (h : Heap) (lv p ov q : V) (hlv : rc 1 h lv = some (cu8 leaf)) (hp : rc 16 h p = some (cdg path)) (hov : rc 1 h ov = some (cu8 other)) (hq : rc 16 h q = some (cdg way)) :
    ∃ x y e g, (run T).call 42 [i64 n, i64 i, lv, p, ov, q] none h = some (.ret (.tup [x, y, i64 e]), none, h ++ g) ∧
      (placeE n i path.length ≠ 0 → e = placeE n i path.length) ∧ (placeE n i path.length = 0 → placeE n i way.length ≠ 0 → e = placeE n i way.length) ∧
      (placeE n i path.length = 0 → placeE n i way.length = 0 → (e = 3 ∧ ∀ j, j ≤ (sidL n.toNat i.toNat).length → curK (0 :: leaf) (nodesL path (sidL n.toNat i.toNat)) j ≠ curK (0 :: other) (nodesL way (sidL n.toNat i.toNat)) j →
          digL (curK (0 :: leaf) (nodesL path (sidL n.toNat i.toNat)) j) ≠ digL (curK (0 :: other) (nodesL way (sidL n.toNat i.toNat)) j)) ∨
        (e = 0 ∧ ¬ (leaf = other ∧ path = way) ∧ ∃ lx ly, rc 1 (h ++ g) x = some (cu8 lx) ∧ rc 1 (h ++ g) y = some (cu8 ly) ∧ lx ≠ ly ∧ digL lx = digL ly ∧ lx.length < 8796093022208 ∧ ly.length < 8796093022208)) := by
  obtain ⟨o1, g1, e1, L1, N1⟩ := call52 n i leaf hlf path h16 (by omega) h lv p hlv hp
  by_cases hE1 : placeE n i path.length = 0
  rotate_left
  · have hne : (placeE n i path.length != 0) = true := by simpa using hE1
    refine ⟨.nils, .nils, placeE n i path.length, g1, ?_, fun _ => rfl, fun hh => absurd hh hE1, fun hh => absurd hh hE1⟩
    rw [call_gc0 fn42]
    generalize placeE n i path.length = E at *
    simp -implicitDefEqProofs only [runEqs, List.zipIdx_cons, List.zipIdx_nil, List.map_cons, List.map_nil, Nat.zero_add, Nat.add_zero, Nat.zero_mul, Nat.reduceAdd, Nat.reduceMul, Nat.reduceBEq, Nat.reduceLT, Nat.reduceSub, Option.map_some, Option.map_none, Option.isSome_some, Option.isSome_none, Bool.not_true, Bool.not_false, Bool.true_or, Bool.false_or, Bool.or_true, List.getElem?_cons_zero, List.getElem?_cons_succ, List.set_cons_zero, List.set_cons_succ, List.length_cons, List.length_nil, List.length_append, List.append_assoc, List.cons_append, List.nil_append, List.zip_cons_cons, List.zip_nil_right, Int.reduceAdd, Int.reduceSub, Int.reduceMul, Int.reduceLT, Int.reduceLE, Int.reduceNeg, Int.reduceToNat, Int.zero_add, Int.add_zero, decide_true, decide_false, Nat.reduceLeDiff, Nat.min_self, List.drop_succ_cons, List.drop_zero, List.drop_nil, List.take_succ_cons, List.take_zero, List.take_nil, List.all_cons, List.all_nil, Bool.and_true, Bool.true_and, Nat.mul_one, List.singleton_append, Int.le_refl, Nat.le_refl, c42, r42, e1, hne]
  obtain ⟨o2, g2, e2, L2, N2⟩ := call52 n i other hlo way k16 (by omega) (h ++ g1) ov q (rc_app hov _) (rc_app hq _)
  have ne0 : ((0 : Int) != 0) = false := rfl
  rw [hE1] at e1
  by_cases hE2 : placeE n i way.length = 0
  rotate_left
  · have hne : (placeE n i way.length != 0) = true := by simpa using hE2
    refine ⟨.nils, .nils, placeE n i way.length, g1 ++ g2, ?_, fun hh => absurd hE1 hh, fun _ _ => rfl, fun _ hh => absurd hh hE2⟩
    rw [call_gc0 fn42]
    simp only [List.append_assoc] at e2
    generalize placeE n i way.length = E at *
    simp -implicitDefEqProofs only [runEqs, List.zipIdx_cons, List.zipIdx_nil, List.map_cons, List.map_nil, Nat.zero_add, Nat.add_zero, Nat.zero_mul, Nat.reduceAdd, Nat.reduceMul, Nat.reduceBEq, Nat.reduceLT, Nat.reduceSub, Option.map_some, Option.map_none, Option.isSome_some, Option.isSome_none, Bool.not_true, Bool.not_false, Bool.true_or, Bool.false_or, Bool.or_true, List.getElem?_cons_zero, List.getElem?_cons_succ, List.set_cons_zero, List.set_cons_succ, List.length_cons, List.length_nil, List.length_append, List.append_assoc, List.cons_append, List.nil_append, List.zip_cons_cons, List.zip_nil_right, Int.reduceAdd, Int.reduceSub, Int.reduceMul, Int.reduceLT, Int.reduceLE, Int.reduceNeg, Int.reduceToNat, Int.zero_add, Int.add_zero, decide_true, decide_false, Nat.reduceLeDiff, Nat.min_self, List.drop_succ_cons, List.drop_zero, List.drop_nil, List.take_succ_cons, List.take_zero, List.take_nil, List.all_cons, List.all_nil, Bool.and_true, Bool.true_and, Nat.mul_one, List.singleton_append, Int.le_refl, Nat.le_refl, c42, r42, e1, ne0, e2, hne]
  have L1 := (L1 hE1).app g2
  have L2 := L2 hE2
  rw [hE2] at e2
  have hm1 : path.length = (sidL n.toNat i.toNat).length := by
    rw [placeE] at hE1
    split at hE1
    · cases hE1
    · split at hE1
      · cases hE1
      · split at hE1
        · cases hE1
        · omega
  have hm2 : way.length = (sidL n.toNat i.toNat).length := by
    rw [placeE] at hE2
    split at hE2
    · cases hE2
    · split at hE2
      · cases hE2
      · split at hE2
        · cases hE2
        · omega
  generalize sidL n.toNat i.toNat = sd at *
  have hsame : leaf = other ∧ path = way → ∀ j, curK (0 :: leaf) (nodesL path sd) j = curK (0 :: other) (nodesL way sd) j := by rintro ⟨rfl, rfl⟩ j; rfl
  have a1 := nodes_ok path h16 sd
  have a2 := nodes_ok way k16 sd
  have n1 : (nodesL path sd).length = sd.length := by rw [nodesL, List.length_zip, List.length_reverse, hm1, Nat.min_self]
  have n2 : (nodesL way sd).length = sd.length := by rw [nodesL, List.length_zip, List.length_reverse, hm2, Nat.min_self]
  generalize nodesL path sd = nd1 at *
  generalize nodesL way sd = nd2 at *
  have hl1 : (hashL leaf nd1).length = sd.length + 1 := by simp [hashL, n1]
  have hl2 : (hashL other nd2).length = sd.length + 1 := by simp [hashL, n2]
  have c1 := fun j (hj : j ≤ sd.length) => curK_len leaf nd1 a1 j (by omega)
  have c2 := fun j (hj : j ≤ sd.length) => curK_len other nd2 a2 j (by omega)
  have ol1 := L1.len
  have ol2 := L2.len
  rw [hl1] at ol1
  rw [hl2] at ol2
  have os1 := L1.isS
  have os2 := L2.isS
  simp only [List.append_assoc] at e2 L1 L2
  generalize hHc : h ++ (g1 ++ g2) = Hc at *
  have hat : ∀ j, j ≤ sd.length → ∃ w1 w2, kAt (offOf o1 + j) (cellsAt Hc (blkOf o1)) = some w1 ∧ kAt (offOf o2 + j) (cellsAt Hc (blkOf o2)) = some w2 ∧ rc 1 Hc w1 = some (cu8 (curK (0 :: leaf) nd1 j)) ∧ rc 1 Hc w2 = some (cu8 (curK (0 :: other) nd2 j)) := fun j hj => by
    obtain ⟨w1, -, b1, b2⟩ := L1.at j (by omega)
    obtain ⟨w2, -, b3, b4⟩ := L2.at j (by omega)
    refine ⟨w1, w2, b1, b3, ?_, ?_⟩
    · rw [b2]; simp [hashL]
    · rw [b4]; simp [hashL]
  obtain ⟨k, vs', h', -, ⟨j, hj, rfl, rfl, hall, hend⟩, hlp⟩ := loop_st (T := T) (L := [15, 17, 42, 43]) (c := c42_0) (d := []) (u := some none)
    (fun m vs hh => ∃ j, j ≤ sd.length + 1 ∧ m = sd.length + 1 - j ∧ vs = [o1, o2, i64 ((sd.length + 1 : Nat) : Int), i64 j] ∧ hh = Hc ∧ ∀ j', j' < j → curK (0 :: leaf) nd1 j' ≠ curK (0 :: other) nd2 j' → digL (curK (0 :: leaf) nd1 j') ≠ digL (curK (0 :: other) nd2 j'))
    (fun m vs hh => ∃ j, j ≤ sd.length + 1 ∧ vs = [o1, o2, i64 ((sd.length + 1 : Nat) : Int), i64 j] ∧ hh = Hc ∧ (∀ j', j' < j → curK (0 :: leaf) nd1 j' ≠ curK (0 :: other) nd2 j' → digL (curK (0 :: leaf) nd1 j') ≠ digL (curK (0 :: other) nd2 j')) ∧
      (j = sd.length + 1 ∨ (j ≤ sd.length ∧ curK (0 :: leaf) nd1 j ≠ curK (0 :: other) nd2 j ∧ digL (curK (0 :: leaf) nd1 j) = digL (curK (0 :: other) nd2 j))))
    (by
      rintro m vs hh ⟨j, hj, rfl, rfl, rfl, hall⟩
      by_cases hs : j = sd.length + 1
      · exact .inl ⟨j, hj, rfl, rfl, hall, .inl hs⟩
      by_cases hd : curK (0 :: leaf) nd1 j ≠ curK (0 :: other) nd2 j ∧ digL (curK (0 :: leaf) nd1 j) = digL (curK (0 :: other) nd2 j)
      · exact .inl ⟨j, hj, rfl, rfl, hall, .inr ⟨by omega, hd⟩⟩
      right
      have hjm : j ≤ sd.length := by omega
      obtain ⟨w1, w2, t1, t2, r1, r2⟩ := hat j hjm
      have cc1 := c1 j hjm
      have cc2 := c2 j hjm
      refine ⟨sd.length + 1 - (j + 1), _, _, by omega, ?_, j + 1, by omega, rfl, rfl, rfl, fun j' hj' hn => ?_⟩
      rotate_left
      · by_cases hjj : j' < j
        · exact hall j' hjj hn
        · have : j' = j := by omega
          subst this
          exact fun he => hd ⟨hn, he⟩
      generalize curK (0 :: leaf) nd1 j = A at *
      generalize curK (0 :: other) nd2 j = B at *
      have hlt : decide ((j : Int) < ((sd.length + 1 : Nat) : Int)) = true := by simp; omega
      have hw := wr_succ_nat j (by omega)
      have s1 := vStr_rc r1
      have s2 := vStr_rc r2
      have hj1 : j < sd.length + 1 := by omega
      have d1 := call39 A (by omega) _ w1 r1
      have d2 := call39 B (by omega) _ w2 r2
      have heq := eq16 _ _ (digL_len A) (digL_len B)
      by_cases hAB : A = B
      · have hb : (A == B) = true := by simpa using hAB
        simp -implicitDefEqProofs only [runEqs, List.zipIdx_cons, List.zipIdx_nil, List.map_cons, List.map_nil, Nat.zero_add, Nat.add_zero, Nat.zero_mul, Nat.reduceAdd, Nat.reduceMul, Nat.reduceBEq, Nat.reduceLT, Nat.reduceSub, Option.map_some, Option.map_none, Option.isSome_some, Option.isSome_none, Bool.not_true, Bool.not_false, Bool.true_or, Bool.false_or, Bool.or_true, List.getElem?_cons_zero, List.getElem?_cons_succ, List.set_cons_zero, List.set_cons_succ, List.length_cons, List.length_nil, List.length_append, List.append_assoc, List.cons_append, List.nil_append, List.zip_cons_cons, List.zip_nil_right, Int.reduceAdd, Int.reduceSub, Int.reduceMul, Int.reduceLT, Int.reduceLE, Int.reduceNeg, Int.reduceToNat, Int.zero_add, Int.add_zero, decide_true, decide_false, Nat.reduceLeDiff, Nat.min_self, List.drop_succ_cons, List.drop_zero, List.drop_nil, List.take_succ_cons, List.take_zero, List.take_nil, List.all_cons, List.all_nil, Bool.and_true, Bool.true_and, Nat.mul_one, List.singleton_append, Int.le_refl, Nat.le_refl, c42_0, hlt, hw, vIS_of, ol1, ol2, hj1, t1, t2, s1, s2, neq_str, str_beq, hb]
        exact nxt_some _ _ _ _ _ _ _ rfl rfl
      · have hb : (A == B) = false := by simpa using hAB
        have hdd : digL A ≠ digL B := fun he => hd ⟨hAB, he⟩
        have hdb : (digL A == digL B) = false := by simpa using hdd
        rw [hdb] at heq
        simp -implicitDefEqProofs only [runEqs, List.zipIdx_cons, List.zipIdx_nil, List.map_cons, List.map_nil, Nat.zero_add, Nat.add_zero, Nat.zero_mul, Nat.reduceAdd, Nat.reduceMul, Nat.reduceBEq, Nat.reduceLT, Nat.reduceSub, Option.map_some, Option.map_none, Option.isSome_some, Option.isSome_none, Bool.not_true, Bool.not_false, Bool.true_or, Bool.false_or, Bool.or_true, List.getElem?_cons_zero, List.getElem?_cons_succ, List.set_cons_zero, List.set_cons_succ, List.length_cons, List.length_nil, List.length_append, List.append_assoc, List.cons_append, List.nil_append, List.zip_cons_cons, List.zip_nil_right, Int.reduceAdd, Int.reduceSub, Int.reduceMul, Int.reduceLT, Int.reduceLE, Int.reduceNeg, Int.reduceToNat, Int.zero_add, Int.add_zero, decide_true, decide_false, Nat.reduceLeDiff, Nat.min_self, List.drop_succ_cons, List.drop_zero, List.drop_nil, List.take_succ_cons, List.take_zero, List.take_nil, List.all_cons, List.all_nil, Bool.and_true, Bool.true_and, Nat.mul_one, List.singleton_append, Int.le_refl, Nat.le_refl, c42_0, hlt, hw, vIS_of, ol1, ol2, hj1, t1, t2, s1, s2, neq_str, str_beq, hb, d1, d2, heq]
        exact nxt_some _ _ _ _ _ _ _ rfl rfl)
    (sd.length + 1) [o1, o2, i64 ((sd.length + 1 : Nat) : Int), i64 0] Hc ⟨0, by omega, by omega, rfl, rfl, fun j' hj' => absurd hj' (by omega)⟩
  simp only [List.zip_cons_cons, List.zip_nil_right] at hlp
  by_cases hs : j = sd.length + 1
  · subst hs
    have hf : decide (((sd.length + 1 : Nat) : Int) < ((sd.length + 1 : Nat) : Int)) = false := by simp
    refine ⟨.nils, .nils, 3, g1 ++ g2, ?_, fun hh => absurd hE1 hh, fun _ hh => absurd hE2 hh, fun _ _ => .inl ⟨rfl, fun j' hj' => hall j' (by omega)⟩⟩
    rw [call_gc0 fn42]
    subst hHc
    simp -implicitDefEqProofs only [runEqs, List.zipIdx_cons, List.zipIdx_nil, List.map_cons, List.map_nil, Nat.zero_add, Nat.add_zero, Nat.zero_mul, Nat.reduceAdd, Nat.reduceMul, Nat.reduceBEq, Nat.reduceLT, Nat.reduceSub, Option.map_some, Option.map_none, Option.isSome_some, Option.isSome_none, Bool.not_true, Bool.not_false, Bool.true_or, Bool.false_or, Bool.or_true, List.getElem?_cons_zero, List.getElem?_cons_succ, List.set_cons_zero, List.set_cons_succ, List.length_cons, List.length_nil, List.length_append, List.append_assoc, List.cons_append, List.nil_append, List.zip_cons_cons, List.zip_nil_right, Int.reduceAdd, Int.reduceSub, Int.reduceMul, Int.reduceLT, Int.reduceLE, Int.reduceNeg, Int.reduceToNat, Int.zero_add, Int.add_zero, decide_true, decide_false, Nat.reduceLeDiff, Nat.min_self, List.drop_succ_cons, List.drop_zero, List.drop_nil, List.take_succ_cons, List.take_zero, List.take_nil, List.all_cons, List.all_nil, Bool.and_true, Bool.true_and, Nat.mul_one, List.singleton_append, Int.le_refl, Nat.le_refl, c42, r42, e1, ne0, e2, vLen_of, os1, ol1, hlp]
    simp -implicitDefEqProofs only [runEqs, List.zipIdx_cons, List.zipIdx_nil, List.map_cons, List.map_nil, Nat.zero_add, Nat.add_zero, Nat.zero_mul, Nat.reduceAdd, Nat.reduceMul, Nat.reduceBEq, Nat.reduceLT, Nat.reduceSub, Option.map_some, Option.map_none, Option.isSome_some, Option.isSome_none, Bool.not_true, Bool.not_false, Bool.true_or, Bool.false_or, Bool.or_true, List.getElem?_cons_zero, List.getElem?_cons_succ, List.set_cons_zero, List.set_cons_succ, List.length_cons, List.length_nil, List.length_append, List.append_assoc, List.cons_append, List.nil_append, List.zip_cons_cons, List.zip_nil_right, Int.reduceAdd, Int.reduceSub, Int.reduceMul, Int.reduceLT, Int.reduceLE, Int.reduceNeg, Int.reduceToNat, Int.zero_add, Int.add_zero, decide_true, decide_false, Nat.reduceLeDiff, Nat.min_self, List.drop_succ_cons, List.drop_zero, List.drop_nil, List.take_succ_cons, List.take_zero, List.take_nil, List.all_cons, List.all_nil, Bool.and_true, Bool.true_and, Nat.mul_one, List.singleton_append, Int.le_refl, Nat.le_refl, c42_0, hf]
  · obtain ⟨hjm, hn, he⟩ := hend.resolve_left hs
    obtain ⟨w1, w2, t1, t2, r1, r2⟩ := hat j hjm
    have cc1 := c1 j hjm
    have cc2 := c2 j hjm
    refine ⟨w1, w2, 0, g1 ++ g2, ?_, fun hh => absurd hE1 hh, fun _ hh => absurd hE2 hh, fun _ _ => .inr ⟨rfl, fun hh => hn (hsame hh j), _, _, by rw [hHc]; exact r1, by rw [hHc]; exact r2, hn, he, by omega, by omega⟩⟩
    generalize curK (0 :: leaf) nd1 j = A at *
    generalize curK (0 :: other) nd2 j = B at *
    have hlt : decide ((j : Int) < ((sd.length + 1 : Nat) : Int)) = true := by simp; omega
    have s1 := vStr_rc r1
    have s2 := vStr_rc r2
    have hj1 : j < sd.length + 1 := by omega
    have d1 := call39 A (by omega) _ w1 r1
    have d2 := call39 B (by omega) _ w2 r2
    have heq := eq16 _ _ (digL_len A) (digL_len B)
    rw [he, beq_self_eq_true] at heq
    rw [he] at d1
    have hb : (A == B) = false := by simpa using hn
    rw [call_gc0 fn42]
    subst hHc
    simp -implicitDefEqProofs only [runEqs, List.zipIdx_cons, List.zipIdx_nil, List.map_cons, List.map_nil, Nat.zero_add, Nat.add_zero, Nat.zero_mul, Nat.reduceAdd, Nat.reduceMul, Nat.reduceBEq, Nat.reduceLT, Nat.reduceSub, Option.map_some, Option.map_none, Option.isSome_some, Option.isSome_none, Bool.not_true, Bool.not_false, Bool.true_or, Bool.false_or, Bool.or_true, List.getElem?_cons_zero, List.getElem?_cons_succ, List.set_cons_zero, List.set_cons_succ, List.length_cons, List.length_nil, List.length_append, List.append_assoc, List.cons_append, List.nil_append, List.zip_cons_cons, List.zip_nil_right, Int.reduceAdd, Int.reduceSub, Int.reduceMul, Int.reduceLT, Int.reduceLE, Int.reduceNeg, Int.reduceToNat, Int.zero_add, Int.add_zero, decide_true, decide_false, Nat.reduceLeDiff, Nat.min_self, List.drop_succ_cons, List.drop_zero, List.drop_nil, List.take_succ_cons, List.take_zero, List.take_nil, List.all_cons, List.all_nil, Bool.and_true, Bool.true_and, Nat.mul_one, List.singleton_append, Int.le_refl, Nat.le_refl, c42, r42, e1, ne0, e2, vLen_of, os1, ol1, hlp]
    simp -implicitDefEqProofs only [runEqs, List.zipIdx_cons, List.zipIdx_nil, List.map_cons, List.map_nil, Nat.zero_add, Nat.add_zero, Nat.zero_mul, Nat.reduceAdd, Nat.reduceMul, Nat.reduceBEq, Nat.reduceLT, Nat.reduceSub, Option.map_some, Option.map_none, Option.isSome_some, Option.isSome_none, Bool.not_true, Bool.not_false, Bool.true_or, Bool.false_or, Bool.or_true, List.getElem?_cons_zero, List.getElem?_cons_succ, List.set_cons_zero, List.set_cons_succ, List.length_cons, List.length_nil, List.length_append, List.append_assoc, List.cons_append, List.nil_append, List.zip_cons_cons, List.zip_nil_right, Int.reduceAdd, Int.reduceSub, Int.reduceMul, Int.reduceLT, Int.reduceLE, Int.reduceNeg, Int.reduceToNat, Int.zero_add, Int.add_zero, decide_true, decide_false, Nat.reduceLeDiff, Nat.min_self, List.drop_succ_cons, List.drop_zero, List.drop_nil, List.take_succ_cons, List.take_zero, List.take_nil, List.all_cons, List.all_nil, Bool.and_true, Bool.true_and, Nat.mul_one, List.singleton_append, Int.le_refl, Nat.le_refl, c42_0, hlt, vIS_of, ol1, ol2, hj1, t1, t2, s1, s2, neq_str, str_beq, hb, d1, d2, heq]
end Go.Proofs.Ytccepmhhilhajaa.K

/- SumsBinding: the law's walk. -/
set_option linter.unusedVariables false
set_option linter.unusedSimpArgs false
set_option maxRecDepth 100000
namespace Go.Proofs.Ytccepmhhilhajaa.K
open Go Go.A

theorem call29g (l m : List (List (BitVec 8))) (ha : all16 l) (hb : all16 m) (hl : l.length < 4611686018427387904) (hm : m.length < 4611686018427387904) (h : Heap) (v w : V) (hv : rc 16 h v = some (cdg l)) (hw : rc 16 h w = some (cdg m)) :
    (run T).call 29 [v, w] none h = some (.ret (.bool (l == m)), none, h) := by
  by_cases hlm : l = m
  · subst hlm
    rw [beq_self_eq_true]
    exact call29 l ha hl h v w hv hw
  have hres : (l == m) = false := by simpa using hlm
  rw [hres]
  refine call_gc1 fn29 _ _ (h' := roH h) ?_ rfl
  replace hv := rc_ro hv
  replace hw := rc_ro hw
  generalize roH h = H at hv hw ⊢
  have hcl := cdg_len l ha
  have hcm := cdg_len m hb
  have hn : lenOf v = l.length := by have := rc_len hv; rw [hcl] at this; omega
  have hn' : lenOf w = m.length := by have := rc_len hw; rw [hcm] at this; omega
  have hs := rc_isS hv
  have hs' := rc_isS hw
  by_cases hlen : l.length = m.length
  rotate_left
  · have hne : ((l.length : Int) != (m.length : Int)) = true := by simp only [bne_iff_ne, ne_eq]; omega
    simp -implicitDefEqProofs only [runEqs, List.zipIdx_cons, List.zipIdx_nil, List.map_cons, List.map_nil, Nat.zero_add, Nat.add_zero, Nat.zero_mul, Nat.reduceAdd, Nat.reduceMul, Nat.reduceBEq, Nat.reduceLT, Nat.reduceSub, Option.map_some, Option.map_none, Option.isSome_some, Option.isSome_none, Bool.not_true, Bool.not_false, Bool.true_or, Bool.false_or, Bool.or_true, List.getElem?_cons_zero, List.getElem?_cons_succ, List.set_cons_zero, List.set_cons_succ, List.length_cons, List.length_nil, List.length_append, List.append_assoc, List.cons_append, List.nil_append, List.zip_cons_cons, List.zip_nil_right, Int.reduceAdd, Int.reduceSub, Int.reduceMul, Int.reduceLT, Int.reduceLE, Int.reduceNeg, Int.reduceToNat, Int.zero_add, Int.add_zero, decide_true, decide_false, Nat.reduceLeDiff, Nat.min_self, List.drop_succ_cons, List.drop_zero, List.drop_nil, List.take_succ_cons, List.take_zero, List.take_nil, List.all_cons, List.all_nil, Bool.and_true, Bool.true_and, Nat.mul_one, List.singleton_append, Int.le_refl, Nat.le_refl, c29, r29, vLen_of, hs, hs', hn, hn', hne]
  have hne : ((l.length : Int) != (m.length : Int)) = false := by simp [hlen]
  have at1 : ∀ i (hi : i < l.length), kAg (offOf v + i * 16) 16 (cellsAt H (blkOf v)) = some (.agg (cu8 l[i])) := fun i hi => by rw [rc_ag hv (i * 16) 16 (by omega) (by omega), cdg_get l ha i hi]
  have at2 : ∀ i (hi : i < m.length), kAg (offOf w + i * 16) 16 (cellsAt H (blkOf w)) = some (.agg (cu8 m[i])) := fun i hi => by rw [rc_ag hw (i * 16) 16 (by omega) (by omega), cdg_get m hb i hi]
  obtain ⟨k, vs', h', -, ⟨i, hi, rfl, rfl, hd⟩, hlp⟩ := loop_st (T := T) (L := [0, 1, 5]) (c := c29_0) (d := []) (u := some none)
    (fun k vs hh => ∃ i, i ≤ l.length ∧ k = l.length - i ∧ vs = [v, w, i64 i] ∧ hh = H ∧ ∀ j (h1 : j < l.length) (h2 : j < m.length), j < i → l[j] = m[j])
    (fun k vs hh => ∃ i, ∃ hi : i < l.length, vs = [v, w, i64 i] ∧ hh = H ∧ l[i] ≠ m[i]'(by omega))
    (by
      rintro k vs hh ⟨i, hi, rfl, rfl, rfl, hall⟩
      have hil : i < l.length := by
        by_cases hc : i = l.length
        · exfalso
          apply hlm
          exact List.ext_getElem hlen fun j h1 h2 => hall j h1 h2 (by omega)
        · omega
      by_cases hd : l[i] = m[i]'(by omega)
      rotate_left
      · exact .inl ⟨i, hil, rfl, rfl, hd⟩
      right
      refine ⟨l.length - (i + 1), _, _, by omega, ?_, i + 1, by omega, rfl, rfl, rfl, fun j h1 h2 hj => ?_⟩
      rotate_left
      · by_cases hji : j < i
        · exact hall j h1 h2 hji
        · have : j = i := by omega
          subst this; exact hd
      have hlt : decide ((i : Int) < (l.length : Int)) = true := by simpa using by omega
      have hw1 := wr_succ_nat i (by omega)
      have t1 := at1 i hil
      have t2 := at2 i (by omega)
      have hi2 : i < m.length := by omega
      have he := eq16 l[i] m[i] (ha _ (by simp)) (hb _ (by simp))
      rw [hd, BEq.rfl] at he
      rw [hd] at t1
      simp -implicitDefEqProofs only [runEqs, List.zipIdx_cons, List.zipIdx_nil, List.map_cons, List.map_nil, Nat.zero_add, Nat.add_zero, Nat.zero_mul, Nat.reduceAdd, Nat.reduceMul, Nat.reduceBEq, Nat.reduceLT, Nat.reduceSub, Option.map_some, Option.map_none, Option.isSome_some, Option.isSome_none, Bool.not_true, Bool.not_false, Bool.true_or, Bool.false_or, Bool.or_true, List.getElem?_cons_zero, List.getElem?_cons_succ, List.set_cons_zero, List.set_cons_succ, List.length_cons, List.length_nil, List.length_append, List.append_assoc, List.cons_append, List.nil_append, List.zip_cons_cons, List.zip_nil_right, Int.reduceAdd, Int.reduceSub, Int.reduceMul, Int.reduceLT, Int.reduceLE, Int.reduceNeg, Int.reduceToNat, Int.zero_add, Int.add_zero, decide_true, decide_false, Nat.reduceLeDiff, Nat.min_self, List.drop_succ_cons, List.drop_zero, List.drop_nil, List.take_succ_cons, List.take_zero, List.take_nil, List.all_cons, List.all_nil, Bool.and_true, Bool.true_and, Nat.mul_one, List.singleton_append, Int.le_refl, Nat.le_refl, c29_0, vLen_of, hs, hn, hlt, hw1, vIS_of, hn', hil, hi2, vLdN_ptr, t1, t2, he]
      exact nxt_some _ _ _ _ _ _ _ rfl rfl)
    l.length [v, w, i64 0] H ⟨0, by omega, by omega, rfl, rfl, fun j _ _ hj => absurd hj (by omega)⟩
  have hlt : decide ((i : Int) < (l.length : Int)) = true := by simpa using by omega
  have t1 := at1 i hi
  have t2 := at2 i (by omega)
  have hi2 : i < m.length := by omega
  have he := eq16 l[i] m[i] (ha _ (by simp)) (hb _ (by simp))
  have hdb : (l[i] == m[i]) = false := by simpa using hd
  rw [hdb] at he
  simp only [List.zip_cons_cons, List.zip_nil_right] at hlp
  simp -implicitDefEqProofs only [runEqs, List.zipIdx_cons, List.zipIdx_nil, List.map_cons, List.map_nil, Nat.zero_add, Nat.add_zero, Nat.zero_mul, Nat.reduceAdd, Nat.reduceMul, Nat.reduceBEq, Nat.reduceLT, Nat.reduceSub, Option.map_some, Option.map_none, Option.isSome_some, Option.isSome_none, Bool.not_true, Bool.not_false, Bool.true_or, Bool.false_or, Bool.or_true, List.getElem?_cons_zero, List.getElem?_cons_succ, List.set_cons_zero, List.set_cons_succ, List.length_cons, List.length_nil, List.length_append, List.append_assoc, List.cons_append, List.nil_append, List.zip_cons_cons, List.zip_nil_right, Int.reduceAdd, Int.reduceSub, Int.reduceMul, Int.reduceLT, Int.reduceLE, Int.reduceNeg, Int.reduceToNat, Int.zero_add, Int.add_zero, decide_true, decide_false, Nat.reduceLeDiff, Nat.min_self, List.drop_succ_cons, List.drop_zero, List.drop_nil, List.take_succ_cons, List.take_zero, List.take_nil, List.all_cons, List.all_nil, Bool.and_true, Bool.true_and, Nat.mul_one, List.singleton_append, Int.le_refl, Nat.le_refl, c29, r29, vLen_of, hs, hs', hn, hn', hne, hlp]
  simp -implicitDefEqProofs only [runEqs, List.zipIdx_cons, List.zipIdx_nil, List.map_cons, List.map_nil, Nat.zero_add, Nat.add_zero, Nat.zero_mul, Nat.reduceAdd, Nat.reduceMul, Nat.reduceBEq, Nat.reduceLT, Nat.reduceSub, Option.map_some, Option.map_none, Option.isSome_some, Option.isSome_none, Bool.not_true, Bool.not_false, Bool.true_or, Bool.false_or, Bool.or_true, List.getElem?_cons_zero, List.getElem?_cons_succ, List.set_cons_zero, List.set_cons_succ, List.length_cons, List.length_nil, List.length_append, List.append_assoc, List.cons_append, List.nil_append, List.zip_cons_cons, List.zip_nil_right, Int.reduceAdd, Int.reduceSub, Int.reduceMul, Int.reduceLT, Int.reduceLE, Int.reduceNeg, Int.reduceToNat, Int.zero_add, Int.add_zero, decide_true, decide_false, Nat.reduceLeDiff, Nat.min_self, List.drop_succ_cons, List.drop_zero, List.drop_nil, List.take_succ_cons, List.take_zero, List.take_nil, List.all_cons, List.all_nil, Bool.and_true, Bool.true_and, Nat.mul_one, List.singleton_append, Int.le_refl, Nat.le_refl, vLen_of, hs, hn, c29_0, hlt, vIS_of, hn', hi, hi2, vLdN_ptr, t1, t2, he]

theorem node_at (path : List (List (BitVec 8))) (sd : List Bool) (h : path.length = sd.length) (j : Nat) (hj : j < sd.length) : (nodesL path sd).getD j ([], false) = (path[j]'(by omega), sd.reverse[j]'(by simpa using hj)) := by
  rw [nodesL, List.getD_eq_getElem?_getD, List.getElem?_eq_getElem (by rw [List.length_zip, List.length_reverse, h, Nat.min_self]; exact hj)]
  simp

theorem col_back (leaf other : List (BitVec 8)) (path way : List (List (BitVec 8))) (sd : List Bool) (h1 : path.length = sd.length) (h2 : way.length = sd.length) (a1 : all16 path) (a2 : all16 way)
    (hall : ∀ j, j ≤ sd.length → curK (0 :: leaf) (nodesL path sd) j ≠ curK (0 :: other) (nodesL way sd) j → digL (curK (0 :: leaf) (nodesL path sd) j) ≠ digL (curK (0 :: other) (nodesL way sd) j)) :
    ∀ j, j ≤ sd.length → curK (0 :: leaf) (nodesL path sd) j = curK (0 :: other) (nodesL way sd) j → leaf = other ∧ ∀ j' (p1 : j' < path.length) (p2 : j' < way.length), j' < j → path[j'] = way[j']
  | 0, _, he => ⟨by simpa [curK] using he, fun j' _ _ hj => absurd hj (by omega)⟩
  | j + 1, hj, he => by
    simp only [curK] at he
    rw [node_at path sd h1 j (by omega), node_at way sd h2 j (by omega), nxtB, nxtB] at he
    injection he with _ he
    have l1 := digL_len (curK (0 :: leaf) (nodesL path sd) j)
    have l2 := digL_len (curK (0 :: other) (nodesL way sd) j)
    have hp : (path[j]'(by omega)).length = 16 := a1 _ (by simp)
    have hw : (way[j]'(by omega)).length = 16 := a2 _ (by simp)
    have key : digL (curK (0 :: leaf) (nodesL path sd) j) = digL (curK (0 :: other) (nodesL way sd) j) ∧ path[j]'(by omega) = way[j]'(by omega) := by
      dsimp only at he
      split at he
      · exact List.append_inj he (by rw [l1, l2])
      · exact ⟨(List.append_inj he (by rw [hp, hw])).2, (List.append_inj he (by rw [hp, hw])).1⟩
    have hc : curK (0 :: leaf) (nodesL path sd) j = curK (0 :: other) (nodesL way sd) j := Classical.byContradiction fun hn => hall j (by omega) hn key.1
    obtain ⟨r1, r2⟩ := col_back leaf other path way sd h1 h2 a1 a2 hall j (by omega) hc
    refine ⟨r1, fun j' p1 p2 hj' => ?_⟩
    by_cases h : j' < j
    · exact r2 j' p1 p2 h
    · have : j' = j := by omega
      subst this; exact key.2

theorem len_of_E {n i : Int} {m : Nat} (h : placeE n i m = 0) : m = (sidL n.toNat i.toNat).length := by
  rw [placeE] at h
  split at h
  · cases h
  · split at h
    · cases h
    · split at h
      · cases h
      · omega
theorem above_of_E (n i : Int) (leaf : List (BitVec 8)) (path : List (List (BitVec 8))) (h : placeE n i path.length = 0) :
    aboveV n i leaf path = digL (curK (0 :: leaf) (nodesL path (sidL n.toNat i.toNat)) (sidL n.toNat i.toNat).length) := by
  have hm := len_of_E h
  rw [aboveV, if_pos h, nodesL, List.length_zip, List.length_reverse, ← hm, Nat.min_self]

theorem law11 (n i : Int) (hn0 : -9223372036854775808 ≤ n) (hn1 : n < 9223372036854775808) (hi0 : -9223372036854775808 ≤ i) (hi1 : i < 9223372036854775808) (leaf other : List (BitVec 8)) (path way : List (List (BitVec 8))) (h16 : all16 path) (k16 : all16 way)
    (h : Heap) (lv p ov q : V) (hlv : rc 1 h lv = some (cu8 leaf)) (hp : rc 16 h p = some (cdg path)) (hov : rc 1 h ov = some (cu8 other)) (hq : rc 16 h q = some (cdg way)) :
    ∃ u' h', (run T).call 11 [i64 n, i64 i, lv, p, ov, q] none h = some (.ret (.bool true), u', h') := by
  have ll : lenOf lv = leaf.length := by have := rc_len hlv; rw [cu8_len] at this; omega
  have lo : lenOf ov = other.length := by have := rc_len hov; rw [cu8_len] at this; omega
  have lp : lenOf p = path.length := by have := rc_len hp; rw [cdg_len _ h16] at this; omega
  have lq : lenOf q = way.length := by have := rc_len hq; rw [cdg_len _ k16] at this; omega
  have s1 := rc_isS hlv
  have s2 := rc_isS hov
  have s3 := rc_isS hp
  have s4 := rc_isS hq
  cases g1 : decide ((leaf.length : Int) > 1000) with
  | true =>
    refine ⟨none, ?_⟩
    rw [call_gc0 fn11]
    simp -implicitDefEqProofs only [runEqs, List.zipIdx_cons, List.zipIdx_nil, List.map_cons, List.map_nil, Nat.zero_add, Nat.add_zero, Nat.zero_mul, Nat.reduceAdd, Nat.reduceMul, Nat.reduceBEq, Nat.reduceLT, Nat.reduceSub, Option.map_some, Option.map_none, Option.isSome_some, Option.isSome_none, Bool.not_true, Bool.not_false, Bool.true_or, Bool.false_or, Bool.or_true, List.getElem?_cons_zero, List.getElem?_cons_succ, List.set_cons_zero, List.set_cons_succ, List.length_cons, List.length_nil, List.length_append, List.append_assoc, List.cons_append, List.nil_append, List.zip_cons_cons, List.zip_nil_right, Int.reduceAdd, Int.reduceSub, Int.reduceMul, Int.reduceLT, Int.reduceLE, Int.reduceNeg, Int.reduceToNat, Int.zero_add, Int.add_zero, decide_true, decide_false, Nat.reduceLeDiff, Nat.min_self, List.drop_succ_cons, List.drop_zero, List.drop_nil, List.take_succ_cons, List.take_zero, List.take_nil, List.all_cons, List.all_nil, Bool.and_true, Bool.true_and, Nat.mul_one, List.singleton_append, Int.le_refl, Nat.le_refl, c11, r11, ops_gu, vLen_of, s1, s2, s3, s4, ll, lo, lp, lq, g1, call14]
    exact ⟨_, rfl⟩
  | false =>
  cases g2 : decide ((other.length : Int) > 1000) with
  | true =>
    refine ⟨none, ?_⟩
    rw [call_gc0 fn11]
    simp -implicitDefEqProofs only [runEqs, List.zipIdx_cons, List.zipIdx_nil, List.map_cons, List.map_nil, Nat.zero_add, Nat.add_zero, Nat.zero_mul, Nat.reduceAdd, Nat.reduceMul, Nat.reduceBEq, Nat.reduceLT, Nat.reduceSub, Option.map_some, Option.map_none, Option.isSome_some, Option.isSome_none, Bool.not_true, Bool.not_false, Bool.true_or, Bool.false_or, Bool.or_true, List.getElem?_cons_zero, List.getElem?_cons_succ, List.set_cons_zero, List.set_cons_succ, List.length_cons, List.length_nil, List.length_append, List.append_assoc, List.cons_append, List.nil_append, List.zip_cons_cons, List.zip_nil_right, Int.reduceAdd, Int.reduceSub, Int.reduceMul, Int.reduceLT, Int.reduceLE, Int.reduceNeg, Int.reduceToNat, Int.zero_add, Int.add_zero, decide_true, decide_false, Nat.reduceLeDiff, Nat.min_self, List.drop_succ_cons, List.drop_zero, List.drop_nil, List.take_succ_cons, List.take_zero, List.take_nil, List.all_cons, List.all_nil, Bool.and_true, Bool.true_and, Nat.mul_one, List.singleton_append, Int.le_refl, Nat.le_refl, c11, r11, ops_gu, vLen_of, s1, s2, s3, s4, ll, lo, lp, lq, g1, g2, call14]
    exact ⟨_, rfl⟩
  | false =>
  cases g3 : decide ((path.length : Int) > 50) with
  | true =>
    refine ⟨none, ?_⟩
    rw [call_gc0 fn11]
    simp -implicitDefEqProofs only [runEqs, List.zipIdx_cons, List.zipIdx_nil, List.map_cons, List.map_nil, Nat.zero_add, Nat.add_zero, Nat.zero_mul, Nat.reduceAdd, Nat.reduceMul, Nat.reduceBEq, Nat.reduceLT, Nat.reduceSub, Option.map_some, Option.map_none, Option.isSome_some, Option.isSome_none, Bool.not_true, Bool.not_false, Bool.true_or, Bool.false_or, Bool.or_true, List.getElem?_cons_zero, List.getElem?_cons_succ, List.set_cons_zero, List.set_cons_succ, List.length_cons, List.length_nil, List.length_append, List.append_assoc, List.cons_append, List.nil_append, List.zip_cons_cons, List.zip_nil_right, Int.reduceAdd, Int.reduceSub, Int.reduceMul, Int.reduceLT, Int.reduceLE, Int.reduceNeg, Int.reduceToNat, Int.zero_add, Int.add_zero, decide_true, decide_false, Nat.reduceLeDiff, Nat.min_self, List.drop_succ_cons, List.drop_zero, List.drop_nil, List.take_succ_cons, List.take_zero, List.take_nil, List.all_cons, List.all_nil, Bool.and_true, Bool.true_and, Nat.mul_one, List.singleton_append, Int.le_refl, Nat.le_refl, c11, r11, ops_gu, vLen_of, s1, s2, s3, s4, ll, lo, lp, lq, g1, g2, g3, call14]
    exact ⟨_, rfl⟩
  | false =>
  cases g4 : decide ((way.length : Int) > 50) with
  | true =>
    refine ⟨none, ?_⟩
    rw [call_gc0 fn11]
    simp -implicitDefEqProofs only [runEqs, List.zipIdx_cons, List.zipIdx_nil, List.map_cons, List.map_nil, Nat.zero_add, Nat.add_zero, Nat.zero_mul, Nat.reduceAdd, Nat.reduceMul, Nat.reduceBEq, Nat.reduceLT, Nat.reduceSub, Option.map_some, Option.map_none, Option.isSome_some, Option.isSome_none, Bool.not_true, Bool.not_false, Bool.true_or, Bool.false_or, Bool.or_true, List.getElem?_cons_zero, List.getElem?_cons_succ, List.set_cons_zero, List.set_cons_succ, List.length_cons, List.length_nil, List.length_append, List.append_assoc, List.cons_append, List.nil_append, List.zip_cons_cons, List.zip_nil_right, Int.reduceAdd, Int.reduceSub, Int.reduceMul, Int.reduceLT, Int.reduceLE, Int.reduceNeg, Int.reduceToNat, Int.zero_add, Int.add_zero, decide_true, decide_false, Nat.reduceLeDiff, Nat.min_self, List.drop_succ_cons, List.drop_zero, List.drop_nil, List.take_succ_cons, List.take_zero, List.take_nil, List.all_cons, List.all_nil, Bool.and_true, Bool.true_and, Nat.mul_one, List.singleton_append, Int.le_refl, Nat.le_refl, c11, r11, ops_gu, vLen_of, s1, s2, s3, s4, ll, lo, lp, lq, g1, g2, g3, g4, call14]
    exact ⟨_, rfl⟩
  | false =>
  have q1 : ¬ ((leaf.length : Int) > 1000) := of_decide_eq_false g1
  have q2 : ¬ ((other.length : Int) > 1000) := of_decide_eq_false g2
  have q3 : ¬ ((path.length : Int) > 50) := of_decide_eq_false g3
  have q4 : ¬ ((way.length : Int) > 50) := of_decide_eq_false g4
  have e1 := call30 n i leaf (by omega) path h16 (by omega) h lv p hlv hp
  have a1 := aboveV_len n i leaf path
  have a2 := aboveV_len n i other way
  obtain ⟨D1, hD1⟩ : ∃ B, B = Blk.cells .ex (cu8 (aboveV n i leaf path)) := ⟨_, rfl⟩
  obtain ⟨D2, hD2⟩ : ∃ B, B = Blk.cells .ex (cu8 (aboveV n i other way)) := ⟨_, rfl⟩
  have e2 := call30 n i other (by omega) way k16 (by omega) (h ++ [D1]) ov q (rc_app hov _) (rc_app hq _)
  obtain ⟨x, y, e, g, e3, c1, c2, c3⟩ := call42 n i leaf other (by omega) (by omega) path way h16 k16 (by omega) (by omega) (h ++ [D1, D2]) lv p ov q (rc_app hlv _) (rc_app hp _) (rc_app hov _) (rc_app hq _)
  have d1 := len16 _ a1
  have d2 := take16 _ a1
  have d3 := len16 _ a2
  have d4 := take16 _ a2
  have heq := eq16 _ _ a1 a2
  have ne0 : ((0 : Int) != 0) = false := rfl
  have eq0 : ((0 : Int) == 0) = true := rfl
  have t1 := vStr_rc (rc_app (rc_app hlv [D1, D2]) g)
  have t2 := vStr_rc (rc_app (rc_app hov [D1, D2]) g)
  have e29 := call29g path way h16 k16 (by omega) (by omega) (h ++ [D1, D2] ++ g) p q (rc_app (rc_app hp _) _) (rc_app (rc_app hq _) _)
  simp only [List.append_assoc, List.cons_append, List.nil_append] at e3 t1 t2 e29
  refine ⟨none, ?_⟩
  rw [call_gc0 fn11]
  by_cases hE1 : placeE n i path.length = 0
  rotate_left
  · have hc := c1 hE1
    subst hc
    subst hD1 hD2
    have b1 : (placeE n i path.length == 0) = false := by simpa using hE1
    have b2 : (placeE n i path.length != 0) = true := by simpa using hE1
    generalize placeE n i path.length = E at *
    simp -implicitDefEqProofs only [runEqs, List.zipIdx_cons, List.zipIdx_nil, List.map_cons, List.map_nil, Nat.zero_add, Nat.add_zero, Nat.zero_mul, Nat.reduceAdd, Nat.reduceMul, Nat.reduceBEq, Nat.reduceLT, Nat.reduceSub, Option.map_some, Option.map_none, Option.isSome_some, Option.isSome_none, Bool.not_true, Bool.not_false, Bool.true_or, Bool.false_or, Bool.or_true, List.getElem?_cons_zero, List.getElem?_cons_succ, List.set_cons_zero, List.set_cons_succ, List.length_cons, List.length_nil, List.length_append, List.append_assoc, List.cons_append, List.nil_append, List.zip_cons_cons, List.zip_nil_right, Int.reduceAdd, Int.reduceSub, Int.reduceMul, Int.reduceLT, Int.reduceLE, Int.reduceNeg, Int.reduceToNat, Int.zero_add, Int.add_zero, decide_true, decide_false, Nat.reduceLeDiff, Nat.min_self, List.drop_succ_cons, List.drop_zero, List.drop_nil, List.take_succ_cons, List.take_zero, List.take_nil, List.all_cons, List.all_nil, Bool.and_true, Bool.true_and, Nat.mul_one, List.singleton_append, Int.le_refl, Nat.le_refl, c11, r11, ops_gu, vLen_of, s1, s2, s3, s4, ll, lo, lp, lq, g1, g2, g3, g4, e1, d1, d2, d3, d4, List.length_replicate, cu8_one, e2, e3, b1, b2, call14]
    exact ⟨_, rfl⟩
  by_cases hE2 : placeE n i way.length = 0
  rotate_left
  · have hc := c2 hE1 hE2
    subst hc
    subst hD1 hD2
    rw [hE1] at e1
    have b1 : (placeE n i way.length == 0) = false := by simpa using hE2
    have b2 : (placeE n i way.length != 0) = true := by simpa using hE2
    generalize placeE n i way.length = E at *
    simp -implicitDefEqProofs only [runEqs, List.zipIdx_cons, List.zipIdx_nil, List.map_cons, List.map_nil, Nat.zero_add, Nat.add_zero, Nat.zero_mul, Nat.reduceAdd, Nat.reduceMul, Nat.reduceBEq, Nat.reduceLT, Nat.reduceSub, Option.map_some, Option.map_none, Option.isSome_some, Option.isSome_none, Bool.not_true, Bool.not_false, Bool.true_or, Bool.false_or, Bool.or_true, List.getElem?_cons_zero, List.getElem?_cons_succ, List.set_cons_zero, List.set_cons_succ, List.length_cons, List.length_nil, List.length_append, List.append_assoc, List.cons_append, List.nil_append, List.zip_cons_cons, List.zip_nil_right, Int.reduceAdd, Int.reduceSub, Int.reduceMul, Int.reduceLT, Int.reduceLE, Int.reduceNeg, Int.reduceToNat, Int.zero_add, Int.add_zero, decide_true, decide_false, Nat.reduceLeDiff, Nat.min_self, List.drop_succ_cons, List.drop_zero, List.drop_nil, List.take_succ_cons, List.take_zero, List.take_nil, List.all_cons, List.all_nil, Bool.and_true, Bool.true_and, Nat.mul_one, List.singleton_append, Int.le_refl, Nat.le_refl, c11, r11, ops_gu, vLen_of, s1, s2, s3, s4, ll, lo, lp, lq, g1, g2, g3, g4, e1, d1, d2, d3, d4, List.length_replicate, cu8_one, e2, e3, b1, b2, ne0, call14]
    exact ⟨_, rfl⟩
  rw [hE1] at e1
  rw [hE2] at e2
  have hA := above_of_E n i leaf path hE1
  have hB := above_of_E n i other way hE2
  rcases c3 hE1 hE2 with ⟨he, hall⟩ | ⟨he, hdf, lx, ly, rx, ry, hxy, hdg, bx, by'⟩
  · subst he
    have hback : ¬ (leaf = other ∧ path = way) → aboveV n i leaf path ≠ aboveV n i other way := fun hd hab => by
      rw [hA, hB] at hab
      have hm1 := len_of_E hE1
      have hm2 := len_of_E hE2
      have hc : curK (0 :: leaf) (nodesL path (sidL n.toNat i.toNat)) (sidL n.toNat i.toNat).length = curK (0 :: other) (nodesL way (sidL n.toNat i.toNat)) (sidL n.toNat i.toNat).length :=
        Classical.byContradiction fun hn => hall _ (Nat.le_refl _) hn hab
      obtain ⟨r1, r2⟩ := col_back leaf other path way _ hm1 hm2 h16 k16 hall _ (Nat.le_refl _) hc
      exact hd ⟨r1, List.ext_getElem (by omega) fun j p1 p2 => r2 j p1 p2 (by omega)⟩
    have three : ((3 : Int) == 0) = false := rfl
    have three' : ((3 : Int) == 3) = true := rfl
    clear hA hB hall
    by_cases hl : leaf = other
    · have hlb : (leaf == other) = true := by simpa using hl
      by_cases hpw : path = way
      · have hpb : (path == way) = true := by simpa using hpw
        rw [hpb] at e29
        generalize aboveV n i leaf path = A at *
        generalize aboveV n i other way = B at *
        subst hD1 hD2
        cases hab : (A == B) with
        | true =>
          rw [hab] at heq
          simp -implicitDefEqProofs only [runEqs, List.zipIdx_cons, List.zipIdx_nil, List.map_cons, List.map_nil, Nat.zero_add, Nat.add_zero, Nat.zero_mul, Nat.reduceAdd, Nat.reduceMul, Nat.reduceBEq, Nat.reduceLT, Nat.reduceSub, Option.map_some, Option.map_none, Option.isSome_some, Option.isSome_none, Bool.not_true, Bool.not_false, Bool.true_or, Bool.false_or, Bool.or_true, List.getElem?_cons_zero, List.getElem?_cons_succ, List.set_cons_zero, List.set_cons_succ, List.length_cons, List.length_nil, List.length_append, List.append_assoc, List.cons_append, List.nil_append, List.zip_cons_cons, List.zip_nil_right, Int.reduceAdd, Int.reduceSub, Int.reduceMul, Int.reduceLT, Int.reduceLE, Int.reduceNeg, Int.reduceToNat, Int.zero_add, Int.add_zero, decide_true, decide_false, Nat.reduceLeDiff, Nat.min_self, List.drop_succ_cons, List.drop_zero, List.drop_nil, List.take_succ_cons, List.take_zero, List.take_nil, List.all_cons, List.all_nil, Bool.and_true, Bool.true_and, Nat.mul_one, List.singleton_append, Int.le_refl, Nat.le_refl, c11, r11, ops_gu, vLen_of, s1, s2, s3, s4, ll, lo, lp, lq, g1, g2, g3, g4, e1, d1, d2, d3, d4, List.length_replicate, cu8_one, e2, e3, three, three', ne0, t1, t2, neq_str, str_beq, hlb, e29, not_bool, heq, call14]
          exact ⟨_, rfl⟩
        | false =>
          rw [hab] at heq
          simp -implicitDefEqProofs only [runEqs, List.zipIdx_cons, List.zipIdx_nil, List.map_cons, List.map_nil, Nat.zero_add, Nat.add_zero, Nat.zero_mul, Nat.reduceAdd, Nat.reduceMul, Nat.reduceBEq, Nat.reduceLT, Nat.reduceSub, Option.map_some, Option.map_none, Option.isSome_some, Option.isSome_none, Bool.not_true, Bool.not_false, Bool.true_or, Bool.false_or, Bool.or_true, List.getElem?_cons_zero, List.getElem?_cons_succ, List.set_cons_zero, List.set_cons_succ, List.length_cons, List.length_nil, List.length_append, List.append_assoc, List.cons_append, List.nil_append, List.zip_cons_cons, List.zip_nil_right, Int.reduceAdd, Int.reduceSub, Int.reduceMul, Int.reduceLT, Int.reduceLE, Int.reduceNeg, Int.reduceToNat, Int.zero_add, Int.add_zero, decide_true, decide_false, Nat.reduceLeDiff, Nat.min_self, List.drop_succ_cons, List.drop_zero, List.drop_nil, List.take_succ_cons, List.take_zero, List.take_nil, List.all_cons, List.all_nil, Bool.and_true, Bool.true_and, Nat.mul_one, List.singleton_append, Int.le_refl, Nat.le_refl, c11, r11, ops_gu, vLen_of, s1, s2, s3, s4, ll, lo, lp, lq, g1, g2, g3, g4, e1, d1, d2, d3, d4, List.length_replicate, cu8_one, e2, e3, three, three', ne0, t1, t2, neq_str, str_beq, hlb, e29, not_bool, heq, call14]
          exact ⟨_, rfl⟩
      · have hpb : (path == way) = false := by simpa using hpw
        have hab : (aboveV n i leaf path == aboveV n i other way) = false := by simpa using hback fun hh => hpw hh.2
        rw [hpb] at e29
        rw [hab] at heq
        generalize aboveV n i leaf path = A at *
        generalize aboveV n i other way = B at *
        subst hD1 hD2
        simp -implicitDefEqProofs only [runEqs, List.zipIdx_cons, List.zipIdx_nil, List.map_cons, List.map_nil, Nat.zero_add, Nat.add_zero, Nat.zero_mul, Nat.reduceAdd, Nat.reduceMul, Nat.reduceBEq, Nat.reduceLT, Nat.reduceSub, Option.map_some, Option.map_none, Option.isSome_some, Option.isSome_none, Bool.not_true, Bool.not_false, Bool.true_or, Bool.false_or, Bool.or_true, List.getElem?_cons_zero, List.getElem?_cons_succ, List.set_cons_zero, List.set_cons_succ, List.length_cons, List.length_nil, List.length_append, List.append_assoc, List.cons_append, List.nil_append, List.zip_cons_cons, List.zip_nil_right, Int.reduceAdd, Int.reduceSub, Int.reduceMul, Int.reduceLT, Int.reduceLE, Int.reduceNeg, Int.reduceToNat, Int.zero_add, Int.add_zero, decide_true, decide_false, Nat.reduceLeDiff, Nat.min_self, List.drop_succ_cons, List.drop_zero, List.drop_nil, List.take_succ_cons, List.take_zero, List.take_nil, List.all_cons, List.all_nil, Bool.and_true, Bool.true_and, Nat.mul_one, List.singleton_append, Int.le_refl, Nat.le_refl, c11, r11, ops_gu, vLen_of, s1, s2, s3, s4, ll, lo, lp, lq, g1, g2, g3, g4, e1, d1, d2, d3, d4, List.length_replicate, cu8_one, e2, e3, three, three', ne0, t1, t2, neq_str, str_beq, hlb, e29, not_bool, heq, call14]
        exact ⟨_, rfl⟩
    · have hlb : (leaf == other) = false := by simpa using hl
      have hab : (aboveV n i leaf path == aboveV n i other way) = false := by simpa using hback fun hh => hl hh.1
      rw [hab] at heq
      generalize aboveV n i leaf path = A at *
      generalize aboveV n i other way = B at *
      subst hD1 hD2
      simp -implicitDefEqProofs only [runEqs, List.zipIdx_cons, List.zipIdx_nil, List.map_cons, List.map_nil, Nat.zero_add, Nat.add_zero, Nat.zero_mul, Nat.reduceAdd, Nat.reduceMul, Nat.reduceBEq, Nat.reduceLT, Nat.reduceSub, Option.map_some, Option.map_none, Option.isSome_some, Option.isSome_none, Bool.not_true, Bool.not_false, Bool.true_or, Bool.false_or, Bool.or_true, List.getElem?_cons_zero, List.getElem?_cons_succ, List.set_cons_zero, List.set_cons_succ, List.length_cons, List.length_nil, List.length_append, List.append_assoc, List.cons_append, List.nil_append, List.zip_cons_cons, List.zip_nil_right, Int.reduceAdd, Int.reduceSub, Int.reduceMul, Int.reduceLT, Int.reduceLE, Int.reduceNeg, Int.reduceToNat, Int.zero_add, Int.add_zero, decide_true, decide_false, Nat.reduceLeDiff, Nat.min_self, List.drop_succ_cons, List.drop_zero, List.drop_nil, List.take_succ_cons, List.take_zero, List.take_nil, List.all_cons, List.all_nil, Bool.and_true, Bool.true_and, Nat.mul_one, List.singleton_append, Int.le_refl, Nat.le_refl, c11, r11, ops_gu, vLen_of, s1, s2, s3, s4, ll, lo, lp, lq, g1, g2, g3, g4, e1, d1, d2, d3, d4, List.length_replicate, cu8_one, e2, e3, three, three', ne0, t1, t2, neq_str, str_beq, hlb, not_bool, heq, call14]
      exact ⟨_, rfl⟩
  · subst he
    have x1 := vStr_rc rx
    have x2 := vStr_rc ry
    have xb : (lx == ly) = false := by simpa using hxy
    have f1 := call39 lx bx _ x rx
    have f2 := call39 ly by' _ y ry
    have hdl := digL_len ly
    have hde := eq16 _ _ hdl hdl
    rw [beq_self_eq_true] at hde
    rw [hdg] at f1
    simp only [List.append_assoc, List.cons_append, List.nil_append] at x1 x2 f1 f2
    have three' : ((0 : Int) == 3) = false := rfl
    clear hA hB
    generalize aboveV n i leaf path = A at *
    generalize aboveV n i other way = B at *
    subst hD1 hD2
    by_cases hl : leaf = other
    · have hlb : (leaf == other) = true := by simpa using hl
      have hpb : (path == way) = false := by
        have : ¬ path = way := fun hp => hdf ⟨hl, hp⟩
        simpa using this
      rw [hpb] at e29
      cases hab : (A == B) with
      | true =>
        rw [hab] at heq
        simp -implicitDefEqProofs only [runEqs, List.zipIdx_cons, List.zipIdx_nil, List.map_cons, List.map_nil, Nat.zero_add, Nat.add_zero, Nat.zero_mul, Nat.reduceAdd, Nat.reduceMul, Nat.reduceBEq, Nat.reduceLT, Nat.reduceSub, Option.map_some, Option.map_none, Option.isSome_some, Option.isSome_none, Bool.not_true, Bool.not_false, Bool.true_or, Bool.false_or, Bool.or_true, List.getElem?_cons_zero, List.getElem?_cons_succ, List.set_cons_zero, List.set_cons_succ, List.length_cons, List.length_nil, List.length_append, List.append_assoc, List.cons_append, List.nil_append, List.zip_cons_cons, List.zip_nil_right, Int.reduceAdd, Int.reduceSub, Int.reduceMul, Int.reduceLT, Int.reduceLE, Int.reduceNeg, Int.reduceToNat, Int.zero_add, Int.add_zero, decide_true, decide_false, Nat.reduceLeDiff, Nat.min_self, List.drop_succ_cons, List.drop_zero, List.drop_nil, List.take_succ_cons, List.take_zero, List.take_nil, List.all_cons, List.all_nil, Bool.and_true, Bool.true_and, Nat.mul_one, List.singleton_append, Int.le_refl, Nat.le_refl, c11, r11, ops_gu, vLen_of, s1, s2, s3, s4, ll, lo, lp, lq, g1, g2, g3, g4, e1, d1, d2, d3, d4, List.length_replicate, cu8_one, e2, e3, eq0, x1, x2, eql_str, str_beq, xb, f1, f2, hde, three', ne0, t1, t2, neq_str, hlb, e29, not_bool, heq, call14]
        exact ⟨_, rfl⟩
      | false =>
        rw [hab] at heq
        simp -implicitDefEqProofs only [runEqs, List.zipIdx_cons, List.zipIdx_nil, List.map_cons, List.map_nil, Nat.zero_add, Nat.add_zero, Nat.zero_mul, Nat.reduceAdd, Nat.reduceMul, Nat.reduceBEq, Nat.reduceLT, Nat.reduceSub, Option.map_some, Option.map_none, Option.isSome_some, Option.isSome_none, Bool.not_true, Bool.not_false, Bool.true_or, Bool.false_or, Bool.or_true, List.getElem?_cons_zero, List.getElem?_cons_succ, List.set_cons_zero, List.set_cons_succ, List.length_cons, List.length_nil, List.length_append, List.append_assoc, List.cons_append, List.nil_append, List.zip_cons_cons, List.zip_nil_right, Int.reduceAdd, Int.reduceSub, Int.reduceMul, Int.reduceLT, Int.reduceLE, Int.reduceNeg, Int.reduceToNat, Int.zero_add, Int.add_zero, decide_true, decide_false, Nat.reduceLeDiff, Nat.min_self, List.drop_succ_cons, List.drop_zero, List.drop_nil, List.take_succ_cons, List.take_zero, List.take_nil, List.all_cons, List.all_nil, Bool.and_true, Bool.true_and, Nat.mul_one, List.singleton_append, Int.le_refl, Nat.le_refl, c11, r11, ops_gu, vLen_of, s1, s2, s3, s4, ll, lo, lp, lq, g1, g2, g3, g4, e1, d1, d2, d3, d4, List.length_replicate, cu8_one, e2, e3, eq0, x1, x2, eql_str, str_beq, xb, f1, f2, hde, three', ne0, t1, t2, neq_str, hlb, e29, not_bool, heq, call14]
        exact ⟨_, rfl⟩
    · have hlb : (leaf == other) = false := by simpa using hl
      cases hab : (A == B) with
      | true =>
        rw [hab] at heq
        simp -implicitDefEqProofs only [runEqs, List.zipIdx_cons, List.zipIdx_nil, List.map_cons, List.map_nil, Nat.zero_add, Nat.add_zero, Nat.zero_mul, Nat.reduceAdd, Nat.reduceMul, Nat.reduceBEq, Nat.reduceLT, Nat.reduceSub, Option.map_some, Option.map_none, Option.isSome_some, Option.isSome_none, Bool.not_true, Bool.not_false, Bool.true_or, Bool.false_or, Bool.or_true, List.getElem?_cons_zero, List.getElem?_cons_succ, List.set_cons_zero, List.set_cons_succ, List.length_cons, List.length_nil, List.length_append, List.append_assoc, List.cons_append, List.nil_append, List.zip_cons_cons, List.zip_nil_right, Int.reduceAdd, Int.reduceSub, Int.reduceMul, Int.reduceLT, Int.reduceLE, Int.reduceNeg, Int.reduceToNat, Int.zero_add, Int.add_zero, decide_true, decide_false, Nat.reduceLeDiff, Nat.min_self, List.drop_succ_cons, List.drop_zero, List.drop_nil, List.take_succ_cons, List.take_zero, List.take_nil, List.all_cons, List.all_nil, Bool.and_true, Bool.true_and, Nat.mul_one, List.singleton_append, Int.le_refl, Nat.le_refl, c11, r11, ops_gu, vLen_of, s1, s2, s3, s4, ll, lo, lp, lq, g1, g2, g3, g4, e1, d1, d2, d3, d4, List.length_replicate, cu8_one, e2, e3, eq0, x1, x2, eql_str, str_beq, xb, f1, f2, hde, three', ne0, t1, t2, neq_str, hlb, not_bool, heq, call14]
        exact ⟨_, rfl⟩
      | false =>
        rw [hab] at heq
        simp -implicitDefEqProofs only [runEqs, List.zipIdx_cons, List.zipIdx_nil, List.map_cons, List.map_nil, Nat.zero_add, Nat.add_zero, Nat.zero_mul, Nat.reduceAdd, Nat.reduceMul, Nat.reduceBEq, Nat.reduceLT, Nat.reduceSub, Option.map_some, Option.map_none, Option.isSome_some, Option.isSome_none, Bool.not_true, Bool.not_false, Bool.true_or, Bool.false_or, Bool.or_true, List.getElem?_cons_zero, List.getElem?_cons_succ, List.set_cons_zero, List.set_cons_succ, List.length_cons, List.length_nil, List.length_append, List.append_assoc, List.cons_append, List.nil_append, List.zip_cons_cons, List.zip_nil_right, Int.reduceAdd, Int.reduceSub, Int.reduceMul, Int.reduceLT, Int.reduceLE, Int.reduceNeg, Int.reduceToNat, Int.zero_add, Int.add_zero, decide_true, decide_false, Nat.reduceLeDiff, Nat.min_self, List.drop_succ_cons, List.drop_zero, List.drop_nil, List.take_succ_cons, List.take_zero, List.take_nil, List.all_cons, List.all_nil, Bool.and_true, Bool.true_and, Nat.mul_one, List.singleton_append, Int.le_refl, Nat.le_refl, c11, r11, ops_gu, vLen_of, s1, s2, s3, s4, ll, lo, lp, lq, g1, g2, g3, g4, e1, d1, d2, d3, d4, List.length_replicate, cu8_one, e2, e3, eq0, x1, x2, eql_str, str_beq, xb, f1, f2, hde, three', ne0, t1, t2, neq_str, hlb, not_bool, heq, call14]
        exact ⟨_, rfl⟩
end Go.Proofs.Ytccepmhhilhajaa.K

