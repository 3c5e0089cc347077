/- Texts of this claim, put together (KJoin, KJoin2, KBurst, KJoin3, KLaw13): lemmas towards the statement; no conditions of their own. -/
import Derived.Test.YtccepmhhilhajaaLb5
/- Join: what its functions compute. -/
set_option linter.unusedVariables false
set_option linter.unusedSimpArgs false
set_option maxRecDepth 100000
namespace Go.Proofs.Ytccepmhhilhajaa.K
open Go Go.A

def ofK (m : List (BitVec 32)) (x : BitVec 32) : Nat → BitVec 32
  | 0 => 0
  | k + 1 => if (x >>> k &&& 1 == 1) = true then ofK m x k ^^^ m.getD k 0 else ofK m x k
def ofM (m : List (BitVec 32)) (x : BitVec 32) : BitVec 32 := ofK m x 32
def sqM (m : List (BitVec 32)) : List (BitVec 32) := m.map (ofM m)
def m0 : List (BitVec 32) := (List.range 32).map fun i => stp (1 <<< i) 0

theorem u32_at (m : List (BitVec 32)) (i : Nat) (h : i < m.length) : (cu32 m)[i]? = some (u32 (m.getD i 0)) := by
  rw [cu32_at m i h]; simp [h]
theorem cu32_set (l : List (BitVec 32)) (o : Nat) (b : BitVec 32) : (cu32 l).set o (u32 b) = cu32 (l.set o b) := by simp [cu32, List.map_set]

theorem round60 (m : List (BitVec 32)) (hm : m.length = 32) (x : BitVec 32) (b : Nat) (H : Heap) (hb : cellsAt H b = some (cu32 m)) (i : Nat) (hi : i < 32) :
    Nxt (execC (run T) c60_0 ⟨[0, 1, 5, 7].zip [.ptr b 0, u32 x, u32 (ofK m x i), i64 i], [], some none⟩ H) [0, 1, 5, 7] [.ptr b 0, u32 x, u32 (ofK m x (i + 1)), i64 ((i + 1 : Nat) : Int)] [] (some none) H := by
  have hlt : decide ((i : Int) < 32) = true := by simpa using by omega
  have hw := wr_succ_nat i (by omega)
  have h0 : (0 : Int) ≤ (i : Int) := by omega
  have ht : ((i : Int)).toNat = i := by omega
  have hat := u32_at m i (by omega)
  rw [ofK]
  cases hx : (x >>> i &&& 1 == 1) with
  | true =>
    rw [if_pos rfl]
    simp -implicitDefEqProofs only [runEqs, List.zipIdx_cons, List.zipIdx_nil, List.map_cons, List.map_nil, Nat.zero_add, Nat.add_zero, Nat.zero_mul, Nat.reduceAdd, Nat.reduceMul, Nat.reduceBEq, Nat.reduceLT, Nat.reduceSub, Option.map_some, Option.map_none, Option.isSome_some, Option.isSome_none, Bool.not_true, Bool.not_false, Bool.true_or, Bool.false_or, Bool.or_true, List.getElem?_cons_zero, List.getElem?_cons_succ, List.set_cons_zero, List.set_cons_succ, List.length_cons, List.length_nil, List.length_append, List.append_assoc, List.cons_append, List.nil_append, List.zip_cons_cons, List.zip_nil_right, Int.reduceAdd, Int.reduceSub, Int.reduceMul, Int.reduceLT, Int.reduceLE, Int.reduceNeg, Int.reduceToNat, Int.zero_add, Int.add_zero, decide_true, decide_false, Nat.reduceLeDiff, Nat.min_self, List.drop_succ_cons, List.drop_zero, List.drop_nil, List.take_succ_cons, List.take_zero, List.take_nil, List.all_cons, List.all_nil, Bool.and_true, Bool.true_and, Nat.mul_one, List.singleton_append, Int.le_refl, Nat.le_refl, c60_0, hlt, hw, shr_u32_i64, h0, ht, and_u32, eql_u32, hx, hb, hi, hat, xor_u32]
    exact nxt_some _ _ _ _ _ _ _ rfl rfl
  | false =>
    rw [if_neg (by decide)]
    simp -implicitDefEqProofs only [runEqs, List.zipIdx_cons, List.zipIdx_nil, List.map_cons, List.map_nil, Nat.zero_add, Nat.add_zero, Nat.zero_mul, Nat.reduceAdd, Nat.reduceMul, Nat.reduceBEq, Nat.reduceLT, Nat.reduceSub, Option.map_some, Option.map_none, Option.isSome_some, Option.isSome_none, Bool.not_true, Bool.not_false, Bool.true_or, Bool.false_or, Bool.or_true, List.getElem?_cons_zero, List.getElem?_cons_succ, List.set_cons_zero, List.set_cons_succ, List.length_cons, List.length_nil, List.length_append, List.append_assoc, List.cons_append, List.nil_append, List.zip_cons_cons, List.zip_nil_right, Int.reduceAdd, Int.reduceSub, Int.reduceMul, Int.reduceLT, Int.reduceLE, Int.reduceNeg, Int.reduceToNat, Int.zero_add, Int.add_zero, decide_true, decide_false, Nat.reduceLeDiff, Nat.min_self, List.drop_succ_cons, List.drop_zero, List.drop_nil, List.take_succ_cons, List.take_zero, List.take_nil, List.all_cons, List.all_nil, Bool.and_true, Bool.true_and, Nat.mul_one, List.singleton_append, Int.le_refl, Nat.le_refl, c60_0, hlt, hw, shr_u32_i64, h0, ht, and_u32, eql_u32, hx]
    exact nxt_some _ _ _ _ _ _ _ rfl rfl

theorem call60 (m : List (BitVec 32)) (hm : m.length = 32) (x : BitVec 32) (b : Nat) (H : Heap) (hb : cellsAt H b = some (cu32 m)) : (run T).call 60 [.ptr b 0, u32 x] none H = some (.ret (u32 (ofM m x)), none, H) := by
  have hlp : ∀ t, kK [0, 1, 5, 7] t = [(0, .ptr b 0), (1, u32 x), (5, u32 0), (7, i64 0)] → execC (run T) (.loop (.seq (.keep [0, 1, 5, 7]) c60_0)) ⟨t, [], some none⟩ H =
      kLp T (execC (run T) c60_0 ⟨[(0, .ptr b 0), (1, u32 x), (5, u32 (ofM m x)), (7, i64 32)], [], some none⟩ H) (.seq (.keep [0, 1, 5, 7]) c60_0) :=
    loop_to2 (T := T) (L := [0, 1, 5, 7]) (c := c60_0) (d := []) (u := some none) (fun i => [.ptr b 0, u32 x, u32 (ofK m x i), i64 i]) (fun _ => H) 32 (fun i hi => round60 m hm x b H hb i hi) rfl rfl rfl rfl
  have hf : decide ((32 : Int) < 32) = false := rfl
  rw [call_gc0 fn60]
  generalize ofM m x = z at *
  simp -implicitDefEqProofs only [runEqs, List.zipIdx_cons, List.zipIdx_nil, List.map_cons, List.map_nil, Nat.zero_add, Nat.add_zero, Nat.zero_mul, Nat.reduceAdd, Nat.reduceMul, Nat.reduceBEq, Nat.reduceLT, Nat.reduceSub, Option.map_some, Option.map_none, Option.isSome_some, Option.isSome_none, Bool.not_true, Bool.not_false, Bool.true_or, Bool.false_or, Bool.or_true, List.getElem?_cons_zero, List.getElem?_cons_succ, List.set_cons_zero, List.set_cons_succ, List.length_cons, List.length_nil, List.length_append, List.append_assoc, List.cons_append, List.nil_append, List.zip_cons_cons, List.zip_nil_right, Int.reduceAdd, Int.reduceSub, Int.reduceMul, Int.reduceLT, Int.reduceLE, Int.reduceNeg, Int.reduceToNat, Int.zero_add, Int.add_zero, decide_true, decide_false, Nat.reduceLeDiff, Nat.min_self, List.drop_succ_cons, List.drop_zero, List.drop_nil, List.take_succ_cons, List.take_zero, List.take_nil, List.all_cons, List.all_nil, Bool.and_true, Bool.true_and, Nat.mul_one, List.singleton_append, Int.le_refl, Nat.le_refl, c60, r60, hlp]
  simp -implicitDefEqProofs only [runEqs, List.zipIdx_cons, List.zipIdx_nil, List.map_cons, List.map_nil, Nat.zero_add, Nat.add_zero, Nat.zero_mul, Nat.reduceAdd, Nat.reduceMul, Nat.reduceBEq, Nat.reduceLT, Nat.reduceSub, Option.map_some, Option.map_none, Option.isSome_some, Option.isSome_none, Bool.not_true, Bool.not_false, Bool.true_or, Bool.false_or, Bool.or_true, List.getElem?_cons_zero, List.getElem?_cons_succ, List.set_cons_zero, List.set_cons_succ, List.length_cons, List.length_nil, List.length_append, List.append_assoc, List.cons_append, List.nil_append, List.zip_cons_cons, List.zip_nil_right, Int.reduceAdd, Int.reduceSub, Int.reduceMul, Int.reduceLT, Int.reduceLE, Int.reduceNeg, Int.reduceToNat, Int.zero_add, Int.add_zero, decide_true, decide_false, Nat.reduceLeDiff, Nat.min_self, List.drop_succ_cons, List.drop_zero, List.drop_nil, List.take_succ_cons, List.take_zero, List.take_nil, List.all_cons, List.all_nil, Bool.and_true, Bool.true_and, Nat.mul_one, List.singleton_append, Int.le_refl, Nat.le_refl, c60_0, hf]

/-- The square, as far as it is done. -/
def sqK (m : List (BitVec 32)) : Nat → List (BitVec 32)
  | 0 => List.replicate 32 0
  | k + 1 => (sqK m k).set k (ofM m (m.getD k 0))
theorem sqK_len (m : List (BitVec 32)) : ∀ k, (sqK m k).length = 32
  | 0 => by simp [sqK]
  | k + 1 => by rw [sqK, List.length_set, sqK_len m k]
theorem sqK_at (m : List (BitVec 32)) : ∀ k i, i < k → k ≤ 32 → (sqK m k)[i]? = some (ofM m (m.getD i 0))
  | k + 1, i, h, hk => by
    rw [sqK]
    by_cases e : i = k
    · subst e; rw [List.getElem?_set_self (by rw [sqK_len]; omega)]
    · rw [List.getElem?_set_ne (by omega), sqK_at m k i (by omega) (by omega)]
theorem sqK_end (m : List (BitVec 32)) (hm : m.length = 32) : sqK m 32 = sqM m := by
  apply List.ext_getElem?
  intro i
  by_cases hi : i < 32
  · rw [sqK_at m 32 i hi (by omega), sqM, List.getElem?_map, List.getElem?_eq_getElem (by omega)]
    simp [hm, hi]
  · rw [List.getElem?_eq_none (by rw [sqK_len]; omega), List.getElem?_eq_none (by rw [sqM, List.length_map]; omega)]

theorem call61 (m : List (BitVec 32)) (hm : m.length = 32) (b : Nat) (H : Heap) (hb : cellsAt H b = some (cu32 m)) : ∃ g, (run T).call 61 [.ptr b 0] none H = some (.ret (.agg (cu32 (sqM m))), none, H ++ g) := by
  have hlt0 := cellsAt_lt hb
  have hz : cu32 (List.replicate 32 0) = List.replicate 32 (u32 0) := by simp [cu32]
  have hlp : ∀ t, kK [0, 2, 3, 5] t = [(0, .ptr b 0), (2, .ptr H.length 0), (3, .ptr (H.length + 1) 0), (5, i64 0)] → execC (run T) (.loop (.seq (.keep [0, 2, 3, 5]) c61_0)) ⟨t, [], some none⟩ (H ++ [.cells .ex (List.replicate 32 (u32 0)), .cells .ex (List.replicate 32 (u32 0))]) =
      kLp T (execC (run T) c61_0 ⟨[(0, .ptr b 0), (2, .ptr H.length 0), (3, .ptr (H.length + 1) 0), (5, i64 32)], [], some none⟩ (H ++ [.cells .ex (List.replicate 32 (u32 0)), .cells .ex (cu32 (sqM m))])) (.seq (.keep [0, 2, 3, 5]) c61_0) := by
    refine loop_to2 (T := T) (L := [0, 2, 3, 5]) (c := c61_0) (d := []) (u := some none) (fun i => [.ptr b 0, .ptr H.length 0, .ptr (H.length + 1) 0, i64 i]) (fun i => H ++ [.cells .ex (List.replicate 32 (u32 0)), .cells .ex (cu32 (sqK m i))]) 32 (fun i hi => ?_) rfl (by rw [sqK, hz]) rfl (by rw [sqK_end m hm])
    have hlt : decide ((i : Int) < 32) = true := by simpa using by omega
    have hw := wr_succ_nat i (by omega)
    have hat := u32_at m i (by omega)
    have hb' : ∀ x, cellsAt (H ++ x) b = some (cu32 m) := fun x => by rw [cellsAt_app hlt0, hb]
    have h60 := fun X => call60 m hm (m.getD i 0) b (H ++ X) (hb' X)
    have hl := sqK_len m i
    have hcl : (cu32 (sqK m i)).length = 32 := by rw [cu32_len, hl]
    show Nxt _ _ _ _ _ (H ++ [.cells .ex (List.replicate 32 (u32 0)), .cells .ex (cu32 ((sqK m i).set i (ofM m (m.getD i 0))))])
    generalize ofM m (m.getD i 0) = z at *
    simp -implicitDefEqProofs only [runEqs, List.zipIdx_cons, List.zipIdx_nil, List.map_cons, List.map_nil, Nat.zero_add, Nat.add_zero, Nat.zero_mul, Nat.reduceAdd, Nat.reduceMul, Nat.reduceBEq, Nat.reduceLT, Nat.reduceSub, Option.map_some, Option.map_none, Option.isSome_some, Option.isSome_none, Bool.not_true, Bool.not_false, Bool.true_or, Bool.false_or, Bool.or_true, List.getElem?_cons_zero, List.getElem?_cons_succ, List.set_cons_zero, List.set_cons_succ, List.length_cons, List.length_nil, List.length_append, List.append_assoc, List.cons_append, List.nil_append, List.zip_cons_cons, List.zip_nil_right, Int.reduceAdd, Int.reduceSub, Int.reduceMul, Int.reduceLT, Int.reduceLE, Int.reduceNeg, Int.reduceToNat, Int.zero_add, Int.add_zero, decide_true, decide_false, Nat.reduceLeDiff, Nat.min_self, List.drop_succ_cons, List.drop_zero, List.drop_nil, List.take_succ_cons, List.take_zero, List.take_nil, List.all_cons, List.all_nil, Bool.and_true, Bool.true_and, Nat.mul_one, List.singleton_append, Int.le_refl, Nat.le_refl, c61_0, hlt, hw, hb', hi, hat, h60, hcl, cu32_set]
    exact nxt_some _ _ _ _ _ _ _ rfl rfl
  have hf : decide ((32 : Int) < 32) = false := rfl
  have hl : (sqM m).length = 32 := by rw [sqM, List.length_map, hm]
  have hcl : (cu32 (sqM m)).length = 32 := by rw [cu32_len, hl]
  have hct : (cu32 (sqM m)).take 32 = cu32 (sqM m) := List.take_of_length_le (by omega)
  rw [call_gc0 fn61]
  generalize sqM m = q at *
  simp -implicitDefEqProofs only [runEqs, List.zipIdx_cons, List.zipIdx_nil, List.map_cons, List.map_nil, Nat.zero_add, Nat.add_zero, Nat.zero_mul, Nat.reduceAdd, Nat.reduceMul, Nat.reduceBEq, Nat.reduceLT, Nat.reduceSub, Option.map_some, Option.map_none, Option.isSome_some, Option.isSome_none, Bool.not_true, Bool.not_false, Bool.true_or, Bool.false_or, Bool.or_true, List.getElem?_cons_zero, List.getElem?_cons_succ, List.set_cons_zero, List.set_cons_succ, List.length_cons, List.length_nil, List.length_append, List.append_assoc, List.cons_append, List.nil_append, List.zip_cons_cons, List.zip_nil_right, Int.reduceAdd, Int.reduceSub, Int.reduceMul, Int.reduceLT, Int.reduceLE, Int.reduceNeg, Int.reduceToNat, Int.zero_add, Int.add_zero, decide_true, decide_false, Nat.reduceLeDiff, Nat.min_self, List.drop_succ_cons, List.drop_zero, List.drop_nil, List.take_succ_cons, List.take_zero, List.take_nil, List.all_cons, List.all_nil, Bool.and_true, Bool.true_and, Nat.mul_one, List.singleton_append, Int.le_refl, Nat.le_refl, c61, r61, hlp]
  simp -implicitDefEqProofs only [runEqs, List.zipIdx_cons, List.zipIdx_nil, List.map_cons, List.map_nil, Nat.zero_add, Nat.add_zero, Nat.zero_mul, Nat.reduceAdd, Nat.reduceMul, Nat.reduceBEq, Nat.reduceLT, Nat.reduceSub, Option.map_some, Option.map_none, Option.isSome_some, Option.isSome_none, Bool.not_true, Bool.not_false, Bool.true_or, Bool.false_or, Bool.or_true, List.getElem?_cons_zero, List.getElem?_cons_succ, List.set_cons_zero, List.set_cons_succ, List.length_cons, List.length_nil, List.length_append, List.append_assoc, List.cons_append, List.nil_append, List.zip_cons_cons, List.zip_nil_right, Int.reduceAdd, Int.reduceSub, Int.reduceMul, Int.reduceLT, Int.reduceLE, Int.reduceNeg, Int.reduceToNat, Int.zero_add, Int.add_zero, decide_true, decide_false, Nat.reduceLeDiff, Nat.min_self, List.drop_succ_cons, List.drop_zero, List.drop_nil, List.take_succ_cons, List.take_zero, List.take_nil, List.all_cons, List.all_nil, Bool.and_true, Bool.true_and, Nat.mul_one, List.singleton_append, Int.le_refl, Nat.le_refl, c61_0, hf, hcl, hct, cu32_one, List.length_replicate]
  exact ⟨_, rfl⟩

/-- The loop over the bits of the length. -/
def joinR (a : BitVec 32) (n : Nat) (m : List (BitVec 32)) : BitVec 32 :=
  if h : n = 0 then a else joinR (if n % 2 = 1 then ofM m a else a) (n / 2) (sqM m)
termination_by n
decreasing_by omega

def joinV (a b : BitVec 32) (n : Int) : BitVec 32 := if n < 0 ∨ 2147483647 < n then 0 else joinR a n.toNat m0 ^^^ b
def joinE (n : Int) : Int := if n < 0 then 1 else if 2147483647 < n then 2 else 0

def m0K : Nat → List (BitVec 32)
  | 0 => List.replicate 32 0
  | k + 1 => (m0K k).set k (stp (1 <<< k) 0)
theorem m0K_len : ∀ k, (m0K k).length = 32
  | 0 => by simp [m0K]
  | k + 1 => by rw [m0K, List.length_set, m0K_len k]
theorem m0K_at : ∀ k i, i < k → k ≤ 32 → (m0K k)[i]? = some (stp (1 <<< i) 0)
  | k + 1, i, h, hk => by
    rw [m0K]
    by_cases e : i = k
    · subst e; rw [List.getElem?_set_self (by rw [m0K_len]; omega)]
    · rw [List.getElem?_set_ne (by omega), m0K_at k i (by omega) (by omega)]
theorem m0K_end : m0K 32 = m0 := by
  apply List.ext_getElem?
  intro i
  by_cases hi : i < 32
  · rw [m0K_at 32 i hi (by omega), m0]; simp [hi]
  · rw [List.getElem?_eq_none (by rw [m0K_len]; omega), List.getElem?_eq_none (by simp [m0]; omega)]
theorem m0_len : m0.length = 32 := by simp [m0]

theorem par_eq (n : Nat) (hn : n < 4294967296) : ((wr ((BitVec.ofInt 64 (n : Int) &&& BitVec.ofInt 64 1).toNat : Int)) == 1) = decide (n % 2 = 1) := by
  have h1 : (BitVec.ofInt 64 (n : Int) &&& BitVec.ofInt 64 1).toNat = n % 2 := by
    have e1 : (BitVec.ofInt 64 (1 : Int)).toNat = 1 := rfl
    rw [BitVec.toNat_and, e1, Nat.and_one_is_mod, BitVec.toNat_ofInt]
    omega
  rw [h1, wr_id (by omega) (by omega), Bool.eq_iff_iff, beq_iff_eq, decide_eq_true_eq]
  omega

theorem round44 (m : List (BitVec 32)) (hm : m.length = 32) (a b : BitVec 32) (n : Nat) (hn : n < 4294967296) (h0 : 0 < n) (H g : Heap) :
    ∃ g', Nxt (execC (run T) c44_1 ⟨[0, 1, 2, 9].zip [u32 a, u32 b, i64 n, .ptr H.length 0], [], some none⟩ (H ++ .cells .ex (cu32 m) :: g)) [0, 1, 2, 9]
      [u32 (if n % 2 = 1 then ofM m a else a), u32 b, i64 ((n / 2 : Nat) : Int), .ptr H.length 0] [] (some none) (H ++ .cells .ex (cu32 (sqM m)) :: g') := by
  have hg : decide ((n : Int) > 0) = true := by simp; omega
  have hp := par_eq n hn
  have hsh : (n : Int) / 2 ^ min ((((1 : BitVec 64).toNat : Int)).toNat) 64 = ((n / 2 : Nat) : Int) := by
    have : min ((((1 : BitVec 64).toNat : Int)).toNat) 64 = 1 := rfl
    rw [this]
    omega
  have hsr : evBin .shr (i64 (n : Int)) (u64 1) = some (i64 ((n / 2 : Nat) : Int)) := by
    rw [show u64 1 = V.int .u64 (((1 : BitVec 64).toNat : Int)) from rfl, shr_i64 _ _ _ (by omega), hsh]
  have h60 := call60 m hm a H.length (H ++ .cells .ex (cu32 m) :: g) (by rw [at_app0]; rfl)
  obtain ⟨g', h61⟩ := call61 m hm H.length (H ++ .cells .ex (cu32 m) :: g) (by rw [at_app0]; rfl)
  have hcl : (cu32 (sqM m)).length = (cu32 m).length := by rw [cu32_len, cu32_len, sqM, List.length_map]
  have hcl2 : (cu32 (sqM m)).length = 32 := by rw [hcl, cu32_len, hm]
  simp only [List.append_assoc, List.cons_append] at h61
  generalize sqM m = q at *
  generalize ofM m a = z at *
  refine ⟨g ++ g', ?_⟩
  by_cases hb : n % 2 = 1
  · rw [if_pos hb]
    rw [decide_eq_true hb] at hp
    simp -implicitDefEqProofs only [runEqs, List.zipIdx_cons, List.zipIdx_nil, List.map_cons, List.map_nil, Nat.zero_add, Nat.add_zero, Nat.zero_mul, Nat.reduceAdd, Nat.reduceMul, Nat.reduceBEq, Nat.reduceLT, Nat.reduceSub, Option.map_some, Option.map_none, Option.isSome_some, Option.isSome_none, Bool.not_true, Bool.not_false, Bool.true_or, Bool.false_or, Bool.or_true, List.getElem?_cons_zero, List.getElem?_cons_succ, List.set_cons_zero, List.set_cons_succ, List.length_cons, List.length_nil, List.length_append, List.append_assoc, List.cons_append, List.nil_append, List.zip_cons_cons, List.zip_nil_right, Int.reduceAdd, Int.reduceSub, Int.reduceMul, Int.reduceLT, Int.reduceLE, Int.reduceNeg, Int.reduceToNat, Int.zero_add, Int.add_zero, decide_true, decide_false, Nat.reduceLeDiff, Nat.min_self, List.drop_succ_cons, List.drop_zero, List.drop_nil, List.take_succ_cons, List.take_zero, List.take_nil, List.all_cons, List.all_nil, Bool.and_true, Bool.true_and, Nat.mul_one, List.singleton_append, Int.le_refl, Nat.le_refl, c44_1, hg, and_i64, hp, h60, h61, hcl2, hcl, cu32_len, cu32_one, hm, hsr]
    exact nxt_some _ _ _ _ _ _ _ rfl rfl
  · rw [if_neg hb]
    rw [decide_eq_false hb] at hp
    simp -implicitDefEqProofs only [runEqs, List.zipIdx_cons, List.zipIdx_nil, List.map_cons, List.map_nil, Nat.zero_add, Nat.add_zero, Nat.zero_mul, Nat.reduceAdd, Nat.reduceMul, Nat.reduceBEq, Nat.reduceLT, Nat.reduceSub, Option.map_some, Option.map_none, Option.isSome_some, Option.isSome_none, Bool.not_true, Bool.not_false, Bool.true_or, Bool.false_or, Bool.or_true, List.getElem?_cons_zero, List.getElem?_cons_succ, List.set_cons_zero, List.set_cons_succ, List.length_cons, List.length_nil, List.length_append, List.append_assoc, List.cons_append, List.nil_append, List.zip_cons_cons, List.zip_nil_right, Int.reduceAdd, Int.reduceSub, Int.reduceMul, Int.reduceLT, Int.reduceLE, Int.reduceNeg, Int.reduceToNat, Int.zero_add, Int.add_zero, decide_true, decide_false, Nat.reduceLeDiff, Nat.min_self, List.drop_succ_cons, List.drop_zero, List.drop_nil, List.take_succ_cons, List.take_zero, List.take_nil, List.all_cons, List.all_nil, Bool.and_true, Bool.true_and, Nat.mul_one, List.singleton_append, Int.le_refl, Nat.le_refl, c44_1, hg, and_i64, hp, h60, h61, hcl2, hcl, cu32_len, cu32_one, hm, hsr]
    exact nxt_some _ _ _ _ _ _ _ rfl rfl
end Go.Proofs.Ytccepmhhilhajaa.K

/- Join: the whole; the checksum of the reference. -/
set_option linter.unusedVariables false
set_option linter.unusedSimpArgs false
set_option maxRecDepth 100000
namespace Go.Proofs.Ytccepmhhilhajaa.K
open Go Go.A

theorem sqM_len (m : List (BitVec 32)) : (sqM m).length = m.length := by rw [sqM, List.length_map]

theorem call44 (a b : BitVec 32) (n : Int) (hn0 : -9223372036854775808 ≤ n) (hn1 : n < 9223372036854775808) (h : Heap) : (run T).call 44 [u32 a, u32 b, i64 n] none h = some (.ret (.tup [u32 (joinV a b n), i64 (joinE n)]), none, h) := by
  by_cases hc : n < 0
  · rw [joinV, joinE, if_pos (.inl hc), if_pos hc]
    have hg : decide (n < 0) = true := by simpa using hc
    refine call_gc1 fn44 _ _ (h' := roH h) ?_ rfl
    simp -implicitDefEqProofs only [runEqs, List.zipIdx_cons, List.zipIdx_nil, List.map_cons, List.map_nil, Nat.zero_add, Nat.add_zero, Nat.zero_mul, Nat.reduceAdd, Nat.reduceMul, Nat.reduceBEq, Nat.reduceLT, Nat.reduceSub, Option.map_some, Option.map_none, Option.isSome_some, Option.isSome_none, Bool.not_true, Bool.not_false, Bool.true_or, Bool.false_or, Bool.or_true, List.getElem?_cons_zero, List.getElem?_cons_succ, List.set_cons_zero, List.set_cons_succ, List.length_cons, List.length_nil, List.length_append, List.append_assoc, List.cons_append, List.nil_append, List.zip_cons_cons, List.zip_nil_right, Int.reduceAdd, Int.reduceSub, Int.reduceMul, Int.reduceLT, Int.reduceLE, Int.reduceNeg, Int.reduceToNat, Int.zero_add, Int.add_zero, decide_true, decide_false, Nat.reduceLeDiff, Nat.min_self, List.drop_succ_cons, List.drop_zero, List.drop_nil, List.take_succ_cons, List.take_zero, List.take_nil, List.all_cons, List.all_nil, Bool.and_true, Bool.true_and, Nat.mul_one, List.singleton_append, Int.le_refl, Nat.le_refl, c44, r44, hg]
  have hg : decide (n < 0) = false := by simpa using hc
  by_cases hc2 : 2147483647 < n
  · rw [joinV, joinE, if_pos (.inr hc2), if_neg hc, if_pos hc2]
    have hg2 : decide (n > 2147483647) = true := by simpa using hc2
    refine call_gc1 fn44 _ _ (h' := roH h) ?_ rfl
    simp -implicitDefEqProofs only [runEqs, List.zipIdx_cons, List.zipIdx_nil, List.map_cons, List.map_nil, Nat.zero_add, Nat.add_zero, Nat.zero_mul, Nat.reduceAdd, Nat.reduceMul, Nat.reduceBEq, Nat.reduceLT, Nat.reduceSub, Option.map_some, Option.map_none, Option.isSome_some, Option.isSome_none, Bool.not_true, Bool.not_false, Bool.true_or, Bool.false_or, Bool.or_true, List.getElem?_cons_zero, List.getElem?_cons_succ, List.set_cons_zero, List.set_cons_succ, List.length_cons, List.length_nil, List.length_append, List.append_assoc, List.cons_append, List.nil_append, List.zip_cons_cons, List.zip_nil_right, Int.reduceAdd, Int.reduceSub, Int.reduceMul, Int.reduceLT, Int.reduceLE, Int.reduceNeg, Int.reduceToNat, Int.zero_add, Int.add_zero, decide_true, decide_false, Nat.reduceLeDiff, Nat.min_self, List.drop_succ_cons, List.drop_zero, List.drop_nil, List.take_succ_cons, List.take_zero, List.take_nil, List.all_cons, List.all_nil, Bool.and_true, Bool.true_and, Nat.mul_one, List.singleton_append, Int.le_refl, Nat.le_refl, c44, r44, hg, hg2]
  have hg2 : decide (n > 2147483647) = false := by simpa using hc2
  rw [joinV, joinE, if_neg (by omega), if_neg hc, if_neg hc2]
  obtain ⟨n, rfl⟩ : ∃ m : Nat, n = m := ⟨n.toNat, by omega⟩
  have tn : ((n : Int)).toNat = n := by omega
  rw [tn]
  have key : ∃ h', kF (run T) r44 (execC (run T) c44 (frame0 [u32 a, u32 b, i64 n] none) (roH h)) = some (.ret (.tup [u32 (joinR a n m0 ^^^ b), i64 0]), none, h') := by
    generalize roH h = H
    have h55 := call55 pol H
    have hpol : (3252574743 : BitVec 32) = pol := rfl
    have hz : cu32 (List.replicate 32 0) = List.replicate 32 (u32 0) := by simp [cu32]
    have hlp : ∀ t, kK [0, 1, 2, 8, 9, 16] t = [(0, u32 a), (1, u32 b), (2, i64 n), (8, .fn (.func 75) [] [.ptr H.length 0]), (9, .ptr (H.length + 1) 0), (16, i64 0)] →
        execC (run T) (.loop (.seq (.keep [0, 1, 2, 8, 9, 16]) c44_0)) ⟨t, [], some none⟩ (H ++ [.cells .ex [u32 pol], .cells .ex (List.replicate 32 (u32 0))]) =
        kLp T (execC (run T) c44_0 ⟨[(0, u32 a), (1, u32 b), (2, i64 n), (8, .fn (.func 75) [] [.ptr H.length 0]), (9, .ptr (H.length + 1) 0), (16, i64 32)], [], some none⟩ (H ++ [.cells .ex [u32 pol], .cells .ex (cu32 m0)])) (.seq (.keep [0, 1, 2, 8, 9, 16]) c44_0) := by
      refine loop_to2 (T := T) (L := [0, 1, 2, 8, 9, 16]) (c := c44_0) (d := []) (u := some none) (fun i => [u32 a, u32 b, i64 n, .fn (.func 75) [] [.ptr H.length 0], .ptr (H.length + 1) 0, i64 i]) (fun i => H ++ [.cells .ex [u32 pol], .cells .ex (cu32 (m0K i))]) 32 (fun i hi => ?_) rfl (by rw [m0K, hz]) rfl (by rw [m0K_end])
      have hlt : decide ((i : Int) < 32) = true := by simpa using by omega
      have hw := wr_succ_nat i (by omega)
      have h0 : (0 : Int) ≤ (i : Int) := by omega
      have ht : ((i : Int)).toNat = i := by omega
      have h75 : ∀ X, (run T).call 75 [u32 ((1 : BitVec 32) <<< i), u8 0, .ptr H.length 0] none (H ++ .cells .ex [u32 pol] :: X) = some (.ret (u32 (stp ((1 : BitVec 32) <<< i) 0)), none, H ++ .cells .ex [u32 pol] :: X) := fun X => call75 (1 <<< i) pol 0 H.length (H ++ .cells .ex [u32 pol] :: X) (by rw [at_app0]; rfl)
      have hl := m0K_len i
      have hcl : (cu32 (m0K i)).length = 32 := by rw [cu32_len, hl]
      show Nxt _ _ _ _ _ (H ++ [.cells .ex [u32 pol], .cells .ex (cu32 ((m0K i).set i (stp ((1 : BitVec 32) <<< i) 0)))])
      generalize stp ((1 : BitVec 32) <<< i) 0 = z at *
      simp -implicitDefEqProofs only [runEqs, List.zipIdx_cons, List.zipIdx_nil, List.map_cons, List.map_nil, Nat.zero_add, Nat.add_zero, Nat.zero_mul, Nat.reduceAdd, Nat.reduceMul, Nat.reduceBEq, Nat.reduceLT, Nat.reduceSub, Option.map_some, Option.map_none, Option.isSome_some, Option.isSome_none, Bool.not_true, Bool.not_false, Bool.true_or, Bool.false_or, Bool.or_true, List.getElem?_cons_zero, List.getElem?_cons_succ, List.set_cons_zero, List.set_cons_succ, List.length_cons, List.length_nil, List.length_append, List.append_assoc, List.cons_append, List.nil_append, List.zip_cons_cons, List.zip_nil_right, Int.reduceAdd, Int.reduceSub, Int.reduceMul, Int.reduceLT, Int.reduceLE, Int.reduceNeg, Int.reduceToNat, Int.zero_add, Int.add_zero, decide_true, decide_false, Nat.reduceLeDiff, Nat.min_self, List.drop_succ_cons, List.drop_zero, List.drop_nil, List.take_succ_cons, List.take_zero, List.take_nil, List.all_cons, List.all_nil, Bool.and_true, Bool.true_and, Nat.mul_one, List.singleton_append, Int.le_refl, Nat.le_refl, c44_0, hlt, hw, shl_u32_i64, h0, ht, callC_dyn, h75, hi, hcl, cu32_set]
      exact nxt_some _ _ _ _ _ _ _ rfl rfl
    obtain ⟨k, vs', h', ⟨a', M, g, hk, rfl, rfl, hM, htgt⟩, hst, hlp2⟩ := loop_st (T := T) (L := [0, 1, 2, 9]) (c := c44_1) (d := []) (u := some none)
      (fun k vs hh => ∃ a' M g, k < 4294967296 ∧ vs = [u32 a', u32 b, i64 ((k : Nat) : Int), .ptr (H.length + 1) 0] ∧ hh = (H ++ [.cells .ex [u32 pol]]) ++ .cells .ex (cu32 M) :: g ∧ M.length = 32 ∧ joinR a n m0 = joinR a' k M)
      (fun k _ _ => k = 0)
      (by
        rintro k vs hh ⟨a', M, g, hk, rfl, rfl, hM, htgt⟩
        by_cases h0 : k = 0
        · exact .inl h0
        · right
          obtain ⟨g', h1⟩ := round44 M hM a' b k hk (by omega) (H ++ [.cells .ex [u32 pol]]) g
          refine ⟨k / 2, _, _, by omega, ?_, if k % 2 = 1 then ofM M a' else a', sqM M, g', by omega, rfl, rfl, by rw [sqM_len, hM], ?_⟩
          · simpa using h1
          · rw [htgt, joinR, dif_neg h0])
      n [u32 a, u32 b, i64 n, .ptr (H.length + 1) 0] ((H ++ [.cells .ex [u32 pol]]) ++ .cells .ex (cu32 m0) :: []) ⟨a, m0, [], by omega, rfl, rfl, m0_len, rfl⟩
    have hst : k = 0 := hst
    subst hst
    rw [htgt, joinR, dif_pos rfl]
    have hf : decide ((32 : Int) < 32) = false := rfl
    have hf2 : decide ((0 : Int) > 0) = false := rfl
    simp only [List.zip_cons_cons, List.zip_nil_right, List.append_assoc, List.cons_append, List.nil_append] at hlp2
    simp -implicitDefEqProofs only [runEqs, List.zipIdx_cons, List.zipIdx_nil, List.map_cons, List.map_nil, Nat.zero_add, Nat.add_zero, Nat.zero_mul, Nat.reduceAdd, Nat.reduceMul, Nat.reduceBEq, Nat.reduceLT, Nat.reduceSub, Option.map_some, Option.map_none, Option.isSome_some, Option.isSome_none, Bool.not_true, Bool.not_false, Bool.true_or, Bool.false_or, Bool.or_true, List.getElem?_cons_zero, List.getElem?_cons_succ, List.set_cons_zero, List.set_cons_succ, List.length_cons, List.length_nil, List.length_append, List.append_assoc, List.cons_append, List.nil_append, List.zip_cons_cons, List.zip_nil_right, Int.reduceAdd, Int.reduceSub, Int.reduceMul, Int.reduceLT, Int.reduceLE, Int.reduceNeg, Int.reduceToNat, Int.zero_add, Int.add_zero, decide_true, decide_false, Nat.reduceLeDiff, Nat.min_self, List.drop_succ_cons, List.drop_zero, List.drop_nil, List.take_succ_cons, List.take_zero, List.take_nil, List.all_cons, List.all_nil, Bool.and_true, Bool.true_and, Nat.mul_one, List.singleton_append, Int.le_refl, Nat.le_refl, c44, r44, hg, hg2, hpol, h55, hlp]
    simp -implicitDefEqProofs only [runEqs, List.zipIdx_cons, List.zipIdx_nil, List.map_cons, List.map_nil, Nat.zero_add, Nat.add_zero, Nat.zero_mul, Nat.reduceAdd, Nat.reduceMul, Nat.reduceBEq, Nat.reduceLT, Nat.reduceSub, Option.map_some, Option.map_none, Option.isSome_some, Option.isSome_none, Bool.not_true, Bool.not_false, Bool.true_or, Bool.false_or, Bool.or_true, List.getElem?_cons_zero, List.getElem?_cons_succ, List.set_cons_zero, List.set_cons_succ, List.length_cons, List.length_nil, List.length_append, List.append_assoc, List.cons_append, List.nil_append, List.zip_cons_cons, List.zip_nil_right, Int.reduceAdd, Int.reduceSub, Int.reduceMul, Int.reduceLT, Int.reduceLE, Int.reduceNeg, Int.reduceToNat, Int.zero_add, Int.add_zero, decide_true, decide_false, Nat.reduceLeDiff, Nat.min_self, List.drop_succ_cons, List.drop_zero, List.drop_nil, List.take_succ_cons, List.take_zero, List.take_nil, List.all_cons, List.all_nil, Bool.and_true, Bool.true_and, Nat.mul_one, List.singleton_append, Int.le_refl, Nat.le_refl, c44_0, hf, hlp2]
    simp -implicitDefEqProofs only [runEqs, List.zipIdx_cons, List.zipIdx_nil, List.map_cons, List.map_nil, Nat.zero_add, Nat.add_zero, Nat.zero_mul, Nat.reduceAdd, Nat.reduceMul, Nat.reduceBEq, Nat.reduceLT, Nat.reduceSub, Option.map_some, Option.map_none, Option.isSome_some, Option.isSome_none, Bool.not_true, Bool.not_false, Bool.true_or, Bool.false_or, Bool.or_true, List.getElem?_cons_zero, List.getElem?_cons_succ, List.set_cons_zero, List.set_cons_succ, List.length_cons, List.length_nil, List.length_append, List.append_assoc, List.cons_append, List.nil_append, List.zip_cons_cons, List.zip_nil_right, Int.reduceAdd, Int.reduceSub, Int.reduceMul, Int.reduceLT, Int.reduceLE, Int.reduceNeg, Int.reduceToNat, Int.zero_add, Int.add_zero, decide_true, decide_false, Nat.reduceLeDiff, Nat.min_self, List.drop_succ_cons, List.drop_zero, List.drop_nil, List.take_succ_cons, List.take_zero, List.take_nil, List.all_cons, List.all_nil, Bool.and_true, Bool.true_and, Nat.mul_one, List.singleton_append, Int.le_refl, Nat.le_refl, c44_1, hf2, xor_u32]
    exact ⟨_, rfl⟩
  obtain ⟨h', hk⟩ := key
  exact call_gc1 fn44 _ _ hk rfl

end Go.Proofs.Ytccepmhhilhajaa.K

/- The checksum's step is linear and injective: sequences that differ within four bytes. -/
set_option linter.unusedVariables false
set_option linter.unusedSimpArgs false
set_option maxRecDepth 100000
namespace Go.Proofs.Ytccepmhhilhajaa.K
open Go Go.A

theorem low_eq (c : BitVec 32) : (c &&& 1 == 1) = c.getLsbD 0 := by
  have h1 : (c &&& 1).toNat = c.toNat % 2 := by
    rw [BitVec.toNat_and]
    exact Nat.and_one_is_mod _
  rw [BitVec.getLsbD, Nat.testBit_zero, Bool.eq_iff_iff, beq_iff_eq, decide_eq_true_eq, ← BitVec.toNat_inj, h1]
  exact Iff.rfl
def bx (p c : BitVec 32) : BitVec 32 := c >>> 1 ^^^ (if c.getLsbD 0 = true then p else 0#32)
theorem bit_bx (p c : BitVec 32) : bit p c = bx p c := by
  unfold bit bx
  rw [low_eq]
  split
  · rfl
  · rw [BitVec.xor_zero]
theorem bx_xor (p a b : BitVec 32) : bx p (a ^^^ b) = bx p a ^^^ bx p b := by
  unfold bx
  rw [BitVec.getLsbD_xor]
  apply BitVec.eq_of_getLsbD_eq
  intro i hi
  cases ha : a.getLsbD 0 <;> cases hb : b.getLsbD 0 <;>
    simp only [BitVec.getLsbD_xor, BitVec.getLsbD_ushiftRight, Bool.xor_false, Bool.xor_true, Bool.false_xor, Bool.not_true, Bool.not_false, Bool.false_eq_true, if_false, if_true, BitVec.getLsbD_zero] <;>
    cases a.getLsbD (1 + i) <;> cases b.getLsbD (1 + i) <;> cases p.getLsbD i <;> rfl
theorem bx_zero (c : BitVec 32) (h : bx pol c = 0#32) : c = 0#32 := by
  have hlow : c.getLsbD 0 = false := by
    cases hx : c.getLsbD 0 with
    | false => rfl
    | true =>
      have h1 := congrArg (fun z : BitVec 32 => z.getLsbD 31) h
      simp only [bx, hx, if_true, BitVec.getLsbD_xor, BitVec.getLsbD_ushiftRight] at h1
      rw [BitVec.getLsbD_of_ge c (1 + 31) (by omega)] at h1
      exact absurd h1 (by decide)
  apply BitVec.eq_of_getLsbD_eq
  intro i hi
  rw [BitVec.getLsbD_zero]
  cases i with
  | zero => exact hlow
  | succ i =>
    have h1 := congrArg (fun z : BitVec 32 => z.getLsbD i) h
    simp only [bx, hlow, Bool.false_eq_true, if_false, BitVec.getLsbD_xor, BitVec.getLsbD_ushiftRight, BitVec.getLsbD_zero, Bool.xor_false] at h1
    rw [show 1 + i = i + 1 by omega] at h1
    exact h1
theorem bits_xor (p : BitVec 32) : ∀ n (a b : BitVec 32), bits p n (a ^^^ b) = bits p n a ^^^ bits p n b
  | 0, _, _ => rfl
  | n + 1, a, b => by
    simp only [bits, bits_xor p n a b, bit_bx, bx_xor]
theorem bits_zero : ∀ n (c : BitVec 32), bits pol n c = 0#32 → c = 0#32
  | 0, _, h => h
  | n + 1, c, h => by
    simp only [bits, bit_bx] at h
    exact bits_zero n c (bx_zero _ h)
theorem bits_inj (n : Nat) (a b : BitVec 32) (h : bits pol n a = bits pol n b) : a = b := by
  have h1 : bits pol n (a ^^^ b) = 0#32 := by rw [bits_xor, h, BitVec.xor_self]
  exact BitVec.xor_eq_zero_iff.1 (bits_zero n _ h1)
theorem bits_shl (p : BitVec 32) : ∀ n (y : BitVec 32), n ≤ 32 → y.toNat < 2 ^ (32 - n) → bits p n (y <<< n) = y
  | 0, y, _, _ => by simp [bits]
  | n + 1, y, hn, h => by
    have hp : 2 ^ (32 - n) = 2 * 2 ^ (32 - (n + 1)) := by rw [← Nat.pow_succ']; congr 1; omega
    have hy : y.toNat * 2 < 2 ^ 32 := by
      have : 2 ^ (32 - n) ≤ 2 ^ 32 := Nat.pow_le_pow_right (by omega) (by omega)
      omega
    have e1 : y <<< (n + 1) = (y <<< 1) <<< n := by rw [Nat.add_comm n 1, BitVec.shiftLeft_add]
    have h1 : (y <<< 1).toNat = y.toNat * 2 := by
      rw [BitVec.toNat_shiftLeft, Nat.shiftLeft_eq, Nat.mod_eq_of_lt (by omega)]
    rw [bits, e1, bits_shl p n (y <<< 1) (by omega) (by omega), bit_bx, bx]
    have h2 : (y <<< 1).getLsbD 0 = false := by simp
    rw [h2]
    simp only [Bool.false_eq_true, if_false, BitVec.xor_zero]
    apply BitVec.eq_of_toNat_eq
    rw [BitVec.toNat_ushiftRight, h1, Nat.shiftRight_eq_div_pow]
    omega

def wB (x : BitVec 8) : BitVec 32 := x.setWidth 32
theorem stp_eq (c : BitVec 32) (x : BitVec 8) : stp c x = bits pol 8 (c ^^^ wB x) := rfl
theorem stp_inj (x : BitVec 8) (a b : BitVec 32) (h : stp a x = stp b x) : a = b := by
  rw [stp_eq, stp_eq] at h
  have := bits_inj 8 _ _ h
  have h2 := congrArg (· ^^^ wB x) this
  simpa [BitVec.xor_assoc] using h2
theorem fold_inj : ∀ (l : List (BitVec 8)) (a b : BitVec 32), l.foldl stp a = l.foldl stp b → a = b
  | [], _, _, h => h
  | x :: l, a, b, h => stp_inj x a b (fold_inj l _ _ h)
theorem wB_lt (x : BitVec 8) : (wB x).toNat < 256 := by
  have := x.isLt
  rw [wB, BitVec.toNat_setWidth]
  omega
theorem wB_xor (x y : BitVec 8) : wB x ^^^ wB y = wB (x ^^^ y) := by
  unfold wB; rw [BitVec.setWidth_xor]

/-- Four steps that come to the same. -/
theorem four (c : BitVec 32) (a b d e x y z w : BitVec 8) (h : stp (stp (stp (stp c a) b) d) e = stp (stp (stp (stp c (a ^^^ x)) (b ^^^ y)) (d ^^^ z)) (e ^^^ w)) : x = 0#8 ∧ y = 0#8 ∧ z = 0#8 ∧ w = 0#8 := by
  have key : ∀ (s t : BitVec 32) (a x : BitVec 8) (q : BitVec 32), q.toNat < 2 ^ 24 → stp s a ^^^ stp t (a ^^^ x) = q → s ^^^ t = wB x ^^^ q <<< 8 := by
    intro s t a x q hq hs
    rw [stp_eq, stp_eq, ← bits_xor, ← wB_xor] at hs
    have h1 := bits_shl pol 8 q (by omega) hq
    rw [← hs] at h1
    have h2 := bits_inj 8 _ _ h1
    rw [hs] at h2
    have h3 : s ^^^ wB a ^^^ (t ^^^ (wB a ^^^ wB x)) = (s ^^^ t) ^^^ wB x := by
      apply BitVec.eq_of_getLsbD_eq
      intro i hi
      simp only [BitVec.getLsbD_xor]
      cases s.getLsbD i <;> cases t.getLsbD i <;> cases (wB a).getLsbD i <;> cases (wB x).getLsbD i <;> rfl
    rw [h3] at h2
    have h4 := congrArg (· ^^^ wB x) h2
    simp only [BitVec.xor_assoc, BitVec.xor_self, BitVec.xor_zero] at h4
    rw [← h4, BitVec.xor_comm]
  have lt8 : ∀ (x : BitVec 8) (q : BitVec 32) (k : Nat), k ≤ 16 → q.toNat < 2 ^ k → (wB x ^^^ q <<< 8).toNat < 2 ^ (k + 8) := by
    intro x q k hk hq
    have h1 := wB_lt x
    have e : 2 ^ (k + 8) = 2 ^ k * 256 := by rw [Nat.pow_add]
    have hk2 : 2 ^ k ≤ 2 ^ 16 := Nat.pow_le_pow_right (by omega) hk
    rw [BitVec.toNat_xor]
    refine Nat.xor_lt_two_pow ?_ ?_
    · have : 0 < 2 ^ k := Nat.pow_pos (by omega)
      omega
    · rw [BitVec.toNat_shiftLeft, Nat.shiftLeft_eq]
      exact Nat.lt_of_le_of_lt (Nat.mod_le _ _) (by omega)
  have h0 : stp (stp (stp (stp c a) b) d) e ^^^ stp (stp (stp (stp c (a ^^^ x)) (b ^^^ y)) (d ^^^ z)) (e ^^^ w) = 0#32 := by rw [← h, BitVec.xor_self]
  have k3 := key _ _ _ _ 0#32 (by decide) h0
  have z0 : 0#32 <<< 8 = 0#32 := by decide
  rw [z0, BitVec.xor_zero] at k3
  have k2 := key _ _ _ _ _ (by have := wB_lt w; omega) k3
  have l2 := lt8 z (wB w) 8 (by omega) (wB_lt w)
  have k1 := key _ _ _ _ _ (by omega) k2
  have l1 := lt8 y _ 16 (by omega) l2
  have k0 := key _ _ _ _ _ l1 k1
  rw [BitVec.xor_self] at k0
  have bit : ∀ (x : BitVec 8) (q : BitVec 32), 0#32 = wB x ^^^ q <<< 8 → q.toNat < 2 ^ 24 → x = 0#8 ∧ q = 0#32 := by
    intro x q hx hq
    have hl := wB_lt x
    have e1 : wB x = q <<< 8 := (BitVec.xor_eq_zero_iff.1 hx.symm)
    have e2 : (wB x).toNat = q.toNat * 256 := by
      rw [e1, BitVec.toNat_shiftLeft, Nat.shiftLeft_eq, Nat.mod_eq_of_lt (by omega)]
    have q0 : q.toNat = 0 := by omega
    have x0 : (wB x).toNat = 0 := by omega
    refine ⟨BitVec.eq_of_toNat_eq ?_, BitVec.eq_of_toNat_eq q0⟩
    have := x.isLt
    rw [wB, BitVec.toNat_setWidth, Nat.mod_eq_of_lt (by omega)] at x0
    exact x0
  obtain ⟨hx, q0⟩ := bit x _ k0 l1
  obtain ⟨hy, q1⟩ := bit y _ q0.symm (by omega)
  obtain ⟨hz, q2⟩ := bit z _ q1.symm (by have := wB_lt w; omega)
  refine ⟨hx, hy, hz, ?_⟩
  have : (wB w).toNat = 0 := by rw [q2]; rfl
  apply BitVec.eq_of_toNat_eq
  have hlt := w.isLt
  rw [wB, BitVec.toNat_setWidth, Nat.mod_eq_of_lt (by omega)] at this
  exact this

def xorK (l : List (BitVec 8)) (a : Nat) (xs : List (BitVec 8)) : Nat → List (BitVec 8)
  | 0 => l
  | k + 1 => (xorK l a xs k).set (a + k) ((xorK l a xs k).getD (a + k) 0 ^^^ xs.getD k 0)
theorem xorK_len (l : List (BitVec 8)) (a : Nat) (xs : List (BitVec 8)) : ∀ k, (xorK l a xs k).length = l.length
  | 0 => rfl
  | k + 1 => by rw [xorK, List.length_set, xorK_len l a xs k]
theorem set_app (p r : List (BitVec 8)) (k : Nat) (v : BitVec 8) : (p ++ r).set (p.length + k) v = p ++ r.set k v := by
  rw [List.set_append_right _ _ (by omega)]; congr 2; omega
theorem getD_app (p r : List (BitVec 8)) (k : Nat) : (p ++ r).getD (p.length + k) 0 = r.getD k 0 := by
  rw [List.getD_eq_getElem?_getD, List.getElem?_append_right (by omega), List.getD_eq_getElem?_getD]; congr 2; omega
theorem crc_ne (l : List (BitVec 8)) (a : Nat) (ha : a + 4 ≤ l.length) (x y z w : BitVec 8) (hx : ¬ (x = 0#8 ∧ y = 0#8 ∧ z = 0#8 ∧ w = 0#8)) : (crcL l != crcL (xorK l a [x, y, z, w] 4)) = true := by
  obtain ⟨p, r, hp, hl⟩ : ∃ p r, p.length = a ∧ l = p ++ r := ⟨l.take a, l.drop a, by rw [List.length_take]; omega, (List.take_append_drop a l).symm⟩
  subst hl hp
  rw [List.length_append] at ha
  match r, ha with
  | b0 :: b1 :: b2 :: b3 :: s, _ =>
    have e : xorK (p ++ b0 :: b1 :: b2 :: b3 :: s) p.length [x, y, z, w] 4 = p ++ (b0 ^^^ x) :: (b1 ^^^ y) :: (b2 ^^^ z) :: (b3 ^^^ w) :: s := by
      simp only [xorK, set_app, getD_app]
      rfl
    rw [e, bne_iff_ne]
    intro h
    have h1 := congrArg (fun q : BitVec 32 => ~~~ q) h
    simp only [crcL, BitVec.not_not, List.foldl_append, List.foldl_cons] at h1
    exact hx (four _ _ _ _ _ _ _ _ _ (fold_inj s _ _ h1))
  | [], ha => rw [List.length_nil] at ha; omega
  | [_], ha => simp at ha
  | [_, _], ha => simp at ha
  | [_, _, _], ha => simp at ha
end Go.Proofs.Ytccepmhhilhajaa.K

/- Join: what it computes, as a power of the step. -/
set_option linter.unusedVariables false
set_option linter.unusedSimpArgs false
set_option maxRecDepth 100000
namespace Go.Proofs.Ytccepmhhilhajaa.K
open Go Go.A

def Zs (c : BitVec 32) : BitVec 32 := stp c 0
theorem stp_split (c : BitVec 32) (x : BitVec 8) : stp c x = Zs c ^^^ stp 0#32 x := by
  have e : ∀ (y : BitVec 8), stp 0#32 y = bits pol 8 (wB y) := fun y => by rw [stp_eq, BitVec.zero_xor]
  have e0 : wB 0 = 0#32 := by decide
  have ez : Zs c = bits pol 8 c := by rw [Zs, stp_eq, e0, BitVec.xor_zero]
  rw [stp_eq, bits_xor, e, ez]
def Lin (f : BitVec 32 → BitVec 32) : Prop := ∀ a b, f (a ^^^ b) = f a ^^^ f b
theorem Zs_lin : Lin Zs := fun a b => by
  have e0 : wB 0 = 0#32 := by decide
  simp only [Zs, stp_eq, e0, BitVec.xor_zero]
  exact bits_xor pol 8 a b
theorem Lin.zero {f : BitVec 32 → BitVec 32} (hf : Lin f) : f 0#32 = 0#32 := by
  have h := hf 0#32 0#32
  rw [BitVec.xor_self, BitVec.xor_self] at h
  exact h

def it (f : BitVec 32 → BitVec 32) : Nat → BitVec 32 → BitVec 32
  | 0, a => a
  | k + 1, a => it f k (f a)
theorem it_lin {f : BitVec 32 → BitVec 32} (hf : Lin f) : ∀ k, Lin (it f k)
  | 0, _, _ => rfl
  | k + 1, a, b => by simp only [it]; rw [hf, it_lin hf k]
theorem it_add (f : BitVec 32 → BitVec 32) : ∀ m n a, it f m (it f n a) = it f (n + m) a
  | m, 0, a => by rw [Nat.zero_add]; rfl
  | m, n + 1, a => by
    rw [show n + 1 + m = (n + m) + 1 by omega]
    simp only [it]
    exact it_add f m n (f a)
theorem it_twice (f : BitVec 32 → BitVec 32) : ∀ k a, it (fun x => f (f x)) k a = it f (2 * k) a
  | 0, _ => rfl
  | k + 1, a => by
    rw [show 2 * (k + 1) = (2 * k + 1) + 1 by omega]
    simp only [it]
    exact it_twice f k _

def mat (f : BitVec 32 → BitVec 32) : List (BitVec 32) := (List.range 32).map fun i => f (1#32 <<< i)
theorem mat_len (f : BitVec 32 → BitVec 32) : (mat f).length = 32 := by simp [mat]
theorem mat_at (f : BitVec 32 → BitVec 32) (i : Nat) (hi : i < 32) : (mat f).getD i 0 = f (1#32 <<< i) := by simp [mat, hi]

def lowK (x : BitVec 32) : Nat → BitVec 32
  | 0 => 0#32
  | k + 1 => if (x >>> k &&& 1 == 1) = true then lowK x k ^^^ 1#32 <<< k else lowK x k
theorem lowK_at (x : BitVec 32) : ∀ k i, i < 32 → (lowK x k).getLsbD i = (decide (i < k) && x.getLsbD i)
  | 0, i, hi => by simp [lowK]
  | k + 1, i, hi => by
    have h1 : (1#32 <<< k).getLsbD i = decide (i = k) := by
      rw [BitVec.getLsbD_shiftLeft, BitVec.getLsbD_one]
      by_cases h : i = k
      · subst h; simp [hi]
      · by_cases h2 : i < k
        · simp [h, h2]
        · have : ¬ (i - k = 0) := by omega
          simp [h, h2, this]
    rw [lowK, low_eq, BitVec.getLsbD_ushiftRight, Nat.add_zero]
    cases hx : x.getLsbD k with
    | true =>
      rw [if_pos rfl, BitVec.getLsbD_xor, lowK_at x k i hi, h1]
      by_cases h : i = k
      · subst h; simp [hx]
      · by_cases h2 : i < k
        · have h3 : i < k + 1 := by omega
          simp [h, h2, h3]
        · have h3 : ¬ i < k + 1 := by omega
          simp [h, h2, h3]
    | false =>
      rw [if_neg (by decide), lowK_at x k i hi]
      by_cases h : i = k
      · subst h; simp [hx]
      · by_cases h2 : i < k
        · have h3 : i < k + 1 := by omega
          simp [h2, h3]
        · have h3 : ¬ i < k + 1 := by omega
          simp [h2, h3]
theorem lowK_end (x : BitVec 32) : lowK x 32 = x := by
  apply BitVec.eq_of_getLsbD_eq
  intro i hi
  rw [lowK_at x 32 i hi]
  simp [hi]
theorem ofK_mat {f : BitVec 32 → BitVec 32} (hf : Lin f) (x : BitVec 32) : ∀ k, k ≤ 32 → ofK (mat f) x k = f (lowK x k)
  | 0, _ => hf.zero.symm
  | k + 1, hk => by
    rw [ofK, lowK, ofK_mat hf x k (by omega), mat_at f k (by omega)]
    split
    · rw [hf]
    · rfl
theorem ofM_mat {f : BitVec 32 → BitVec 32} (hf : Lin f) (x : BitVec 32) : ofM (mat f) x = f x := by
  rw [ofM, ofK_mat hf x 32 (by omega), lowK_end]
theorem sqM_mat {f : BitVec 32 → BitVec 32} (hf : Lin f) : sqM (mat f) = mat (fun x => f (f x)) := by
  rw [sqM]
  show ((List.range 32).map fun i => f (1#32 <<< i)).map (ofM (mat f)) = _
  rw [List.map_map, mat]
  apply List.map_congr_left
  intro i _
  exact ofM_mat hf _
theorem joinR_mat : ∀ (n : Nat) (f : BitVec 32 → BitVec 32) (hf : Lin f) (a : BitVec 32), joinR a n (mat f) = it f n a := by
  intro n
  induction n using Nat.strongRecOn with
  | ind n ih =>
    intro f hf a
    rw [joinR]
    by_cases h : n = 0
    · rw [dif_pos h, h]; rfl
    · rw [dif_neg h, sqM_mat hf, ih (n / 2) (by omega) _ (fun a b => by show f (f (a ^^^ b)) = _; rw [hf, hf]), it_twice, ofM_mat hf]
      by_cases hb : n % 2 = 1
      · rw [if_pos hb]
        have : n = 2 * (n / 2) + 1 := by omega
        rw [show it f n a = it f (2 * (n / 2) + 1) a by rw [← this]]
        rfl
      · rw [if_neg hb, show 2 * (n / 2) = n by omega]
theorem m0_mat : m0 = mat Zs := rfl
theorem joinV_eq (a b : BitVec 32) (n : Nat) (hn : n ≤ 2147483647) : joinV a b n = it Zs n a ^^^ b := by
  rw [joinV, if_neg (by omega), m0_mat, joinR_mat _ _ Zs_lin]
  congr 2
theorem joinE_eq (n : Nat) (hn : n ≤ 2147483647) : joinE n = 0 := by
  rw [joinE, if_neg (by omega), if_neg (by omega)]
theorem fold_split : ∀ (l : List (BitVec 8)) (c : BitVec 32), l.foldl stp c = it Zs l.length c ^^^ l.foldl stp 0#32
  | [], c => by simp [it]
  | x :: l, c => by
    rw [List.foldl_cons, List.foldl_cons, fold_split l (stp c x), fold_split l (stp 0#32 x), stp_split c x, it_lin Zs_lin, List.length_cons, it, BitVec.xor_assoc]
theorem crc_join (x y : List (BitVec 8)) : crcL (x ++ y) = it Zs y.length (crcL x) ^^^ crcL y := by
  have hnot : ∀ c : BitVec 32, ~~~ c = c ^^^ 4294967295#32 := fun c => by
    apply BitVec.eq_of_getLsbD_eq
    intro i hi
    have : (4294967295#32).getLsbD i = true := by
      rw [show (4294967295#32) = BitVec.allOnes 32 from rfl, BitVec.getLsbD_allOnes]; simpa using hi
    rw [BitVec.getLsbD_not, BitVec.getLsbD_xor, this]
    simp [hi]
  simp only [crcL, hnot, List.foldl_append]
  have e : (4294967295 : BitVec 32) = 4294967295#32 := rfl
  rw [e]
  generalize hF : x.foldl stp 4294967295#32 = F
  rw [fold_split y F, fold_split y 4294967295#32, it_lin Zs_lin]
  apply BitVec.eq_of_getLsbD_eq
  intro i hi
  simp only [BitVec.getLsbD_xor]
  cases (it Zs y.length F).getLsbD i <;> cases (it Zs y.length 4294967295#32).getLsbD i <;> cases (y.foldl stp 0#32).getLsbD i <;> cases (4294967295#32).getLsbD i <;> rfl
theorem join_assoc (a b c : BitVec 32) (n m : Nat) (hn : n ≤ 536870912) (hm : m ≤ 536870912) : joinV (joinV a b n) c m = joinV a (joinV b c m) ((n + m : Nat) : Int) := by
  rw [joinV_eq _ _ _ (by omega), joinV_eq _ _ _ (by omega), joinV_eq _ _ _ (by omega), joinV_eq _ _ _ (by omega), it_lin Zs_lin, it_add, BitVec.xor_assoc]
theorem join_own (a : BitVec 32) : joinV a 0 0 = a := by
  have := joinV_eq a 0 0 (by omega)
  rw [show ((0 : Nat) : Int) = 0 from rfl] at this
  rw [this]
  show a ^^^ 0#32 = a
  rw [BitVec.xor_zero]
theorem join_other (b : BitVec 32) (n : Nat) (hn : n ≤ 2147483647) : joinV 0 b n = b := by
  rw [joinV_eq _ _ _ hn]
  have := (it_lin Zs_lin n).zero
  rw [show (0 : BitVec 32) = 0#32 from rfl, this, BitVec.zero_xor]
theorem crc_nil : crcL [] = 0 := by decide
end Go.Proofs.Ytccepmhhilhajaa.K

/- SumsJoined: the law's walk. -/
set_option linter.unusedVariables false
set_option linter.unusedSimpArgs false
set_option maxRecDepth 100000
namespace Go.Proofs.Ytccepmhhilhajaa.K
open Go Go.A

theorem law13 (x y : List (BitVec 8)) (a b c : BitVec 32) (n m : Int) (hn0 : -9223372036854775808 ≤ n) (hn1 : n < 9223372036854775808) (hm0 : -9223372036854775808 ≤ m) (hm1 : m < 9223372036854775808) (h : Heap) (v w : V) (hv : rc 1 h v = some (cu8 x)) (hw : rc 1 h w = some (cu8 y)) :
    ∃ u' h', (run T).call 13 [v, w, u32 a, u32 b, u32 c, i64 n, i64 m] none h = some (.ret (.bool true), u', h') := by
  have hlv : lenOf v = x.length := by have := rc_len hv; rw [cu8_len] at this; omega
  have hlw : lenOf w = y.length := by have := rc_len hw; rw [cu8_len] at this; omega
  have hsv := rc_isS hv
  have hsw := rc_isS hw
  cases g1 : decide ((x.length : Int) > 2000) with
  | true =>
    refine ⟨none, ?_⟩
    rw [call_gc0 fn13]
    simp -implicitDefEqProofs only [runEqs, List.zipIdx_cons, List.zipIdx_nil, List.map_cons, List.map_nil, Nat.zero_add, Nat.add_zero, Nat.zero_mul, Nat.reduceAdd, Nat.reduceMul, Nat.reduceBEq, Nat.reduceLT, Nat.reduceSub, Option.map_some, Option.map_none, Option.isSome_some, Option.isSome_none, Bool.not_true, Bool.not_false, Bool.true_or, Bool.false_or, Bool.or_true, List.getElem?_cons_zero, List.getElem?_cons_succ, List.set_cons_zero, List.set_cons_succ, List.length_cons, List.length_nil, List.length_append, List.append_assoc, List.cons_append, List.nil_append, List.zip_cons_cons, List.zip_nil_right, Int.reduceAdd, Int.reduceSub, Int.reduceMul, Int.reduceLT, Int.reduceLE, Int.reduceNeg, Int.reduceToNat, Int.zero_add, Int.add_zero, decide_true, decide_false, Nat.reduceLeDiff, Nat.min_self, List.drop_succ_cons, List.drop_zero, List.drop_nil, List.take_succ_cons, List.take_zero, List.take_nil, List.all_cons, List.all_nil, Bool.and_true, Bool.true_and, Nat.mul_one, List.singleton_append, Int.le_refl, Nat.le_refl, c13, r13, vLen_of, hsv, hsw, hlv, hlw, g1, call14]
    exact ⟨_, rfl⟩
  | false =>
  cases g2 : decide ((y.length : Int) > 2000) with
  | true =>
    refine ⟨none, ?_⟩
    rw [call_gc0 fn13]
    simp -implicitDefEqProofs only [runEqs, List.zipIdx_cons, List.zipIdx_nil, List.map_cons, List.map_nil, Nat.zero_add, Nat.add_zero, Nat.zero_mul, Nat.reduceAdd, Nat.reduceMul, Nat.reduceBEq, Nat.reduceLT, Nat.reduceSub, Option.map_some, Option.map_none, Option.isSome_some, Option.isSome_none, Bool.not_true, Bool.not_false, Bool.true_or, Bool.false_or, Bool.or_true, List.getElem?_cons_zero, List.getElem?_cons_succ, List.set_cons_zero, List.set_cons_succ, List.length_cons, List.length_nil, List.length_append, List.append_assoc, List.cons_append, List.nil_append, List.zip_cons_cons, List.zip_nil_right, Int.reduceAdd, Int.reduceSub, Int.reduceMul, Int.reduceLT, Int.reduceLE, Int.reduceNeg, Int.reduceToNat, Int.zero_add, Int.add_zero, decide_true, decide_false, Nat.reduceLeDiff, Nat.min_self, List.drop_succ_cons, List.drop_zero, List.drop_nil, List.take_succ_cons, List.take_zero, List.take_nil, List.all_cons, List.all_nil, Bool.and_true, Bool.true_and, Nat.mul_one, List.singleton_append, Int.le_refl, Nat.le_refl, c13, r13, vLen_of, hsv, hsw, hlv, hlw, g1, g2, call14]
    exact ⟨_, rfl⟩
  | false =>
  cases g3 : decide (n < 0) with
  | true =>
    refine ⟨none, ?_⟩
    rw [call_gc0 fn13]
    simp -implicitDefEqProofs only [runEqs, List.zipIdx_cons, List.zipIdx_nil, List.map_cons, List.map_nil, Nat.zero_add, Nat.add_zero, Nat.zero_mul, Nat.reduceAdd, Nat.reduceMul, Nat.reduceBEq, Nat.reduceLT, Nat.reduceSub, Option.map_some, Option.map_none, Option.isSome_some, Option.isSome_none, Bool.not_true, Bool.not_false, Bool.true_or, Bool.false_or, Bool.or_true, List.getElem?_cons_zero, List.getElem?_cons_succ, List.set_cons_zero, List.set_cons_succ, List.length_cons, List.length_nil, List.length_append, List.append_assoc, List.cons_append, List.nil_append, List.zip_cons_cons, List.zip_nil_right, Int.reduceAdd, Int.reduceSub, Int.reduceMul, Int.reduceLT, Int.reduceLE, Int.reduceNeg, Int.reduceToNat, Int.zero_add, Int.add_zero, decide_true, decide_false, Nat.reduceLeDiff, Nat.min_self, List.drop_succ_cons, List.drop_zero, List.drop_nil, List.take_succ_cons, List.take_zero, List.take_nil, List.all_cons, List.all_nil, Bool.and_true, Bool.true_and, Nat.mul_one, List.singleton_append, Int.le_refl, Nat.le_refl, c13, r13, vLen_of, hsv, hsw, hlv, hlw, g1, g2, g3, call14]
    exact ⟨_, rfl⟩
  | false =>
  cases g4 : decide (m < 0) with
  | true =>
    refine ⟨none, ?_⟩
    rw [call_gc0 fn13]
    simp -implicitDefEqProofs only [runEqs, List.zipIdx_cons, List.zipIdx_nil, List.map_cons, List.map_nil, Nat.zero_add, Nat.add_zero, Nat.zero_mul, Nat.reduceAdd, Nat.reduceMul, Nat.reduceBEq, Nat.reduceLT, Nat.reduceSub, Option.map_some, Option.map_none, Option.isSome_some, Option.isSome_none, Bool.not_true, Bool.not_false, Bool.true_or, Bool.false_or, Bool.or_true, List.getElem?_cons_zero, List.getElem?_cons_succ, List.set_cons_zero, List.set_cons_succ, List.length_cons, List.length_nil, List.length_append, List.append_assoc, List.cons_append, List.nil_append, List.zip_cons_cons, List.zip_nil_right, Int.reduceAdd, Int.reduceSub, Int.reduceMul, Int.reduceLT, Int.reduceLE, Int.reduceNeg, Int.reduceToNat, Int.zero_add, Int.add_zero, decide_true, decide_false, Nat.reduceLeDiff, Nat.min_self, List.drop_succ_cons, List.drop_zero, List.drop_nil, List.take_succ_cons, List.take_zero, List.take_nil, List.all_cons, List.all_nil, Bool.and_true, Bool.true_and, Nat.mul_one, List.singleton_append, Int.le_refl, Nat.le_refl, c13, r13, vLen_of, hsv, hsw, hlv, hlw, g1, g2, g3, g4, call14]
    exact ⟨_, rfl⟩
  | false =>
  cases g5 : decide (n > 536870912) with
  | true =>
    refine ⟨none, ?_⟩
    rw [call_gc0 fn13]
    simp -implicitDefEqProofs only [runEqs, List.zipIdx_cons, List.zipIdx_nil, List.map_cons, List.map_nil, Nat.zero_add, Nat.add_zero, Nat.zero_mul, Nat.reduceAdd, Nat.reduceMul, Nat.reduceBEq, Nat.reduceLT, Nat.reduceSub, Option.map_some, Option.map_none, Option.isSome_some, Option.isSome_none, Bool.not_true, Bool.not_false, Bool.true_or, Bool.false_or, Bool.or_true, List.getElem?_cons_zero, List.getElem?_cons_succ, List.set_cons_zero, List.set_cons_succ, List.length_cons, List.length_nil, List.length_append, List.append_assoc, List.cons_append, List.nil_append, List.zip_cons_cons, List.zip_nil_right, Int.reduceAdd, Int.reduceSub, Int.reduceMul, Int.reduceLT, Int.reduceLE, Int.reduceNeg, Int.reduceToNat, Int.zero_add, Int.add_zero, decide_true, decide_false, Nat.reduceLeDiff, Nat.min_self, List.drop_succ_cons, List.drop_zero, List.drop_nil, List.take_succ_cons, List.take_zero, List.take_nil, List.all_cons, List.all_nil, Bool.and_true, Bool.true_and, Nat.mul_one, List.singleton_append, Int.le_refl, Nat.le_refl, c13, r13, vLen_of, hsv, hsw, hlv, hlw, g1, g2, g3, g4, g5, call14]
    exact ⟨_, rfl⟩
  | false =>
  cases g6 : decide (m > 536870912) with
  | true =>
    refine ⟨none, ?_⟩
    rw [call_gc0 fn13]
    simp -implicitDefEqProofs only [runEqs, List.zipIdx_cons, List.zipIdx_nil, List.map_cons, List.map_nil, Nat.zero_add, Nat.add_zero, Nat.zero_mul, Nat.reduceAdd, Nat.reduceMul, Nat.reduceBEq, Nat.reduceLT, Nat.reduceSub, Option.map_some, Option.map_none, Option.isSome_some, Option.isSome_none, Bool.not_true, Bool.not_false, Bool.true_or, Bool.false_or, Bool.or_true, List.getElem?_cons_zero, List.getElem?_cons_succ, List.set_cons_zero, List.set_cons_succ, List.length_cons, List.length_nil, List.length_append, List.append_assoc, List.cons_append, List.nil_append, List.zip_cons_cons, List.zip_nil_right, Int.reduceAdd, Int.reduceSub, Int.reduceMul, Int.reduceLT, Int.reduceLE, Int.reduceNeg, Int.reduceToNat, Int.zero_add, Int.add_zero, decide_true, decide_false, Nat.reduceLeDiff, Nat.min_self, List.drop_succ_cons, List.drop_zero, List.drop_nil, List.take_succ_cons, List.take_zero, List.take_nil, List.all_cons, List.all_nil, Bool.and_true, Bool.true_and, Nat.mul_one, List.singleton_append, Int.le_refl, Nat.le_refl, c13, r13, vLen_of, hsv, hsw, hlv, hlw, g1, g2, g3, g4, g5, g6, call14]
    exact ⟨_, rfl⟩
  | false =>
  have q1 : ¬ ((x.length : Int) > 2000) := of_decide_eq_false g1
  have q2 : ¬ ((y.length : Int) > 2000) := of_decide_eq_false g2
  have q3 : ¬ (n < 0) := of_decide_eq_false g3
  have q4 : ¬ (m < 0) := of_decide_eq_false g4
  have q5 : ¬ (n > 536870912) := of_decide_eq_false g5
  have q6 : ¬ (m > 536870912) := of_decide_eq_false g6
  obtain ⟨n, rfl⟩ : ∃ k : Nat, n = k := ⟨n.toNat, by omega⟩
  obtain ⟨m, rfl⟩ : ∃ k : Nat, m = k := ⟨m.toNat, by omega⟩
  obtain ⟨o1, h1, e1, w1, l1⟩ := app_own' (bts := 1) (n := h.length) (by omega) (Nat.le_refl _) (Own.nil _ 1 h) hv (cu8_one _) (by rw [hlv]; simp only [lenOf]; omega) (by rw [hlv]; simp only [lenOf]; omega) h (by simp)
  have hl1 : lenOf o1 = x.length := by rw [l1, hlv]; simp only [lenOf]; omega
  obtain ⟨o2, h2, e2, w2, l2⟩ := app_own' (bts := 1) (n := h.length) (by omega) (by simp) w1 (rc_app hw h1) (cu8_one _) (by rw [hlw, hl1]; omega) (by rw [hlw, hl1]; omega) h (by simp)
  have hc : rc 1 (h ++ h2) o2 = some (cu8 (x ++ y)) := by
    have := w2.rcn
    simp only [List.nil_append] at this
    rw [this]; simp [cu8]
  have add : wr ((n : Int) + (m : Int)) = ((n + m : Nat) : Int) := by rw [wr_id (by omega) (by omega)]; omega
  have cx := fun X => call34 x (by omega) (h ++ X) v (rc_app hv X)
  have cy := fun X => call34 y (by omega) (h ++ X) w (rc_app hw X)
  have cb := call34 (x ++ y) (by rw [List.length_append]; omega) (h ++ h2) o2 hc
  have cn := fun H => call34 [] (by simp) H .nils (by rfl)
  rw [crc_nil] at cn
  have jxy := fun H => call44 (crcL x) (crcL y) (y.length : Int) (by omega) (by omega) H
  rw [joinE_eq _ (by omega), joinV_eq _ _ _ (by omega), ← crc_join] at jxy
  have jab := fun H => call44 a b (n : Int) (by omega) (by omega) H
  have jl := fun H => call44 (joinV a b n) c (m : Int) (by omega) (by omega) H
  have jbc := fun H => call44 b c (m : Int) (by omega) (by omega) H
  have jr := fun H => call44 a (joinV b c m) ((n + m : Nat) : Int) (by omega) (by omega) H
  have jo := fun H => call44 a 0 0 (by omega) (by omega) H
  have jt := fun H => call44 0 b (n : Int) (by omega) (by omega) H
  rw [joinE_eq _ (by omega)] at jab jl jbc jr jt
  rw [join_assoc a b c n m (by omega) (by omega)] at jl
  rw [join_own, show joinE 0 = 0 from rfl] at jo
  rw [join_other b n (by omega)] at jt
  generalize joinV a (joinV b c m) ((n + m : Nat) : Int) = zr at *
  generalize joinV b c m = zb at *
  generalize joinV a b n = za at *
  generalize crcL x = zx at *
  generalize crcL y = zy at *
  generalize crcL (x ++ y) = zxy at *
  have ne0 : ((0 : Int) != 0) = false := rfl
  have eq0 : ((0 : Int) == 0) = true := rfl
  refine ⟨none, ?_⟩
  rw [call_gc0 fn13]
  simp -implicitDefEqProofs only [runEqs, List.zipIdx_cons, List.zipIdx_nil, List.map_cons, List.map_nil, Nat.zero_add, Nat.add_zero, Nat.zero_mul, Nat.reduceAdd, Nat.reduceMul, Nat.reduceBEq, Nat.reduceLT, Nat.reduceSub, Option.map_some, Option.map_none, Option.isSome_some, Option.isSome_none, Bool.not_true, Bool.not_false, Bool.true_or, Bool.false_or, Bool.or_true, List.getElem?_cons_zero, List.getElem?_cons_succ, List.set_cons_zero, List.set_cons_succ, List.length_cons, List.length_nil, List.length_append, List.append_assoc, List.cons_append, List.nil_append, List.zip_cons_cons, List.zip_nil_right, Int.reduceAdd, Int.reduceSub, Int.reduceMul, Int.reduceLT, Int.reduceLE, Int.reduceNeg, Int.reduceToNat, Int.zero_add, Int.add_zero, decide_true, decide_false, Nat.reduceLeDiff, Nat.min_self, List.drop_succ_cons, List.drop_zero, List.drop_nil, List.take_succ_cons, List.take_zero, List.take_nil, List.all_cons, List.all_nil, Bool.and_true, Bool.true_and, Nat.mul_one, List.singleton_append, Int.le_refl, Nat.le_refl, c13, r13, vLen_of, hsv, hsw, hlv, hlw, g1, g2, g3, g4, g5, g6, e1, e2, cx, cy, cb, cn, jxy, jab, jl, jbc, jr, jo, jt, add, ne0, eq0, neq_u32, eql_u32, bne_self_eq_false, beq_self_eq_true, call14]
  exact ⟨_, rfl⟩
end Go.Proofs.Ytccepmhhilhajaa.K

