/- Texts of this claim, put together (KJoin, KJoin2, KRef12, KLaw12): lemmas towards the statement; no conditions of their own. -/
import Derived.Test.YtccepmhhilhajaaLb5
/- Join: what its functions compute. -/
set_option linter.unusedVariables false
set_option linter.unusedSimpArgs false
set_option maxRecDepth 100000
namespace Go.Proofs.Ytccepmhhilhajaa.K
open Go Go.A

def ofK (m : List (BitVec 32)) (x : BitVec 32) : Nat → BitVec 32
  | 0 => 0
  | k + 1 => if (x >>> k &&& 1 == 1) = true then ofK m x k ^^^ m.getD k 0 else ofK m x k
def ofM (m : List (BitVec 32)) (x : BitVec 32) : BitVec 32 := ofK m x 32
def sqM (m : List (BitVec 32)) : List (BitVec 32) := m.map (ofM m)
def m0 : List (BitVec 32) := (List.range 32).map fun i => stp (1 <<< i) 0

theorem u32_at (m : List (BitVec 32)) (i : Nat) (h : i < m.length) : (cu32 m)[i]? = some (u32 (m.getD i 0)) := by
  rw [cu32_at m i h]; simp [h]
theorem cu32_set (l : List (BitVec 32)) (o : Nat) (b : BitVec 32) : (cu32 l).set o (u32 b) = cu32 (l.set o b) := by simp [cu32, List.map_set]

theorem round60 (m : List (BitVec 32)) (hm : m.length = 32) (x : BitVec 32) (b : Nat) (H : Heap) (hb : cellsAt H b = some (cu32 m)) (i : Nat) (hi : i < 32) :
    Nxt (execC (run T) c60_0 ⟨[0, 1, 5, 7].zip [.ptr b 0, u32 x, u32 (ofK m x i), i64 i], [], some none⟩ H) [0, 1, 5, 7] [.ptr b 0, u32 x, u32 (ofK m x (i + 1)), i64 ((i + 1 : Nat) : Int)] [] (some none) H := by
  have hlt : decide ((i : Int) < 32) = true := by simpa using by omega
  have hw := wr_succ_nat i (by omega)
  have h0 : (0 : Int) ≤ (i : Int) := by omega
  have ht : ((i : Int)).toNat = i := by omega
  have hat := u32_at m i (by omega)
  rw [ofK]
  cases hx : (x >>> i &&& 1 == 1) with
  | true =>
    rw [if_pos rfl]
    simp -implicitDefEqProofs only [runEqs, List.zipIdx_cons, List.zipIdx_nil, List.map_cons, List.map_nil, Nat.zero_add, Nat.add_zero, Nat.zero_mul, Nat.reduceAdd, Nat.reduceMul, Nat.reduceBEq, Nat.reduceLT, Nat.reduceSub, Option.map_some, Option.map_none, Option.isSome_some, Option.isSome_none, Bool.not_true, Bool.not_false, Bool.true_or, Bool.false_or, Bool.or_true, List.getElem?_cons_zero, List.getElem?_cons_succ, List.set_cons_zero, List.set_cons_succ, List.length_cons, List.length_nil, List.length_append, List.append_assoc, List.cons_append, List.nil_append, List.zip_cons_cons, List.zip_nil_right, Int.reduceAdd, Int.reduceSub, Int.reduceMul, Int.reduceLT, Int.reduceLE, Int.reduceNeg, Int.reduceToNat, Int.zero_add, Int.add_zero, decide_true, decide_false, Nat.reduceLeDiff, Nat.min_self, List.drop_succ_cons, List.drop_zero, List.drop_nil, List.take_succ_cons, List.take_zero, List.take_nil, List.all_cons, List.all_nil, Bool.and_true, Bool.true_and, Nat.mul_one, List.singleton_append, Int.le_refl, Nat.le_refl, c60_0, hlt, hw, shr_u32_i64, h0, ht, and_u32, eql_u32, hx, hb, hi, hat, xor_u32]
    exact nxt_some _ _ _ _ _ _ _ rfl rfl
  | false =>
    rw [if_neg (by decide)]
    simp -implicitDefEqProofs only [runEqs, List.zipIdx_cons, List.zipIdx_nil, List.map_cons, List.map_nil, Nat.zero_add, Nat.add_zero, Nat.zero_mul, Nat.reduceAdd, Nat.reduceMul, Nat.reduceBEq, Nat.reduceLT, Nat.reduceSub, Option.map_some, Option.map_none, Option.isSome_some, Option.isSome_none, Bool.not_true, Bool.not_false, Bool.true_or, Bool.false_or, Bool.or_true, List.getElem?_cons_zero, List.getElem?_cons_succ, List.set_cons_zero, List.set_cons_succ, List.length_cons, List.length_nil, List.length_append, List.append_assoc, List.cons_append, List.nil_append, List.zip_cons_cons, List.zip_nil_right, Int.reduceAdd, Int.reduceSub, Int.reduceMul, Int.reduceLT, Int.reduceLE, Int.reduceNeg, Int.reduceToNat, Int.zero_add, Int.add_zero, decide_true, decide_false, Nat.reduceLeDiff, Nat.min_self, List.drop_succ_cons, List.drop_zero, List.drop_nil, List.take_succ_cons, List.take_zero, List.take_nil, List.all_cons, List.all_nil, Bool.and_true, Bool.true_and, Nat.mul_one, List.singleton_append, Int.le_refl, Nat.le_refl, c60_0, hlt, hw, shr_u32_i64, h0, ht, and_u32, eql_u32, hx]
    exact nxt_some _ _ _ _ _ _ _ rfl rfl

theorem call60 (m : List (BitVec 32)) (hm : m.length = 32) (x : BitVec 32) (b : Nat) (H : Heap) (hb : cellsAt H b = some (cu32 m)) : (run T).call 60 [.ptr b 0, u32 x] none H = some (.ret (u32 (ofM m x)), none, H) := by
  have hlp : ∀ t, kK [0, 1, 5, 7] t = [(0, .ptr b 0), (1, u32 x), (5, u32 0), (7, i64 0)] → execC (run T) (.loop (.seq (.keep [0, 1, 5, 7]) c60_0)) ⟨t, [], some none⟩ H =
      kLp T (execC (run T) c60_0 ⟨[(0, .ptr b 0), (1, u32 x), (5, u32 (ofM m x)), (7, i64 32)], [], some none⟩ H) (.seq (.keep [0, 1, 5, 7]) c60_0) :=
    loop_to2 (T := T) (L := [0, 1, 5, 7]) (c := c60_0) (d := []) (u := some none) (fun i => [.ptr b 0, u32 x, u32 (ofK m x i), i64 i]) (fun _ => H) 32 (fun i hi => round60 m hm x b H hb i hi) rfl rfl rfl rfl
  have hf : decide ((32 : Int) < 32) = false := rfl
  rw [call_gc0 fn60]
  generalize ofM m x = z at *
  simp -implicitDefEqProofs only [runEqs, List.zipIdx_cons, List.zipIdx_nil, List.map_cons, List.map_nil, Nat.zero_add, Nat.add_zero, Nat.zero_mul, Nat.reduceAdd, Nat.reduceMul, Nat.reduceBEq, Nat.reduceLT, Nat.reduceSub, Option.map_some, Option.map_none, Option.isSome_some, Option.isSome_none, Bool.not_true, Bool.not_false, Bool.true_or, Bool.false_or, Bool.or_true, List.getElem?_cons_zero, List.getElem?_cons_succ, List.set_cons_zero, List.set_cons_succ, List.length_cons, List.length_nil, List.length_append, List.append_assoc, List.cons_append, List.nil_append, List.zip_cons_cons, List.zip_nil_right, Int.reduceAdd, Int.reduceSub, Int.reduceMul, Int.reduceLT, Int.reduceLE, Int.reduceNeg, Int.reduceToNat, Int.zero_add, Int.add_zero, decide_true, decide_false, Nat.reduceLeDiff, Nat.min_self, List.drop_succ_cons, List.drop_zero, List.drop_nil, List.take_succ_cons, List.take_zero, List.take_nil, List.all_cons, List.all_nil, Bool.and_true, Bool.true_and, Nat.mul_one, List.singleton_append, Int.le_refl, Nat.le_refl, c60, r60, hlp]
  simp -implicitDefEqProofs only [runEqs, List.zipIdx_cons, List.zipIdx_nil, List.map_cons, List.map_nil, Nat.zero_add, Nat.add_zero, Nat.zero_mul, Nat.reduceAdd, Nat.reduceMul, Nat.reduceBEq, Nat.reduceLT, Nat.reduceSub, Option.map_some, Option.map_none, Option.isSome_some, Option.isSome_none, Bool.not_true, Bool.not_false, Bool.true_or, Bool.false_or, Bool.or_true, List.getElem?_cons_zero, List.getElem?_cons_succ, List.set_cons_zero, List.set_cons_succ, List.length_cons, List.length_nil, List.length_append, List.append_assoc, List.cons_append, List.nil_append, List.zip_cons_cons, List.zip_nil_right, Int.reduceAdd, Int.reduceSub, Int.reduceMul, Int.reduceLT, Int.reduceLE, Int.reduceNeg, Int.reduceToNat, Int.zero_add, Int.add_zero, decide_true, decide_false, Nat.reduceLeDiff, Nat.min_self, List.drop_succ_cons, List.drop_zero, List.drop_nil, List.take_succ_cons, List.take_zero, List.take_nil, List.all_cons, List.all_nil, Bool.and_true, Bool.true_and, Nat.mul_one, List.singleton_append, Int.le_refl, Nat.le_refl, c60_0, hf]

/-- The square, as far as it is done. -/
def sqK (m : List (BitVec 32)) : Nat → List (BitVec 32)
  | 0 => List.replicate 32 0
  | k + 1 => (sqK m k).set k (ofM m (m.getD k 0))
theorem sqK_len (m : List (BitVec 32)) : ∀ k, (sqK m k).length = 32
  | 0 => by simp [sqK]
  | k + 1 => by rw [sqK, List.length_set, sqK_len m k]
theorem sqK_at (m : List (BitVec 32)) : ∀ k i, i < k → k ≤ 32 → (sqK m k)[i]? = some (ofM m (m.getD i 0))
  | k + 1, i, h, hk => by
    rw [sqK]
    by_cases e : i = k
    · subst e; rw [List.getElem?_set_self (by rw [sqK_len]; omega)]
    · rw [List.getElem?_set_ne (by omega), sqK_at m k i (by omega) (by omega)]
theorem sqK_end (m : List (BitVec 32)) (hm : m.length = 32) : sqK m 32 = sqM m := by
  apply List.ext_getElem?
  intro i
  by_cases hi : i < 32
  · rw [sqK_at m 32 i hi (by omega), sqM, List.getElem?_map, List.getElem?_eq_getElem (by omega)]
    simp [hm, hi]
  · rw [List.getElem?_eq_none (by rw [sqK_len]; omega), List.getElem?_eq_none (by rw [sqM, List.length_map]; omega)]

theorem call61 (m : List (BitVec 32)) (hm : m.length = 32) (b : Nat) (H : Heap) (hb : cellsAt H b = some (cu32 m)) : ∃ g, (run T).call 61 [.ptr b 0] none H = some (.ret (.agg (cu32 (sqM m))), none, H ++ g) := by
  have hlt0 := cellsAt_lt hb
  have hz : cu32 (List.replicate 32 0) = List.replicate 32 (u32 0) := by simp [cu32]
  have hlp : ∀ t, kK [0, 2, 3, 5] t = [(0, .ptr b 0), (2, .ptr H.length 0), (3, .ptr (H.length + 1) 0), (5, i64 0)] → execC (run T) (.loop (.seq (.keep [0, 2, 3, 5]) c61_0)) ⟨t, [], some none⟩ (H ++ [.cells .ex (List.replicate 32 (u32 0)), .cells .ex (List.replicate 32 (u32 0))]) =
      kLp T (execC (run T) c61_0 ⟨[(0, .ptr b 0), (2, .ptr H.length 0), (3, .ptr (H.length + 1) 0), (5, i64 32)], [], some none⟩ (H ++ [.cells .ex (List.replicate 32 (u32 0)), .cells .ex (cu32 (sqM m))])) (.seq (.keep [0, 2, 3, 5]) c61_0) := by
    refine loop_to2 (T := T) (L := [0, 2, 3, 5]) (c := c61_0) (d := []) (u := some none) (fun i => [.ptr b 0, .ptr H.length 0, .ptr (H.length + 1) 0, i64 i]) (fun i => H ++ [.cells .ex (List.replicate 32 (u32 0)), .cells .ex (cu32 (sqK m i))]) 32 (fun i hi => ?_) rfl (by rw [sqK, hz]) rfl (by rw [sqK_end m hm])
    have hlt : decide ((i : Int) < 32) = true := by simpa using by omega
    have hw := wr_succ_nat i (by omega)
    have hat := u32_at m i (by omega)
    have hb' : ∀ x, cellsAt (H ++ x) b = some (cu32 m) := fun x => by rw [cellsAt_app hlt0, hb]
    have h60 := fun X => call60 m hm (m.getD i 0) b (H ++ X) (hb' X)
    have hl := sqK_len m i
    have hcl : (cu32 (sqK m i)).length = 32 := by rw [cu32_len, hl]
    show Nxt _ _ _ _ _ (H ++ [.cells .ex (List.replicate 32 (u32 0)), .cells .ex (cu32 ((sqK m i).set i (ofM m (m.getD i 0))))])
    generalize ofM m (m.getD i 0) = z at *
    simp -implicitDefEqProofs only [runEqs, List.zipIdx_cons, List.zipIdx_nil, List.map_cons, List.map_nil, Nat.zero_add, Nat.add_zero, Nat.zero_mul, Nat.reduceAdd, Nat.reduceMul, Nat.reduceBEq, Nat.reduceLT, Nat.reduceSub, Option.map_some, Option.map_none, Option.isSome_some, Option.isSome_none, Bool.not_true, Bool.not_false, Bool.true_or, Bool.false_or, Bool.or_true, List.getElem?_cons_zero, List.getElem?_cons_succ, List.set_cons_zero, List.set_cons_succ, List.length_cons, List.length_nil, List.length_append, List.append_assoc, List.cons_append, List.nil_append, List.zip_cons_cons, List.zip_nil_right, Int.reduceAdd, Int.reduceSub, Int.reduceMul, Int.reduceLT, Int.reduceLE, Int.reduceNeg, Int.reduceToNat, Int.zero_add, Int.add_zero, decide_true, decide_false, Nat.reduceLeDiff, Nat.min_self, List.drop_succ_cons, List.drop_zero, List.drop_nil, List.take_succ_cons, List.take_zero, List.take_nil, List.all_cons, List.all_nil, Bool.and_true, Bool.true_and, Nat.mul_one, List.singleton_append, Int.le_refl, Nat.le_refl, c61_0, hlt, hw, hb', hi, hat, h60, hcl, cu32_set]
    exact nxt_some _ _ _ _ _ _ _ rfl rfl
  have hf : decide ((32 : Int) < 32) = false := rfl
  have hl : (sqM m).length = 32 := by rw [sqM, List.length_map, hm]
  have hcl : (cu32 (sqM m)).length = 32 := by rw [cu32_len, hl]
  have hct : (cu32 (sqM m)).take 32 = cu32 (sqM m) := List.take_of_length_le (by omega)
  rw [call_gc0 fn61]
  generalize sqM m = q at *
  simp -implicitDefEqProofs only [runEqs, List.zipIdx_cons, List.zipIdx_nil, List.map_cons, List.map_nil, Nat.zero_add, Nat.add_zero, Nat.zero_mul, Nat.reduceAdd, Nat.reduceMul, Nat.reduceBEq, Nat.reduceLT, Nat.reduceSub, Option.map_some, Option.map_none, Option.isSome_some, Option.isSome_none, Bool.not_true, Bool.not_false, Bool.true_or, Bool.false_or, Bool.or_true, List.getElem?_cons_zero, List.getElem?_cons_succ, List.set_cons_zero, List.set_cons_succ, List.length_cons, List.length_nil, List.length_append, List.append_assoc, List.cons_append, List.nil_append, List.zip_cons_cons, List.zip_nil_right, Int.reduceAdd, Int.reduceSub, Int.reduceMul, Int.reduceLT, Int.reduceLE, Int.reduceNeg, Int.reduceToNat, Int.zero_add, Int.add_zero, decide_true, decide_false, Nat.reduceLeDiff, Nat.min_self, List.drop_succ_cons, List.drop_zero, List.drop_nil, List.take_succ_cons, List.take_zero, List.take_nil, List.all_cons, List.all_nil, Bool.and_true, Bool.true_and, Nat.mul_one, List.singleton_append, Int.le_refl, Nat.le_refl, c61, r61, hlp]
  simp -implicitDefEqProofs only [runEqs, List.zipIdx_cons, List.zipIdx_nil, List.map_cons, List.map_nil, Nat.zero_add, Nat.add_zero, Nat.zero_mul, Nat.reduceAdd, Nat.reduceMul, Nat.reduceBEq, Nat.reduceLT, Nat.reduceSub, Option.map_some, Option.map_none, Option.isSome_some, Option.isSome_none, Bool.not_true, Bool.not_false, Bool.true_or, Bool.false_or, Bool.or_true, List.getElem?_cons_zero, List.getElem?_cons_succ, List.set_cons_zero, List.set_cons_succ, List.length_cons, List.length_nil, List.length_append, List.append_assoc, List.cons_append, List.nil_append, List.zip_cons_cons, List.zip_nil_right, Int.reduceAdd, Int.reduceSub, Int.reduceMul, Int.reduceLT, Int.reduceLE, Int.reduceNeg, Int.reduceToNat, Int.zero_add, Int.add_zero, decide_true, decide_false, Nat.reduceLeDiff, Nat.min_self, List.drop_succ_cons, List.drop_zero, List.drop_nil, List.take_succ_cons, List.take_zero, List.take_nil, List.all_cons, List.all_nil, Bool.and_true, Bool.true_and, Nat.mul_one, List.singleton_append, Int.le_refl, Nat.le_refl, c61_0, hf, hcl, hct, cu32_one, List.length_replicate]
  exact ⟨_, rfl⟩

/-- The loop over the bits of the length. -/
def joinR (a : BitVec 32) (n : Nat) (m : List (BitVec 32)) : BitVec 32 :=
  if h : n = 0 then a else joinR (if n % 2 = 1 then ofM m a else a) (n / 2) (sqM m)
termination_by n
decreasing_by omega

def joinV (a b : BitVec 32) (n : Int) : BitVec 32 := if n < 0 ∨ 2147483647 < n then 0 else joinR a n.toNat m0 ^^^ b
def joinE (n : Int) : Int := if n < 0 then 1 else if 2147483647 < n then 2 else 0

def m0K : Nat → List (BitVec 32)
  | 0 => List.replicate 32 0
  | k + 1 => (m0K k).set k (stp (1 <<< k) 0)
theorem m0K_len : ∀ k, (m0K k).length = 32
  | 0 => by simp [m0K]
  | k + 1 => by rw [m0K, List.length_set, m0K_len k]
theorem m0K_at : ∀ k i, i < k → k ≤ 32 → (m0K k)[i]? = some (stp (1 <<< i) 0)
  | k + 1, i, h, hk => by
    rw [m0K]
    by_cases e : i = k
    · subst e; rw [List.getElem?_set_self (by rw [m0K_len]; omega)]
    · rw [List.getElem?_set_ne (by omega), m0K_at k i (by omega) (by omega)]
theorem m0K_end : m0K 32 = m0 := by
  apply List.ext_getElem?
  intro i
  by_cases hi : i < 32
  · rw [m0K_at 32 i hi (by omega), m0]; simp [hi]
  · rw [List.getElem?_eq_none (by rw [m0K_len]; omega), List.getElem?_eq_none (by simp [m0]; omega)]
theorem m0_len : m0.length = 32 := by simp [m0]

theorem par_eq (n : Nat) (hn : n < 4294967296) : ((wr ((BitVec.ofInt 64 (n : Int) &&& BitVec.ofInt 64 1).toNat : Int)) == 1) = decide (n % 2 = 1) := by
  have h1 : (BitVec.ofInt 64 (n : Int) &&& BitVec.ofInt 64 1).toNat = n % 2 := by
    have e1 : (BitVec.ofInt 64 (1 : Int)).toNat = 1 := rfl
    rw [BitVec.toNat_and, e1, Nat.and_one_is_mod, BitVec.toNat_ofInt]
    omega
  rw [h1, wr_id (by omega) (by omega), Bool.eq_iff_iff, beq_iff_eq, decide_eq_true_eq]
  omega

theorem round44 (m : List (BitVec 32)) (hm : m.length = 32) (a b : BitVec 32) (n : Nat) (hn : n < 4294967296) (h0 : 0 < n) (H g : Heap) :
    ∃ g', Nxt (execC (run T) c44_1 ⟨[0, 1, 2, 9].zip [u32 a, u32 b, i64 n, .ptr H.length 0], [], some none⟩ (H ++ .cells .ex (cu32 m) :: g)) [0, 1, 2, 9]
      [u32 (if n % 2 = 1 then ofM m a else a), u32 b, i64 ((n / 2 : Nat) : Int), .ptr H.length 0] [] (some none) (H ++ .cells .ex (cu32 (sqM m)) :: g') := by
  have hg : decide ((n : Int) > 0) = true := by simp; omega
  have hp := par_eq n hn
  have hsh : (n : Int) / 2 ^ min ((((1 : BitVec 64).toNat : Int)).toNat) 64 = ((n / 2 : Nat) : Int) := by
    have : min ((((1 : BitVec 64).toNat : Int)).toNat) 64 = 1 := rfl
    rw [this]
    omega
  have hsr : evBin .shr (i64 (n : Int)) (u64 1) = some (i64 ((n / 2 : Nat) : Int)) := by
    rw [show u64 1 = V.int .u64 (((1 : BitVec 64).toNat : Int)) from rfl, shr_i64 _ _ _ (by omega), hsh]
  have h60 := call60 m hm a H.length (H ++ .cells .ex (cu32 m) :: g) (by rw [at_app0]; rfl)
  obtain ⟨g', h61⟩ := call61 m hm H.length (H ++ .cells .ex (cu32 m) :: g) (by rw [at_app0]; rfl)
  have hcl : (cu32 (sqM m)).length = (cu32 m).length := by rw [cu32_len, cu32_len, sqM, List.length_map]
  have hcl2 : (cu32 (sqM m)).length = 32 := by rw [hcl, cu32_len, hm]
  simp only [List.append_assoc, List.cons_append] at h61
  generalize sqM m = q at *
  generalize ofM m a = z at *
  refine ⟨g ++ g', ?_⟩
  by_cases hb : n % 2 = 1
  · rw [if_pos hb]
    rw [decide_eq_true hb] at hp
    simp -implicitDefEqProofs only [runEqs, List.zipIdx_cons, List.zipIdx_nil, List.map_cons, List.map_nil, Nat.zero_add, Nat.add_zero, Nat.zero_mul, Nat.reduceAdd, Nat.reduceMul, Nat.reduceBEq, Nat.reduceLT, Nat.reduceSub, Option.map_some, Option.map_none, Option.isSome_some, Option.isSome_none, Bool.not_true, Bool.not_false, Bool.true_or, Bool.false_or, Bool.or_true, List.getElem?_cons_zero, List.getElem?_cons_succ, List.set_cons_zero, List.set_cons_succ, List.length_cons, List.length_nil, List.length_append, List.append_assoc, List.cons_append, List.nil_append, List.zip_cons_cons, List.zip_nil_right, Int.reduceAdd, Int.reduceSub, Int.reduceMul, Int.reduceLT, Int.reduceLE, Int.reduceNeg, Int.reduceToNat, Int.zero_add, Int.add_zero, decide_true, decide_false, Nat.reduceLeDiff, Nat.min_self, List.drop_succ_cons, List.drop_zero, List.drop_nil, List.take_succ_cons, List.take_zero, List.take_nil, List.all_cons, List.all_nil, Bool.and_true, Bool.true_and, Nat.mul_one, List.singleton_append, Int.le_refl, Nat.le_refl, c44_1, hg, and_i64, hp, h60, h61, hcl2, hcl, cu32_len, cu32_one, hm, hsr]
    exact nxt_some _ _ _ _ _ _ _ rfl rfl
  · rw [if_neg hb]
    rw [decide_eq_false hb] at hp
    simp -implicitDefEqProofs only [runEqs, List.zipIdx_cons, List.zipIdx_nil, List.map_cons, List.map_nil, Nat.zero_add, Nat.add_zero, Nat.zero_mul, Nat.reduceAdd, Nat.reduceMul, Nat.reduceBEq, Nat.reduceLT, Nat.reduceSub, Option.map_some, Option.map_none, Option.isSome_some, Option.isSome_none, Bool.not_true, Bool.not_false, Bool.true_or, Bool.false_or, Bool.or_true, List.getElem?_cons_zero, List.getElem?_cons_succ, List.set_cons_zero, List.set_cons_succ, List.length_cons, List.length_nil, List.length_append, List.append_assoc, List.cons_append, List.nil_append, List.zip_cons_cons, List.zip_nil_right, Int.reduceAdd, Int.reduceSub, Int.reduceMul, Int.reduceLT, Int.reduceLE, Int.reduceNeg, Int.reduceToNat, Int.zero_add, Int.add_zero, decide_true, decide_false, Nat.reduceLeDiff, Nat.min_self, List.drop_succ_cons, List.drop_zero, List.drop_nil, List.take_succ_cons, List.take_zero, List.take_nil, List.all_cons, List.all_nil, Bool.and_true, Bool.true_and, Nat.mul_one, List.singleton_append, Int.le_refl, Nat.le_refl, c44_1, hg, and_i64, hp, h60, h61, hcl2, hcl, cu32_len, cu32_one, hm, hsr]
    exact nxt_some _ _ _ _ _ _ _ rfl rfl
end Go.Proofs.Ytccepmhhilhajaa.K

/- Join: the whole; the checksum of the reference. -/
set_option linter.unusedVariables false
set_option linter.unusedSimpArgs false
set_option maxRecDepth 100000
namespace Go.Proofs.Ytccepmhhilhajaa.K
open Go Go.A

theorem sqM_len (m : List (BitVec 32)) : (sqM m).length = m.length := by rw [sqM, List.length_map]

theorem call44 (a b : BitVec 32) (n : Int) (hn0 : -9223372036854775808 ≤ n) (hn1 : n < 9223372036854775808) (h : Heap) : (run T).call 44 [u32 a, u32 b, i64 n] none h = some (.ret (.tup [u32 (joinV a b n), i64 (joinE n)]), none, h) := by
  by_cases hc : n < 0
  · rw [joinV, joinE, if_pos (.inl hc), if_pos hc]
    have hg : decide (n < 0) = true := by simpa using hc
    refine call_gc1 fn44 _ _ (h' := roH h) ?_ rfl
    simp -implicitDefEqProofs only [runEqs, List.zipIdx_cons, List.zipIdx_nil, List.map_cons, List.map_nil, Nat.zero_add, Nat.add_zero, Nat.zero_mul, Nat.reduceAdd, Nat.reduceMul, Nat.reduceBEq, Nat.reduceLT, Nat.reduceSub, Option.map_some, Option.map_none, Option.isSome_some, Option.isSome_none, Bool.not_true, Bool.not_false, Bool.true_or, Bool.false_or, Bool.or_true, List.getElem?_cons_zero, List.getElem?_cons_succ, List.set_cons_zero, List.set_cons_succ, List.length_cons, List.length_nil, List.length_append, List.append_assoc, List.cons_append, List.nil_append, List.zip_cons_cons, List.zip_nil_right, Int.reduceAdd, Int.reduceSub, Int.reduceMul, Int.reduceLT, Int.reduceLE, Int.reduceNeg, Int.reduceToNat, Int.zero_add, Int.add_zero, decide_true, decide_false, Nat.reduceLeDiff, Nat.min_self, List.drop_succ_cons, List.drop_zero, List.drop_nil, List.take_succ_cons, List.take_zero, List.take_nil, List.all_cons, List.all_nil, Bool.and_true, Bool.true_and, Nat.mul_one, List.singleton_append, Int.le_refl, Nat.le_refl, c44, r44, hg]
  have hg : decide (n < 0) = false := by simpa using hc
  by_cases hc2 : 2147483647 < n
  · rw [joinV, joinE, if_pos (.inr hc2), if_neg hc, if_pos hc2]
    have hg2 : decide (n > 2147483647) = true := by simpa using hc2
    refine call_gc1 fn44 _ _ (h' := roH h) ?_ rfl
    simp -implicitDefEqProofs only [runEqs, List.zipIdx_cons, List.zipIdx_nil, List.map_cons, List.map_nil, Nat.zero_add, Nat.add_zero, Nat.zero_mul, Nat.reduceAdd, Nat.reduceMul, Nat.reduceBEq, Nat.reduceLT, Nat.reduceSub, Option.map_some, Option.map_none, Option.isSome_some, Option.isSome_none, Bool.not_true, Bool.not_false, Bool.true_or, Bool.false_or, Bool.or_true, List.getElem?_cons_zero, List.getElem?_cons_succ, List.set_cons_zero, List.set_cons_succ, List.length_cons, List.length_nil, List.length_append, List.append_assoc, List.cons_append, List.nil_append, List.zip_cons_cons, List.zip_nil_right, Int.reduceAdd, Int.reduceSub, Int.reduceMul, Int.reduceLT, Int.reduceLE, Int.reduceNeg, Int.reduceToNat, Int.zero_add, Int.add_zero, decide_true, decide_false, Nat.reduceLeDiff, Nat.min_self, List.drop_succ_cons, List.drop_zero, List.drop_nil, List.take_succ_cons, List.take_zero, List.take_nil, List.all_cons, List.all_nil, Bool.and_true, Bool.true_and, Nat.mul_one, List.singleton_append, Int.le_refl, Nat.le_refl, c44, r44, hg, hg2]
  have hg2 : decide (n > 2147483647) = false := by simpa using hc2
  rw [joinV, joinE, if_neg (by omega), if_neg hc, if_neg hc2]
  obtain ⟨n, rfl⟩ : ∃ m : Nat, n = m := ⟨n.toNat, by omega⟩
  have tn : ((n : Int)).toNat = n := by omega
  rw [tn]
  have key : ∃ h', kF (run T) r44 (execC (run T) c44 (frame0 [u32 a, u32 b, i64 n] none) (roH h)) = some (.ret (.tup [u32 (joinR a n m0 ^^^ b), i64 0]), none, h') := by
    generalize roH h = H
    have h55 := call55 pol H
    have hpol : (3252574743 : BitVec 32) = pol := rfl
    have hz : cu32 (List.replicate 32 0) = List.replicate 32 (u32 0) := by simp [cu32]
    have hlp : ∀ t, kK [0, 1, 2, 8, 9, 16] t = [(0, u32 a), (1, u32 b), (2, i64 n), (8, .fn (.func 75) [] [.ptr H.length 0]), (9, .ptr (H.length + 1) 0), (16, i64 0)] →
        execC (run T) (.loop (.seq (.keep [0, 1, 2, 8, 9, 16]) c44_0)) ⟨t, [], some none⟩ (H ++ [.cells .ex [u32 pol], .cells .ex (List.replicate 32 (u32 0))]) =
        kLp T (execC (run T) c44_0 ⟨[(0, u32 a), (1, u32 b), (2, i64 n), (8, .fn (.func 75) [] [.ptr H.length 0]), (9, .ptr (H.length + 1) 0), (16, i64 32)], [], some none⟩ (H ++ [.cells .ex [u32 pol], .cells .ex (cu32 m0)])) (.seq (.keep [0, 1, 2, 8, 9, 16]) c44_0) := by
      refine loop_to2 (T := T) (L := [0, 1, 2, 8, 9, 16]) (c := c44_0) (d := []) (u := some none) (fun i => [u32 a, u32 b, i64 n, .fn (.func 75) [] [.ptr H.length 0], .ptr (H.length + 1) 0, i64 i]) (fun i => H ++ [.cells .ex [u32 pol], .cells .ex (cu32 (m0K i))]) 32 (fun i hi => ?_) rfl (by rw [m0K, hz]) rfl (by rw [m0K_end])
      have hlt : decide ((i : Int) < 32) = true := by simpa using by omega
      have hw := wr_succ_nat i (by omega)
      have h0 : (0 : Int) ≤ (i : Int) := by omega
      have ht : ((i : Int)).toNat = i := by omega
      have h75 : ∀ X, (run T).call 75 [u32 ((1 : BitVec 32) <<< i), u8 0, .ptr H.length 0] none (H ++ .cells .ex [u32 pol] :: X) = some (.ret (u32 (stp ((1 : BitVec 32) <<< i) 0)), none, H ++ .cells .ex [u32 pol] :: X) := fun X => call75 (1 <<< i) pol 0 H.length (H ++ .cells .ex [u32 pol] :: X) (by rw [at_app0]; rfl)
      have hl := m0K_len i
      have hcl : (cu32 (m0K i)).length = 32 := by rw [cu32_len, hl]
      show Nxt _ _ _ _ _ (H ++ [.cells .ex [u32 pol], .cells .ex (cu32 ((m0K i).set i (stp ((1 : BitVec 32) <<< i) 0)))])
      generalize stp ((1 : BitVec 32) <<< i) 0 = z at *
      simp -implicitDefEqProofs only [runEqs, List.zipIdx_cons, List.zipIdx_nil, List.map_cons, List.map_nil, Nat.zero_add, Nat.add_zero, Nat.zero_mul, Nat.reduceAdd, Nat.reduceMul, Nat.reduceBEq, Nat.reduceLT, Nat.reduceSub, Option.map_some, Option.map_none, Option.isSome_some, Option.isSome_none, Bool.not_true, Bool.not_false, Bool.true_or, Bool.false_or, Bool.or_true, List.getElem?_cons_zero, List.getElem?_cons_succ, List.set_cons_zero, List.set_cons_succ, List.length_cons, List.length_nil, List.length_append, List.append_assoc, List.cons_append, List.nil_append, List.zip_cons_cons, List.zip_nil_right, Int.reduceAdd, Int.reduceSub, Int.reduceMul, Int.reduceLT, Int.reduceLE, Int.reduceNeg, Int.reduceToNat, Int.zero_add, Int.add_zero, decide_true, decide_false, Nat.reduceLeDiff, Nat.min_self, List.drop_succ_cons, List.drop_zero, List.drop_nil, List.take_succ_cons, List.take_zero, List.take_nil, List.all_cons, List.all_nil, Bool.and_true, Bool.true_and, Nat.mul_one, List.singleton_append, Int.le_refl, Nat.le_refl, c44_0, hlt, hw, shl_u32_i64, h0, ht, callC_dyn, h75, hi, hcl, cu32_set]
      exact nxt_some _ _ _ _ _ _ _ rfl rfl
    obtain ⟨k, vs', h', ⟨a', M, g, hk, rfl, rfl, hM, htgt⟩, hst, hlp2⟩ := loop_st (T := T) (L := [0, 1, 2, 9]) (c := c44_1) (d := []) (u := some none)
      (fun k vs hh => ∃ a' M g, k < 4294967296 ∧ vs = [u32 a', u32 b, i64 ((k : Nat) : Int), .ptr (H.length + 1) 0] ∧ hh = (H ++ [.cells .ex [u32 pol]]) ++ .cells .ex (cu32 M) :: g ∧ M.length = 32 ∧ joinR a n m0 = joinR a' k M)
      (fun k _ _ => k = 0)
      (by
        rintro k vs hh ⟨a', M, g, hk, rfl, rfl, hM, htgt⟩
        by_cases h0 : k = 0
        · exact .inl h0
        · right
          obtain ⟨g', h1⟩ := round44 M hM a' b k hk (by omega) (H ++ [.cells .ex [u32 pol]]) g
          refine ⟨k / 2, _, _, by omega, ?_, if k % 2 = 1 then ofM M a' else a', sqM M, g', by omega, rfl, rfl, by rw [sqM_len, hM], ?_⟩
          · simpa using h1
          · rw [htgt, joinR, dif_neg h0])
      n [u32 a, u32 b, i64 n, .ptr (H.length + 1) 0] ((H ++ [.cells .ex [u32 pol]]) ++ .cells .ex (cu32 m0) :: []) ⟨a, m0, [], by omega, rfl, rfl, m0_len, rfl⟩
    have hst : k = 0 := hst
    subst hst
    rw [htgt, joinR, dif_pos rfl]
    have hf : decide ((32 : Int) < 32) = false := rfl
    have hf2 : decide ((0 : Int) > 0) = false := rfl
    simp only [List.zip_cons_cons, List.zip_nil_right, List.append_assoc, List.cons_append, List.nil_append] at hlp2
    simp -implicitDefEqProofs only [runEqs, List.zipIdx_cons, List.zipIdx_nil, List.map_cons, List.map_nil, Nat.zero_add, Nat.add_zero, Nat.zero_mul, Nat.reduceAdd, Nat.reduceMul, Nat.reduceBEq, Nat.reduceLT, Nat.reduceSub, Option.map_some, Option.map_none, Option.isSome_some, Option.isSome_none, Bool.not_true, Bool.not_false, Bool.true_or, Bool.false_or, Bool.or_true, List.getElem?_cons_zero, List.getElem?_cons_succ, List.set_cons_zero, List.set_cons_succ, List.length_cons, List.length_nil, List.length_append, List.append_assoc, List.cons_append, List.nil_append, List.zip_cons_cons, List.zip_nil_right, Int.reduceAdd, Int.reduceSub, Int.reduceMul, Int.reduceLT, Int.reduceLE, Int.reduceNeg, Int.reduceToNat, Int.zero_add, Int.add_zero, decide_true, decide_false, Nat.reduceLeDiff, Nat.min_self, List.drop_succ_cons, List.drop_zero, List.drop_nil, List.take_succ_cons, List.take_zero, List.take_nil, List.all_cons, List.all_nil, Bool.and_true, Bool.true_and, Nat.mul_one, List.singleton_append, Int.le_refl, Nat.le_refl, c44, r44, hg, hg2, hpol, h55, hlp]
    simp -implicitDefEqProofs only [runEqs, List.zipIdx_cons, List.zipIdx_nil, List.map_cons, List.map_nil, Nat.zero_add, Nat.add_zero, Nat.zero_mul, Nat.reduceAdd, Nat.reduceMul, Nat.reduceBEq, Nat.reduceLT, Nat.reduceSub, Option.map_some, Option.map_none, Option.isSome_some, Option.isSome_none, Bool.not_true, Bool.not_false, Bool.true_or, Bool.false_or, Bool.or_true, List.getElem?_cons_zero, List.getElem?_cons_succ, List.set_cons_zero, List.set_cons_succ, List.length_cons, List.length_nil, List.length_append, List.append_assoc, List.cons_append, List.nil_append, List.zip_cons_cons, List.zip_nil_right, Int.reduceAdd, Int.reduceSub, Int.reduceMul, Int.reduceLT, Int.reduceLE, Int.reduceNeg, Int.reduceToNat, Int.zero_add, Int.add_zero, decide_true, decide_false, Nat.reduceLeDiff, Nat.min_self, List.drop_succ_cons, List.drop_zero, List.drop_nil, List.take_succ_cons, List.take_zero, List.take_nil, List.all_cons, List.all_nil, Bool.and_true, Bool.true_and, Nat.mul_one, List.singleton_append, Int.le_refl, Nat.le_refl, c44_0, hf, hlp2]
    simp -implicitDefEqProofs only [runEqs, List.zipIdx_cons, List.zipIdx_nil, List.map_cons, List.map_nil, Nat.zero_add, Nat.add_zero, Nat.zero_mul, Nat.reduceAdd, Nat.reduceMul, Nat.reduceBEq, Nat.reduceLT, Nat.reduceSub, Option.map_some, Option.map_none, Option.isSome_some, Option.isSome_none, Bool.not_true, Bool.not_false, Bool.true_or, Bool.false_or, Bool.or_true, List.getElem?_cons_zero, List.getElem?_cons_succ, List.set_cons_zero, List.set_cons_succ, List.length_cons, List.length_nil, List.length_append, List.append_assoc, List.cons_append, List.nil_append, List.zip_cons_cons, List.zip_nil_right, Int.reduceAdd, Int.reduceSub, Int.reduceMul, Int.reduceLT, Int.reduceLE, Int.reduceNeg, Int.reduceToNat, Int.zero_add, Int.add_zero, decide_true, decide_false, Nat.reduceLeDiff, Nat.min_self, List.drop_succ_cons, List.drop_zero, List.drop_nil, List.take_succ_cons, List.take_zero, List.take_nil, List.all_cons, List.all_nil, Bool.and_true, Bool.true_and, Nat.mul_one, List.singleton_append, Int.le_refl, Nat.le_refl, c44_1, hf2, xor_u32]
    exact ⟨_, rfl⟩
  obtain ⟨h', hk⟩ := key
  exact call_gc1 fn44 _ _ hk rfl

end Go.Proofs.Ytccepmhhilhajaa.K

/- The reference's checksum and Join: they compute the same. -/
set_option linter.unusedVariables false
set_option linter.unusedSimpArgs false
set_option maxRecDepth 100000
namespace Go.Proofs.Ytccepmhhilhajaa.K
open Go Go.A

theorem rem2_low (c : BitVec 32) : (c % 2 == 1) = (c &&& 1 == 1) := by
  have h1 : (c &&& 1).toNat = c.toNat % 2 := by
    rw [BitVec.toNat_and]
    exact Nat.and_one_is_mod _
  have h2 : c % 2 = c &&& 1 := by
    apply BitVec.eq_of_toNat_eq
    rw [h1, BitVec.toNat_umod]
    rfl
  rw [h2]
theorem quo2_shr (c : BitVec 32) : c / 2 = c >>> (1 : Nat) := by
  apply BitVec.eq_of_toNat_eq
  rw [BitVec.toNat_udiv, BitVec.toNat_ushiftRight, Nat.shiftRight_eq_div_pow]
  rfl

theorem round62 (c : BitVec 32) (i : Nat) (hi : i < 8) (H : Heap) :
    Nxt (execC (run T) c62_0 ⟨[0, 5].zip [u32 c, i64 i], [], some none⟩ H) [0, 5] [u32 (bit pol c), i64 ((i + 1 : Nat) : Int)] [] (some none) H := by
  have hlt : decide ((i : Int) < 8) = true := by simpa using by omega
  have hw := wr_succ_nat i (by omega)
  have hpol : (3252574743 : BitVec 32) = pol := rfl
  unfold bit
  cases hb : (c &&& 1 == 1) with
  | true =>
    rw [if_pos rfl]
    simp -implicitDefEqProofs only [runEqs, List.zipIdx_cons, List.zipIdx_nil, List.map_cons, List.map_nil, Nat.zero_add, Nat.add_zero, Nat.zero_mul, Nat.reduceAdd, Nat.reduceMul, Nat.reduceBEq, Nat.reduceLT, Nat.reduceSub, Option.map_some, Option.map_none, Option.isSome_some, Option.isSome_none, Bool.not_true, Bool.not_false, Bool.true_or, Bool.false_or, Bool.or_true, List.getElem?_cons_zero, List.getElem?_cons_succ, List.set_cons_zero, List.set_cons_succ, List.length_cons, List.length_nil, List.length_append, List.append_assoc, List.cons_append, List.nil_append, List.zip_cons_cons, List.zip_nil_right, Int.reduceAdd, Int.reduceSub, Int.reduceMul, Int.reduceLT, Int.reduceLE, Int.reduceNeg, Int.reduceToNat, Int.zero_add, Int.add_zero, decide_true, decide_false, Nat.reduceLeDiff, Nat.min_self, List.drop_succ_cons, List.drop_zero, List.drop_nil, List.take_succ_cons, List.take_zero, List.take_nil, List.all_cons, List.all_nil, Bool.and_true, Bool.true_and, Nat.mul_one, List.singleton_append, Int.le_refl, Nat.le_refl, c62_0, hlt, hw, rem_2, quo_2, eql_u32, rem2_low, quo2_shr, hb, xor_u32, hpol]
    exact nxt_some _ _ _ _ _ _ _ rfl rfl
  | false =>
    rw [if_neg (by decide)]
    simp -implicitDefEqProofs only [runEqs, List.zipIdx_cons, List.zipIdx_nil, List.map_cons, List.map_nil, Nat.zero_add, Nat.add_zero, Nat.zero_mul, Nat.reduceAdd, Nat.reduceMul, Nat.reduceBEq, Nat.reduceLT, Nat.reduceSub, Option.map_some, Option.map_none, Option.isSome_some, Option.isSome_none, Bool.not_true, Bool.not_false, Bool.true_or, Bool.false_or, Bool.or_true, List.getElem?_cons_zero, List.getElem?_cons_succ, List.set_cons_zero, List.set_cons_succ, List.length_cons, List.length_nil, List.length_append, List.append_assoc, List.cons_append, List.nil_append, List.zip_cons_cons, List.zip_nil_right, Int.reduceAdd, Int.reduceSub, Int.reduceMul, Int.reduceLT, Int.reduceLE, Int.reduceNeg, Int.reduceToNat, Int.zero_add, Int.add_zero, decide_true, decide_false, Nat.reduceLeDiff, Nat.min_self, List.drop_succ_cons, List.drop_zero, List.drop_nil, List.take_succ_cons, List.take_zero, List.take_nil, List.all_cons, List.all_nil, Bool.and_true, Bool.true_and, Nat.mul_one, List.singleton_append, Int.le_refl, Nat.le_refl, c62_0, hlt, hw, rem_2, quo_2, eql_u32, rem2_low, quo2_shr, hb, xor_u32, hpol]
    exact nxt_some _ _ _ _ _ _ _ rfl rfl

theorem call62 (c : BitVec 32) (x : BitVec 8) (h : Heap) : (run T).call 62 [u32 c, u8 x] none h = some (.ret (u32 (stp c x)), none, h) := by
  refine call_gc1 fn62 _ _ (h' := roH h) ?_ rfl
  generalize roH h = H
  have hlp : ∀ t, kK [0, 5] t = [(0, u32 (c ^^^ x.setWidth 32)), (5, i64 0)] → execC (run T) (.loop (.seq (.keep [0, 5]) c62_0)) ⟨t, [], some none⟩ H =
      kLp T (execC (run T) c62_0 ⟨[(0, u32 (stp c x)), (5, i64 8)], [], some none⟩ H) (.seq (.keep [0, 5]) c62_0) :=
    loop_to2 (T := T) (L := [0, 5]) (c := c62_0) (d := []) (u := some none) (fun i => [u32 (bits pol i (c ^^^ x.setWidth 32)), i64 i]) (fun _ => H) 8 (fun i hi => round62 _ i hi H) rfl rfl rfl rfl
  have hf : decide ((8 : Int) < 8) = false := rfl
  generalize stp c x = z at *
  simp -implicitDefEqProofs only [runEqs, List.zipIdx_cons, List.zipIdx_nil, List.map_cons, List.map_nil, Nat.zero_add, Nat.add_zero, Nat.zero_mul, Nat.reduceAdd, Nat.reduceMul, Nat.reduceBEq, Nat.reduceLT, Nat.reduceSub, Option.map_some, Option.map_none, Option.isSome_some, Option.isSome_none, Bool.not_true, Bool.not_false, Bool.true_or, Bool.false_or, Bool.or_true, List.getElem?_cons_zero, List.getElem?_cons_succ, List.set_cons_zero, List.set_cons_succ, List.length_cons, List.length_nil, List.length_append, List.append_assoc, List.cons_append, List.nil_append, List.zip_cons_cons, List.zip_nil_right, Int.reduceAdd, Int.reduceSub, Int.reduceMul, Int.reduceLT, Int.reduceLE, Int.reduceNeg, Int.reduceToNat, Int.zero_add, Int.add_zero, decide_true, decide_false, Nat.reduceLeDiff, Nat.min_self, List.drop_succ_cons, List.drop_zero, List.drop_nil, List.take_succ_cons, List.take_zero, List.take_nil, List.all_cons, List.all_nil, Bool.and_true, Bool.true_and, Nat.mul_one, List.singleton_append, Int.le_refl, Nat.le_refl, c62, r62, cv_u32_u8, xor_u32, hlp]
  simp -implicitDefEqProofs only [runEqs, List.zipIdx_cons, List.zipIdx_nil, List.map_cons, List.map_nil, Nat.zero_add, Nat.add_zero, Nat.zero_mul, Nat.reduceAdd, Nat.reduceMul, Nat.reduceBEq, Nat.reduceLT, Nat.reduceSub, Option.map_some, Option.map_none, Option.isSome_some, Option.isSome_none, Bool.not_true, Bool.not_false, Bool.true_or, Bool.false_or, Bool.or_true, List.getElem?_cons_zero, List.getElem?_cons_succ, List.set_cons_zero, List.set_cons_succ, List.length_cons, List.length_nil, List.length_append, List.append_assoc, List.cons_append, List.nil_append, List.zip_cons_cons, List.zip_nil_right, Int.reduceAdd, Int.reduceSub, Int.reduceMul, Int.reduceLT, Int.reduceLE, Int.reduceNeg, Int.reduceToNat, Int.zero_add, Int.add_zero, decide_true, decide_false, Nat.reduceLeDiff, Nat.min_self, List.drop_succ_cons, List.drop_zero, List.drop_nil, List.take_succ_cons, List.take_zero, List.take_nil, List.all_cons, List.all_nil, Bool.and_true, Bool.true_and, Nat.mul_one, List.singleton_append, Int.le_refl, Nat.le_refl, c62_0, hf]

theorem round63 (m : List (BitVec 32)) (hm : m.length = 32) (x : BitVec 32) (b : Nat) (H : Heap) (hb : cellsAt H b = some (cu32 m)) (i : Nat) (hi : i < 32) :
    Nxt (execC (run T) c63_0 ⟨[1, 2, 5, 6].zip [u32 x, .ptr b 0, u32 (ofK m x i), i64 i], [], some none⟩ H) [1, 2, 5, 6] [u32 x, .ptr b 0, u32 (ofK m x (i + 1)), i64 ((i + 1 : Nat) : Int)] [] (some none) H := by
  have hlt : decide ((i : Int) < 32) = true := by simpa using by omega
  have hw := wr_succ_nat i (by omega)
  have h0 : (0 : Int) ≤ (i : Int) := by omega
  have ht : ((i : Int)).toNat = i := by omega
  have hat := u32_at m i (by omega)
  rw [ofK]
  cases hx : (x >>> i &&& 1 == 1) with
  | true =>
    rw [if_pos rfl]
    simp -implicitDefEqProofs only [runEqs, List.zipIdx_cons, List.zipIdx_nil, List.map_cons, List.map_nil, Nat.zero_add, Nat.add_zero, Nat.zero_mul, Nat.reduceAdd, Nat.reduceMul, Nat.reduceBEq, Nat.reduceLT, Nat.reduceSub, Option.map_some, Option.map_none, Option.isSome_some, Option.isSome_none, Bool.not_true, Bool.not_false, Bool.true_or, Bool.false_or, Bool.or_true, List.getElem?_cons_zero, List.getElem?_cons_succ, List.set_cons_zero, List.set_cons_succ, List.length_cons, List.length_nil, List.length_append, List.append_assoc, List.cons_append, List.nil_append, List.zip_cons_cons, List.zip_nil_right, Int.reduceAdd, Int.reduceSub, Int.reduceMul, Int.reduceLT, Int.reduceLE, Int.reduceNeg, Int.reduceToNat, Int.zero_add, Int.add_zero, decide_true, decide_false, Nat.reduceLeDiff, Nat.min_self, List.drop_succ_cons, List.drop_zero, List.drop_nil, List.take_succ_cons, List.take_zero, List.take_nil, List.all_cons, List.all_nil, Bool.and_true, Bool.true_and, Nat.mul_one, List.singleton_append, Int.le_refl, Nat.le_refl, c63_0, hlt, hw, shr_u32_i64, h0, ht, rem_2, rem2_low, eql_u32, hx, hb, hi, hat, xor_u32]
    exact nxt_some _ _ _ _ _ _ _ rfl rfl
  | false =>
    rw [if_neg (by decide)]
    simp -implicitDefEqProofs only [runEqs, List.zipIdx_cons, List.zipIdx_nil, List.map_cons, List.map_nil, Nat.zero_add, Nat.add_zero, Nat.zero_mul, Nat.reduceAdd, Nat.reduceMul, Nat.reduceBEq, Nat.reduceLT, Nat.reduceSub, Option.map_some, Option.map_none, Option.isSome_some, Option.isSome_none, Bool.not_true, Bool.not_false, Bool.true_or, Bool.false_or, Bool.or_true, List.getElem?_cons_zero, List.getElem?_cons_succ, List.set_cons_zero, List.set_cons_succ, List.length_cons, List.length_nil, List.length_append, List.append_assoc, List.cons_append, List.nil_append, List.zip_cons_cons, List.zip_nil_right, Int.reduceAdd, Int.reduceSub, Int.reduceMul, Int.reduceLT, Int.reduceLE, Int.reduceNeg, Int.reduceToNat, Int.zero_add, Int.add_zero, decide_true, decide_false, Nat.reduceLeDiff, Nat.min_self, List.drop_succ_cons, List.drop_zero, List.drop_nil, List.take_succ_cons, List.take_zero, List.take_nil, List.all_cons, List.all_nil, Bool.and_true, Bool.true_and, Nat.mul_one, List.singleton_append, Int.le_refl, Nat.le_refl, c63_0, hlt, hw, shr_u32_i64, h0, ht, rem_2, rem2_low, eql_u32, hx]
    exact nxt_some _ _ _ _ _ _ _ rfl rfl

theorem call63 (m : List (BitVec 32)) (hm : m.length = 32) (x : BitVec 32) (h : Heap) : (run T).call 63 [.agg (cu32 m), u32 x] none h = some (.ret (u32 (ofM m x)), none, h) := by
  refine call_gc1 fn63 _ _ (h' := roH h ++ [.cells .ex (cu32 m)]) ?_ rfl
  generalize roH h = H
  have hb : cellsAt (H ++ [.cells .ex (cu32 m)]) H.length = some (cu32 m) := by rw [at_app0]; rfl
  have hlp : ∀ t, kK [1, 2, 5, 6] t = [(1, u32 x), (2, .ptr H.length 0), (5, u32 0), (6, i64 0)] → execC (run T) (.loop (.seq (.keep [1, 2, 5, 6]) c63_0)) ⟨t, [], some none⟩ (H ++ [.cells .ex (cu32 m)]) =
      kLp T (execC (run T) c63_0 ⟨[(1, u32 x), (2, .ptr H.length 0), (5, u32 (ofM m x)), (6, i64 32)], [], some none⟩ (H ++ [.cells .ex (cu32 m)])) (.seq (.keep [1, 2, 5, 6]) c63_0) :=
    loop_to2 (T := T) (L := [1, 2, 5, 6]) (c := c63_0) (d := []) (u := some none) (fun i => [u32 x, .ptr H.length 0, u32 (ofK m x i), i64 i]) (fun _ => H ++ [.cells .ex (cu32 m)]) 32 (fun i hi => round63 m hm x H.length _ hb i hi) rfl rfl rfl rfl
  have hf : decide ((32 : Int) < 32) = false := rfl
  have hcl : (cu32 m).length = 32 := by rw [cu32_len, hm]
  generalize ofM m x = z at *
  simp -implicitDefEqProofs only [runEqs, List.zipIdx_cons, List.zipIdx_nil, List.map_cons, List.map_nil, Nat.zero_add, Nat.add_zero, Nat.zero_mul, Nat.reduceAdd, Nat.reduceMul, Nat.reduceBEq, Nat.reduceLT, Nat.reduceSub, Option.map_some, Option.map_none, Option.isSome_some, Option.isSome_none, Bool.not_true, Bool.not_false, Bool.true_or, Bool.false_or, Bool.or_true, List.getElem?_cons_zero, List.getElem?_cons_succ, List.set_cons_zero, List.set_cons_succ, List.length_cons, List.length_nil, List.length_append, List.append_assoc, List.cons_append, List.nil_append, List.zip_cons_cons, List.zip_nil_right, Int.reduceAdd, Int.reduceSub, Int.reduceMul, Int.reduceLT, Int.reduceLE, Int.reduceNeg, Int.reduceToNat, Int.zero_add, Int.add_zero, decide_true, decide_false, Nat.reduceLeDiff, Nat.min_self, List.drop_succ_cons, List.drop_zero, List.drop_nil, List.take_succ_cons, List.take_zero, List.take_nil, List.all_cons, List.all_nil, Bool.and_true, Bool.true_and, Nat.mul_one, List.singleton_append, Int.le_refl, Nat.le_refl, c63, r63, cu32_one, hcl, hlp]
  simp -implicitDefEqProofs only [runEqs, List.zipIdx_cons, List.zipIdx_nil, List.map_cons, List.map_nil, Nat.zero_add, Nat.add_zero, Nat.zero_mul, Nat.reduceAdd, Nat.reduceMul, Nat.reduceBEq, Nat.reduceLT, Nat.reduceSub, Option.map_some, Option.map_none, Option.isSome_some, Option.isSome_none, Bool.not_true, Bool.not_false, Bool.true_or, Bool.false_or, Bool.or_true, List.getElem?_cons_zero, List.getElem?_cons_succ, List.set_cons_zero, List.set_cons_succ, List.length_cons, List.length_nil, List.length_append, List.append_assoc, List.cons_append, List.nil_append, List.zip_cons_cons, List.zip_nil_right, Int.reduceAdd, Int.reduceSub, Int.reduceMul, Int.reduceLT, Int.reduceLE, Int.reduceNeg, Int.reduceToNat, Int.zero_add, Int.add_zero, decide_true, decide_false, Nat.reduceLeDiff, Nat.min_self, List.drop_succ_cons, List.drop_zero, List.drop_nil, List.take_succ_cons, List.take_zero, List.take_nil, List.all_cons, List.all_nil, Bool.and_true, Bool.true_and, Nat.mul_one, List.singleton_append, Int.le_refl, Nat.le_refl, c63_0, hf]

theorem call46 (l : List (BitVec 8)) (hl : l.length < 4611686018427387904) (h : Heap) (v : V) (hv : rc 1 h v = some (cu8 l)) : (run T).call 46 [v] none h = some (.ret (u32 (crcL l)), none, h) := by
  refine call_gc1 fn46 _ _ (h' := roH h) ?_ rfl
  replace hv := rc_ro hv
  generalize roH h = H at hv ⊢
  have hn : lenOf v = l.length := by have := rc_len hv; rw [cu8_len] at this; omega
  have hs := rc_isS hv
  have hlp : ∀ t, kK [0, 3, 4] t = [(0, v), (3, u32 4294967295), (4, i64 0)] → execC (run T) (.loop (.seq (.keep [0, 3, 4]) c46_0)) ⟨t, [], some none⟩ H =
      kLp T (execC (run T) c46_0 ⟨[(0, v), (3, u32 (crcK l l.length)), (4, i64 l.length)], [], some none⟩ H) (.seq (.keep [0, 3, 4]) c46_0) := by
    refine loop_to2 (T := T) (L := [0, 3, 4]) (c := c46_0) (d := []) (u := some none) (fun i => [v, u32 (crcK l i), i64 i]) (fun i => H) l.length (fun i hi => ?_) rfl rfl rfl rfl
    have hlt : decide ((i : Int) < (l.length : Int)) = true := by simpa using by omega
    have hw := wr_succ_nat i (by omega)
    have hat := rc_at hv i (by rw [cu8_len]; omega)
    rw [cu8_at l i hi] at hat
    have h62 := fun X => call62 (crcK l i) l[i] X
    rw [crcK_succ l i hi]
    generalize stp (crcK l i) l[i] = z at *
    simp -implicitDefEqProofs only [runEqs, List.zipIdx_cons, List.zipIdx_nil, List.map_cons, List.map_nil, Nat.zero_add, Nat.add_zero, Nat.zero_mul, Nat.reduceAdd, Nat.reduceMul, Nat.reduceBEq, Nat.reduceLT, Nat.reduceSub, Option.map_some, Option.map_none, Option.isSome_some, Option.isSome_none, Bool.not_true, Bool.not_false, Bool.true_or, Bool.false_or, Bool.or_true, List.getElem?_cons_zero, List.getElem?_cons_succ, List.set_cons_zero, List.set_cons_succ, List.length_cons, List.length_nil, List.length_append, List.append_assoc, List.cons_append, List.nil_append, List.zip_cons_cons, List.zip_nil_right, Int.reduceAdd, Int.reduceSub, Int.reduceMul, Int.reduceLT, Int.reduceLE, Int.reduceNeg, Int.reduceToNat, Int.zero_add, Int.add_zero, decide_true, decide_false, Nat.reduceLeDiff, Nat.min_self, List.drop_succ_cons, List.drop_zero, List.drop_nil, List.take_succ_cons, List.take_zero, List.take_nil, List.all_cons, List.all_nil, Bool.and_true, Bool.true_and, Nat.mul_one, List.singleton_append, Int.le_refl, Nat.le_refl, c46_0, hlt, hw, vLen_of, hs, vIS_of, hn, hi, hat, h62]
    exact nxt_some _ _ _ _ _ _ _ rfl rfl
  have hf : decide ((l.length : Int) < (l.length : Int)) = false := by simp
  have hk : crcK l l.length = l.foldl stp 4294967295 := by rw [crcK, List.take_length]
  rw [hk] at hlp
  have hx : ∀ c : BitVec 32, c ^^^ 4294967295 = ~~~ c := fun c => BitVec.xor_allOnes
  have hcl : crcL l = ~~~ (l.foldl stp 4294967295) := rfl
  rw [hcl]
  generalize l.foldl stp 4294967295 = z at *
  simp -implicitDefEqProofs only [runEqs, List.zipIdx_cons, List.zipIdx_nil, List.map_cons, List.map_nil, Nat.zero_add, Nat.add_zero, Nat.zero_mul, Nat.reduceAdd, Nat.reduceMul, Nat.reduceBEq, Nat.reduceLT, Nat.reduceSub, Option.map_some, Option.map_none, Option.isSome_some, Option.isSome_none, Bool.not_true, Bool.not_false, Bool.true_or, Bool.false_or, Bool.or_true, List.getElem?_cons_zero, List.getElem?_cons_succ, List.set_cons_zero, List.set_cons_succ, List.length_cons, List.length_nil, List.length_append, List.append_assoc, List.cons_append, List.nil_append, List.zip_cons_cons, List.zip_nil_right, Int.reduceAdd, Int.reduceSub, Int.reduceMul, Int.reduceLT, Int.reduceLE, Int.reduceNeg, Int.reduceToNat, Int.zero_add, Int.add_zero, decide_true, decide_false, Nat.reduceLeDiff, Nat.min_self, List.drop_succ_cons, List.drop_zero, List.drop_nil, List.take_succ_cons, List.take_zero, List.take_nil, List.all_cons, List.all_nil, Bool.and_true, Bool.true_and, Nat.mul_one, List.singleton_append, Int.le_refl, Nat.le_refl, c46, r46, hlp]
  simp -implicitDefEqProofs only [runEqs, List.zipIdx_cons, List.zipIdx_nil, List.map_cons, List.map_nil, Nat.zero_add, Nat.add_zero, Nat.zero_mul, Nat.reduceAdd, Nat.reduceMul, Nat.reduceBEq, Nat.reduceLT, Nat.reduceSub, Option.map_some, Option.map_none, Option.isSome_some, Option.isSome_none, Bool.not_true, Bool.not_false, Bool.true_or, Bool.false_or, Bool.or_true, List.getElem?_cons_zero, List.getElem?_cons_succ, List.set_cons_zero, List.set_cons_succ, List.length_cons, List.length_nil, List.length_append, List.append_assoc, List.cons_append, List.nil_append, List.zip_cons_cons, List.zip_nil_right, Int.reduceAdd, Int.reduceSub, Int.reduceMul, Int.reduceLT, Int.reduceLE, Int.reduceNeg, Int.reduceToNat, Int.zero_add, Int.add_zero, decide_true, decide_false, Nat.reduceLeDiff, Nat.min_self, List.drop_succ_cons, List.drop_zero, List.drop_nil, List.take_succ_cons, List.take_zero, List.take_nil, List.all_cons, List.all_nil, Bool.and_true, Bool.true_and, Nat.mul_one, List.singleton_append, Int.le_refl, Nat.le_refl, c46_0, vLen_of, hs, hn, hf, xor_u32, hx]

theorem round45 (m : List (BitVec 32)) (hm : m.length = 32) (a b : BitVec 32) (n : Nat) (hn : n < 4294967296) (h0 : 0 < n) (H g : Heap) :
    ∃ g', Nxt (execC (run T) c45_1 ⟨[0, 1, 2, 8].zip [u32 a, u32 b, i64 n, .ptr H.length 0], [], some none⟩ (H ++ .cells .ex (cu32 m) :: g)) [0, 1, 2, 8]
      [u32 (if n % 2 = 1 then ofM m a else a), u32 b, i64 ((n / 2 : Nat) : Int), .ptr H.length 0] [] (some none) (H ++ .cells .ex (cu32 (sqM m)) :: g') := by
  have hg : decide ((n : Int) > 0) = true := by simp; omega
  have hz : cu32 (List.replicate 32 0) = List.replicate 32 (u32 0) := by simp [cu32]
  have hp : ((n : Int).tmod 2 == 1) = decide (n % 2 = 1) := by
    rw [Bool.eq_iff_iff, beq_iff_eq, decide_eq_true_eq, Int.tmod_eq_emod_of_nonneg (by omega)]
    omega
  have hq : wr ((n : Int).tdiv 2) = ((n / 2 : Nat) : Int) := by
    rw [Int.tdiv_eq_ediv_of_nonneg (by omega), wr_id (by omega) (by omega)]
    omega
  have h63 := fun X => call63 m hm a X
  have hcm : (cu32 m).length = 32 := by rw [cu32_len, hm]
  have hcl : (cu32 (sqM m)).length = (cu32 m).length := by rw [cu32_len, cu32_len, sqM, List.length_map]
  have hcl2 : (cu32 (sqM m)).length = 32 := by rw [hcl, cu32_len, hm]
  have hct : ∀ q : List (BitVec 32), q.length = 32 → (cu32 q).take 32 = cu32 q := fun q hq => List.take_of_length_le (by rw [cu32_len]; omega)
  have hctm := hct m hm
  have hlp : ∀ (a' : BitVec 32) t, kK [0, 1, 2, 8, 10, 11] t = [(0, u32 a'), (1, u32 b), (2, i64 n), (8, .ptr H.length 0), (10, .ptr (H.length + (g.length + 1)) 0), (11, i64 0)] →
      execC (run T) (.loop (.seq (.keep [0, 1, 2, 8, 10, 11]) c45_2)) ⟨t, [], some none⟩ (H ++ .cells .ex (cu32 m) :: (g ++ [.cells .ex (List.replicate 32 (u32 0))])) =
      kLp T (execC (run T) c45_2 ⟨[(0, u32 a'), (1, u32 b), (2, i64 n), (8, .ptr H.length 0), (10, .ptr (H.length + (g.length + 1)) 0), (11, i64 32)], [], some none⟩ (H ++ .cells .ex (cu32 m) :: (g ++ [.cells .ex (cu32 (sqM m))]))) (.seq (.keep [0, 1, 2, 8, 10, 11]) c45_2) := by
    intro a'
    refine loop_to2 (T := T) (L := [0, 1, 2, 8, 10, 11]) (c := c45_2) (d := []) (u := some none) (fun i => [u32 a', u32 b, i64 n, .ptr H.length 0, .ptr (H.length + (g.length + 1)) 0, i64 i]) (fun i => H ++ .cells .ex (cu32 m) :: (g ++ [.cells .ex (cu32 (sqK m i))])) 32 (fun i hi => ?_) rfl (by rw [sqK, hz]) rfl (by rw [sqK_end m hm])
    have hlt : decide ((i : Int) < 32) = true := by simpa using by omega
    have hw := wr_succ_nat i (by omega)
    have hat := u32_at m i (by omega)
    have h63' := fun X => call63 m hm (m.getD i 0) X
    have hl := sqK_len m i
    have hc2 : (cu32 (sqK m i)).length = 32 := by rw [cu32_len, hl]
    show Nxt _ _ _ _ _ (H ++ .cells .ex (cu32 m) :: (g ++ [.cells .ex (cu32 ((sqK m i).set i (ofM m (m.getD i 0))))]))
    generalize ofM m (m.getD i 0) = z at *
    simp -implicitDefEqProofs only [runEqs, List.zipIdx_cons, List.zipIdx_nil, List.map_cons, List.map_nil, Nat.zero_add, Nat.add_zero, Nat.zero_mul, Nat.reduceAdd, Nat.reduceMul, Nat.reduceBEq, Nat.reduceLT, Nat.reduceSub, Option.map_some, Option.map_none, Option.isSome_some, Option.isSome_none, Bool.not_true, Bool.not_false, Bool.true_or, Bool.false_or, Bool.or_true, List.getElem?_cons_zero, List.getElem?_cons_succ, List.set_cons_zero, List.set_cons_succ, List.length_cons, List.length_nil, List.length_append, List.append_assoc, List.cons_append, List.nil_append, List.zip_cons_cons, List.zip_nil_right, Int.reduceAdd, Int.reduceSub, Int.reduceMul, Int.reduceLT, Int.reduceLE, Int.reduceNeg, Int.reduceToNat, Int.zero_add, Int.add_zero, decide_true, decide_false, Nat.reduceLeDiff, Nat.min_self, List.drop_succ_cons, List.drop_zero, List.drop_nil, List.take_succ_cons, List.take_zero, List.take_nil, List.all_cons, List.all_nil, Bool.and_true, Bool.true_and, Nat.mul_one, List.singleton_append, Int.le_refl, Nat.le_refl, c45_2, hlt, hw, hi, hat, hcm, hctm, h63', hc2, cu32_set, cu32_one]
    exact nxt_some _ _ _ _ _ _ _ rfl rfl
  have hcts := hct (sqM m) (by rw [sqM, List.length_map, hm])
  have hf : decide ((32 : Int) < 32) = false := rfl
  generalize sqM m = q at *
  generalize ofM m a = z at *
  refine ⟨g ++ [.cells .ex (cu32 q)], ?_⟩
  have hlpz := hlp z
  have hlpa := hlp a
  by_cases hb : n % 2 = 1
  · rw [if_pos hb]
    rw [decide_eq_true hb] at hp
    simp -implicitDefEqProofs only [runEqs, List.zipIdx_cons, List.zipIdx_nil, List.map_cons, List.map_nil, Nat.zero_add, Nat.add_zero, Nat.zero_mul, Nat.reduceAdd, Nat.reduceMul, Nat.reduceBEq, Nat.reduceLT, Nat.reduceSub, Option.map_some, Option.map_none, Option.isSome_some, Option.isSome_none, Bool.not_true, Bool.not_false, Bool.true_or, Bool.false_or, Bool.or_true, List.getElem?_cons_zero, List.getElem?_cons_succ, List.set_cons_zero, List.set_cons_succ, List.length_cons, List.length_nil, List.length_append, List.append_assoc, List.cons_append, List.nil_append, List.zip_cons_cons, List.zip_nil_right, Int.reduceAdd, Int.reduceSub, Int.reduceMul, Int.reduceLT, Int.reduceLE, Int.reduceNeg, Int.reduceToNat, Int.zero_add, Int.add_zero, decide_true, decide_false, Nat.reduceLeDiff, Nat.min_self, List.drop_succ_cons, List.drop_zero, List.drop_nil, List.take_succ_cons, List.take_zero, List.take_nil, List.all_cons, List.all_nil, Bool.and_true, Bool.true_and, Nat.mul_one, List.singleton_append, Int.le_refl, Nat.le_refl, c45_1, hg, rem_2i, quo_2i, hp, hq, h63, hcl2, hcl, hcm, hctm, cu32_len, cu32_one, hm, hlpz]
    simp -implicitDefEqProofs only [runEqs, List.zipIdx_cons, List.zipIdx_nil, List.map_cons, List.map_nil, Nat.zero_add, Nat.add_zero, Nat.zero_mul, Nat.reduceAdd, Nat.reduceMul, Nat.reduceBEq, Nat.reduceLT, Nat.reduceSub, Option.map_some, Option.map_none, Option.isSome_some, Option.isSome_none, Bool.not_true, Bool.not_false, Bool.true_or, Bool.false_or, Bool.or_true, List.getElem?_cons_zero, List.getElem?_cons_succ, List.set_cons_zero, List.set_cons_succ, List.length_cons, List.length_nil, List.length_append, List.append_assoc, List.cons_append, List.nil_append, List.zip_cons_cons, List.zip_nil_right, Int.reduceAdd, Int.reduceSub, Int.reduceMul, Int.reduceLT, Int.reduceLE, Int.reduceNeg, Int.reduceToNat, Int.zero_add, Int.add_zero, decide_true, decide_false, Nat.reduceLeDiff, Nat.min_self, List.drop_succ_cons, List.drop_zero, List.drop_nil, List.take_succ_cons, List.take_zero, List.take_nil, List.all_cons, List.all_nil, Bool.and_true, Bool.true_and, Nat.mul_one, List.singleton_append, Int.le_refl, Nat.le_refl, c45_2, hf, hcl2, hcl, hcts, hcm, cu32_len, cu32_one, hm, quo_2i, hq]
    exact nxt_some _ _ _ _ _ _ _ rfl rfl
  · rw [if_neg hb]
    rw [decide_eq_false hb] at hp
    simp -implicitDefEqProofs only [runEqs, List.zipIdx_cons, List.zipIdx_nil, List.map_cons, List.map_nil, Nat.zero_add, Nat.add_zero, Nat.zero_mul, Nat.reduceAdd, Nat.reduceMul, Nat.reduceBEq, Nat.reduceLT, Nat.reduceSub, Option.map_some, Option.map_none, Option.isSome_some, Option.isSome_none, Bool.not_true, Bool.not_false, Bool.true_or, Bool.false_or, Bool.or_true, List.getElem?_cons_zero, List.getElem?_cons_succ, List.set_cons_zero, List.set_cons_succ, List.length_cons, List.length_nil, List.length_append, List.append_assoc, List.cons_append, List.nil_append, List.zip_cons_cons, List.zip_nil_right, Int.reduceAdd, Int.reduceSub, Int.reduceMul, Int.reduceLT, Int.reduceLE, Int.reduceNeg, Int.reduceToNat, Int.zero_add, Int.add_zero, decide_true, decide_false, Nat.reduceLeDiff, Nat.min_self, List.drop_succ_cons, List.drop_zero, List.drop_nil, List.take_succ_cons, List.take_zero, List.take_nil, List.all_cons, List.all_nil, Bool.and_true, Bool.true_and, Nat.mul_one, List.singleton_append, Int.le_refl, Nat.le_refl, c45_1, hg, rem_2i, quo_2i, hp, hq, h63, hcl2, hcl, hcm, hctm, cu32_len, cu32_one, hm, hlpa]
    simp -implicitDefEqProofs only [runEqs, List.zipIdx_cons, List.zipIdx_nil, List.map_cons, List.map_nil, Nat.zero_add, Nat.add_zero, Nat.zero_mul, Nat.reduceAdd, Nat.reduceMul, Nat.reduceBEq, Nat.reduceLT, Nat.reduceSub, Option.map_some, Option.map_none, Option.isSome_some, Option.isSome_none, Bool.not_true, Bool.not_false, Bool.true_or, Bool.false_or, Bool.or_true, List.getElem?_cons_zero, List.getElem?_cons_succ, List.set_cons_zero, List.set_cons_succ, List.length_cons, List.length_nil, List.length_append, List.append_assoc, List.cons_append, List.nil_append, List.zip_cons_cons, List.zip_nil_right, Int.reduceAdd, Int.reduceSub, Int.reduceMul, Int.reduceLT, Int.reduceLE, Int.reduceNeg, Int.reduceToNat, Int.zero_add, Int.add_zero, decide_true, decide_false, Nat.reduceLeDiff, Nat.min_self, List.drop_succ_cons, List.drop_zero, List.drop_nil, List.take_succ_cons, List.take_zero, List.take_nil, List.all_cons, List.all_nil, Bool.and_true, Bool.true_and, Nat.mul_one, List.singleton_append, Int.le_refl, Nat.le_refl, c45_2, hf, hcl2, hcl, hcts, hcm, cu32_len, cu32_one, hm, quo_2i, hq]
    exact nxt_some _ _ _ _ _ _ _ rfl rfl

theorem call45 (a b : BitVec 32) (n : Int) (hn0 : -9223372036854775808 ≤ n) (hn1 : n < 9223372036854775808) (h : Heap) : (run T).call 45 [u32 a, u32 b, i64 n] none h = some (.ret (.tup [u32 (joinV a b n), i64 (joinE n)]), none, h) := by
  by_cases hc : n < 0
  · rw [joinV, joinE, if_pos (.inl hc), if_pos hc]
    have hg : decide (n < 0) = true := by simpa using hc
    refine call_gc1 fn45 _ _ (h' := roH h) ?_ rfl
    simp -implicitDefEqProofs only [runEqs, List.zipIdx_cons, List.zipIdx_nil, List.map_cons, List.map_nil, Nat.zero_add, Nat.add_zero, Nat.zero_mul, Nat.reduceAdd, Nat.reduceMul, Nat.reduceBEq, Nat.reduceLT, Nat.reduceSub, Option.map_some, Option.map_none, Option.isSome_some, Option.isSome_none, Bool.not_true, Bool.not_false, Bool.true_or, Bool.false_or, Bool.or_true, List.getElem?_cons_zero, List.getElem?_cons_succ, List.set_cons_zero, List.set_cons_succ, List.length_cons, List.length_nil, List.length_append, List.append_assoc, List.cons_append, List.nil_append, List.zip_cons_cons, List.zip_nil_right, Int.reduceAdd, Int.reduceSub, Int.reduceMul, Int.reduceLT, Int.reduceLE, Int.reduceNeg, Int.reduceToNat, Int.zero_add, Int.add_zero, decide_true, decide_false, Nat.reduceLeDiff, Nat.min_self, List.drop_succ_cons, List.drop_zero, List.drop_nil, List.take_succ_cons, List.take_zero, List.take_nil, List.all_cons, List.all_nil, Bool.and_true, Bool.true_and, Nat.mul_one, List.singleton_append, Int.le_refl, Nat.le_refl, c45, r45, hg]
  have hg : decide (n < 0) = false := by simpa using hc
  by_cases hc2 : 2147483647 < n
  · rw [joinV, joinE, if_pos (.inr hc2), if_neg hc, if_pos hc2]
    have hg2 : decide (n > 2147483647) = true := by simpa using hc2
    refine call_gc1 fn45 _ _ (h' := roH h) ?_ rfl
    simp -implicitDefEqProofs only [runEqs, List.zipIdx_cons, List.zipIdx_nil, List.map_cons, List.map_nil, Nat.zero_add, Nat.add_zero, Nat.zero_mul, Nat.reduceAdd, Nat.reduceMul, Nat.reduceBEq, Nat.reduceLT, Nat.reduceSub, Option.map_some, Option.map_none, Option.isSome_some, Option.isSome_none, Bool.not_true, Bool.not_false, Bool.true_or, Bool.false_or, Bool.or_true, List.getElem?_cons_zero, List.getElem?_cons_succ, List.set_cons_zero, List.set_cons_succ, List.length_cons, List.length_nil, List.length_append, List.append_assoc, List.cons_append, List.nil_append, List.zip_cons_cons, List.zip_nil_right, Int.reduceAdd, Int.reduceSub, Int.reduceMul, Int.reduceLT, Int.reduceLE, Int.reduceNeg, Int.reduceToNat, Int.zero_add, Int.add_zero, decide_true, decide_false, Nat.reduceLeDiff, Nat.min_self, List.drop_succ_cons, List.drop_zero, List.drop_nil, List.take_succ_cons, List.take_zero, List.take_nil, List.all_cons, List.all_nil, Bool.and_true, Bool.true_and, Nat.mul_one, List.singleton_append, Int.le_refl, Nat.le_refl, c45, r45, hg, hg2]
  have hg2 : decide (n > 2147483647) = false := by simpa using hc2
  rw [joinV, joinE, if_neg (by omega), if_neg hc, if_neg hc2]
  obtain ⟨n, rfl⟩ : ∃ m : Nat, n = m := ⟨n.toNat, by omega⟩
  have tn : ((n : Int)).toNat = n := by omega
  rw [tn]
  have key : ∃ h', kF (run T) r45 (execC (run T) c45 (frame0 [u32 a, u32 b, i64 n] none) (roH h)) = some (.ret (.tup [u32 (joinR a n m0 ^^^ b), i64 0]), none, h') := by
    generalize roH h = H
    have hz : cu32 (List.replicate 32 0) = List.replicate 32 (u32 0) := by simp [cu32]
    have hlp : ∀ t, kK [0, 1, 2, 8, 9] t = [(0, u32 a), (1, u32 b), (2, i64 n), (8, .ptr H.length 0), (9, i64 0)] →
        execC (run T) (.loop (.seq (.keep [0, 1, 2, 8, 9]) c45_0)) ⟨t, [], some none⟩ (H ++ [.cells .ex (List.replicate 32 (u32 0))]) =
        kLp T (execC (run T) c45_0 ⟨[(0, u32 a), (1, u32 b), (2, i64 n), (8, .ptr H.length 0), (9, i64 32)], [], some none⟩ (H ++ [.cells .ex (cu32 m0)])) (.seq (.keep [0, 1, 2, 8, 9]) c45_0) := by
      refine loop_to2 (T := T) (L := [0, 1, 2, 8, 9]) (c := c45_0) (d := []) (u := some none) (fun i => [u32 a, u32 b, i64 n, .ptr H.length 0, i64 i]) (fun i => H ++ [.cells .ex (cu32 (m0K i))]) 32 (fun i hi => ?_) rfl (by rw [m0K, hz]) rfl (by rw [m0K_end])
      have hlt : decide ((i : Int) < 32) = true := by simpa using by omega
      have hw := wr_succ_nat i (by omega)
      have h0 : (0 : Int) ≤ (i : Int) := by omega
      have ht : ((i : Int)).toNat = i := by omega
      have h62 : ∀ X, (run T).call 62 [u32 ((1 : BitVec 32) <<< i), u8 0] none X = some (.ret (u32 (stp ((1 : BitVec 32) <<< i) 0)), none, X) := fun X => call62 _ _ X
      have hl := m0K_len i
      have hcl : (cu32 (m0K i)).length = 32 := by rw [cu32_len, hl]
      show Nxt _ _ _ _ _ (H ++ [.cells .ex (cu32 ((m0K i).set i (stp ((1 : BitVec 32) <<< i) 0)))])
      generalize stp ((1 : BitVec 32) <<< i) 0 = z at *
      simp -implicitDefEqProofs only [runEqs, List.zipIdx_cons, List.zipIdx_nil, List.map_cons, List.map_nil, Nat.zero_add, Nat.add_zero, Nat.zero_mul, Nat.reduceAdd, Nat.reduceMul, Nat.reduceBEq, Nat.reduceLT, Nat.reduceSub, Option.map_some, Option.map_none, Option.isSome_some, Option.isSome_none, Bool.not_true, Bool.not_false, Bool.true_or, Bool.false_or, Bool.or_true, List.getElem?_cons_zero, List.getElem?_cons_succ, List.set_cons_zero, List.set_cons_succ, List.length_cons, List.length_nil, List.length_append, List.append_assoc, List.cons_append, List.nil_append, List.zip_cons_cons, List.zip_nil_right, Int.reduceAdd, Int.reduceSub, Int.reduceMul, Int.reduceLT, Int.reduceLE, Int.reduceNeg, Int.reduceToNat, Int.zero_add, Int.add_zero, decide_true, decide_false, Nat.reduceLeDiff, Nat.min_self, List.drop_succ_cons, List.drop_zero, List.drop_nil, List.take_succ_cons, List.take_zero, List.take_nil, List.all_cons, List.all_nil, Bool.and_true, Bool.true_and, Nat.mul_one, List.singleton_append, Int.le_refl, Nat.le_refl, c45_0, hlt, hw, shl_u32_i64, h0, ht, h62, hi, hcl, cu32_set]
      exact nxt_some _ _ _ _ _ _ _ rfl rfl
    obtain ⟨k, vs', h', ⟨a', M, g, hk, rfl, rfl, hM, htgt⟩, hst, hlp2⟩ := loop_st (T := T) (L := [0, 1, 2, 8]) (c := c45_1) (d := []) (u := some none)
      (fun k vs hh => ∃ a' M g, k < 4294967296 ∧ vs = [u32 a', u32 b, i64 ((k : Nat) : Int), .ptr H.length 0] ∧ hh = H ++ .cells .ex (cu32 M) :: g ∧ M.length = 32 ∧ joinR a n m0 = joinR a' k M)
      (fun k _ _ => k = 0)
      (by
        rintro k vs hh ⟨a', M, g, hk, rfl, rfl, hM, htgt⟩
        by_cases h0 : k = 0
        · exact .inl h0
        · right
          obtain ⟨g', h1⟩ := round45 M hM a' b k hk (by omega) H g
          refine ⟨k / 2, _, _, by omega, ?_, if k % 2 = 1 then ofM M a' else a', sqM M, g', by omega, rfl, rfl, by rw [sqM_len, hM], ?_⟩
          · simpa using h1
          · rw [htgt, joinR, dif_neg h0])
      n [u32 a, u32 b, i64 n, .ptr H.length 0] (H ++ .cells .ex (cu32 m0) :: []) ⟨a, m0, [], by omega, rfl, rfl, m0_len, rfl⟩
    have hst : k = 0 := hst
    subst hst
    rw [htgt, joinR, dif_pos rfl]
    have hf : decide ((32 : Int) < 32) = false := rfl
    have hf2 : decide ((0 : Int) > 0) = false := rfl
    simp only [List.zip_cons_cons, List.zip_nil_right] at hlp2
    simp -implicitDefEqProofs only [runEqs, List.zipIdx_cons, List.zipIdx_nil, List.map_cons, List.map_nil, Nat.zero_add, Nat.add_zero, Nat.zero_mul, Nat.reduceAdd, Nat.reduceMul, Nat.reduceBEq, Nat.reduceLT, Nat.reduceSub, Option.map_some, Option.map_none, Option.isSome_some, Option.isSome_none, Bool.not_true, Bool.not_false, Bool.true_or, Bool.false_or, Bool.or_true, List.getElem?_cons_zero, List.getElem?_cons_succ, List.set_cons_zero, List.set_cons_succ, List.length_cons, List.length_nil, List.length_append, List.append_assoc, List.cons_append, List.nil_append, List.zip_cons_cons, List.zip_nil_right, Int.reduceAdd, Int.reduceSub, Int.reduceMul, Int.reduceLT, Int.reduceLE, Int.reduceNeg, Int.reduceToNat, Int.zero_add, Int.add_zero, decide_true, decide_false, Nat.reduceLeDiff, Nat.min_self, List.drop_succ_cons, List.drop_zero, List.drop_nil, List.take_succ_cons, List.take_zero, List.take_nil, List.all_cons, List.all_nil, Bool.and_true, Bool.true_and, Nat.mul_one, List.singleton_append, Int.le_refl, Nat.le_refl, c45, r45, hg, hg2, hlp]
    simp -implicitDefEqProofs only [runEqs, List.zipIdx_cons, List.zipIdx_nil, List.map_cons, List.map_nil, Nat.zero_add, Nat.add_zero, Nat.zero_mul, Nat.reduceAdd, Nat.reduceMul, Nat.reduceBEq, Nat.reduceLT, Nat.reduceSub, Option.map_some, Option.map_none, Option.isSome_some, Option.isSome_none, Bool.not_true, Bool.not_false, Bool.true_or, Bool.false_or, Bool.or_true, List.getElem?_cons_zero, List.getElem?_cons_succ, List.set_cons_zero, List.set_cons_succ, List.length_cons, List.length_nil, List.length_append, List.append_assoc, List.cons_append, List.nil_append, List.zip_cons_cons, List.zip_nil_right, Int.reduceAdd, Int.reduceSub, Int.reduceMul, Int.reduceLT, Int.reduceLE, Int.reduceNeg, Int.reduceToNat, Int.zero_add, Int.add_zero, decide_true, decide_false, Nat.reduceLeDiff, Nat.min_self, List.drop_succ_cons, List.drop_zero, List.drop_nil, List.take_succ_cons, List.take_zero, List.take_nil, List.all_cons, List.all_nil, Bool.and_true, Bool.true_and, Nat.mul_one, List.singleton_append, Int.le_refl, Nat.le_refl, c45_0, hf, hlp2]
    simp -implicitDefEqProofs only [runEqs, List.zipIdx_cons, List.zipIdx_nil, List.map_cons, List.map_nil, Nat.zero_add, Nat.add_zero, Nat.zero_mul, Nat.reduceAdd, Nat.reduceMul, Nat.reduceBEq, Nat.reduceLT, Nat.reduceSub, Option.map_some, Option.map_none, Option.isSome_some, Option.isSome_none, Bool.not_true, Bool.not_false, Bool.true_or, Bool.false_or, Bool.or_true, List.getElem?_cons_zero, List.getElem?_cons_succ, List.set_cons_zero, List.set_cons_succ, List.length_cons, List.length_nil, List.length_append, List.append_assoc, List.cons_append, List.nil_append, List.zip_cons_cons, List.zip_nil_right, Int.reduceAdd, Int.reduceSub, Int.reduceMul, Int.reduceLT, Int.reduceLE, Int.reduceNeg, Int.reduceToNat, Int.zero_add, Int.add_zero, decide_true, decide_false, Nat.reduceLeDiff, Nat.min_self, List.drop_succ_cons, List.drop_zero, List.drop_nil, List.take_succ_cons, List.take_zero, List.take_nil, List.all_cons, List.all_nil, Bool.and_true, Bool.true_and, Nat.mul_one, List.singleton_append, Int.le_refl, Nat.le_refl, c45_1, hf2, xor_u32]
    exact ⟨_, rfl⟩
  obtain ⟨h', hk⟩ := key
  exact call_gc1 fn45 _ _ hk rfl
end Go.Proofs.Ytccepmhhilhajaa.K

/- SumsCrc: the law's walk. -/
set_option linter.unusedVariables false
set_option linter.unusedSimpArgs false
set_option maxRecDepth 100000
namespace Go.Proofs.Ytccepmhhilhajaa.K
open Go Go.A

theorem joinE_one (n : Int) : joinE n = 0 ∨ joinE n = 1 ∨ joinE n = 2 := by
  unfold joinE; split
  · exact .inr (.inl rfl)
  · split
    · exact .inr (.inr rfl)
    · exact .inl rfl

theorem law12 (l : List (BitVec 8)) (x y : BitVec 32) (n : Int) (hn0 : -9223372036854775808 ≤ n) (hn1 : n < 9223372036854775808) (h : Heap) (v : V) (hv : rc 1 h v = some (cu8 l)) :
    ∃ u' h', (run T).call 12 [v, u32 x, u32 y, i64 n] none h = some (.ret (.bool true), u', h') := by
  have hlv : lenOf v = l.length := by have := rc_len hv; rw [cu8_len] at this; omega
  have hsv := rc_isS hv
  cases g1 : decide ((l.length : Int) > 3000) with
  | true =>
    refine ⟨none, ?_⟩
    rw [call_gc0 fn12]
    simp -implicitDefEqProofs only [runEqs, List.zipIdx_cons, List.zipIdx_nil, List.map_cons, List.map_nil, Nat.zero_add, Nat.add_zero, Nat.zero_mul, Nat.reduceAdd, Nat.reduceMul, Nat.reduceBEq, Nat.reduceLT, Nat.reduceSub, Option.map_some, Option.map_none, Option.isSome_some, Option.isSome_none, Bool.not_true, Bool.not_false, Bool.true_or, Bool.false_or, Bool.or_true, List.getElem?_cons_zero, List.getElem?_cons_succ, List.set_cons_zero, List.set_cons_succ, List.length_cons, List.length_nil, List.length_append, List.append_assoc, List.cons_append, List.nil_append, List.zip_cons_cons, List.zip_nil_right, Int.reduceAdd, Int.reduceSub, Int.reduceMul, Int.reduceLT, Int.reduceLE, Int.reduceNeg, Int.reduceToNat, Int.zero_add, Int.add_zero, decide_true, decide_false, Nat.reduceLeDiff, Nat.min_self, List.drop_succ_cons, List.drop_zero, List.drop_nil, List.take_succ_cons, List.take_zero, List.take_nil, List.all_cons, List.all_nil, Bool.and_true, Bool.true_and, Nat.mul_one, List.singleton_append, Int.le_refl, Nat.le_refl, c12, r12, vLen_of, hsv, hlv, g1, call14]
    exact ⟨_, rfl⟩
  | false =>
  have q1 : ¬ ((l.length : Int) > 3000) := of_decide_eq_false g1
  have c1 := call34 l (by omega) h v hv
  have c2 := call46 l (by omega) h v hv
  have j1 := fun H => call44 x y n hn0 hn1 H
  have j2 := fun H => call45 x y n hn0 hn1 H
  generalize joinV x y n = z at *
  generalize joinE n = e at *
  generalize crcL l = c at *
  refine ⟨none, ?_⟩
  rw [call_gc0 fn12]
  simp -implicitDefEqProofs only [runEqs, List.zipIdx_cons, List.zipIdx_nil, List.map_cons, List.map_nil, Nat.zero_add, Nat.add_zero, Nat.zero_mul, Nat.reduceAdd, Nat.reduceMul, Nat.reduceBEq, Nat.reduceLT, Nat.reduceSub, Option.map_some, Option.map_none, Option.isSome_some, Option.isSome_none, Bool.not_true, Bool.not_false, Bool.true_or, Bool.false_or, Bool.or_true, List.getElem?_cons_zero, List.getElem?_cons_succ, List.set_cons_zero, List.set_cons_succ, List.length_cons, List.length_nil, List.length_append, List.append_assoc, List.cons_append, List.nil_append, List.zip_cons_cons, List.zip_nil_right, Int.reduceAdd, Int.reduceSub, Int.reduceMul, Int.reduceLT, Int.reduceLE, Int.reduceNeg, Int.reduceToNat, Int.zero_add, Int.add_zero, decide_true, decide_false, Nat.reduceLeDiff, Nat.min_self, List.drop_succ_cons, List.drop_zero, List.drop_nil, List.take_succ_cons, List.take_zero, List.take_nil, List.all_cons, List.all_nil, Bool.and_true, Bool.true_and, Nat.mul_one, List.singleton_append, Int.le_refl, Nat.le_refl, c12, r12, vLen_of, hsv, hlv, g1, c1, c2, j1, j2, eql_u32, beq_self_eq_true, call14]
  exact ⟨_, rfl⟩
end Go.Proofs.Ytccepmhhilhajaa.K

