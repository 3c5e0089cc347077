/- Texts of this claim, put together (KBurst, KLaw5): lemmas towards the statement; no conditions of their own. -/
import Derived.Test.YtccepmhhilhajaaLb5
/- The checksum's step is linear and injective: sequences that differ within four bytes. -/
set_option linter.unusedVariables false
set_option linter.unusedSimpArgs false
set_option maxRecDepth 100000
namespace Go.Proofs.Ytccepmhhilhajaa.K
open Go Go.A

theorem low_eq (c : BitVec 32) : (c &&& 1 == 1) = c.getLsbD 0 := by
  have h1 : (c &&& 1).toNat = c.toNat % 2 := by
    rw [BitVec.toNat_and]
    exact Nat.and_one_is_mod _
  rw [BitVec.getLsbD, Nat.testBit_zero, Bool.eq_iff_iff, beq_iff_eq, decide_eq_true_eq, ← BitVec.toNat_inj, h1]
  exact Iff.rfl
def bx (p c : BitVec 32) : BitVec 32 := c >>> 1 ^^^ (if c.getLsbD 0 = true then p else 0#32)
theorem bit_bx (p c : BitVec 32) : bit p c = bx p c := by
  unfold bit bx
  rw [low_eq]
  split
  · rfl
  · rw [BitVec.xor_zero]
theorem bx_xor (p a b : BitVec 32) : bx p (a ^^^ b) = bx p a ^^^ bx p b := by
  unfold bx
  rw [BitVec.getLsbD_xor]
  apply BitVec.eq_of_getLsbD_eq
  intro i hi
  cases ha : a.getLsbD 0 <;> cases hb : b.getLsbD 0 <;>
    simp only [BitVec.getLsbD_xor, BitVec.getLsbD_ushiftRight, Bool.xor_false, Bool.xor_true, Bool.false_xor, Bool.not_true, Bool.not_false, Bool.false_eq_true, if_false, if_true, BitVec.getLsbD_zero] <;>
    cases a.getLsbD (1 + i) <;> cases b.getLsbD (1 + i) <;> cases p.getLsbD i <;> rfl
theorem bx_zero (c : BitVec 32) (h : bx pol c = 0#32) : c = 0#32 := by
  have hlow : c.getLsbD 0 = false := by
    cases hx : c.getLsbD 0 with
    | false => rfl
    | true =>
      have h1 := congrArg (fun z : BitVec 32 => z.getLsbD 31) h
      simp only [bx, hx, if_true, BitVec.getLsbD_xor, BitVec.getLsbD_ushiftRight] at h1
      rw [BitVec.getLsbD_of_ge c (1 + 31) (by omega)] at h1
      exact absurd h1 (by decide)
  apply BitVec.eq_of_getLsbD_eq
  intro i hi
  rw [BitVec.getLsbD_zero]
  cases i with
  | zero => exact hlow
  | succ i =>
    have h1 := congrArg (fun z : BitVec 32 => z.getLsbD i) h
    simp only [bx, hlow, Bool.false_eq_true, if_false, BitVec.getLsbD_xor, BitVec.getLsbD_ushiftRight, BitVec.getLsbD_zero, Bool.xor_false] at h1
    rw [show 1 + i = i + 1 by omega] at h1
    exact h1
theorem bits_xor (p : BitVec 32) : ∀ n (a b : BitVec 32), bits p n (a ^^^ b) = bits p n a ^^^ bits p n b
  | 0, _, _ => rfl
  | n + 1, a, b => by
    simp only [bits, bits_xor p n a b, bit_bx, bx_xor]
theorem bits_zero : ∀ n (c : BitVec 32), bits pol n c = 0#32 → c = 0#32
  | 0, _, h => h
  | n + 1, c, h => by
    simp only [bits, bit_bx] at h
    exact bits_zero n c (bx_zero _ h)
theorem bits_inj (n : Nat) (a b : BitVec 32) (h : bits pol n a = bits pol n b) : a = b := by
  have h1 : bits pol n (a ^^^ b) = 0#32 := by rw [bits_xor, h, BitVec.xor_self]
  exact BitVec.xor_eq_zero_iff.1 (bits_zero n _ h1)
theorem bits_shl (p : BitVec 32) : ∀ n (y : BitVec 32), n ≤ 32 → y.toNat < 2 ^ (32 - n) → bits p n (y <<< n) = y
  | 0, y, _, _ => by simp [bits]
  | n + 1, y, hn, h => by
    have hp : 2 ^ (32 - n) = 2 * 2 ^ (32 - (n + 1)) := by rw [← Nat.pow_succ']; congr 1; omega
    have hy : y.toNat * 2 < 2 ^ 32 := by
      have : 2 ^ (32 - n) ≤ 2 ^ 32 := Nat.pow_le_pow_right (by omega) (by omega)
      omega
    have e1 : y <<< (n + 1) = (y <<< 1) <<< n := by rw [Nat.add_comm n 1, BitVec.shiftLeft_add]
    have h1 : (y <<< 1).toNat = y.toNat * 2 := by
      rw [BitVec.toNat_shiftLeft, Nat.shiftLeft_eq, Nat.mod_eq_of_lt (by omega)]
    rw [bits, e1, bits_shl p n (y <<< 1) (by omega) (by omega), bit_bx, bx]
    have h2 : (y <<< 1).getLsbD 0 = false := by simp
    rw [h2]
    simp only [Bool.false_eq_true, if_false, BitVec.xor_zero]
    apply BitVec.eq_of_toNat_eq
    rw [BitVec.toNat_ushiftRight, h1, Nat.shiftRight_eq_div_pow]
    omega

def wB (x : BitVec 8) : BitVec 32 := x.setWidth 32
theorem stp_eq (c : BitVec 32) (x : BitVec 8) : stp c x = bits pol 8 (c ^^^ wB x) := rfl
theorem stp_inj (x : BitVec 8) (a b : BitVec 32) (h : stp a x = stp b x) : a = b := by
  rw [stp_eq, stp_eq] at h
  have := bits_inj 8 _ _ h
  have h2 := congrArg (· ^^^ wB x) this
  simpa [BitVec.xor_assoc] using h2
theorem fold_inj : ∀ (l : List (BitVec 8)) (a b : BitVec 32), l.foldl stp a = l.foldl stp b → a = b
  | [], _, _, h => h
  | x :: l, a, b, h => stp_inj x a b (fold_inj l _ _ h)
theorem wB_lt (x : BitVec 8) : (wB x).toNat < 256 := by
  have := x.isLt
  rw [wB, BitVec.toNat_setWidth]
  omega
theorem wB_xor (x y : BitVec 8) : wB x ^^^ wB y = wB (x ^^^ y) := by
  unfold wB; rw [BitVec.setWidth_xor]

/-- Four steps that come to the same. -/
theorem four (c : BitVec 32) (a b d e x y z w : BitVec 8) (h : stp (stp (stp (stp c a) b) d) e = stp (stp (stp (stp c (a ^^^ x)) (b ^^^ y)) (d ^^^ z)) (e ^^^ w)) : x = 0#8 ∧ y = 0#8 ∧ z = 0#8 ∧ w = 0#8 := by
  have key : ∀ (s t : BitVec 32) (a x : BitVec 8) (q : BitVec 32), q.toNat < 2 ^ 24 → stp s a ^^^ stp t (a ^^^ x) = q → s ^^^ t = wB x ^^^ q <<< 8 := by
    intro s t a x q hq hs
    rw [stp_eq, stp_eq, ← bits_xor, ← wB_xor] at hs
    have h1 := bits_shl pol 8 q (by omega) hq
    rw [← hs] at h1
    have h2 := bits_inj 8 _ _ h1
    rw [hs] at h2
    have h3 : s ^^^ wB a ^^^ (t ^^^ (wB a ^^^ wB x)) = (s ^^^ t) ^^^ wB x := by
      apply BitVec.eq_of_getLsbD_eq
      intro i hi
      simp only [BitVec.getLsbD_xor]
      cases s.getLsbD i <;> cases t.getLsbD i <;> cases (wB a).getLsbD i <;> cases (wB x).getLsbD i <;> rfl
    rw [h3] at h2
    have h4 := congrArg (· ^^^ wB x) h2
    simp only [BitVec.xor_assoc, BitVec.xor_self, BitVec.xor_zero] at h4
    rw [← h4, BitVec.xor_comm]
  have lt8 : ∀ (x : BitVec 8) (q : BitVec 32) (k : Nat), k ≤ 16 → q.toNat < 2 ^ k → (wB x ^^^ q <<< 8).toNat < 2 ^ (k + 8) := by
    intro x q k hk hq
    have h1 := wB_lt x
    have e : 2 ^ (k + 8) = 2 ^ k * 256 := by rw [Nat.pow_add]
    have hk2 : 2 ^ k ≤ 2 ^ 16 := Nat.pow_le_pow_right (by omega) hk
    rw [BitVec.toNat_xor]
    refine Nat.xor_lt_two_pow ?_ ?_
    · have : 0 < 2 ^ k := Nat.pow_pos (by omega)
      omega
    · rw [BitVec.toNat_shiftLeft, Nat.shiftLeft_eq]
      exact Nat.lt_of_le_of_lt (Nat.mod_le _ _) (by omega)
  have h0 : stp (stp (stp (stp c a) b) d) e ^^^ stp (stp (stp (stp c (a ^^^ x)) (b ^^^ y)) (d ^^^ z)) (e ^^^ w) = 0#32 := by rw [← h, BitVec.xor_self]
  have k3 := key _ _ _ _ 0#32 (by decide) h0
  have z0 : 0#32 <<< 8 = 0#32 := by decide
  rw [z0, BitVec.xor_zero] at k3
  have k2 := key _ _ _ _ _ (by have := wB_lt w; omega) k3
  have l2 := lt8 z (wB w) 8 (by omega) (wB_lt w)
  have k1 := key _ _ _ _ _ (by omega) k2
  have l1 := lt8 y _ 16 (by omega) l2
  have k0 := key _ _ _ _ _ l1 k1
  rw [BitVec.xor_self] at k0
  have bit : ∀ (x : BitVec 8) (q : BitVec 32), 0#32 = wB x ^^^ q <<< 8 → q.toNat < 2 ^ 24 → x = 0#8 ∧ q = 0#32 := by
    intro x q hx hq
    have hl := wB_lt x
    have e1 : wB x = q <<< 8 := (BitVec.xor_eq_zero_iff.1 hx.symm)
    have e2 : (wB x).toNat = q.toNat * 256 := by
      rw [e1, BitVec.toNat_shiftLeft, Nat.shiftLeft_eq, Nat.mod_eq_of_lt (by omega)]
    have q0 : q.toNat = 0 := by omega
    have x0 : (wB x).toNat = 0 := by omega
    refine ⟨BitVec.eq_of_toNat_eq ?_, BitVec.eq_of_toNat_eq q0⟩
    have := x.isLt
    rw [wB, BitVec.toNat_setWidth, Nat.mod_eq_of_lt (by omega)] at x0
    exact x0
  obtain ⟨hx, q0⟩ := bit x _ k0 l1
  obtain ⟨hy, q1⟩ := bit y _ q0.symm (by omega)
  obtain ⟨hz, q2⟩ := bit z _ q1.symm (by have := wB_lt w; omega)
  refine ⟨hx, hy, hz, ?_⟩
  have : (wB w).toNat = 0 := by rw [q2]; rfl
  apply BitVec.eq_of_toNat_eq
  have hlt := w.isLt
  rw [wB, BitVec.toNat_setWidth, Nat.mod_eq_of_lt (by omega)] at this
  exact this

def xorK (l : List (BitVec 8)) (a : Nat) (xs : List (BitVec 8)) : Nat → List (BitVec 8)
  | 0 => l
  | k + 1 => (xorK l a xs k).set (a + k) ((xorK l a xs k).getD (a + k) 0 ^^^ xs.getD k 0)
theorem xorK_len (l : List (BitVec 8)) (a : Nat) (xs : List (BitVec 8)) : ∀ k, (xorK l a xs k).length = l.length
  | 0 => rfl
  | k + 1 => by rw [xorK, List.length_set, xorK_len l a xs k]
theorem set_app (p r : List (BitVec 8)) (k : Nat) (v : BitVec 8) : (p ++ r).set (p.length + k) v = p ++ r.set k v := by
  rw [List.set_append_right _ _ (by omega)]; congr 2; omega
theorem getD_app (p r : List (BitVec 8)) (k : Nat) : (p ++ r).getD (p.length + k) 0 = r.getD k 0 := by
  rw [List.getD_eq_getElem?_getD, List.getElem?_append_right (by omega), List.getD_eq_getElem?_getD]; congr 2; omega
theorem crc_ne (l : List (BitVec 8)) (a : Nat) (ha : a + 4 ≤ l.length) (x y z w : BitVec 8) (hx : ¬ (x = 0#8 ∧ y = 0#8 ∧ z = 0#8 ∧ w = 0#8)) : (crcL l != crcL (xorK l a [x, y, z, w] 4)) = true := by
  obtain ⟨p, r, hp, hl⟩ : ∃ p r, p.length = a ∧ l = p ++ r := ⟨l.take a, l.drop a, by rw [List.length_take]; omega, (List.take_append_drop a l).symm⟩
  subst hl hp
  rw [List.length_append] at ha
  match r, ha with
  | b0 :: b1 :: b2 :: b3 :: s, _ =>
    have e : xorK (p ++ b0 :: b1 :: b2 :: b3 :: s) p.length [x, y, z, w] 4 = p ++ (b0 ^^^ x) :: (b1 ^^^ y) :: (b2 ^^^ z) :: (b3 ^^^ w) :: s := by
      simp only [xorK, set_app, getD_app]
      rfl
    rw [e, bne_iff_ne]
    intro h
    have h1 := congrArg (fun q : BitVec 32 => ~~~ q) h
    simp only [crcL, BitVec.not_not, List.foldl_append, List.foldl_cons] at h1
    exact hx (four _ _ _ _ _ _ _ _ _ (fold_inj s _ _ h1))
  | [], ha => rw [List.length_nil] at ha; omega
  | [_], ha => simp at ha
  | [_, _], ha => simp at ha
  | [_, _, _], ha => simp at ha
end Go.Proofs.Ytccepmhhilhajaa.K

/- SumsBursts: the law's walk. -/
set_option linter.unusedVariables false
set_option linter.unusedSimpArgs false
set_option maxRecDepth 100000
namespace Go.Proofs.Ytccepmhhilhajaa.K
open Go Go.A

theorem cu8_set (l : List (BitVec 8)) (o : Nat) (b : BitVec 8) (ho : o < l.length) : (cu8 l).take o ++ [u8 b] ++ (cu8 l).drop (o + 1) = cu8 (l.set o b) := by
  rw [List.set_eq_take_append_cons_drop, if_pos ho, cu8_take, cu8_drop]
  simp [cu8]

theorem round5 (l : List (BitVec 8)) (hl : l.length ≤ 3000) (at' k : Nat) (hk : k < 4) (ha : at' + 4 ≤ l.length) (x y z w : BitVec 8) (H : Heap) (v out : V) (g : Heap) (m : List (BitVec 8)) (hm : m.length = l.length)
    (ho : Own (H.length + 1) 1 (H ++ .cells .ex [u8 x, u8 y, u8 z, u8 w] :: g) out (cu8 m)) :
    ∃ g', Nxt (execC (run T) c5_0 ⟨[0, 1, 5, 7, 8].zip [v, i64 at', .ptr H.length 0, out, i64 k], [], some none⟩ (H ++ .cells .ex [u8 x, u8 y, u8 z, u8 w] :: g)) [0, 1, 5, 7, 8]
      [v, i64 at', .ptr H.length 0, out, i64 ((k + 1 : Nat) : Int)] [] (some none) (H ++ .cells .ex [u8 x, u8 y, u8 z, u8 w] :: g') ∧
      Own (H.length + 1) 1 (H ++ .cells .ex [u8 x, u8 y, u8 z, u8 w] :: g') out (cu8 (m.set (at' + k) (m.getD (at' + k) 0 ^^^ [x, y, z, w].getD k 0))) := by
  have hol : lenOf out = m.length := by have := ho.len; rw [cu8_len] at this; omega
  have hlt : decide ((k : Int) < 4) = true := by simpa using by omega
  have hw := wr_succ_nat k (by omega)
  have had : wr ((at' : Int) + (k : Int)) = ((at' + k : Nat) : Int) := by rw [wr_id (by omega) (by omega)]; omega
  have hi : at' + k < m.length := by omega
  have hgd : m.getD (at' + k) 0 = m[at' + k] := by simp [hi]
  have hat := rc_at ho.rcn (at' + k) (by rw [cu8_len]; omega)
  rw [cu8_at m (at' + k) hi] at hat
  have hx : [u8 x, u8 y, u8 z, u8 w][k]? = some (u8 ([x, y, z, w].getD k 0)) := by
    match k, hk with
    | 0, _ => rfl
    | 1, _ => rfl
    | 2, _ => rfl
    | 3, _ => rfl
  have o1 : Own (H ++ [Blk.cells .ex [u8 x, u8 y, u8 z, u8 w]]).length 1 ((H ++ [Blk.cells .ex [u8 x, u8 y, u8 z, u8 w]]) ++ g) out (cu8 m) := by simpa using ho
  obtain ⟨g', w1, o2⟩ := own_wr (xs := [u8 (m[at' + k] ^^^ [x, y, z, w].getD k 0)]) o1 (at' + k) (by simp) (by rw [cu8_len]; simp; omega) (by simp [one_u8])
  rw [List.length_singleton, cu8_set m (at' + k) _ hi] at o2
  rw [hgd]
  simp only [List.append_assoc, List.cons_append, List.nil_append] at w1 o2
  have o3 : Own (H.length + 1) 1 (H ++ .cells .ex [u8 x, u8 y, u8 z, u8 w] :: g') out (cu8 (m.set (at' + k) (m[at' + k] ^^^ [x, y, z, w].getD k 0))) := by simpa using o2
  refine ⟨g', ?_, o3⟩
  simp -implicitDefEqProofs only [runEqs, List.zipIdx_cons, List.zipIdx_nil, List.map_cons, List.map_nil, Nat.zero_add, Nat.add_zero, Nat.zero_mul, Nat.reduceAdd, Nat.reduceMul, Nat.reduceBEq, Nat.reduceLT, Nat.reduceSub, Option.map_some, Option.map_none, Option.isSome_some, Option.isSome_none, Bool.not_true, Bool.not_false, Bool.true_or, Bool.false_or, Bool.or_true, List.getElem?_cons_zero, List.getElem?_cons_succ, List.set_cons_zero, List.set_cons_succ, List.length_cons, List.length_nil, List.length_append, List.append_assoc, List.cons_append, List.nil_append, List.zip_cons_cons, List.zip_nil_right, Int.reduceAdd, Int.reduceSub, Int.reduceMul, Int.reduceLT, Int.reduceLE, Int.reduceNeg, Int.reduceToNat, Int.zero_add, Int.add_zero, decide_true, decide_false, Nat.reduceLeDiff, Nat.min_self, List.drop_succ_cons, List.drop_zero, List.drop_nil, List.take_succ_cons, List.take_zero, List.take_nil, List.all_cons, List.all_nil, Bool.and_true, Bool.true_and, Nat.mul_one, List.singleton_append, Int.le_refl, Nat.le_refl, c5_0, hlt, hw, had, vIS_of, hol, hi, hat, hk, hx, xor_u8, w1]
  exact nxt_some _ _ _ _ _ _ _ rfl rfl

theorem law5 (l : List (BitVec 8)) (at' : Int) (ha0 : -9223372036854775808 ≤ at') (ha1 : at' < 9223372036854775808) (x y z w : BitVec 8) (h : Heap) (v : V) (hv : rc 1 h v = some (cu8 l)) :
    ∃ u' h', (run T).call 5 [v, i64 at', .agg [u8 x, u8 y, u8 z, u8 w]] none h = some (.ret (.bool true), u', h') := by
  have hlv : lenOf v = l.length := by have := rc_len hv; rw [cu8_len] at this; omega
  have hs := rc_isS hv
  by_cases hc : l.length > 3000
  · have hg : decide ((l.length : Int) > 3000) = true := by simp; omega
    refine ⟨none, ?_⟩
    rw [call_gc0 fn5]
    simp -implicitDefEqProofs only [runEqs, List.zipIdx_cons, List.zipIdx_nil, List.map_cons, List.map_nil, Nat.zero_add, Nat.add_zero, Nat.zero_mul, Nat.reduceAdd, Nat.reduceMul, Nat.reduceBEq, Nat.reduceLT, Nat.reduceSub, Option.map_some, Option.map_none, Option.isSome_some, Option.isSome_none, Bool.not_true, Bool.not_false, Bool.true_or, Bool.false_or, Bool.or_true, List.getElem?_cons_zero, List.getElem?_cons_succ, List.set_cons_zero, List.set_cons_succ, List.length_cons, List.length_nil, List.length_append, List.append_assoc, List.cons_append, List.nil_append, List.zip_cons_cons, List.zip_nil_right, Int.reduceAdd, Int.reduceSub, Int.reduceMul, Int.reduceLT, Int.reduceLE, Int.reduceNeg, Int.reduceToNat, Int.zero_add, Int.add_zero, decide_true, decide_false, Nat.reduceLeDiff, Nat.min_self, List.drop_succ_cons, List.drop_zero, List.drop_nil, List.take_succ_cons, List.take_zero, List.take_nil, List.all_cons, List.all_nil, Bool.and_true, Bool.true_and, Nat.mul_one, List.singleton_append, Int.le_refl, Nat.le_refl, c5, r5, vLen_of, hs, hlv, hg, call14]
    exact ⟨_, rfl⟩
  have hg : decide ((l.length : Int) > 3000) = false := by simp; omega
  by_cases hc1 : l.length < 4
  · have hg1 : decide ((l.length : Int) < 4) = true := by simp; omega
    refine ⟨none, ?_⟩
    rw [call_gc0 fn5]
    simp -implicitDefEqProofs only [runEqs, List.zipIdx_cons, List.zipIdx_nil, List.map_cons, List.map_nil, Nat.zero_add, Nat.add_zero, Nat.zero_mul, Nat.reduceAdd, Nat.reduceMul, Nat.reduceBEq, Nat.reduceLT, Nat.reduceSub, Option.map_some, Option.map_none, Option.isSome_some, Option.isSome_none, Bool.not_true, Bool.not_false, Bool.true_or, Bool.false_or, Bool.or_true, List.getElem?_cons_zero, List.getElem?_cons_succ, List.set_cons_zero, List.set_cons_succ, List.length_cons, List.length_nil, List.length_append, List.append_assoc, List.cons_append, List.nil_append, List.zip_cons_cons, List.zip_nil_right, Int.reduceAdd, Int.reduceSub, Int.reduceMul, Int.reduceLT, Int.reduceLE, Int.reduceNeg, Int.reduceToNat, Int.zero_add, Int.add_zero, decide_true, decide_false, Nat.reduceLeDiff, Nat.min_self, List.drop_succ_cons, List.drop_zero, List.drop_nil, List.take_succ_cons, List.take_zero, List.take_nil, List.all_cons, List.all_nil, Bool.and_true, Bool.true_and, Nat.mul_one, List.singleton_append, Int.le_refl, Nat.le_refl, c5, r5, vLen_of, hs, hlv, hg, hg1, call14]
    exact ⟨_, rfl⟩
  have hg1 : decide ((l.length : Int) < 4) = false := by simp; omega
  by_cases hc2 : at' < 0
  · have hg2 : decide (at' < 0) = true := by simpa using hc2
    refine ⟨none, ?_⟩
    rw [call_gc0 fn5]
    simp -implicitDefEqProofs only [runEqs, List.zipIdx_cons, List.zipIdx_nil, List.map_cons, List.map_nil, Nat.zero_add, Nat.add_zero, Nat.zero_mul, Nat.reduceAdd, Nat.reduceMul, Nat.reduceBEq, Nat.reduceLT, Nat.reduceSub, Option.map_some, Option.map_none, Option.isSome_some, Option.isSome_none, Bool.not_true, Bool.not_false, Bool.true_or, Bool.false_or, Bool.or_true, List.getElem?_cons_zero, List.getElem?_cons_succ, List.set_cons_zero, List.set_cons_succ, List.length_cons, List.length_nil, List.length_append, List.append_assoc, List.cons_append, List.nil_append, List.zip_cons_cons, List.zip_nil_right, Int.reduceAdd, Int.reduceSub, Int.reduceMul, Int.reduceLT, Int.reduceLE, Int.reduceNeg, Int.reduceToNat, Int.zero_add, Int.add_zero, decide_true, decide_false, Nat.reduceLeDiff, Nat.min_self, List.drop_succ_cons, List.drop_zero, List.drop_nil, List.take_succ_cons, List.take_zero, List.take_nil, List.all_cons, List.all_nil, Bool.and_true, Bool.true_and, Nat.mul_one, List.singleton_append, Int.le_refl, Nat.le_refl, c5, r5, vLen_of, hs, hlv, hg, hg1, hg2, call14]
    exact ⟨_, rfl⟩
  have hg2 : decide (at' < 0) = false := by simpa using hc2
  have hsb : wr ((l.length : Int) - 4) = (l.length : Int) - 4 := wr_id (by omega) (by omega)
  by_cases hc3 : at' > (l.length : Int) - 4
  · have hg3 : decide (at' > (l.length : Int) - 4) = true := by simpa using hc3
    refine ⟨none, ?_⟩
    rw [call_gc0 fn5]
    simp -implicitDefEqProofs only [runEqs, List.zipIdx_cons, List.zipIdx_nil, List.map_cons, List.map_nil, Nat.zero_add, Nat.add_zero, Nat.zero_mul, Nat.reduceAdd, Nat.reduceMul, Nat.reduceBEq, Nat.reduceLT, Nat.reduceSub, Option.map_some, Option.map_none, Option.isSome_some, Option.isSome_none, Bool.not_true, Bool.not_false, Bool.true_or, Bool.false_or, Bool.or_true, List.getElem?_cons_zero, List.getElem?_cons_succ, List.set_cons_zero, List.set_cons_succ, List.length_cons, List.length_nil, List.length_append, List.append_assoc, List.cons_append, List.nil_append, List.zip_cons_cons, List.zip_nil_right, Int.reduceAdd, Int.reduceSub, Int.reduceMul, Int.reduceLT, Int.reduceLE, Int.reduceNeg, Int.reduceToNat, Int.zero_add, Int.add_zero, decide_true, decide_false, Nat.reduceLeDiff, Nat.min_self, List.drop_succ_cons, List.drop_zero, List.drop_nil, List.take_succ_cons, List.take_zero, List.take_nil, List.all_cons, List.all_nil, Bool.and_true, Bool.true_and, Nat.mul_one, List.singleton_append, Int.le_refl, Nat.le_refl, c5, r5, vLen_of, hs, hlv, hg, hg1, hg2, hsb, hg3, call14]
    exact ⟨_, rfl⟩
  have hg3 : decide (at' > (l.length : Int) - 4) = false := by simpa using hc3
  by_cases hc4 : x = 0#8 ∧ y = 0#8 ∧ z = 0#8 ∧ w = 0#8
  · obtain ⟨rfl, rfl, rfl, rfl⟩ := hc4
    have hz : (0#8 == (0 : BitVec 8)) = true := rfl
    refine ⟨none, ?_⟩
    rw [call_gc0 fn5]
    simp -implicitDefEqProofs only [runEqs, List.zipIdx_cons, List.zipIdx_nil, List.map_cons, List.map_nil, Nat.zero_add, Nat.add_zero, Nat.zero_mul, Nat.reduceAdd, Nat.reduceMul, Nat.reduceBEq, Nat.reduceLT, Nat.reduceSub, Option.map_some, Option.map_none, Option.isSome_some, Option.isSome_none, Bool.not_true, Bool.not_false, Bool.true_or, Bool.false_or, Bool.or_true, List.getElem?_cons_zero, List.getElem?_cons_succ, List.set_cons_zero, List.set_cons_succ, List.length_cons, List.length_nil, List.length_append, List.append_assoc, List.cons_append, List.nil_append, List.zip_cons_cons, List.zip_nil_right, Int.reduceAdd, Int.reduceSub, Int.reduceMul, Int.reduceLT, Int.reduceLE, Int.reduceNeg, Int.reduceToNat, Int.zero_add, Int.add_zero, decide_true, decide_false, Nat.reduceLeDiff, Nat.min_self, List.drop_succ_cons, List.drop_zero, List.drop_nil, List.take_succ_cons, List.take_zero, List.take_nil, List.all_cons, List.all_nil, Bool.and_true, Bool.true_and, Nat.mul_one, List.singleton_append, Int.le_refl, Nat.le_refl, c5, r5, vLen_of, hs, hlv, hg, hg1, hg2, hsb, hg3, hz, Bool.and_self, call14]
    exact ⟨_, rfl⟩
  have hz : (x == 0 && (y == 0 && (z == 0 && w == 0))) = false := by
    cases hh : (x == 0 && (y == 0 && (z == 0 && w == 0))) with
    | false => rfl
    | true =>
      simp only [Bool.and_eq_true, beq_iff_eq] at hh
      exact absurd hh hc4
  obtain ⟨a, rfl⟩ : ∃ m : Nat, at' = m := ⟨at'.toNat, by omega⟩
  have ha : a + 4 ≤ l.length := by omega
  obtain ⟨out, g, e1, o1, n1⟩ := app_own' (bts := 1) (n := h.length + 1) (by omega) (by simp) (Own.nil _ 1 (h ++ [.cells .ex [u8 x, u8 y, u8 z, u8 w]])) (rc_app hv _) (cu8_one _) (by rw [hlv]; simp only [lenOf]; omega) (by rw [hlv]; simp only [lenOf]; omega) _ (take_one _ _ _)
  simp only [List.append_assoc, List.cons_append, List.nil_append] at e1 o1
  obtain ⟨vs', h', ⟨g2, rfl, rfl, o2⟩, hlp⟩ := loop_up (T := T) (L := [0, 1, 5, 7, 8]) (c := c5_0) (d := []) (u := some none)
    (fun k vs hh => ∃ g2, vs = [v, i64 a, .ptr h.length 0, out, i64 ((k : Nat) : Int)] ∧ hh = h ++ .cells .ex [u8 x, u8 y, u8 z, u8 w] :: g2 ∧ Own (h.length + 1) 1 (h ++ .cells .ex [u8 x, u8 y, u8 z, u8 w] :: g2) out (cu8 (xorK l a [x, y, z, w] k))) 4
    (by
      rintro k vs hh hk ⟨g2, rfl, rfl, o2⟩
      obtain ⟨g3, p1, p2⟩ := round5 l (by omega) a k hk ha x y z w h v out g2 (xorK l a [x, y, z, w] k) (xorK_len _ _ _ _) o2
      exact ⟨_, _, p1, g3, rfl, rfl, p2⟩)
    [v, i64 a, .ptr h.length 0, out, i64 0] (h ++ .cells .ex [u8 x, u8 y, u8 z, u8 w] :: g) ⟨g, rfl, rfl, o1⟩
  have hf : decide (((4 : Nat) : Int) < 4) = false := by decide
  have hne := crc_ne l a ha x y z w hc4
  have h34 := fun X => call34 l (by omega) (h ++ X) v (rc_app hv X)
  have h34' := call34 (xorK l a [x, y, z, w] 4) (by rw [xorK_len]; omega) _ out o2.rcn
  simp only [List.zip_cons_cons, List.zip_nil_right] at hlp
  refine ⟨none, ?_⟩
  rw [call_gc0 fn5]
  simp -implicitDefEqProofs only [runEqs, List.zipIdx_cons, List.zipIdx_nil, List.map_cons, List.map_nil, Nat.zero_add, Nat.add_zero, Nat.zero_mul, Nat.reduceAdd, Nat.reduceMul, Nat.reduceBEq, Nat.reduceLT, Nat.reduceSub, Option.map_some, Option.map_none, Option.isSome_some, Option.isSome_none, Bool.not_true, Bool.not_false, Bool.true_or, Bool.false_or, Bool.or_true, List.getElem?_cons_zero, List.getElem?_cons_succ, List.set_cons_zero, List.set_cons_succ, List.length_cons, List.length_nil, List.length_append, List.append_assoc, List.cons_append, List.nil_append, List.zip_cons_cons, List.zip_nil_right, Int.reduceAdd, Int.reduceSub, Int.reduceMul, Int.reduceLT, Int.reduceLE, Int.reduceNeg, Int.reduceToNat, Int.zero_add, Int.add_zero, decide_true, decide_false, Nat.reduceLeDiff, Nat.min_self, List.drop_succ_cons, List.drop_zero, List.drop_nil, List.take_succ_cons, List.take_zero, List.take_nil, List.all_cons, List.all_nil, Bool.and_true, Bool.true_and, Nat.mul_one, List.singleton_append, Int.le_refl, Nat.le_refl, c5, r5, vLen_of, hs, hlv, hg, hg1, hg2, hsb, hg3, hz, e1, hlp]
  simp -implicitDefEqProofs only [runEqs, List.zipIdx_cons, List.zipIdx_nil, List.map_cons, List.map_nil, Nat.zero_add, Nat.add_zero, Nat.zero_mul, Nat.reduceAdd, Nat.reduceMul, Nat.reduceBEq, Nat.reduceLT, Nat.reduceSub, Option.map_some, Option.map_none, Option.isSome_some, Option.isSome_none, Bool.not_true, Bool.not_false, Bool.true_or, Bool.false_or, Bool.or_true, List.getElem?_cons_zero, List.getElem?_cons_succ, List.set_cons_zero, List.set_cons_succ, List.length_cons, List.length_nil, List.length_append, List.append_assoc, List.cons_append, List.nil_append, List.zip_cons_cons, List.zip_nil_right, Int.reduceAdd, Int.reduceSub, Int.reduceMul, Int.reduceLT, Int.reduceLE, Int.reduceNeg, Int.reduceToNat, Int.zero_add, Int.add_zero, decide_true, decide_false, Nat.reduceLeDiff, Nat.min_self, List.drop_succ_cons, List.drop_zero, List.drop_nil, List.take_succ_cons, List.take_zero, List.take_nil, List.all_cons, List.all_nil, Bool.and_true, Bool.true_and, Nat.mul_one, List.singleton_append, Int.le_refl, Nat.le_refl, c5_0, hf, call14, h34, h34', neq_u32, hne]
  exact ⟨_, rfl⟩
end Go.Proofs.Ytccepmhhilhajaa.K

