/- Texts of this claim, put together (AArg3, KStream, KAbs4, KLaw7): lemmas towards the statement; no conditions of their own. -/
import Derived.Test.YtccepmhhilhajaaLb5
import Derived.SizedLaws
/- The arguments' sizes: what the form's own reach says of lists of bytes. -/
set_option linter.unusedVariables false
set_option linter.unusedSimpArgs false
set_option linter.unusedSectionVars false
namespace Go.A
open Go.ChangeShapes Go.WideShapes Go.ChangeAt Go.RowKit

section
variable {H : Type} {enc : TypeId × Value → H} {P : Program} {W : World}

theorem wall_mem {e : TypeId} {n : Nat} {d : DataW H} (hn : n ∈ d.weights P e) : ∀ {l : List (DataW H)}, d ∈ l → n ∈ DataW.weightsAll P e l
  | x :: l, h => by
    rw [DataW.weightsAll, List.mem_append]
    rcases List.mem_cons.1 h with rfl | h
    · exact .inl hn
    · exact .inr (wall_mem hn h)
  | [], h => by simp at h

theorem arg_slice2 {t e : TypeId} {fuel : Nat} {cs : List Value} {x : DataW H × List MemPlace} (ht : P.underlying t = some (.slice e)) (hsz : 0 < P.cellsOf e) (h : DataW.trod enc P W 0 (fun _ => true) true fuel t cs = some x) :
    ∃ v, cs = [v] ∧ ((∃ a, v = .slice a 0 0) ∨ ∃ (len cap m : Nat) (C : Nat → List Value), len ≤ cap ∧ cap ≤ maxLen ∧ cap * P.bytesOf e ∈ x.1.weights P t ∧
      (∀ i, i < len → ∃ y, DataW.trod enc P W 0 (fun _ => true) true m e (C i) = some y ∧ ∀ n ∈ y.1.weights P e, n ∈ x.1.weights P t) ∧ (∀ i, i < len → (C i).length = P.cellsOf e) ∧
      ∀ ez, rc (P.cellsOf e) (reH ez W) (reV W.heap.size (P.cellsOf e) v) = some ((((List.range len).map C).flatten).map (reV W.heap.size ez))) := by
  rcases Go.Deep.open_slice ht h with ⟨rfl, -⟩ | ⟨a, len, cap, m, n, D, Pl, rfl, hb, hlc, hcap, hm, hxe, hx⟩
  · exact ⟨_, rfl, .inl ⟨_, rfl⟩⟩
  · simp only [if_true] at hm
    subst hm
    refine ⟨_, rfl, ?_⟩
    by_cases h0 : m = 0
    · subst h0
      have : len = 0 := by omega
      subst this
      exact .inl ⟨_, rfl⟩
    · right
      have hC : ∀ i, ∃ c, i < m → W.cells? 0 (a.add (i * P.cellsOf e)) (P.cellsOf e) = some c ∧ DataW.trod enc P W 0 (fun _ => true) true n e c = some (D i, Pl i) := fun i => by
        by_cases hi : i < m
        · obtain ⟨c, h1, h2⟩ := hx i hi; exact ⟨c, fun _ => ⟨h1, h2⟩⟩
        · exact ⟨[], fun h => absurd h hi⟩
      refine ⟨len, m, n, fun i => Classical.choose (hC i), hlc, hcap, ?_, fun i hi => ⟨_, (Classical.choose_spec (hC i) (by omega)).2, fun k hk => ?_⟩, fun i hi => (cells_some (Classical.choose_spec (hC i) (by omega)).1).1, fun ez => ?_⟩
      · rw [hxe]
        simp only [DataW.weights, ht, List.length_map, List.length_range]
        rw [show len + (m - len) = m by omega]
        exact List.mem_cons_self
      · rw [hxe]
        simp only [DataW.weights, ht]
        exact List.mem_cons_of_mem _ (List.mem_append_left _ (wall_mem hk (List.mem_map.2 ⟨i, List.mem_range.2 hi, rfl⟩)))
      · exact rc_row ez (P.cellsOf e) hsz hlc (by omega) _ (fun i hi => (Classical.choose_spec (hC i) hi).1)

theorem arg_bytes2 {t e : TypeId} {fuel : Nat} {cs : List Value} {x : DataW H × List MemPlace} (ht : P.underlying t = some (.slice e)) (he : P.underlying e = some (.int .u8)) (hsz : P.cellsOf e = 1) (hbt : P.bytesOf e = 1)
    (h : DataW.trod enc P W 0 (fun _ => true) true fuel t cs = some x) : ∃ v, cs = [v] ∧ ∃ l : List (BitVec 8), l.length ≤ maxLen ∧ (l.length = 0 ∨ ∃ k, l.length ≤ k ∧ k ∈ x.1.weights P t) ∧ ∀ ez, rc 1 (reH ez W) (reV W.heap.size 1 v) = some (cu8 l) := by
  obtain ⟨v, rfl, hv⟩ := arg_slice2 ht (by omega) h
  refine ⟨v, rfl, ?_⟩
  rcases hv with ⟨a, rfl⟩ | ⟨len, cap, m, C, hlc, hcap, hwt, h1, -, h2⟩
  · exact ⟨[], Nat.zero_le _, .inl rfl, fun ez => by rw [reV_empty]; rfl⟩
  · rw [hsz] at h2
    have hb : ∀ i, ∃ b : BitVec 8, i < len → C i = [.int .u8 b.toNat] := fun i => by
      by_cases hi : i < len
      · obtain ⟨y, hy, -⟩ := h1 i hi
        obtain ⟨n, hn, hw⟩ := trod_int he hy
        obtain ⟨b, rfl⟩ := wf_u8 hw
        exact ⟨b, fun _ => hn⟩
      · exact ⟨0, fun h => absurd h hi⟩
    obtain ⟨L, hL⟩ := Classical.axiomOfChoice hb
    refine ⟨(List.range len).map fun i => L i, by simp; omega, .inr ⟨cap, by simpa using hlc, by rw [hbt, Nat.mul_one] at hwt; exact hwt⟩, fun ez => ?_⟩
    rw [h2]
    congr 1
    have : (List.range len).map C = (List.range len).map fun i => [Value.int .u8 (L i).toNat] :=
      List.map_congr_left fun i hi => hL i (List.mem_range.1 hi)
    rw [this, flat_one, cu8, List.map_map, List.map_map]
    rfl

theorem arg_lists2 {t e b : TypeId} {fuel : Nat} {cs : List Value} {x : DataW H × List MemPlace} (ht : P.underlying t = some (.slice e)) (he : P.underlying e = some (.slice b)) (hb : P.underlying b = some (.int .u8)) (hsz : P.cellsOf b = 1) (hct : P.cellsOf e = 1) (hbt : P.bytesOf b = 1) (hbe : 0 < P.bytesOf e)
    (hwt : ∀ n ∈ x.1.weights P t, n ≤ reachBytes)
    (h : DataW.trod enc P W 0 (fun _ => true) true fuel t cs = some x) : ∃ v, cs = [v] ∧ ∃ (ls : List (List (BitVec 8))) (vs : List V), ls.length ≤ reachBytes ∧ (∀ d ∈ ls, d.length ≤ reachBytes) ∧ rc 1 (reH 1 W) (reV W.heap.size 1 v) = some vs ∧ vs.length = ls.length ∧
      ∀ i (hi : i < ls.length), ∃ w, vs[i]? = some w ∧ rc 1 (reH 1 W) w = some (cu8 ls[i]) := by
  obtain ⟨v, rfl, hv⟩ := arg_slice2 ht (by omega) h
  refine ⟨v, rfl, ?_⟩
  rcases hv with ⟨a, rfl⟩ | ⟨len, cap, m, C, hlc, hcap, hw0, h1, -, h2⟩
  · exact ⟨[], [], Nat.zero_le _, fun d hd => by simp at hd, by rw [reV_empty]; rfl, rfl, fun i hi => by simp at hi⟩
  · rw [hct] at h2
    have hb : ∀ i, ∃ p : Value × List (BitVec 8), i < len → C i = [p.1] ∧ p.2.length ≤ reachBytes ∧ rc 1 (reH 1 W) (reV W.heap.size 1 p.1) = some (cu8 p.2) := fun i => by
      by_cases hi : i < len
      · obtain ⟨y, hy, hyw⟩ := h1 i hi
        obtain ⟨v, hc, l, -, hl, hr⟩ := arg_bytes2 he hb hsz hbt hy
        refine ⟨(v, l), fun _ => ⟨hc, ?_, hr 1⟩⟩
        rcases hl with hl | ⟨k, hk, hkm⟩
        · show l.length ≤ _
          omega
        · exact Nat.le_trans hk (hwt k (hyw k hkm))
      · exact ⟨(.nilFunc, []), fun h => absurd h hi⟩
    obtain ⟨L, hL⟩ := Classical.axiomOfChoice hb
    have hlr : len ≤ reachBytes := by
      have h3 := hwt _ hw0
      have h4 : cap * 1 ≤ cap * P.bytesOf e := Nat.mul_le_mul_left _ hbe
      omega
    refine ⟨(List.range len).map fun i => (L i).2, _, by simpa using hlr, fun d hd => ?_, h2 1, ?_, fun i hi => ?_⟩
    · obtain ⟨i, hi, rfl⟩ := List.mem_map.1 hd
      exact (hL i (List.mem_range.1 hi)).2.1
    · have : (List.range len).map C = (List.range len).map fun i => [(L i).1] :=
        List.map_congr_left fun i hi => (hL i (List.mem_range.1 hi)).1
      rw [this, flat_one]; simp
    · have : (List.range len).map C = (List.range len).map fun i => [(L i).1] :=
        List.map_congr_left fun i hi => (hL i (List.mem_range.1 hi)).1
      simp only [List.length_map, List.length_range] at hi
      refine ⟨_, by rw [this, flat_one]; simp [hi]; rfl, ?_⟩
      have := (hL i hi).2.2
      simpa using this

theorem open_lists2 {t e b : TypeId} {base : Nat} {v : Value} {d : DataW H} {ps : List MemPlace} (ht : P.underlying t = some (.slice e)) (he : P.underlying e = some (.slice b)) (hb : P.underlying b = some (.int .u8)) (hsz : P.cellsOf b = 1) (hct : P.cellsOf e = 1) (hbt : P.bytesOf b = 1) (hbe : 0 < P.bytesOf e)
    (hwt : ∀ n ∈ d.weights P t, n ≤ reachBytes)
    (hok : Value.okWide P W .any base t v) (h : DataW.Trod enc P W 0 (fun _ => true) true t v d ps) : ∃ (ls : List (List (BitVec 8))) (vs : List V), ls.length ≤ reachBytes ∧ (∀ d ∈ ls, d.length ≤ reachBytes) ∧ rc 1 (reH 1 W) (reV W.heap.size 1 v) = some vs ∧ vs.length = ls.length ∧
      ∀ i (hi : i < ls.length), ∃ w, vs[i]? = some w ∧ rc 1 (reH 1 W) w = some (cu8 ls[i]) := by
  obtain ⟨fuel, hf⟩ := h
  rw [ok_slice ht hok] at hf
  obtain ⟨v', e, l⟩ := arg_lists2 ht he hb hsz hct hbt hbe hwt hf
  cases e
  exact l
end
end Go.A

/- The bound of lists, equal sponges, and absorbing in parts. -/
set_option linter.unusedVariables false
set_option linter.unusedSimpArgs false
set_option maxRecDepth 100000
namespace Go.Proofs.Ytccepmhhilhajaa.K
open Go Go.A

def strL (l : List (BitVec 8)) : List UInt8 := l.map fun x => UInt8.ofNat x.toNat
theorem bytesOf_cu8 : ∀ l : List (BitVec 8), bytesOf (cu8 l) = some (strL l)
  | [] => rfl
  | x :: l => by
    have h := bytesOf_cu8 l
    show (bytesOf (cu8 l)).map (UInt8.ofNat ((x.toNat : Int)).toNat :: ·) = _
    rw [h]
    rfl
theorem vStr_rc {h : Heap} {v : V} {l : List (BitVec 8)} (hv : rc 1 h v = some (cu8 l)) : vStr h v = some (.str (strL l)) := by
  rcases rc_cases hv with ⟨rfl, e⟩ | ⟨b, o, n, c, bs, rfl, h1, h2, h3, e⟩
  · have : l = [] := by cases l with
      | nil => rfl
      | cons x l => simp [cu8] at e
    subst this; rfl
  · have hr : readN h b o n = some (cu8 l) := by
      have := hv
      simp only [rc, h1, and_self, if_true, Nat.mul_one] at this
      exact this
    show ((readN h b o n).bind bytesOf).map V.str = _
    rw [hr, Option.bind_some, bytesOf_cu8]
    rfl
theorem eql_str (a b : List UInt8) : evBin .eql (.str a) (.str b) = some (.bool (a == b)) := Eq.trans rfl rfl

theorem eq8' (s : S8) : evEqL [.int, .int, .int, .int, .int, .int, .int, .int] s.cells s.cells = some true := by
  simp only [S8.cells, eqL_cons, eq_u32, eqL_nil, kE1_some, kE2_some, beq_self_eq_true, Bool.and_self]

theorem call38 (s : S8) (rest : List (BitVec 8)) (h : Heap) (r q : V) (hr : rc 1 h r = some (cu8 rest)) (hq : rc 1 h q = some (cu8 rest)) :
    (run T).call 38 [.agg (s.cells ++ [r]), .agg (s.cells ++ [q])] none h = some (.ret (.bool true), none, h) := by
  have key : ∃ h', kF (run T) r38 (execC (run T) c38 (frame0 [.agg (s.cells ++ [r]), .agg (s.cells ++ [q])] none) (roH h)) = some (.ret (.bool true), none, h') := by
    replace hr := rc_ro hr
    replace hq := rc_ro hq
    generalize roH h = H at hr hq ⊢
    have r1 := isS_one (rc_isS hr)
    have q1 := isS_one (rc_isS hq)
    have s1 := fun X => vStr_rc (rc_app hr X)
    have s2 := fun X => vStr_rc (rc_app hq X)
    have he := eq8' s
    simp -implicitDefEqProofs only [runEqs, List.zipIdx_cons, List.zipIdx_nil, List.map_cons, List.map_nil, Nat.zero_add, Nat.add_zero, Nat.zero_mul, Nat.reduceAdd, Nat.reduceMul, Nat.reduceBEq, Nat.reduceLT, Nat.reduceSub, Option.map_some, Option.map_none, Option.isSome_some, Option.isSome_none, Bool.not_true, Bool.not_false, Bool.true_or, Bool.false_or, Bool.or_true, List.getElem?_cons_zero, List.getElem?_cons_succ, List.set_cons_zero, List.set_cons_succ, List.length_cons, List.length_nil, List.length_append, List.append_assoc, List.cons_append, List.nil_append, List.zip_cons_cons, List.zip_nil_right, Int.reduceAdd, Int.reduceSub, Int.reduceMul, Int.reduceLT, Int.reduceLE, Int.reduceNeg, Int.reduceToNat, Int.zero_add, Int.add_zero, decide_true, decide_false, Nat.reduceLeDiff, Nat.min_self, List.drop_succ_cons, List.drop_zero, List.drop_nil, List.take_succ_cons, List.take_zero, List.take_nil, List.all_cons, List.all_nil, Bool.and_true, Bool.true_and, Nat.mul_one, List.singleton_append, Int.le_refl, Nat.le_refl, c38, r38, len_s8, S8.len, one_s8, r1, q1, at8_s8, take8_s8, he, s1, s2, eql_str, beq_self_eq_true]
    exact ⟨_, rfl⟩
  obtain ⟨h', hk⟩ := key
  exact call_gc1 fn38 _ _ hk rfl

/-- What a list counts. -/
def smK (ls : List (List (BitVec 8))) : Nat → Nat
  | 0 => 0
  | i + 1 => smK ls i + (20 + (ls.getD i []).length)

theorem call24 (ls : List (List (BitVec 8))) (hsz : ls.length < 2305843009213693952) (hx : ∀ x ∈ ls, x.length < 2305843009213693952) (h : Heap) (v : V) (hv : Lv h v ls) :
    ∃ b, (run T).call 24 [v] none h = some (.ret (.bool b), none, h) ∧ (b = true → ls.length ≤ 4096 → smK ls ls.length ≤ 4000) := by
  have key : ∃ b h', kF (run T) r24 (execC (run T) c24 (frame0 [v] none) (roH h)) = some (.ret (.bool b), none, h') ∧ (b = true → ls.length ≤ 4096 → smK ls ls.length ≤ 4000) := by
    replace hv := hv.ro
    generalize roH h = H at hv ⊢
    have hl := hv.len
    have hs := hv.isS
    obtain ⟨k, vs', h', ⟨i0, hi0, -, hvs0, hh0, hb0⟩, ⟨i, hi, rfl, rfl, hend⟩, hlp⟩ := loop_st (T := T) (L := [0, 3, 4]) (c := c24_0) (d := []) (u := some none)
      (fun m vs hh => ∃ i, i ≤ ls.length ∧ m = ls.length - i ∧ vs = [v, i64 (smK ls i), i64 i] ∧ hh = H ∧ smK ls i < 4611686018427387904)
      (fun m vs hh => ∃ i, i ≤ ls.length ∧ vs = [v, i64 (smK ls i), i64 i] ∧ hh = H ∧ (i = ls.length ∨ 4000 < smK ls i))
      (by
        rintro m vs hh ⟨i, hi, rfl, rfl, rfl, hb⟩
        by_cases he : i = ls.length ∨ 4000 < smK ls i
        · exact .inl ⟨i, hi, rfl, rfl, he⟩
        right
        have hlt' : i < ls.length := by omega
        have hsm : ¬ 4000 < smK ls i := by omega
        have hlt : decide ((i : Int) < (ls.length : Int)) = true := by simpa using hlt'
        have hle : decide ((smK ls i : Int) ≤ 4000) = true := by simp; omega
        have hw := wr_succ_nat i (by omega)
        obtain ⟨w, -, hat, hwc⟩ := hv.at i hlt'
        have hwl : lenOf w = ls[i].length := by have := rc_len hwc; rw [cu8_len] at this; omega
        have hws := rc_isS hwc
        have hxi := hx ls[i] (List.getElem_mem _)
        have hgd : ls.getD i [] = ls[i] := by simp [hlt']
        have hw2 : wr (20 + (ls[i].length : Int)) = 20 + (ls[i].length : Int) := wr_id (by omega) (by omega)
        have hw3 : wr ((smK ls i : Int) + (20 + (ls[i].length : Int))) = ((smK ls (i + 1) : Nat) : Int) := by
          rw [smK, hgd, wr_id (by omega) (by omega)]; omega
        refine ⟨ls.length - (i + 1), _, _, by omega, ?_, i + 1, by omega, rfl, rfl, rfl, by rw [smK, hgd]; omega⟩
        simp -implicitDefEqProofs only [runEqs, List.zipIdx_cons, List.zipIdx_nil, List.map_cons, List.map_nil, Nat.zero_add, Nat.add_zero, Nat.zero_mul, Nat.reduceAdd, Nat.reduceMul, Nat.reduceBEq, Nat.reduceLT, Nat.reduceSub, Option.map_some, Option.map_none, Option.isSome_some, Option.isSome_none, Bool.not_true, Bool.not_false, Bool.true_or, Bool.false_or, Bool.or_true, List.getElem?_cons_zero, List.getElem?_cons_succ, List.set_cons_zero, List.set_cons_succ, List.length_cons, List.length_nil, List.length_append, List.append_assoc, List.cons_append, List.nil_append, List.zip_cons_cons, List.zip_nil_right, Int.reduceAdd, Int.reduceSub, Int.reduceMul, Int.reduceLT, Int.reduceLE, Int.reduceNeg, Int.reduceToNat, Int.zero_add, Int.add_zero, decide_true, decide_false, Nat.reduceLeDiff, Nat.min_self, List.drop_succ_cons, List.drop_zero, List.drop_nil, List.take_succ_cons, List.take_zero, List.take_nil, List.all_cons, List.all_nil, Bool.and_true, Bool.true_and, Nat.mul_one, List.singleton_append, Int.le_refl, Nat.le_refl, c24_0, vLen_of, hs, hl, hlt, hle, hw, vIS_of, hlt', hat, hws, hwl, hw2, hw3]
        exact nxt_some _ _ _ _ _ _ _ rfl rfl)
      ls.length [v, i64 0, i64 0] H ⟨0, by omega, by omega, rfl, rfl, by simp [smK]⟩
    have hg : (decide ((i : Int) < (ls.length : Int)) = false) ∨ (decide ((i : Int) < (ls.length : Int)) = true ∧ decide ((smK ls i : Int) ≤ 4000) = false) := by
      by_cases h1 : i < ls.length
      · right; refine ⟨by simpa using h1, ?_⟩; simp; omega
      · left; simpa using by omega
    have hres : ((decide ((smK ls i : Int) ≤ 4000) || decide ((ls.length : Int) > 4096)) = true → ls.length ≤ 4096 → smK ls ls.length ≤ 4000) := by
      intro h1 h2
      have h3 : smK ls i ≤ 4000 := by
        simp only [Bool.or_eq_true, decide_eq_true_eq] at h1
        omega
      have : i = ls.length := by omega
      subst this
      exact h3
    refine ⟨_, h', ?_, hres⟩
    simp only [List.zip_cons_cons, List.zip_nil_right] at hlp
    simp -implicitDefEqProofs only [runEqs, List.zipIdx_cons, List.zipIdx_nil, List.map_cons, List.map_nil, Nat.zero_add, Nat.add_zero, Nat.zero_mul, Nat.reduceAdd, Nat.reduceMul, Nat.reduceBEq, Nat.reduceLT, Nat.reduceSub, Option.map_some, Option.map_none, Option.isSome_some, Option.isSome_none, Bool.not_true, Bool.not_false, Bool.true_or, Bool.false_or, Bool.or_true, List.getElem?_cons_zero, List.getElem?_cons_succ, List.set_cons_zero, List.set_cons_succ, List.length_cons, List.length_nil, List.length_append, List.append_assoc, List.cons_append, List.nil_append, List.zip_cons_cons, List.zip_nil_right, Int.reduceAdd, Int.reduceSub, Int.reduceMul, Int.reduceLT, Int.reduceLE, Int.reduceNeg, Int.reduceToNat, Int.zero_add, Int.add_zero, decide_true, decide_false, Nat.reduceLeDiff, Nat.min_self, List.drop_succ_cons, List.drop_zero, List.drop_nil, List.take_succ_cons, List.take_zero, List.take_nil, List.all_cons, List.all_nil, Bool.and_true, Bool.true_and, Nat.mul_one, List.singleton_append, Int.le_refl, Nat.le_refl, c24, r24, hlp]
    rcases hg with hg | ⟨hg, hg2⟩
    · cases h2 : decide ((smK ls i : Int) ≤ 4000) with
      | true => simp -implicitDefEqProofs only [runEqs, List.zipIdx_cons, List.zipIdx_nil, List.map_cons, List.map_nil, Nat.zero_add, Nat.add_zero, Nat.zero_mul, Nat.reduceAdd, Nat.reduceMul, Nat.reduceBEq, Nat.reduceLT, Nat.reduceSub, Option.map_some, Option.map_none, Option.isSome_some, Option.isSome_none, Bool.not_true, Bool.not_false, Bool.true_or, Bool.false_or, Bool.or_true, List.getElem?_cons_zero, List.getElem?_cons_succ, List.set_cons_zero, List.set_cons_succ, List.length_cons, List.length_nil, List.length_append, List.append_assoc, List.cons_append, List.nil_append, List.zip_cons_cons, List.zip_nil_right, Int.reduceAdd, Int.reduceSub, Int.reduceMul, Int.reduceLT, Int.reduceLE, Int.reduceNeg, Int.reduceToNat, Int.zero_add, Int.add_zero, decide_true, decide_false, Nat.reduceLeDiff, Nat.min_self, List.drop_succ_cons, List.drop_zero, List.drop_nil, List.take_succ_cons, List.take_zero, List.take_nil, List.all_cons, List.all_nil, Bool.and_true, Bool.true_and, Nat.mul_one, List.singleton_append, Int.le_refl, Nat.le_refl, c24_0, vLen_of, hs, hl, hg, h2]
      | false =>
        cases h3 : decide ((ls.length : Int) > 4096) with
        | true => simp -implicitDefEqProofs only [runEqs, List.zipIdx_cons, List.zipIdx_nil, List.map_cons, List.map_nil, Nat.zero_add, Nat.add_zero, Nat.zero_mul, Nat.reduceAdd, Nat.reduceMul, Nat.reduceBEq, Nat.reduceLT, Nat.reduceSub, Option.map_some, Option.map_none, Option.isSome_some, Option.isSome_none, Bool.not_true, Bool.not_false, Bool.true_or, Bool.false_or, Bool.or_true, List.getElem?_cons_zero, List.getElem?_cons_succ, List.set_cons_zero, List.set_cons_succ, List.length_cons, List.length_nil, List.length_append, List.append_assoc, List.cons_append, List.nil_append, List.zip_cons_cons, List.zip_nil_right, Int.reduceAdd, Int.reduceSub, Int.reduceMul, Int.reduceLT, Int.reduceLE, Int.reduceNeg, Int.reduceToNat, Int.zero_add, Int.add_zero, decide_true, decide_false, Nat.reduceLeDiff, Nat.min_self, List.drop_succ_cons, List.drop_zero, List.drop_nil, List.take_succ_cons, List.take_zero, List.take_nil, List.all_cons, List.all_nil, Bool.and_true, Bool.true_and, Nat.mul_one, List.singleton_append, Int.le_refl, Nat.le_refl, c24_0, vLen_of, hs, hl, hg, h2, h3]
        | false => simp -implicitDefEqProofs only [runEqs, List.zipIdx_cons, List.zipIdx_nil, List.map_cons, List.map_nil, Nat.zero_add, Nat.add_zero, Nat.zero_mul, Nat.reduceAdd, Nat.reduceMul, Nat.reduceBEq, Nat.reduceLT, Nat.reduceSub, Option.map_some, Option.map_none, Option.isSome_some, Option.isSome_none, Bool.not_true, Bool.not_false, Bool.true_or, Bool.false_or, Bool.or_true, List.getElem?_cons_zero, List.getElem?_cons_succ, List.set_cons_zero, List.set_cons_succ, List.length_cons, List.length_nil, List.length_append, List.append_assoc, List.cons_append, List.nil_append, List.zip_cons_cons, List.zip_nil_right, Int.reduceAdd, Int.reduceSub, Int.reduceMul, Int.reduceLT, Int.reduceLE, Int.reduceNeg, Int.reduceToNat, Int.zero_add, Int.add_zero, decide_true, decide_false, Nat.reduceLeDiff, Nat.min_self, List.drop_succ_cons, List.drop_zero, List.drop_nil, List.take_succ_cons, List.take_zero, List.take_nil, List.all_cons, List.all_nil, Bool.and_true, Bool.true_and, Nat.mul_one, List.singleton_append, Int.le_refl, Nat.le_refl, c24_0, vLen_of, hs, hl, hg, h2, h3]
    · cases h3 : decide ((ls.length : Int) > 4096) with
      | true => simp -implicitDefEqProofs only [runEqs, List.zipIdx_cons, List.zipIdx_nil, List.map_cons, List.map_nil, Nat.zero_add, Nat.add_zero, Nat.zero_mul, Nat.reduceAdd, Nat.reduceMul, Nat.reduceBEq, Nat.reduceLT, Nat.reduceSub, Option.map_some, Option.map_none, Option.isSome_some, Option.isSome_none, Bool.not_true, Bool.not_false, Bool.true_or, Bool.false_or, Bool.or_true, List.getElem?_cons_zero, List.getElem?_cons_succ, List.set_cons_zero, List.set_cons_succ, List.length_cons, List.length_nil, List.length_append, List.append_assoc, List.cons_append, List.nil_append, List.zip_cons_cons, List.zip_nil_right, Int.reduceAdd, Int.reduceSub, Int.reduceMul, Int.reduceLT, Int.reduceLE, Int.reduceNeg, Int.reduceToNat, Int.zero_add, Int.add_zero, decide_true, decide_false, Nat.reduceLeDiff, Nat.min_self, List.drop_succ_cons, List.drop_zero, List.drop_nil, List.take_succ_cons, List.take_zero, List.take_nil, List.all_cons, List.all_nil, Bool.and_true, Bool.true_and, Nat.mul_one, List.singleton_append, Int.le_refl, Nat.le_refl, c24_0, vLen_of, hs, hl, hg, hg2, h3]
      | false => simp -implicitDefEqProofs only [runEqs, List.zipIdx_cons, List.zipIdx_nil, List.map_cons, List.map_nil, Nat.zero_add, Nat.add_zero, Nat.zero_mul, Nat.reduceAdd, Nat.reduceMul, Nat.reduceBEq, Nat.reduceLT, Nat.reduceSub, Option.map_some, Option.map_none, Option.isSome_some, Option.isSome_none, Bool.not_true, Bool.not_false, Bool.true_or, Bool.false_or, Bool.or_true, List.getElem?_cons_zero, List.getElem?_cons_succ, List.set_cons_zero, List.set_cons_succ, List.length_cons, List.length_nil, List.length_append, List.append_assoc, List.cons_append, List.nil_append, List.zip_cons_cons, List.zip_nil_right, Int.reduceAdd, Int.reduceSub, Int.reduceMul, Int.reduceLT, Int.reduceLE, Int.reduceNeg, Int.reduceToNat, Int.zero_add, Int.add_zero, decide_true, decide_false, Nat.reduceLeDiff, Nat.min_self, List.drop_succ_cons, List.drop_zero, List.drop_nil, List.take_succ_cons, List.take_zero, List.take_nil, List.all_cons, List.all_nil, Bool.and_true, Bool.true_and, Nat.mul_one, List.singleton_append, Int.le_refl, Nat.le_refl, c24_0, vLen_of, hs, hl, hg, hg2, h3]
  obtain ⟨b, h', hk, hb⟩ := key
  exact ⟨b, call_gc1 fn24 _ _ hk rfl, hb⟩

/-! ### absorbing in parts -/
theorem absN_congr (s : S8) (c l : List (BitVec 8)) : ∀ k, 16 * k ≤ c.length → absN s (c ++ l) k = absN s c k
  | 0, _ => rfl
  | k + 1, h => by
    rw [absN, absN, absN_congr s c l k (by omega), List.drop_append_of_le_length (by omega), List.take_append_of_le_length (by rw [List.length_drop]; omega)]
theorem absN_add (s : S8) (a : List (BitVec 8)) (k0 : Nat) : ∀ k, absN s a (k0 + k) = absN (absN s a k0) (a.drop (16 * k0)) k
  | 0 => rfl
  | k + 1 => by
    rw [← Nat.add_assoc, absN, absN, absN_add s a k0 k, List.drop_drop, show 16 * k0 + 16 * k = 16 * (k0 + k) by omega]
theorem abs_app (s : S8) (c l : List (BitVec 8)) : absS (absS s c) (restL c ++ l) = absS s (c ++ l) ∧ restL (restL c ++ l) = restL (c ++ l) := by
  have e1 : restL c ++ l = (c ++ l).drop (16 * (c.length / 16)) := by
    rw [restL, List.drop_append_of_le_length (by omega), Nat.mul_comm]
  have e2 : (restL c ++ l).length / 16 + c.length / 16 = (c ++ l).length / 16 := by
    rw [e1, List.length_drop, List.length_append]; omega
  constructor
  · unfold absS
    rw [← absN_congr s c l (c.length / 16) (by omega)]
    rw [← e2, Nat.add_comm, absN_add s (c ++ l) (c.length / 16), ← e1]
  · rw [restL, e1, restL, List.drop_drop]
    congr 1
    rw [← e1, ← e2]; omega

end Go.Proofs.Ytccepmhhilhajaa.K

/- Absorb: what is left over is new. -/
set_option linter.unusedVariables false
set_option linter.unusedSimpArgs false
set_option maxRecDepth 100000
namespace Go.Proofs.Ytccepmhhilhajaa.K
open Go Go.A

/-- As call36, and what is left over is new. -/
theorem call36o (s : S8) (rest l : List (BitVec 8)) (hr : rest.length < 16) (hl : l.length < 8796093022208) (h : Heap) (r v : V) (hrr : rc 1 h r = some (cu8 rest)) (hv : rc 1 h v = some (cu8 l)) :
    ∃ r' g, (run T).call 36 [.agg (s.cells ++ [r]), v] none h = some (.ret (.tup [.agg ((absS s (rest ++ l)).cells ++ [r']), i64 0]), none, h ++ g) ∧ Own h.length 1 (h ++ g) r' (cu8 (restL (rest ++ l))) := by
  have hrs := rc_isS hrr
  have hr1 := isS_one hrs
  have hrl : lenOf r = rest.length := by have := rc_len hrr; rw [cu8_len] at this; omega
  have hvl : lenOf v = l.length := by have := rc_len hv; rw [cu8_len] at this; omega
  have hc : decide ((rest.length : Int) ≥ 16) = false := by simp; omega
  obtain ⟨B, hB⟩ : ∃ B : Blk, B = .cells .ex [u32 0, u32 0, u32 0, u32 0, u32 0, u32 0, u32 0, u32 0, .nils] := ⟨_, rfl⟩
  -- the bytes together
  have o0 : Own (h.length + 2) 1 (h ++ [.cells .ex (s.cells ++ [r]), B, .cells .ex []]) (.sl 1 (h.length + 2) 0 0 0) (cu8 []) := Own.mk (m := .ex) (Nat.le_refl _) (by rw [blk_get]; rfl) (.inl rfl) rfl
  obtain ⟨v1, g1, e1, o1, n1⟩ := app_own' (bts := 1) (by omega) (by simp) o0 (rc_app hrr _) (cu8_one _) (by rw [hrl]; simp only [lenOf]; omega) (by rw [hrl]; simp only [lenOf]; omega) _ (take_two _ _ _ _)
  simp only [List.append_assoc, List.cons_append, List.nil_append] at e1 o1
  have n1' : lenOf v1 = rest.length := by rw [n1, hrl]; simp [lenOf]
  obtain ⟨v2, g2, e2, o2, n2⟩ := app_own' (bts := 1) (by omega) (by simp) o1 (rc_app hv _) (cu8_one _) (by rw [n1', hvl]; omega) (by rw [n1', hvl]; omega) _ (take_two _ _ _ _)
  simp only [List.append_assoc, List.cons_append, List.nil_append, cu8_app] at e2 o2
  have n2' : lenOf v2 = (rest ++ l).length := by rw [n2, n1', hvl, List.length_append]
  have hal : (rest ++ l).length < 8796093022300 := by rw [List.length_append]; omega
  generalize rest ++ l = al at *
  have hs2 := rc_isS o2.rcn
  have h56 := call56 v2 hs2 (h ++ .cells .ex (s.cells ++ [r]) :: B :: g2)
  -- the loop
  obtain ⟨t0, ht0⟩ : ∃ t0 : Env, t0 = [(21, .fn (.func 76) [] [.ptr (h.length + (g2.length + 1 + 1)) 0]), (20, v2), (2, .ptr h.length 0), (4, .ptr (h.length + 1) 0), (5, i64 0), (6, v2)] := ⟨_, rfl⟩
  have ho : ∀ A X, rc 1 (h ++ A :: ((B :: g2) ++ X)) v2 = some (cu8 al) := fun A X => by
    have := (own_swap2 (A' := A) (B' := B) o2).app X
    simpa using this.rcn
  have h76 := call76 al (by omega) s r hr1 h (B :: g2) v2 ho t0 (by rw [ht0]; rfl)
  simp only [List.cons_append, List.length_cons] at h76
  have hrg : execRng (run T) (.fn (.func 76) [] [.ptr (h.length + (g2.length + 1 + 1)) 0]) [22] c36_0a c36_0 ⟨t0, [], some none⟩ (h ++ .cells .ex (s.cells ++ [r]) :: B :: (g2 ++ [.cells .ex [v2]])) =
      some (.norm, ⟨t0, [.coll (h.length + (g2.length + 1 + 1 + 1))], some none⟩, h ++ .cells .ex ((absS s al).cells ++ [r]) :: B :: (g2 ++ [.cells .ex [sx v2 (al.length / 16)], .dfl, .loop 3 none t0 [22] c36_0a c36_0])) := by
    have hln : (h ++ .cells .ex (s.cells ++ [r]) :: B :: (g2 ++ [.cells .ex [v2]])).length = h.length + (g2.length + 1 + 1 + 1) := by simp
    have := rngf_ok (r := run T) (f := .fn (.func 76) [] [.ptr (h.length + (g2.length + 1 + 1)) 0]) (v := .tup []) (ps := [22]) (asg := c36_0a) (body := c36_0) (t := t0) (d := []) (u := none) (h := h ++ .cells .ex (s.cells ++ [r]) :: B :: (g2 ++ [.cells .ex [v2]]))
      (h2 := h ++ .cells .ex ((absS s al).cells ++ [r]) :: B :: (g2 ++ [.cells .ex [sx v2 (al.length / 16)], .dfl, .loop 0 none t0 [22] c36_0a c36_0])) (e := t0) (p := [22]) (a := c36_0a) (b := c36_0)
      (by
        rw [callV76, hln]
        rw [show h.length + (g2.length + 1 + 1 + 1) + 1 = h.length + (g2.length + 1 + 2 + 1) by omega]
        simp only [List.append_assoc, List.cons_append, List.nil_append]
        rw [h76]; rfl)
      (by rw [hln, show h.length + (g2.length + 1 + 1 + 1) + 1 = h.length + (g2.length + 2 + 1 + 1) by omega, blk_get, List.getElem?_cons_succ, List.getElem?_cons_succ, blk_get]; rfl)
    rw [this, hln, show h.length + (g2.length + 1 + 1 + 1) + 1 = h.length + (g2.length + 2 + 1 + 1) by omega, blk_set, List.set_cons_succ, List.set_cons_succ, blk_set]
    rfl
  -- the rest
  have hq : wr ((al.length : Int).tdiv 16) = ((al.length / 16 : Nat) : Int) := by rw [Int.tdiv_eq_ediv_of_nonneg (by omega), wr_id (by omega) (by omega)]; omega
  have hm : wr (((al.length / 16 : Nat) : Int) * 16) = ((al.length / 16 * 16 : Nat) : Int) := by rw [wr_id (by omega) (by omega)]; omega
  have hsl := sl_lo o2.rcn ((al.length / 16 * 16 : Nat) : Int) (by omega) (by rw [n2']; omega)
  rw [show (((al.length / 16 * 16 : Nat) : Int)).toNat = al.length / 16 * 16 by omega, n2'] at hsl
  obtain ⟨L3, hL3⟩ : ∃ b : Blk, b = .loop 3 none t0 [22] c36_0a c36_0 := ⟨_, rfl⟩
  obtain ⟨C, hC⟩ : ∃ b : Blk, b = .cells .ex [sx v2 (al.length / 16)] := ⟨_, rfl⟩
  have hx := fun X => rc_slc (ho (.cells .ex ((absS s al).cells ++ [r])) X) (al.length / 16 * 16) al.length (by omega) (by omega)
  simp only [Nat.mul_one, cu8_take, cu8_drop, List.take_length, List.cons_append] at hx
  have o3 : Own (h.length + (g2.length + 3 + 1 + 1)) 1 (h ++ .cells .ex ((absS s al).cells ++ [r]) :: B :: (g2 ++ [C, .dfl, L3, .cells .ex []])) (.sl 1 (h.length + (g2.length + 3 + 1 + 1)) 0 0 0) (cu8 []) :=
    Own.mk (m := .ex) (Nat.le_refl _) (by rw [blk_get, List.getElem?_cons_succ, List.getElem?_cons_succ, blk_get]; rfl) (.inl rfl) rfl
  obtain ⟨r', g3, e3, o3', n3⟩ := app_own' (bts := 1) (by omega) (by simp) o3 (hx _) (cu8_one _) (by rw [slc_len _ _ _ _ (by omega)]; simp only [lenOf]; omega) (by rw [slc_len _ _ _ _ (by omega)]; simp only [lenOf]; omega)
    (h ++ .cells .ex ((absS s al).cells ++ [r]) :: B :: (g2 ++ [C, .dfl, L3])) (by
      have := take_all (h ++ .cells .ex ((absS s al).cells ++ [r]) :: B :: (g2 ++ [C, .dfl, L3])) [.cells .ex []]
      simpa using this)
  simp only [List.append_assoc, List.cons_append, List.nil_append, cu8_app] at e3 o3'
  have hr1' := isS_one (rc_isS o3'.rcn)
  refine ⟨r', ?_⟩
  rw [call_gc0 fn36]
  rw [hC, hL3] at e3
  rw [ht0] at hrg e3
  simp only [List.length_append, List.length_cons, List.append_assoc, List.cons_append, List.nil_append] at h56
  rw [hB] at e1 e2 h56 hrg e3
  have hfin : ∀ A B' X, Own h.length 1 (h ++ A :: B' :: (g2 ++ C :: X :: L3 :: g3)) r' (cu8 (restL al)) := fun A B' X => by
    have h1 : Own (h.length + (g2.length + 3 + 1 + 1)) 1 ((h ++ A :: B' :: (g2 ++ [C, X, L3])) ++ g3) r' (cu8 (restL al)) :=
      own_swap (P := h ++ .cells .ex ((absS s al).cells ++ [r]) :: B :: (g2 ++ [C, .dfl, L3])) (by simpa [restL] using o3') (by simp) (by simp)
    simpa using h1.low (by omega)
  rw [hC, hL3, ht0] at hfin
  clear hC hL3 hB o0 o1 o2 o3 o3' h76 hx
  simp -implicitDefEqProofs only [runEqs, List.zipIdx_cons, List.zipIdx_nil, List.map_cons, List.map_nil, Nat.zero_add, Nat.add_zero, Nat.zero_mul, Nat.reduceAdd, Nat.reduceMul, Nat.reduceBEq, Nat.reduceLT, Nat.reduceSub, Option.map_some, Option.map_none, Option.isSome_some, Option.isSome_none, Bool.not_true, Bool.not_false, Bool.true_or, Bool.false_or, Bool.or_true, List.getElem?_cons_zero, List.getElem?_cons_succ, List.set_cons_zero, List.set_cons_succ, List.length_cons, List.length_nil, List.length_append, List.append_assoc, List.cons_append, List.nil_append, List.zip_cons_cons, List.zip_nil_right, Int.reduceAdd, Int.reduceSub, Int.reduceMul, Int.reduceLT, Int.reduceLE, Int.reduceNeg, Int.reduceToNat, Int.zero_add, Int.add_zero, decide_true, decide_false, Nat.reduceLeDiff, Nat.min_self, List.drop_succ_cons, List.drop_zero, List.drop_nil, List.take_succ_cons, List.take_zero, List.take_nil, List.all_cons, List.all_nil, Bool.and_true, Bool.true_and, Nat.mul_one, List.singleton_append, Int.le_refl, Nat.le_refl, c36, r36, S8.len, len_s8, one_s8, hr1, hr1', at8_s8, set8_s8, take9_s8, vLen_of, hrs, hrl, hc, e1, e2, h56, c_rngf, hrg, hs2, n2', quo_16i, hq, hm, hsl, e3, leave_coll, blk_get, blk_set]
  exact ⟨_, rfl, hfin _ _ _⟩
end Go.Proofs.Ytccepmhhilhajaa.K

/- SumsStreams: the law's walk. -/
set_option linter.unusedVariables false
set_option linter.unusedSimpArgs false
set_option maxRecDepth 100000
namespace Go.Proofs.Ytccepmhhilhajaa.K
open Go Go.A

def cat (ls : List (List (BitVec 8))) (k : Nat) : List (BitVec 8) := (ls.take k).flatten
theorem cat_succ (ls : List (List (BitVec 8))) (k : Nat) (hk : k < ls.length) : cat ls (k + 1) = cat ls k ++ ls[k] := by
  rw [cat, List.take_succ_eq_append_getElem hk, List.flatten_append, cat]; simp
theorem smK_le (ls : List (List (BitVec 8))) (a : Nat) : ∀ b, smK ls a ≤ smK ls (a + b)
  | 0 => Nat.le_refl _
  | b + 1 => by rw [← Nat.add_assoc, smK]; have := smK_le ls a b; omega
theorem cat_le (ls : List (List (BitVec 8))) : ∀ k, k ≤ ls.length → (cat ls k).length ≤ smK ls k
  | 0, _ => by simp [cat, smK]
  | k + 1, h => by
    have := cat_le ls k (by omega)
    rw [cat_succ ls k (by omega), List.length_append, smK]
    have e : ls.getD k [] = ls[k]'(by omega) := by simp [show k < ls.length by omega]
    rw [e]; omega

def Aini : Blk := .cells .ex (S0.cells ++ [.nils])

theorem round7 (ls : List (List (BitVec 8))) (hs4 : smK ls ls.length ≤ 4000) (P : Heap) (v : V) (hv : Lv P v ls) (hlen : ls.length ≤ 200) (k : Nat) (hk : k < ls.length)
    (r out : V) (g : Heap) (hr : rc 1 (P ++ .cells .ex ((absS S0 (cat ls k)).cells ++ [r]) :: g) r = some (cu8 (restL (cat ls k))))
    (ho : Own (P.length + 1) 1 (P ++ .cells .ex ((absS S0 (cat ls k)).cells ++ [r]) :: g) out (cu8 (cat ls k))) :
    ∃ r' out' g', Nxt (execC (run T) c7_0 ⟨[0, 3, 4, 5].zip [v, .ptr P.length 0, out, i64 k], [], some none⟩ (P ++ .cells .ex ((absS S0 (cat ls k)).cells ++ [r]) :: g)) [0, 3, 4, 5]
      [v, .ptr P.length 0, out', i64 ((k + 1 : Nat) : Int)] [] (some none) (P ++ .cells .ex ((absS S0 (cat ls (k + 1))).cells ++ [r']) :: g') ∧
      rc 1 (P ++ .cells .ex ((absS S0 (cat ls (k + 1))).cells ++ [r']) :: g') r' = some (cu8 (restL (cat ls (k + 1)))) ∧
      Own (P.length + 1) 1 (P ++ .cells .ex ((absS S0 (cat ls (k + 1))).cells ++ [r']) :: g') out' (cu8 (cat ls (k + 1))) := by
  have hlt : decide ((k : Int) < (ls.length : Int)) = true := by simpa using hk
  have hw := wr_succ_nat k (by omega)
  have hl := hv.len
  have hs := hv.isS
  obtain ⟨w, hat, -, hwc⟩ := hv.at k hk
  have c1 := cat_le ls k (by omega)
  have c2 := cat_le ls (k + 1) (by omega)
  have c3 := smK_le ls (k + 1) (ls.length - (k + 1))
  rw [show k + 1 + (ls.length - (k + 1)) = ls.length by omega] at c3
  have hwl : lenOf w = ls[k].length := by have := rc_len hwc; rw [cu8_len] at this; omega
  have hol : lenOf out = (cat ls k).length := by have := ho.len; rw [cu8_len] at this; omega
  have cs := cat_succ ls k hk
  rw [cs, List.length_append] at c2
  obtain ⟨r', g2, e1, hr'⟩ := call36o (absS S0 (cat ls k)) (restL (cat ls k)) ls[k] (restL_len _) (by omega) _ r w hr (rc_app hwc _)
  obtain ⟨a1, a2⟩ := abs_app S0 (cat ls k) ls[k]
  rw [a1] at e1
  rw [a2] at hr'
  rw [← cs] at e1 hr'
  have hcat : cu8 (cat ls k) ++ cu8 ls[k] = cu8 (cat ls (k + 1)) := by rw [cs]; simp [cu8]
  have hcl : (cat ls (k + 1)).length = (cat ls k).length + ls[k].length := by rw [cs, List.length_append]
  generalize absS S0 (cat ls k) = s at *
  generalize absS S0 (cat ls (k + 1)) = s' at *
  obtain ⟨B', hB'⟩ : ∃ B, B = Blk.cells .ex (s'.cells ++ [r']) := ⟨_, rfl⟩
  have hrr : rc 1 (P ++ B' :: (g ++ (g2 ++ [B']))) r' = some (cu8 (restL (cat ls (k + 1)))) := by
    have h1 : Own (P ++ Blk.cells .ex (s.cells ++ [r]) :: g).length 1 ((P ++ B' :: g) ++ g2) r' (cu8 (restL (cat ls (k + 1)))) := own_swap (P := P ++ Blk.cells .ex (s.cells ++ [r]) :: g) hr' rfl (by simp)
    have := (h1.app [B']).rcn
    simpa using this
  have hr1 := isS_one (rc_isS hrr)
  have o2 : Own (P.length + 1) 1 (P ++ B' :: (g ++ (g2 ++ [B']))) out (cu8 (cat ls k)) := (by simpa using (own_swap1 (A' := B') ho).app (g2 ++ [B']))
  obtain ⟨out', h', e2, o3, kp, ol⟩ := app_own (bts := 1) (by omega) (by simp) o2 (rc_app hwc (B' :: (g ++ (g2 ++ [B'])))) (cu8_one _) (by rw [hwl, hol]; omega) (by rw [hwl, hol]; omega)
  have hne : blkOf r' < P.length + 1 ∨ blkOf r' ≠ blkOf out := by
    rcases hr' with ⟨rfl, -⟩ | ⟨b, m, q, b1, b2, b3, b4, rfl⟩
    · left; show 0 < _; omega
    · right
      rcases ho with ⟨rfl, -⟩ | ⟨b', m', q', d1, d2, d3, d4, rfl⟩
      · show b ≠ 0
        simp at b1; omega
      · show b ≠ b'
        have := (List.getElem?_eq_some_iff.1 d2).1
        omega
  have hrf := kp.rc hrr hne
  have hh' := kp.take (by simp)
  rw [take_one] at hh'
  generalize h'.drop (P.length + 1) = g3 at hh'
  subst hh'
  rw [hcat] at o3
  simp only [List.append_assoc, List.cons_append, List.nil_append] at e1 e2 o3 hrf
  subst hB'
  refine ⟨r', out', g3, ?_, hrf, o3⟩
  have z9 : [u32 0, u32 0, u32 0, u32 0, u32 0, u32 0, u32 0, u32 0, V.nils].length = 9 := rfl
  have ne0 : ((0 : Int) != 0) = false := rfl
  clear hrf o3 kp hrr hr' ho hr o2 hcat cs a1 a2 hne
  simp -implicitDefEqProofs only [runEqs, List.zipIdx_cons, List.zipIdx_nil, List.map_cons, List.map_nil, Nat.zero_add, Nat.add_zero, Nat.zero_mul, Nat.reduceAdd, Nat.reduceMul, Nat.reduceBEq, Nat.reduceLT, Nat.reduceSub, Option.map_some, Option.map_none, Option.isSome_some, Option.isSome_none, Bool.not_true, Bool.not_false, Bool.true_or, Bool.false_or, Bool.or_true, List.getElem?_cons_zero, List.getElem?_cons_succ, List.set_cons_zero, List.set_cons_succ, List.length_cons, List.length_nil, List.length_append, List.append_assoc, List.cons_append, List.nil_append, List.zip_cons_cons, List.zip_nil_right, Int.reduceAdd, Int.reduceSub, Int.reduceMul, Int.reduceLT, Int.reduceLE, Int.reduceNeg, Int.reduceToNat, Int.zero_add, Int.add_zero, decide_true, decide_false, Nat.reduceLeDiff, Nat.min_self, List.drop_succ_cons, List.drop_zero, List.drop_nil, List.take_succ_cons, List.take_zero, List.take_nil, List.all_cons, List.all_nil, Bool.and_true, Bool.true_and, Nat.mul_one, List.singleton_append, Int.le_refl, Nat.le_refl, c7_0, vLen_of, hs, hl, hlt, hw, len_s8, S8.len, one_s8, hr1, take9_s8, vIS_of, hk, hat, e1, e2, ne0]
  exact nxt_some _ _ _ _ _ _ _ rfl rfl

theorem law7 (ls : List (List (BitVec 8))) (hsz : ls.length < 2305843009213693952) (hx : ∀ x ∈ ls, x.length < 2305843009213693952) (h : Heap) (v : V) (hv : Lv h v ls) :
    ∃ u' h', (run T).call 7 [v] none h = some (.ret (.bool true), u', h') := by
  have hl := hv.len
  have hs := hv.isS
  cases g1 : decide ((ls.length : Int) > 200) with
  | true =>
    refine ⟨none, ?_⟩
    rw [call_gc0 fn7]
    simp -implicitDefEqProofs only [runEqs, List.zipIdx_cons, List.zipIdx_nil, List.map_cons, List.map_nil, Nat.zero_add, Nat.add_zero, Nat.zero_mul, Nat.reduceAdd, Nat.reduceMul, Nat.reduceBEq, Nat.reduceLT, Nat.reduceSub, Option.map_some, Option.map_none, Option.isSome_some, Option.isSome_none, Bool.not_true, Bool.not_false, Bool.true_or, Bool.false_or, Bool.or_true, List.getElem?_cons_zero, List.getElem?_cons_succ, List.set_cons_zero, List.set_cons_succ, List.length_cons, List.length_nil, List.length_append, List.append_assoc, List.cons_append, List.nil_append, List.zip_cons_cons, List.zip_nil_right, Int.reduceAdd, Int.reduceSub, Int.reduceMul, Int.reduceLT, Int.reduceLE, Int.reduceNeg, Int.reduceToNat, Int.zero_add, Int.add_zero, decide_true, decide_false, Nat.reduceLeDiff, Nat.min_self, List.drop_succ_cons, List.drop_zero, List.drop_nil, List.take_succ_cons, List.take_zero, List.take_nil, List.all_cons, List.all_nil, Bool.and_true, Bool.true_and, Nat.mul_one, List.singleton_append, Int.le_refl, Nat.le_refl, c7, r7, vLen_of, hs, hl, g1, call14]
    exact ⟨_, rfl⟩
  | false =>
  have q1 : ¬ ((ls.length : Int) > 200) := of_decide_eq_false g1
  obtain ⟨b, e24, hb⟩ := call24 ls hsz hx h v hv
  cases b with
  | false =>
    refine ⟨none, ?_⟩
    rw [call_gc0 fn7]
    simp -implicitDefEqProofs only [runEqs, List.zipIdx_cons, List.zipIdx_nil, List.map_cons, List.map_nil, Nat.zero_add, Nat.add_zero, Nat.zero_mul, Nat.reduceAdd, Nat.reduceMul, Nat.reduceBEq, Nat.reduceLT, Nat.reduceSub, Option.map_some, Option.map_none, Option.isSome_some, Option.isSome_none, Bool.not_true, Bool.not_false, Bool.true_or, Bool.false_or, Bool.or_true, List.getElem?_cons_zero, List.getElem?_cons_succ, List.set_cons_zero, List.set_cons_succ, List.length_cons, List.length_nil, List.length_append, List.append_assoc, List.cons_append, List.nil_append, List.zip_cons_cons, List.zip_nil_right, Int.reduceAdd, Int.reduceSub, Int.reduceMul, Int.reduceLT, Int.reduceLE, Int.reduceNeg, Int.reduceToNat, Int.zero_add, Int.add_zero, decide_true, decide_false, Nat.reduceLeDiff, Nat.min_self, List.drop_succ_cons, List.drop_zero, List.drop_nil, List.take_succ_cons, List.take_zero, List.take_nil, List.all_cons, List.all_nil, Bool.and_true, Bool.true_and, Nat.mul_one, List.singleton_append, Int.le_refl, Nat.le_refl, c7, r7, vLen_of, hs, hl, g1, e24, not_bool, call14]
    exact ⟨_, rfl⟩
  | true =>
  have hs4 := hb rfl (by omega)
  obtain ⟨A1, hA1⟩ : ∃ B, B = Blk.cells .ex (S0.cells ++ [V.nils]) := ⟨_, rfl⟩
  have e35 := call35 h
  obtain ⟨P, hP⟩ : ∃ P, P = h ++ [A1, A1] := ⟨_, rfl⟩
  have hPl : P.length = h.length + 2 := by rw [hP]; simp
  have hvP : Lv P v ls := by rw [hP]; exact hv.app _
  obtain ⟨vs', h', ⟨r, out, g, rfl, rfl, hr, ho⟩, hlp⟩ := loop_up (T := T) (L := [0, 3, 4, 5]) (c := c7_0) (d := []) (u := some none)
    (fun k vs hh => ∃ r out g, vs = [v, .ptr P.length 0, out, i64 ((k : Nat) : Int)] ∧ hh = P ++ .cells .ex ((absS S0 (cat ls k)).cells ++ [r]) :: g ∧ rc 1 hh r = some (cu8 (restL (cat ls k))) ∧ Own (P.length + 1) 1 hh out (cu8 (cat ls k))) ls.length
    (by
      rintro k vs hh hk ⟨r, out, g, rfl, rfl, hr, ho⟩
      obtain ⟨r', out', g', a, b, c⟩ := round7 ls hs4 P v hvP (by omega) k hk r out g hr ho
      exact ⟨_, _, a, r', out', g', rfl, rfl, b, c⟩)
    [v, .ptr P.length 0, .nils, i64 0] (P ++ .cells .ex (S0.cells ++ [.nils]) :: []) ⟨.nils, .nils, [], rfl, by rw [show cat ls 0 = [] by simp [cat]]; rfl, by rw [show cat ls 0 = [] by simp [cat]]; rfl, by rw [show cat ls 0 = [] by simp [cat]]; exact Own.nil _ _ _⟩
  have c1 := cat_le ls ls.length (Nat.le_refl _)
  generalize cat ls ls.length = c at *
  have hdg : endD (absS S0 c) (restL c) = digL c := rfl
  have hrl := restL_len c
  obtain ⟨r2, g2, e36, hr2⟩ := call36 S0 [] c (by simp) (by omega) ((P ++ .cells .ex ((absS S0 c).cells ++ [r]) :: g) ++ [A1, A1]) .nils out rfl (ho.app _).rcn
  rw [List.nil_append] at e36 hr2
  generalize hS : absS S0 c = s at *
  obtain ⟨B, hB⟩ : ∃ B, B = Blk.cells .ex (s.cells ++ [r]) := ⟨_, rfl⟩
  obtain ⟨B2, hB2⟩ : ∃ B, B = Blk.cells .ex (s.cells ++ [r2]) := ⟨_, rfl⟩
  rw [← hB] at e36 hr2 hr ho hlp
  have e37 := fun X => call37 s (restL c) hrl (P ++ B :: (g ++ X)) r (by have := rc_app hr X; simpa using this)
  rw [hdg] at e37
  have e38 := fun X => call38 s (restL c) (P ++ B :: (g ++ A1 :: A1 :: (g2 ++ X))) r r2 (by have := rc_app hr (A1 :: A1 :: (g2 ++ X)); simpa using this) (by have := rc_app hr2 X; simpa using this)
  have e39 := fun X => call39 c (by omega) (P ++ B :: (g ++ X)) out (by have := (ho.app X).rcn; simpa using this)
  have e35' := call35 (P ++ B :: g)
  have d16 := digL_len c
  have d1 := len16 _ d16
  have d2 := take16 _ d16
  have heq := eq16 (digL c) (digL c) d16 d16
  rw [beq_self_eq_true] at heq
  have r1 := isS_one (rc_isS hr)
  have r21 := isS_one (rc_isS hr2)
  have z9 : [u32 0, u32 0, u32 0, u32 0, u32 0, u32 0, u32 0, u32 0, V.nils].length = 9 := rfl
  have hf : decide ((ls.length : Int) < (ls.length : Int)) = false := by simp
  have eq0 : ((0 : Int) == 0) = true := rfl
  have n1 : V.nils.one = true := rfl
  generalize digL c = dg at *
  refine ⟨none, ?_⟩
  rw [call_gc0 fn7]
  subst hP hB hA1
  clear hr ho hr2 hvP hdg
  simp only [List.append_assoc, List.cons_append, List.nil_append, List.length_append, List.length_cons, List.length_nil, Nat.reduceAdd, Nat.zero_add, List.zip_cons_cons, List.zip_nil_right] at hlp e35' e36 e37 e38 e39
  simp -implicitDefEqProofs only [runEqs, List.zipIdx_cons, List.zipIdx_nil, List.map_cons, List.map_nil, Nat.zero_add, Nat.add_zero, Nat.zero_mul, Nat.reduceAdd, Nat.reduceMul, Nat.reduceBEq, Nat.reduceLT, Nat.reduceSub, Option.map_some, Option.map_none, Option.isSome_some, Option.isSome_none, Bool.not_true, Bool.not_false, Bool.true_or, Bool.false_or, Bool.or_true, List.getElem?_cons_zero, List.getElem?_cons_succ, List.set_cons_zero, List.set_cons_succ, List.length_cons, List.length_nil, List.length_append, List.append_assoc, List.cons_append, List.nil_append, List.zip_cons_cons, List.zip_nil_right, Int.reduceAdd, Int.reduceSub, Int.reduceMul, Int.reduceLT, Int.reduceLE, Int.reduceNeg, Int.reduceToNat, Int.zero_add, Int.add_zero, decide_true, decide_false, Nat.reduceLeDiff, Nat.min_self, List.drop_succ_cons, List.drop_zero, List.drop_nil, List.take_succ_cons, List.take_zero, List.take_nil, List.all_cons, List.all_nil, Bool.and_true, Bool.true_and, Nat.mul_one, List.singleton_append, Int.le_refl, Nat.le_refl, c7, r7, vLen_of, hs, hl, g1, e24, not_bool, call14, e35, len_s8, S8.len, one_s8, take9_s8, n1, z9, hlp]
  simp -implicitDefEqProofs only [runEqs, List.zipIdx_cons, List.zipIdx_nil, List.map_cons, List.map_nil, Nat.zero_add, Nat.add_zero, Nat.zero_mul, Nat.reduceAdd, Nat.reduceMul, Nat.reduceBEq, Nat.reduceLT, Nat.reduceSub, Option.map_some, Option.map_none, Option.isSome_some, Option.isSome_none, Bool.not_true, Bool.not_false, Bool.true_or, Bool.false_or, Bool.or_true, List.getElem?_cons_zero, List.getElem?_cons_succ, List.set_cons_zero, List.set_cons_succ, List.length_cons, List.length_nil, List.length_append, List.append_assoc, List.cons_append, List.nil_append, List.zip_cons_cons, List.zip_nil_right, Int.reduceAdd, Int.reduceSub, Int.reduceMul, Int.reduceLT, Int.reduceLE, Int.reduceNeg, Int.reduceToNat, Int.zero_add, Int.add_zero, decide_true, decide_false, Nat.reduceLeDiff, Nat.min_self, List.drop_succ_cons, List.drop_zero, List.drop_nil, List.take_succ_cons, List.take_zero, List.take_nil, List.all_cons, List.all_nil, Bool.and_true, Bool.true_and, Nat.mul_one, List.singleton_append, Int.le_refl, Nat.le_refl, c7_0, vLen_of, hs, hl, hf, e35', e36, e37, e38, e39, call14, len_s8, S8.len, one_s8, r1, r21, take9_s8, d1, d2, List.length_replicate, cu8_one, eq0, heq]
  exact ⟨_, rfl⟩
end Go.Proofs.Ytccepmhhilhajaa.K

