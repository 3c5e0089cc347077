/- Texts of this claim, put together (AArg3, KStream, KLaw8): lemmas towards the statement; no conditions of their own. -/
import Derived.Test.YtccepmhhilhajaaLb5
import Derived.SizedLaws
/- The arguments' sizes: what the form's own reach says of lists of bytes. -/
set_option linter.unusedVariables false
set_option linter.unusedSimpArgs false
set_option linter.unusedSectionVars false
namespace Go.A
open Go.ChangeShapes Go.WideShapes Go.ChangeAt Go.RowKit

section
variable {H : Type} {enc : TypeId × Value → H} {P : Program} {W : World}

theorem wall_mem {e : TypeId} {n : Nat} {d : DataW H} (hn : n ∈ d.weights P e) : ∀ {l : List (DataW H)}, d ∈ l → n ∈ DataW.weightsAll P e l
  | x :: l, h => by
    rw [DataW.weightsAll, List.mem_append]
    rcases List.mem_cons.1 h with rfl | h
    · exact .inl hn
    · exact .inr (wall_mem hn h)
  | [], h => by simp at h

theorem arg_slice2 {t e : TypeId} {fuel : Nat} {cs : List Value} {x : DataW H × List MemPlace} (ht : P.underlying t = some (.slice e)) (hsz : 0 < P.cellsOf e) (h : DataW.trod enc P W 0 (fun _ => true) true fuel t cs = some x) :
    ∃ v, cs = [v] ∧ ((∃ a, v = .slice a 0 0) ∨ ∃ (len cap m : Nat) (C : Nat → List Value), len ≤ cap ∧ cap ≤ maxLen ∧ cap * P.bytesOf e ∈ x.1.weights P t ∧
      (∀ i, i < len → ∃ y, DataW.trod enc P W 0 (fun _ => true) true m e (C i) = some y ∧ ∀ n ∈ y.1.weights P e, n ∈ x.1.weights P t) ∧ (∀ i, i < len → (C i).length = P.cellsOf e) ∧
      ∀ ez, rc (P.cellsOf e) (reH ez W) (reV W.heap.size (P.cellsOf e) v) = some ((((List.range len).map C).flatten).map (reV W.heap.size ez))) := by
  rcases Go.Deep.open_slice ht h with ⟨rfl, -⟩ | ⟨a, len, cap, m, n, D, Pl, rfl, hb, hlc, hcap, hm, hxe, hx⟩
  · exact ⟨_, rfl, .inl ⟨_, rfl⟩⟩
  · simp only [if_true] at hm
    subst hm
    refine ⟨_, rfl, ?_⟩
    by_cases h0 : m = 0
    · subst h0
      have : len = 0 := by omega
      subst this
      exact .inl ⟨_, rfl⟩
    · right
      have hC : ∀ i, ∃ c, i < m → W.cells? 0 (a.add (i * P.cellsOf e)) (P.cellsOf e) = some c ∧ DataW.trod enc P W 0 (fun _ => true) true n e c = some (D i, Pl i) := fun i => by
        by_cases hi : i < m
        · obtain ⟨c, h1, h2⟩ := hx i hi; exact ⟨c, fun _ => ⟨h1, h2⟩⟩
        · exact ⟨[], fun h => absurd h hi⟩
      refine ⟨len, m, n, fun i => Classical.choose (hC i), hlc, hcap, ?_, fun i hi => ⟨_, (Classical.choose_spec (hC i) (by omega)).2, fun k hk => ?_⟩, fun i hi => (cells_some (Classical.choose_spec (hC i) (by omega)).1).1, fun ez => ?_⟩
      · rw [hxe]
        simp only [DataW.weights, ht, List.length_map, List.length_range]
        rw [show len + (m - len) = m by omega]
        exact List.mem_cons_self
      · rw [hxe]
        simp only [DataW.weights, ht]
        exact List.mem_cons_of_mem _ (List.mem_append_left _ (wall_mem hk (List.mem_map.2 ⟨i, List.mem_range.2 hi, rfl⟩)))
      · exact rc_row ez (P.cellsOf e) hsz hlc (by omega) _ (fun i hi => (Classical.choose_spec (hC i) hi).1)

theorem arg_bytes2 {t e : TypeId} {fuel : Nat} {cs : List Value} {x : DataW H × List MemPlace} (ht : P.underlying t = some (.slice e)) (he : P.underlying e = some (.int .u8)) (hsz : P.cellsOf e = 1) (hbt : P.bytesOf e = 1)
    (h : DataW.trod enc P W 0 (fun _ => true) true fuel t cs = some x) : ∃ v, cs = [v] ∧ ∃ l : List (BitVec 8), l.length ≤ maxLen ∧ (l.length = 0 ∨ ∃ k, l.length ≤ k ∧ k ∈ x.1.weights P t) ∧ ∀ ez, rc 1 (reH ez W) (reV W.heap.size 1 v) = some (cu8 l) := by
  obtain ⟨v, rfl, hv⟩ := arg_slice2 ht (by omega) h
  refine ⟨v, rfl, ?_⟩
  rcases hv with ⟨a, rfl⟩ | ⟨len, cap, m, C, hlc, hcap, hwt, h1, -, h2⟩
  · exact ⟨[], Nat.zero_le _, .inl rfl, fun ez => by rw [reV_empty]; rfl⟩
  · rw [hsz] at h2
    have hb : ∀ i, ∃ b : BitVec 8, i < len → C i = [.int .u8 b.toNat] := fun i => by
      by_cases hi : i < len
      · obtain ⟨y, hy, -⟩ := h1 i hi
        obtain ⟨n, hn, hw⟩ := trod_int he hy
        obtain ⟨b, rfl⟩ := wf_u8 hw
        exact ⟨b, fun _ => hn⟩
      · exact ⟨0, fun h => absurd h hi⟩
    obtain ⟨L, hL⟩ := Classical.axiomOfChoice hb
    refine ⟨(List.range len).map fun i => L i, by simp; omega, .inr ⟨cap, by simpa using hlc, by rw [hbt, Nat.mul_one] at hwt; exact hwt⟩, fun ez => ?_⟩
    rw [h2]
    congr 1
    have : (List.range len).map C = (List.range len).map fun i => [Value.int .u8 (L i).toNat] :=
      List.map_congr_left fun i hi => hL i (List.mem_range.1 hi)
    rw [this, flat_one, cu8, List.map_map, List.map_map]
    rfl

theorem arg_lists2 {t e b : TypeId} {fuel : Nat} {cs : List Value} {x : DataW H × List MemPlace} (ht : P.underlying t = some (.slice e)) (he : P.underlying e = some (.slice b)) (hb : P.underlying b = some (.int .u8)) (hsz : P.cellsOf b = 1) (hct : P.cellsOf e = 1) (hbt : P.bytesOf b = 1) (hbe : 0 < P.bytesOf e)
    (hwt : ∀ n ∈ x.1.weights P t, n ≤ reachBytes)
    (h : DataW.trod enc P W 0 (fun _ => true) true fuel t cs = some x) : ∃ v, cs = [v] ∧ ∃ (ls : List (List (BitVec 8))) (vs : List V), ls.length ≤ reachBytes ∧ (∀ d ∈ ls, d.length ≤ reachBytes) ∧ rc 1 (reH 1 W) (reV W.heap.size 1 v) = some vs ∧ vs.length = ls.length ∧
      ∀ i (hi : i < ls.length), ∃ w, vs[i]? = some w ∧ rc 1 (reH 1 W) w = some (cu8 ls[i]) := by
  obtain ⟨v, rfl, hv⟩ := arg_slice2 ht (by omega) h
  refine ⟨v, rfl, ?_⟩
  rcases hv with ⟨a, rfl⟩ | ⟨len, cap, m, C, hlc, hcap, hw0, h1, -, h2⟩
  · exact ⟨[], [], Nat.zero_le _, fun d hd => by simp at hd, by rw [reV_empty]; rfl, rfl, fun i hi => by simp at hi⟩
  · rw [hct] at h2
    have hb : ∀ i, ∃ p : Value × List (BitVec 8), i < len → C i = [p.1] ∧ p.2.length ≤ reachBytes ∧ rc 1 (reH 1 W) (reV W.heap.size 1 p.1) = some (cu8 p.2) := fun i => by
      by_cases hi : i < len
      · obtain ⟨y, hy, hyw⟩ := h1 i hi
        obtain ⟨v, hc, l, -, hl, hr⟩ := arg_bytes2 he hb hsz hbt hy
        refine ⟨(v, l), fun _ => ⟨hc, ?_, hr 1⟩⟩
        rcases hl with hl | ⟨k, hk, hkm⟩
        · show l.length ≤ _
          omega
        · exact Nat.le_trans hk (hwt k (hyw k hkm))
      · exact ⟨(.nilFunc, []), fun h => absurd h hi⟩
    obtain ⟨L, hL⟩ := Classical.axiomOfChoice hb
    have hlr : len ≤ reachBytes := by
      have h3 := hwt _ hw0
      have h4 : cap * 1 ≤ cap * P.bytesOf e := Nat.mul_le_mul_left _ hbe
      omega
    refine ⟨(List.range len).map fun i => (L i).2, _, by simpa using hlr, fun d hd => ?_, h2 1, ?_, fun i hi => ?_⟩
    · obtain ⟨i, hi, rfl⟩ := List.mem_map.1 hd
      exact (hL i (List.mem_range.1 hi)).2.1
    · have : (List.range len).map C = (List.range len).map fun i => [(L i).1] :=
        List.map_congr_left fun i hi => (hL i (List.mem_range.1 hi)).1
      rw [this, flat_one]; simp
    · have : (List.range len).map C = (List.range len).map fun i => [(L i).1] :=
        List.map_congr_left fun i hi => (hL i (List.mem_range.1 hi)).1
      simp only [List.length_map, List.length_range] at hi
      refine ⟨_, by rw [this, flat_one]; simp [hi]; rfl, ?_⟩
      have := (hL i hi).2.2
      simpa using this

theorem open_lists2 {t e b : TypeId} {base : Nat} {v : Value} {d : DataW H} {ps : List MemPlace} (ht : P.underlying t = some (.slice e)) (he : P.underlying e = some (.slice b)) (hb : P.underlying b = some (.int .u8)) (hsz : P.cellsOf b = 1) (hct : P.cellsOf e = 1) (hbt : P.bytesOf b = 1) (hbe : 0 < P.bytesOf e)
    (hwt : ∀ n ∈ d.weights P t, n ≤ reachBytes)
    (hok : Value.okWide P W .any base t v) (h : DataW.Trod enc P W 0 (fun _ => true) true t v d ps) : ∃ (ls : List (List (BitVec 8))) (vs : List V), ls.length ≤ reachBytes ∧ (∀ d ∈ ls, d.length ≤ reachBytes) ∧ rc 1 (reH 1 W) (reV W.heap.size 1 v) = some vs ∧ vs.length = ls.length ∧
      ∀ i (hi : i < ls.length), ∃ w, vs[i]? = some w ∧ rc 1 (reH 1 W) w = some (cu8 ls[i]) := by
  obtain ⟨fuel, hf⟩ := h
  rw [ok_slice ht hok] at hf
  obtain ⟨v', e, l⟩ := arg_lists2 ht he hb hsz hct hbt hbe hwt hf
  cases e
  exact l
end
end Go.A

/- The bound of lists, equal sponges, and absorbing in parts. -/
set_option linter.unusedVariables false
set_option linter.unusedSimpArgs false
set_option maxRecDepth 100000
namespace Go.Proofs.Ytccepmhhilhajaa.K
open Go Go.A

def strL (l : List (BitVec 8)) : List UInt8 := l.map fun x => UInt8.ofNat x.toNat
theorem bytesOf_cu8 : ∀ l : List (BitVec 8), bytesOf (cu8 l) = some (strL l)
  | [] => rfl
  | x :: l => by
    have h := bytesOf_cu8 l
    show (bytesOf (cu8 l)).map (UInt8.ofNat ((x.toNat : Int)).toNat :: ·) = _
    rw [h]
    rfl
theorem vStr_rc {h : Heap} {v : V} {l : List (BitVec 8)} (hv : rc 1 h v = some (cu8 l)) : vStr h v = some (.str (strL l)) := by
  rcases rc_cases hv with ⟨rfl, e⟩ | ⟨b, o, n, c, bs, rfl, h1, h2, h3, e⟩
  · have : l = [] := by cases l with
      | nil => rfl
      | cons x l => simp [cu8] at e
    subst this; rfl
  · have hr : readN h b o n = some (cu8 l) := by
      have := hv
      simp only [rc, h1, and_self, if_true, Nat.mul_one] at this
      exact this
    show ((readN h b o n).bind bytesOf).map V.str = _
    rw [hr, Option.bind_some, bytesOf_cu8]
    rfl
theorem eql_str (a b : List UInt8) : evBin .eql (.str a) (.str b) = some (.bool (a == b)) := Eq.trans rfl rfl

theorem eq8' (s : S8) : evEqL [.int, .int, .int, .int, .int, .int, .int, .int] s.cells s.cells = some true := by
  simp only [S8.cells, eqL_cons, eq_u32, eqL_nil, kE1_some, kE2_some, beq_self_eq_true, Bool.and_self]

theorem call38 (s : S8) (rest : List (BitVec 8)) (h : Heap) (r q : V) (hr : rc 1 h r = some (cu8 rest)) (hq : rc 1 h q = some (cu8 rest)) :
    (run T).call 38 [.agg (s.cells ++ [r]), .agg (s.cells ++ [q])] none h = some (.ret (.bool true), none, h) := by
  have key : ∃ h', kF (run T) r38 (execC (run T) c38 (frame0 [.agg (s.cells ++ [r]), .agg (s.cells ++ [q])] none) (roH h)) = some (.ret (.bool true), none, h') := by
    replace hr := rc_ro hr
    replace hq := rc_ro hq
    generalize roH h = H at hr hq ⊢
    have r1 := isS_one (rc_isS hr)
    have q1 := isS_one (rc_isS hq)
    have s1 := fun X => vStr_rc (rc_app hr X)
    have s2 := fun X => vStr_rc (rc_app hq X)
    have he := eq8' s
    simp -implicitDefEqProofs only [runEqs, List.zipIdx_cons, List.zipIdx_nil, List.map_cons, List.map_nil, Nat.zero_add, Nat.add_zero, Nat.zero_mul, Nat.reduceAdd, Nat.reduceMul, Nat.reduceBEq, Nat.reduceLT, Nat.reduceSub, Option.map_some, Option.map_none, Option.isSome_some, Option.isSome_none, Bool.not_true, Bool.not_false, Bool.true_or, Bool.false_or, Bool.or_true, List.getElem?_cons_zero, List.getElem?_cons_succ, List.set_cons_zero, List.set_cons_succ, List.length_cons, List.length_nil, List.length_append, List.append_assoc, List.cons_append, List.nil_append, List.zip_cons_cons, List.zip_nil_right, Int.reduceAdd, Int.reduceSub, Int.reduceMul, Int.reduceLT, Int.reduceLE, Int.reduceNeg, Int.reduceToNat, Int.zero_add, Int.add_zero, decide_true, decide_false, Nat.reduceLeDiff, Nat.min_self, List.drop_succ_cons, List.drop_zero, List.drop_nil, List.take_succ_cons, List.take_zero, List.take_nil, List.all_cons, List.all_nil, Bool.and_true, Bool.true_and, Nat.mul_one, List.singleton_append, Int.le_refl, Nat.le_refl, c38, r38, len_s8, S8.len, one_s8, r1, q1, at8_s8, take8_s8, he, s1, s2, eql_str, beq_self_eq_true]
    exact ⟨_, rfl⟩
  obtain ⟨h', hk⟩ := key
  exact call_gc1 fn38 _ _ hk rfl

/-- What a list counts. -/
def smK (ls : List (List (BitVec 8))) : Nat → Nat
  | 0 => 0
  | i + 1 => smK ls i + (20 + (ls.getD i []).length)

theorem call24 (ls : List (List (BitVec 8))) (hsz : ls.length < 2305843009213693952) (hx : ∀ x ∈ ls, x.length < 2305843009213693952) (h : Heap) (v : V) (hv : Lv h v ls) :
    ∃ b, (run T).call 24 [v] none h = some (.ret (.bool b), none, h) ∧ (b = true → ls.length ≤ 4096 → smK ls ls.length ≤ 4000) := by
  have key : ∃ b h', kF (run T) r24 (execC (run T) c24 (frame0 [v] none) (roH h)) = some (.ret (.bool b), none, h') ∧ (b = true → ls.length ≤ 4096 → smK ls ls.length ≤ 4000) := by
    replace hv := hv.ro
    generalize roH h = H at hv ⊢
    have hl := hv.len
    have hs := hv.isS
    obtain ⟨k, vs', h', ⟨i0, hi0, -, hvs0, hh0, hb0⟩, ⟨i, hi, rfl, rfl, hend⟩, hlp⟩ := loop_st (T := T) (L := [0, 3, 4]) (c := c24_0) (d := []) (u := some none)
      (fun m vs hh => ∃ i, i ≤ ls.length ∧ m = ls.length - i ∧ vs = [v, i64 (smK ls i), i64 i] ∧ hh = H ∧ smK ls i < 4611686018427387904)
      (fun m vs hh => ∃ i, i ≤ ls.length ∧ vs = [v, i64 (smK ls i), i64 i] ∧ hh = H ∧ (i = ls.length ∨ 4000 < smK ls i))
      (by
        rintro m vs hh ⟨i, hi, rfl, rfl, rfl, hb⟩
        by_cases he : i = ls.length ∨ 4000 < smK ls i
        · exact .inl ⟨i, hi, rfl, rfl, he⟩
        right
        have hlt' : i < ls.length := by omega
        have hsm : ¬ 4000 < smK ls i := by omega
        have hlt : decide ((i : Int) < (ls.length : Int)) = true := by simpa using hlt'
        have hle : decide ((smK ls i : Int) ≤ 4000) = true := by simp; omega
        have hw := wr_succ_nat i (by omega)
        obtain ⟨w, -, hat, hwc⟩ := hv.at i hlt'
        have hwl : lenOf w = ls[i].length := by have := rc_len hwc; rw [cu8_len] at this; omega
        have hws := rc_isS hwc
        have hxi := hx ls[i] (List.getElem_mem _)
        have hgd : ls.getD i [] = ls[i] := by simp [hlt']
        have hw2 : wr (20 + (ls[i].length : Int)) = 20 + (ls[i].length : Int) := wr_id (by omega) (by omega)
        have hw3 : wr ((smK ls i : Int) + (20 + (ls[i].length : Int))) = ((smK ls (i + 1) : Nat) : Int) := by
          rw [smK, hgd, wr_id (by omega) (by omega)]; omega
        refine ⟨ls.length - (i + 1), _, _, by omega, ?_, i + 1, by omega, rfl, rfl, rfl, by rw [smK, hgd]; omega⟩
        simp -implicitDefEqProofs only [runEqs, List.zipIdx_cons, List.zipIdx_nil, List.map_cons, List.map_nil, Nat.zero_add, Nat.add_zero, Nat.zero_mul, Nat.reduceAdd, Nat.reduceMul, Nat.reduceBEq, Nat.reduceLT, Nat.reduceSub, Option.map_some, Option.map_none, Option.isSome_some, Option.isSome_none, Bool.not_true, Bool.not_false, Bool.true_or, Bool.false_or, Bool.or_true, List.getElem?_cons_zero, List.getElem?_cons_succ, List.set_cons_zero, List.set_cons_succ, List.length_cons, List.length_nil, List.length_append, List.append_assoc, List.cons_append, List.nil_append, List.zip_cons_cons, List.zip_nil_right, Int.reduceAdd, Int.reduceSub, Int.reduceMul, Int.reduceLT, Int.reduceLE, Int.reduceNeg, Int.reduceToNat, Int.zero_add, Int.add_zero, decide_true, decide_false, Nat.reduceLeDiff, Nat.min_self, List.drop_succ_cons, List.drop_zero, List.drop_nil, List.take_succ_cons, List.take_zero, List.take_nil, List.all_cons, List.all_nil, Bool.and_true, Bool.true_and, Nat.mul_one, List.singleton_append, Int.le_refl, Nat.le_refl, c24_0, vLen_of, hs, hl, hlt, hle, hw, vIS_of, hlt', hat, hws, hwl, hw2, hw3]
        exact nxt_some _ _ _ _ _ _ _ rfl rfl)
      ls.length [v, i64 0, i64 0] H ⟨0, by omega, by omega, rfl, rfl, by simp [smK]⟩
    have hg : (decide ((i : Int) < (ls.length : Int)) = false) ∨ (decide ((i : Int) < (ls.length : Int)) = true ∧ decide ((smK ls i : Int) ≤ 4000) = false) := by
      by_cases h1 : i < ls.length
      · right; refine ⟨by simpa using h1, ?_⟩; simp; omega
      · left; simpa using by omega
    have hres : ((decide ((smK ls i : Int) ≤ 4000) || decide ((ls.length : Int) > 4096)) = true → ls.length ≤ 4096 → smK ls ls.length ≤ 4000) := by
      intro h1 h2
      have h3 : smK ls i ≤ 4000 := by
        simp only [Bool.or_eq_true, decide_eq_true_eq] at h1
        omega
      have : i = ls.length := by omega
      subst this
      exact h3
    refine ⟨_, h', ?_, hres⟩
    simp only [List.zip_cons_cons, List.zip_nil_right] at hlp
    simp -implicitDefEqProofs only [runEqs, List.zipIdx_cons, List.zipIdx_nil, List.map_cons, List.map_nil, Nat.zero_add, Nat.add_zero, Nat.zero_mul, Nat.reduceAdd, Nat.reduceMul, Nat.reduceBEq, Nat.reduceLT, Nat.reduceSub, Option.map_some, Option.map_none, Option.isSome_some, Option.isSome_none, Bool.not_true, Bool.not_false, Bool.true_or, Bool.false_or, Bool.or_true, List.getElem?_cons_zero, List.getElem?_cons_succ, List.set_cons_zero, List.set_cons_succ, List.length_cons, List.length_nil, List.length_append, List.append_assoc, List.cons_append, List.nil_append, List.zip_cons_cons, List.zip_nil_right, Int.reduceAdd, Int.reduceSub, Int.reduceMul, Int.reduceLT, Int.reduceLE, Int.reduceNeg, Int.reduceToNat, Int.zero_add, Int.add_zero, decide_true, decide_false, Nat.reduceLeDiff, Nat.min_self, List.drop_succ_cons, List.drop_zero, List.drop_nil, List.take_succ_cons, List.take_zero, List.take_nil, List.all_cons, List.all_nil, Bool.and_true, Bool.true_and, Nat.mul_one, List.singleton_append, Int.le_refl, Nat.le_refl, c24, r24, hlp]
    rcases hg with hg | ⟨hg, hg2⟩
    · cases h2 : decide ((smK ls i : Int) ≤ 4000) with
      | true => simp -implicitDefEqProofs only [runEqs, List.zipIdx_cons, List.zipIdx_nil, List.map_cons, List.map_nil, Nat.zero_add, Nat.add_zero, Nat.zero_mul, Nat.reduceAdd, Nat.reduceMul, Nat.reduceBEq, Nat.reduceLT, Nat.reduceSub, Option.map_some, Option.map_none, Option.isSome_some, Option.isSome_none, Bool.not_true, Bool.not_false, Bool.true_or, Bool.false_or, Bool.or_true, List.getElem?_cons_zero, List.getElem?_cons_succ, List.set_cons_zero, List.set_cons_succ, List.length_cons, List.length_nil, List.length_append, List.append_assoc, List.cons_append, List.nil_append, List.zip_cons_cons, List.zip_nil_right, Int.reduceAdd, Int.reduceSub, Int.reduceMul, Int.reduceLT, Int.reduceLE, Int.reduceNeg, Int.reduceToNat, Int.zero_add, Int.add_zero, decide_true, decide_false, Nat.reduceLeDiff, Nat.min_self, List.drop_succ_cons, List.drop_zero, List.drop_nil, List.take_succ_cons, List.take_zero, List.take_nil, List.all_cons, List.all_nil, Bool.and_true, Bool.true_and, Nat.mul_one, List.singleton_append, Int.le_refl, Nat.le_refl, c24_0, vLen_of, hs, hl, hg, h2]
      | false =>
        cases h3 : decide ((ls.length : Int) > 4096) with
        | true => simp -implicitDefEqProofs only [runEqs, List.zipIdx_cons, List.zipIdx_nil, List.map_cons, List.map_nil, Nat.zero_add, Nat.add_zero, Nat.zero_mul, Nat.reduceAdd, Nat.reduceMul, Nat.reduceBEq, Nat.reduceLT, Nat.reduceSub, Option.map_some, Option.map_none, Option.isSome_some, Option.isSome_none, Bool.not_true, Bool.not_false, Bool.true_or, Bool.false_or, Bool.or_true, List.getElem?_cons_zero, List.getElem?_cons_succ, List.set_cons_zero, List.set_cons_succ, List.length_cons, List.length_nil, List.length_append, List.append_assoc, List.cons_append, List.nil_append, List.zip_cons_cons, List.zip_nil_right, Int.reduceAdd, Int.reduceSub, Int.reduceMul, Int.reduceLT, Int.reduceLE, Int.reduceNeg, Int.reduceToNat, Int.zero_add, Int.add_zero, decide_true, decide_false, Nat.reduceLeDiff, Nat.min_self, List.drop_succ_cons, List.drop_zero, List.drop_nil, List.take_succ_cons, List.take_zero, List.take_nil, List.all_cons, List.all_nil, Bool.and_true, Bool.true_and, Nat.mul_one, List.singleton_append, Int.le_refl, Nat.le_refl, c24_0, vLen_of, hs, hl, hg, h2, h3]
        | false => simp -implicitDefEqProofs only [runEqs, List.zipIdx_cons, List.zipIdx_nil, List.map_cons, List.map_nil, Nat.zero_add, Nat.add_zero, Nat.zero_mul, Nat.reduceAdd, Nat.reduceMul, Nat.reduceBEq, Nat.reduceLT, Nat.reduceSub, Option.map_some, Option.map_none, Option.isSome_some, Option.isSome_none, Bool.not_true, Bool.not_false, Bool.true_or, Bool.false_or, Bool.or_true, List.getElem?_cons_zero, List.getElem?_cons_succ, List.set_cons_zero, List.set_cons_succ, List.length_cons, List.length_nil, List.length_append, List.append_assoc, List.cons_append, List.nil_append, List.zip_cons_cons, List.zip_nil_right, Int.reduceAdd, Int.reduceSub, Int.reduceMul, Int.reduceLT, Int.reduceLE, Int.reduceNeg, Int.reduceToNat, Int.zero_add, Int.add_zero, decide_true, decide_false, Nat.reduceLeDiff, Nat.min_self, List.drop_succ_cons, List.drop_zero, List.drop_nil, List.take_succ_cons, List.take_zero, List.take_nil, List.all_cons, List.all_nil, Bool.and_true, Bool.true_and, Nat.mul_one, List.singleton_append, Int.le_refl, Nat.le_refl, c24_0, vLen_of, hs, hl, hg, h2, h3]
    · cases h3 : decide ((ls.length : Int) > 4096) with
      | true => simp -implicitDefEqProofs only [runEqs, List.zipIdx_cons, List.zipIdx_nil, List.map_cons, List.map_nil, Nat.zero_add, Nat.add_zero, Nat.zero_mul, Nat.reduceAdd, Nat.reduceMul, Nat.reduceBEq, Nat.reduceLT, Nat.reduceSub, Option.map_some, Option.map_none, Option.isSome_some, Option.isSome_none, Bool.not_true, Bool.not_false, Bool.true_or, Bool.false_or, Bool.or_true, List.getElem?_cons_zero, List.getElem?_cons_succ, List.set_cons_zero, List.set_cons_succ, List.length_cons, List.length_nil, List.length_append, List.append_assoc, List.cons_append, List.nil_append, List.zip_cons_cons, List.zip_nil_right, Int.reduceAdd, Int.reduceSub, Int.reduceMul, Int.reduceLT, Int.reduceLE, Int.reduceNeg, Int.reduceToNat, Int.zero_add, Int.add_zero, decide_true, decide_false, Nat.reduceLeDiff, Nat.min_self, List.drop_succ_cons, List.drop_zero, List.drop_nil, List.take_succ_cons, List.take_zero, List.take_nil, List.all_cons, List.all_nil, Bool.and_true, Bool.true_and, Nat.mul_one, List.singleton_append, Int.le_refl, Nat.le_refl, c24_0, vLen_of, hs, hl, hg, hg2, h3]
      | false => simp -implicitDefEqProofs only [runEqs, List.zipIdx_cons, List.zipIdx_nil, List.map_cons, List.map_nil, Nat.zero_add, Nat.add_zero, Nat.zero_mul, Nat.reduceAdd, Nat.reduceMul, Nat.reduceBEq, Nat.reduceLT, Nat.reduceSub, Option.map_some, Option.map_none, Option.isSome_some, Option.isSome_none, Bool.not_true, Bool.not_false, Bool.true_or, Bool.false_or, Bool.or_true, List.getElem?_cons_zero, List.getElem?_cons_succ, List.set_cons_zero, List.set_cons_succ, List.length_cons, List.length_nil, List.length_append, List.append_assoc, List.cons_append, List.nil_append, List.zip_cons_cons, List.zip_nil_right, Int.reduceAdd, Int.reduceSub, Int.reduceMul, Int.reduceLT, Int.reduceLE, Int.reduceNeg, Int.reduceToNat, Int.zero_add, Int.add_zero, decide_true, decide_false, Nat.reduceLeDiff, Nat.min_self, List.drop_succ_cons, List.drop_zero, List.drop_nil, List.take_succ_cons, List.take_zero, List.take_nil, List.all_cons, List.all_nil, Bool.and_true, Bool.true_and, Nat.mul_one, List.singleton_append, Int.le_refl, Nat.le_refl, c24_0, vLen_of, hs, hl, hg, hg2, h3]
  obtain ⟨b, h', hk, hb⟩ := key
  exact ⟨b, call_gc1 fn24 _ _ hk rfl, hb⟩

/-! ### absorbing in parts -/
theorem absN_congr (s : S8) (c l : List (BitVec 8)) : ∀ k, 16 * k ≤ c.length → absN s (c ++ l) k = absN s c k
  | 0, _ => rfl
  | k + 1, h => by
    rw [absN, absN, absN_congr s c l k (by omega), List.drop_append_of_le_length (by omega), List.take_append_of_le_length (by rw [List.length_drop]; omega)]
theorem absN_add (s : S8) (a : List (BitVec 8)) (k0 : Nat) : ∀ k, absN s a (k0 + k) = absN (absN s a k0) (a.drop (16 * k0)) k
  | 0 => rfl
  | k + 1 => by
    rw [← Nat.add_assoc, absN, absN, absN_add s a k0 k, List.drop_drop, show 16 * k0 + 16 * k = 16 * (k0 + k) by omega]
theorem abs_app (s : S8) (c l : List (BitVec 8)) : absS (absS s c) (restL c ++ l) = absS s (c ++ l) ∧ restL (restL c ++ l) = restL (c ++ l) := by
  have e1 : restL c ++ l = (c ++ l).drop (16 * (c.length / 16)) := by
    rw [restL, List.drop_append_of_le_length (by omega), Nat.mul_comm]
  have e2 : (restL c ++ l).length / 16 + c.length / 16 = (c ++ l).length / 16 := by
    rw [e1, List.length_drop, List.length_append]; omega
  constructor
  · unfold absS
    rw [← absN_congr s c l (c.length / 16) (by omega)]
    rw [← e2, Nat.add_comm, absN_add s (c ++ l) (c.length / 16), ← e1]
  · rw [restL, e1, restL, List.drop_drop]
    congr 1
    rw [← e1, ← e2]; omega

end Go.Proofs.Ytccepmhhilhajaa.K

/- SumsProofs: the law's walk. -/
set_option linter.unusedVariables false
set_option linter.unusedSimpArgs false
set_option maxRecDepth 100000
namespace Go.Proofs.Ytccepmhhilhajaa.K
open Go Go.A

theorem smK_up (ls : List (List (BitVec 8))) (a : Nat) : ∀ b, smK ls a ≤ smK ls (a + b)
  | 0 => Nat.le_refl _
  | b + 1 => by rw [← Nat.add_assoc, smK]; have := smK_up ls a b; omega
theorem sm_each (ls : List (List (BitVec 8))) : ∀ x ∈ ls, x.length ≤ smK ls ls.length := by
  intro x hx
  obtain ⟨i, hi, rfl⟩ := List.mem_iff_getElem.1 hx
  have h1 := smK_up ls (i + 1) (ls.length - (i + 1))
  rw [show i + 1 + (ls.length - (i + 1)) = ls.length by omega] at h1
  have h2 : smK ls (i + 1) = smK ls i + (20 + ls[i].length) := by rw [smK]; simp [hi]
  omega

theorem curK_app (c : List (BitVec 8)) (nd : List (List (BitVec 8) × Bool)) (y : List (BitVec 8) × Bool) : ∀ k, k ≤ nd.length → curK c (nd ++ [y]) k = curK c nd k
  | 0, _ => rfl
  | k + 1, h => by
    have e : (nd ++ [y]).getD k ([], false) = nd.getD k ([], false) := by
      rw [List.getD_eq_getElem?_getD, List.getElem?_append_left (by omega), List.getD_eq_getElem?_getD]
    simp only [curK, curK_app c nd y k (by omega), e]
theorem curK_last (c : List (BitVec 8)) (nd : List (List (BitVec 8) × Bool)) (y : List (BitVec 8) × Bool) : curK c (nd ++ [y]) (nd ++ [y]).length = nxtB (curK c nd nd.length) y := by
  have e : (nd ++ [y]).getD nd.length ([], false) = y := by simp
  rw [List.length_append, List.length_singleton]
  simp only [curK, curK_app c nd y nd.length (Nat.le_refl _), e]

/-- The path of a leaf, and the root above another leaf in its place. -/
theorem way_root : ∀ (n : Nat) (ls : List (List (BitVec 8))) (i : Nat) (x : List (BitVec 8)), ls.length = n → i < n →
    (wayL ls i).length = (sidL n i).length ∧ digL (curK (0 :: x) (nodesL (wayL ls i) (sidL n i)) (nodesL (wayL ls i) (sidL n i)).length) = topL (ls.set i x) := by
  intro n
  induction n using Nat.strongRecOn with
  | ind n ih =>
    intro ls i x hn hi
    by_cases h : n ≤ 1
    · have : n = 1 := by omega
      subst this
      have : i = 0 := by omega
      subst this
      match ls, hn with
      | [y], _ =>
        rw [wayL_one _ _ (by simp), sidL_one _ _ (Nat.le_refl _)]
        exact ⟨rfl, rfl⟩
    · have hb := half_bd n (by omega)
      have h2 : topL (ls.set i x) = digL (1 :: (topL ((ls.set i x).take (half n)) ++ topL ((ls.set i x).drop (half n)))) := by
        have := topL_two (ls.set i x) (by rw [List.length_set]; omega)
        rw [List.length_set, hn] at this
        exact this
      have nl : ∀ (a : List (List (BitVec 8))) (s : List Bool) (d : List (BitVec 8)) (b : Bool), a.length = s.length → nodesL (a ++ [d]) (b :: s) = nodesL a s ++ [(d, b)] := fun a s d b h => by
        rw [nodesL, nodesL, List.reverse_cons, List.zip_append (by simpa using h)]
        rfl
      by_cases hik : i < half n
      · obtain ⟨a, b⟩ := ih (half n) (by omega) (ls.take (half n)) i x (by rw [List.length_take]; omega) hik
        have w := wayL_lt ls i (by omega) (by rw [hn]; exact hik)
        rw [hn] at w
        rw [w, sidL_lt n i (by omega) hik]
        refine ⟨by simp [a], ?_⟩
        rw [nl _ _ _ _ a, curK_last, h2, List.take_set, List.drop_set_of_lt hik, ← b]
        rfl
      · obtain ⟨a, b⟩ := ih (n - half n) (by omega) (ls.drop (half n)) (i - half n) x (by rw [List.length_drop]; omega) (by omega)
        have w := wayL_ge ls i (by omega) (by rw [hn]; exact hik)
        rw [hn] at w
        rw [w, sidL_ge n i (by omega) hik]
        refine ⟨by simp [a], ?_⟩
        rw [nl _ _ _ _ a, curK_last, h2, List.take_set_of_le (by omega), List.drop_set, if_neg hik, ← b]
        rfl

theorem above_prove (ls : List (List (BitVec 8))) (hsz : ls.length ≤ 4096) (i : Nat) (hi : i < ls.length) (x : List (BitVec 8)) :
    placeE ls.length i (proveV ls i).length = 0 ∧ aboveV ls.length i x (proveV ls i) = topL (ls.set i x) := by
  have e2 : proveV ls (i : Int) = wayL ls i := by rw [proveV, if_neg (by omega), if_neg (by omega)]; rfl
  obtain ⟨a, b⟩ := way_root ls.length ls i x rfl hi
  have hp : placeE ls.length i (proveV ls i).length = 0 := by
    rw [e2, placeE, if_neg (by omega), if_neg (by omega), if_neg]
    simp only [Int.toNat_natCast, ne_eq, Classical.not_not]
    exact a
  refine ⟨hp, ?_⟩
  rw [aboveV, if_pos hp, e2]
  simp only [Int.toNat_natCast]
  exact b

theorem Lv.one {h : Heap} {ls : List (List (BitVec 8))} {vs : List V} (h2 : vs.length = ls.length) (h3 : ∀ i (hi : i < ls.length), ∃ w, vs[i]? = some w ∧ rc 1 h w = some (cu8 ls[i])) : vs.all V.one = true := by
  rw [List.all_eq_true]
  intro w hw
  obtain ⟨i, hi, rfl⟩ := List.mem_iff_getElem.1 hw
  obtain ⟨w', a, b⟩ := h3 i (by omega)
  rw [List.getElem?_eq_getElem hi] at a
  injection a with a
  rw [a]
  exact isS_one (rc_isS b)

theorem law8 (ls : List (List (BitVec 8))) (i : Int) (other : List (BitVec 8)) (hi0 : -9223372036854775808 ≤ i) (hi1 : i < 9223372036854775808) (hsz : ls.length < 2305843009213693952) (hx : ∀ x ∈ ls, x.length < 2305843009213693952)
    (h : Heap) (v ov : V) (hv : Lv h v ls) (ho : rc 1 h ov = some (cu8 other)) :
    ∃ u' h', (run T).call 8 [v, i64 i, ov] none h = some (.ret (.bool true), u', h') := by
  have hl := hv.len
  have hs := hv.isS
  have hol : lenOf ov = other.length := by have := rc_len ho; rw [cu8_len] at this; omega
  have hos := rc_isS ho
  obtain ⟨b, e24, hb⟩ := call24 ls hsz hx h v hv
  cases b with
  | false =>
    refine ⟨none, ?_⟩
    rw [call_gc0 fn8]
    simp -implicitDefEqProofs only [runEqs, List.zipIdx_cons, List.zipIdx_nil, List.map_cons, List.map_nil, Nat.zero_add, Nat.add_zero, Nat.zero_mul, Nat.reduceAdd, Nat.reduceMul, Nat.reduceBEq, Nat.reduceLT, Nat.reduceSub, Option.map_some, Option.map_none, Option.isSome_some, Option.isSome_none, Bool.not_true, Bool.not_false, Bool.true_or, Bool.false_or, Bool.or_true, List.getElem?_cons_zero, List.getElem?_cons_succ, List.set_cons_zero, List.set_cons_succ, List.length_cons, List.length_nil, List.length_append, List.append_assoc, List.cons_append, List.nil_append, List.zip_cons_cons, List.zip_nil_right, Int.reduceAdd, Int.reduceSub, Int.reduceMul, Int.reduceLT, Int.reduceLE, Int.reduceNeg, Int.reduceToNat, Int.zero_add, Int.add_zero, decide_true, decide_false, Nat.reduceLeDiff, Nat.min_self, List.drop_succ_cons, List.drop_zero, List.drop_nil, List.take_succ_cons, List.take_zero, List.take_nil, List.all_cons, List.all_nil, Bool.and_true, Bool.true_and, Nat.mul_one, List.singleton_append, Int.le_refl, Nat.le_refl, c8, r8, vLen_of, hs, hl, hol, hos, e24, not_bool, call14]
    exact ⟨_, rfl⟩
  | true =>
  cases g1 : decide ((other.length : Int) > 1000) with
  | true =>
    refine ⟨none, ?_⟩
    rw [call_gc0 fn8]
    simp -implicitDefEqProofs only [runEqs, List.zipIdx_cons, List.zipIdx_nil, List.map_cons, List.map_nil, Nat.zero_add, Nat.add_zero, Nat.zero_mul, Nat.reduceAdd, Nat.reduceMul, Nat.reduceBEq, Nat.reduceLT, Nat.reduceSub, Option.map_some, Option.map_none, Option.isSome_some, Option.isSome_none, Bool.not_true, Bool.not_false, Bool.true_or, Bool.false_or, Bool.or_true, List.getElem?_cons_zero, List.getElem?_cons_succ, List.set_cons_zero, List.set_cons_succ, List.length_cons, List.length_nil, List.length_append, List.append_assoc, List.cons_append, List.nil_append, List.zip_cons_cons, List.zip_nil_right, Int.reduceAdd, Int.reduceSub, Int.reduceMul, Int.reduceLT, Int.reduceLE, Int.reduceNeg, Int.reduceToNat, Int.zero_add, Int.add_zero, decide_true, decide_false, Nat.reduceLeDiff, Nat.min_self, List.drop_succ_cons, List.drop_zero, List.drop_nil, List.take_succ_cons, List.take_zero, List.take_nil, List.all_cons, List.all_nil, Bool.and_true, Bool.true_and, Nat.mul_one, List.singleton_append, Int.le_refl, Nat.le_refl, c8, r8, vLen_of, hs, hl, hol, hos, e24, not_bool, g1, call14]
    exact ⟨_, rfl⟩
  | false =>
  cases g2 : ((ls.length : Int) == 0) with
  | true =>
    refine ⟨none, ?_⟩
    rw [call_gc0 fn8]
    simp -implicitDefEqProofs only [runEqs, List.zipIdx_cons, List.zipIdx_nil, List.map_cons, List.map_nil, Nat.zero_add, Nat.add_zero, Nat.zero_mul, Nat.reduceAdd, Nat.reduceMul, Nat.reduceBEq, Nat.reduceLT, Nat.reduceSub, Option.map_some, Option.map_none, Option.isSome_some, Option.isSome_none, Bool.not_true, Bool.not_false, Bool.true_or, Bool.false_or, Bool.or_true, List.getElem?_cons_zero, List.getElem?_cons_succ, List.set_cons_zero, List.set_cons_succ, List.length_cons, List.length_nil, List.length_append, List.append_assoc, List.cons_append, List.nil_append, List.zip_cons_cons, List.zip_nil_right, Int.reduceAdd, Int.reduceSub, Int.reduceMul, Int.reduceLT, Int.reduceLE, Int.reduceNeg, Int.reduceToNat, Int.zero_add, Int.add_zero, decide_true, decide_false, Nat.reduceLeDiff, Nat.min_self, List.drop_succ_cons, List.drop_zero, List.drop_nil, List.take_succ_cons, List.take_zero, List.take_nil, List.all_cons, List.all_nil, Bool.and_true, Bool.true_and, Nat.mul_one, List.singleton_append, Int.le_refl, Nat.le_refl, c8, r8, vLen_of, hs, hl, hol, hos, e24, not_bool, g1, g2, call14]
    exact ⟨_, rfl⟩
  | false =>
  cases g3 : decide ((ls.length : Int) > 4096) with
  | true =>
    refine ⟨none, ?_⟩
    rw [call_gc0 fn8]
    simp -implicitDefEqProofs only [runEqs, List.zipIdx_cons, List.zipIdx_nil, List.map_cons, List.map_nil, Nat.zero_add, Nat.add_zero, Nat.zero_mul, Nat.reduceAdd, Nat.reduceMul, Nat.reduceBEq, Nat.reduceLT, Nat.reduceSub, Option.map_some, Option.map_none, Option.isSome_some, Option.isSome_none, Bool.not_true, Bool.not_false, Bool.true_or, Bool.false_or, Bool.or_true, List.getElem?_cons_zero, List.getElem?_cons_succ, List.set_cons_zero, List.set_cons_succ, List.length_cons, List.length_nil, List.length_append, List.append_assoc, List.cons_append, List.nil_append, List.zip_cons_cons, List.zip_nil_right, Int.reduceAdd, Int.reduceSub, Int.reduceMul, Int.reduceLT, Int.reduceLE, Int.reduceNeg, Int.reduceToNat, Int.zero_add, Int.add_zero, decide_true, decide_false, Nat.reduceLeDiff, Nat.min_self, List.drop_succ_cons, List.drop_zero, List.drop_nil, List.take_succ_cons, List.take_zero, List.take_nil, List.all_cons, List.all_nil, Bool.and_true, Bool.true_and, Nat.mul_one, List.singleton_append, Int.le_refl, Nat.le_refl, c8, r8, vLen_of, hs, hl, hol, hos, e24, not_bool, g1, g2, g3, call14]
    exact ⟨_, rfl⟩
  | false =>
  cases g4 : decide (i < 0) with
  | true =>
    refine ⟨none, ?_⟩
    rw [call_gc0 fn8]
    simp -implicitDefEqProofs only [runEqs, List.zipIdx_cons, List.zipIdx_nil, List.map_cons, List.map_nil, Nat.zero_add, Nat.add_zero, Nat.zero_mul, Nat.reduceAdd, Nat.reduceMul, Nat.reduceBEq, Nat.reduceLT, Nat.reduceSub, Option.map_some, Option.map_none, Option.isSome_some, Option.isSome_none, Bool.not_true, Bool.not_false, Bool.true_or, Bool.false_or, Bool.or_true, List.getElem?_cons_zero, List.getElem?_cons_succ, List.set_cons_zero, List.set_cons_succ, List.length_cons, List.length_nil, List.length_append, List.append_assoc, List.cons_append, List.nil_append, List.zip_cons_cons, List.zip_nil_right, Int.reduceAdd, Int.reduceSub, Int.reduceMul, Int.reduceLT, Int.reduceLE, Int.reduceNeg, Int.reduceToNat, Int.zero_add, Int.add_zero, decide_true, decide_false, Nat.reduceLeDiff, Nat.min_self, List.drop_succ_cons, List.drop_zero, List.drop_nil, List.take_succ_cons, List.take_zero, List.take_nil, List.all_cons, List.all_nil, Bool.and_true, Bool.true_and, Nat.mul_one, List.singleton_append, Int.le_refl, Nat.le_refl, c8, r8, vLen_of, hs, hl, hol, hos, e24, not_bool, g1, g2, g3, g4, call14]
    exact ⟨_, rfl⟩
  | false =>
  cases g5 : decide (i ≥ (ls.length : Int)) with
  | true =>
    refine ⟨none, ?_⟩
    rw [call_gc0 fn8]
    simp -implicitDefEqProofs only [runEqs, List.zipIdx_cons, List.zipIdx_nil, List.map_cons, List.map_nil, Nat.zero_add, Nat.add_zero, Nat.zero_mul, Nat.reduceAdd, Nat.reduceMul, Nat.reduceBEq, Nat.reduceLT, Nat.reduceSub, Option.map_some, Option.map_none, Option.isSome_some, Option.isSome_none, Bool.not_true, Bool.not_false, Bool.true_or, Bool.false_or, Bool.or_true, List.getElem?_cons_zero, List.getElem?_cons_succ, List.set_cons_zero, List.set_cons_succ, List.length_cons, List.length_nil, List.length_append, List.append_assoc, List.cons_append, List.nil_append, List.zip_cons_cons, List.zip_nil_right, Int.reduceAdd, Int.reduceSub, Int.reduceMul, Int.reduceLT, Int.reduceLE, Int.reduceNeg, Int.reduceToNat, Int.zero_add, Int.add_zero, decide_true, decide_false, Nat.reduceLeDiff, Nat.min_self, List.drop_succ_cons, List.drop_zero, List.drop_nil, List.take_succ_cons, List.take_zero, List.take_nil, List.all_cons, List.all_nil, Bool.and_true, Bool.true_and, Nat.mul_one, List.singleton_append, Int.le_refl, Nat.le_refl, c8, r8, vLen_of, hs, hl, hol, hos, e24, not_bool, g1, g2, g3, g4, g5, call14]
    exact ⟨_, rfl⟩
  | false =>
  have q1 : ¬ ((other.length : Int) > 1000) := of_decide_eq_false g1
  have q3 : ¬ ((ls.length : Int) > 4096) := of_decide_eq_false g3
  have q4 : ¬ (i < 0) := of_decide_eq_false g4
  have q5 : ¬ (i ≥ (ls.length : Int)) := of_decide_eq_false g5
  obtain ⟨i, rfl⟩ : ∃ m : Nat, i = m := ⟨i.toNat, by omega⟩
  have hi : i < ls.length := by omega
  have hsm := hb rfl (by omega)
  have hx' : ∀ x ∈ ls, x.length ≤ 4000 := fun x hm => Nat.le_trans (sm_each ls x hm) hsm
  -- the root and the path
  have e25 := call25 ls hsz (fun _ x hm => by have := hx' x hm; omega) h v hv
  have er : rootV ls = topL ls := by rw [rootV, if_neg (by omega)]
  have ee : rootE ls = 0 := by rw [rootE, if_neg (by omega)]
  rw [er, ee] at e25
  obtain ⟨D1, hD1⟩ : ∃ B, B = Blk.cells .ex (cu8 (topL ls)) := ⟨_, rfl⟩
  obtain ⟨p, g, e27, op⟩ := call27 ls i hsz (fun _ x hm => by have := hx' x hm; omega) (h ++ [D1]) v (hv.app _)
  have ep : proveE ls i = 0 := by rw [proveE, if_neg (by omega), if_neg (by omega)]
  rw [ep] at e27
  have h16 : all16 (proveV ls i) := by
    have e2 : proveV ls (i : Int) = wayL ls i := by rw [proveV, if_neg (by omega), if_neg (by omega)]; rfl
    rw [e2]; exact (wayL_16 ls.length ls i (Nat.le_refl _)).1
  have hpl : (proveV ls i).length < 5000 := by
    have e2 : proveV ls (i : Int) = wayL ls i := by rw [proveV, if_neg (by omega), if_neg (by omega)]; rfl
    rw [e2]; have := (wayL_16 ls.length ls i (Nat.le_refl _)).2; omega
  obtain ⟨w, hat, hat0, hwc⟩ := hv.at i hi
  obtain ⟨pe, pa⟩ := above_prove ls (by omega) i hi other
  obtain ⟨pe', pa'⟩ := above_prove ls (by omega) i hi ls[i]
  rw [List.set_getElem_self] at pa'
  have hck : checkV (topL ls) ls.length i ls[i] (proveV ls i) = 0 := by rw [checkV, if_pos pe', pa', if_pos (by simp)]
  have e32 := call32 (topL ls) (topL_len ls) ls.length i ls[i] (by have := hx' ls[i] (List.getElem_mem _); omega) (proveV ls i) h16 (by omega) (h ++ [D1] ++ g) w p (rc_app (rc_app hwc _) _) op.rcn
  rw [hck] at e32
  -- the other list
  obtain ⟨vs, v1, v2, v3⟩ := hv
  have hone := Lv.one (h := h) v2 v3
  have hvl : lenOf v = ls.length := hl
  obtain ⟨nv, X3, e3, o3, n3⟩ := app_own' (bts := 24) (n := (h ++ [D1] ++ g).length) (by omega) (Nat.le_refl _) (Own.nil _ 1 (h ++ [D1] ++ g)) (rc_app (rc_app v1 [D1]) g) hone (by rw [hvl]; simp only [lenOf]; omega) (by rw [hvl]; simp only [lenOf]; omega) (h ++ [D1] ++ g) (by rw [List.take_length])
  rw [List.nil_append] at o3
  have nvl : lenOf nv = ls.length := by rw [n3, hvl]; simp only [lenOf]; omega
  have ov1 := isS_one hos
  obtain ⟨X4, w4, o4⟩ := own_wr (xs := [ov]) o3 i (by simp) (by simp; omega) (by simp [ov1])
  have hLv : Lv (h ++ [D1] ++ g ++ X4) nv (ls.set i other) := by
    refine ⟨_, o4.rcn, by simp; omega, fun j hj => ?_⟩
    rw [List.length_set] at hj
    by_cases hji : j = i
    · subst hji
      refine ⟨ov, ?_, ?_⟩
      · rw [List.append_assoc, List.getElem?_append_right (by simp; omega)]
        simp [Nat.min_eq_left (show j ≤ vs.length by omega)]
      · rw [List.getElem_set_self]; exact rc_app (rc_app (rc_app ho _) _) _
    · obtain ⟨w', a, b⟩ := v3 j hj
      refine ⟨w', ?_, ?_⟩
      · rw [← a]
        have e : vs.take i ++ [ov] ++ vs.drop (i + [ov].length) = vs.set i ov := by
          rw [List.set_eq_take_append_cons_drop, if_pos (by omega)]; simp
        rw [e, List.getElem?_set_ne (by omega)]
      · rw [List.getElem_set_ne (by omega)]; exact rc_app (rc_app (rc_app b _) _) _
  have hlt4 : i < vs.length := by omega
  have e30 := call30 ls.length i other (by omega) (proveV ls i) h16 (by omega) (h ++ [D1] ++ g ++ X4) ov p (rc_app (rc_app (rc_app ho _) _) _) (op.app _).rcn
  rw [pe, pa] at e30
  have hx2 : ∀ x ∈ ls.set i other, x.length < 8796093022000 := fun x hm => by
    rcases List.mem_or_eq_of_mem_set hm with hm | rfl
    · have := hx' x hm; omega
    · omega
  have e25' := fun X => call25 (ls.set i other) (by rw [List.length_set]; omega) (fun _ => hx2) _ nv (hLv.app X)
  have er' : rootV (ls.set i other) = topL (ls.set i other) := by rw [rootV, if_neg (by rw [List.length_set]; omega)]
  have ee' : rootE (ls.set i other) = 0 := by rw [rootE, if_neg (by rw [List.length_set]; omega)]
  rw [er', ee'] at e25'
  have t1 := topL_len ls
  have t2 := topL_len (ls.set i other)
  have heq := eq16 _ _ t2 t2
  rw [beq_self_eq_true] at heq
  have d1 := len16 _ t1
  have d2 := take16 _ t1
  have d3 := len16 _ t2
  have d4 := take16 _ t2
  have ne0 : ((0 : Int) != 0) = false := rfl
  have eq0 : ((0 : Int) == 0) = true := rfl
  have hsn := rc_isS o4.rcn
  generalize topL (ls.set i other) = z2 at *
  generalize topL ls = z1 at *
  subst hD1
  simp only [List.append_assoc, List.cons_append, List.nil_append] at e27 e32 e3 w4 e30 e25'
  clear hLv o4 o3 op
  refine ⟨none, ?_⟩
  rw [call_gc0 fn8]
  simp -implicitDefEqProofs only [runEqs, List.zipIdx_cons, List.zipIdx_nil, List.map_cons, List.map_nil, Nat.zero_add, Nat.add_zero, Nat.zero_mul, Nat.reduceAdd, Nat.reduceMul, Nat.reduceBEq, Nat.reduceLT, Nat.reduceSub, Option.map_some, Option.map_none, Option.isSome_some, Option.isSome_none, Bool.not_true, Bool.not_false, Bool.true_or, Bool.false_or, Bool.or_true, List.getElem?_cons_zero, List.getElem?_cons_succ, List.set_cons_zero, List.set_cons_succ, List.length_cons, List.length_nil, List.length_append, List.append_assoc, List.cons_append, List.nil_append, List.zip_cons_cons, List.zip_nil_right, Int.reduceAdd, Int.reduceSub, Int.reduceMul, Int.reduceLT, Int.reduceLE, Int.reduceNeg, Int.reduceToNat, Int.zero_add, Int.add_zero, decide_true, decide_false, Nat.reduceLeDiff, Nat.min_self, List.drop_succ_cons, List.drop_zero, List.drop_nil, List.take_succ_cons, List.take_zero, List.take_nil, List.all_cons, List.all_nil, Bool.and_true, Bool.true_and, Nat.mul_one, List.singleton_append, Int.le_refl, Nat.le_refl, c8, r8, vLen_of, hs, hl, hol, hos, e24, not_bool, g1, g2, g3, g4, g5, call14, e25, d1, d2, List.length_replicate, cu8_one, e27, ne0, vIS_of, hi, hat, e32, e3, nvl, w4]
  simp -implicitDefEqProofs only [runEqs, List.zipIdx_cons, List.zipIdx_nil, List.map_cons, List.map_nil, Nat.zero_add, Nat.add_zero, Nat.zero_mul, Nat.reduceAdd, Nat.reduceMul, Nat.reduceBEq, Nat.reduceLT, Nat.reduceSub, Option.map_some, Option.map_none, Option.isSome_some, Option.isSome_none, Bool.not_true, Bool.not_false, Bool.true_or, Bool.false_or, Bool.or_true, List.getElem?_cons_zero, List.getElem?_cons_succ, List.set_cons_zero, List.set_cons_succ, List.length_cons, List.length_nil, List.length_append, List.append_assoc, List.cons_append, List.nil_append, List.zip_cons_cons, List.zip_nil_right, Int.reduceAdd, Int.reduceSub, Int.reduceMul, Int.reduceLT, Int.reduceLE, Int.reduceNeg, Int.reduceToNat, Int.zero_add, Int.add_zero, decide_true, decide_false, Nat.reduceLeDiff, Nat.min_self, List.drop_succ_cons, List.drop_zero, List.drop_nil, List.take_succ_cons, List.take_zero, List.take_nil, List.all_cons, List.all_nil, Bool.and_true, Bool.true_and, Nat.mul_one, List.singleton_append, Int.le_refl, Nat.le_refl, e30, d3, d4, List.length_replicate, cu8_one, e25', eq0, heq, call14]
  exact ⟨_, rfl⟩
end Go.Proofs.Ytccepmhhilhajaa.K

