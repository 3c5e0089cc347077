/- Texts of this claim, put together (AArg2, KFrame, KLib, KPerm, KAbs, KAbs2, KAbs3, KDig, KSame, KTree, KTop, KProve, KPlaces, KHash, KCheck, KRoll, KRoll2, KRoll3, KWin): lemmas towards the statement; no conditions of their own. -/
import Derived.Test.YtccepmhhilhajaaLb3
import Derived.Deep.Slices
import Derived.OpenShut
import Derived.WalkKit
import Derived.Below
import Derived.Test.YtccepmhhilhajaaRows
/- The arguments of a law, as A sees them: bytes, lists of bytes, digests. The frame of a law. -/
set_option linter.unusedVariables false
set_option linter.unusedSimpArgs false
set_option linter.unusedSectionVars false
namespace Go.A
open Go.ChangeShapes Go.WideShapes Go.ChangeAt Go.RowKit

theorem wf_bd {k : IntKind} {n : Int} (h : (Lit.int k n).wf = true) : k.min ≤ n ∧ n ≤ k.max := by simpa [Lit.wf] using h
theorem wf_u8 {n : Int} (h : (Lit.int .u8 n).wf = true) : ∃ b : BitVec 8, n = b.toNat := by
  have h1 : 0 ≤ n ∧ n ≤ 255 := wf_bd h
  exact ⟨BitVec.ofInt 8 n, by rw [BitVec.toNat_ofInt]; omega⟩
theorem wf_u32 {n : Int} (h : (Lit.int .u32 n).wf = true) : ∃ b : BitVec 32, n = b.toNat := by
  have h1 : 0 ≤ n ∧ n ≤ 4294967295 := wf_bd h
  exact ⟨BitVec.ofInt 32 n, by rw [BitVec.toNat_ofInt]; omega⟩
theorem wf_u64 {n : Int} (h : (Lit.int .u64 n).wf = true) : ∃ b : BitVec 64, n = b.toNat := by
  have h1 : 0 ≤ n ∧ n ≤ 18446744073709551615 := wf_bd h
  exact ⟨BitVec.ofInt 64 n, by rw [BitVec.toNat_ofInt]; omega⟩
theorem wf_i64 {n : Int} (h : (Lit.int .i64 n).wf = true) : -9223372036854775808 ≤ n ∧ n < 9223372036854775808 := by
  have h1 : -9223372036854775808 ≤ n ∧ n ≤ 9223372036854775807 := wf_bd h
  omega

section
variable {H : Type} {enc : TypeId × Value → H} {P : Program} {W : World}

/-- A slice: what is read of it. -/
theorem arg_slice {t e : TypeId} {fuel : Nat} {cs : List Value} {x : DataW H × List MemPlace} (ht : P.underlying t = some (.slice e)) (hsz : 0 < P.cellsOf e) (h : DataW.trod enc P W 0 (fun _ => true) true fuel t cs = some x) :
    ∃ v, cs = [v] ∧ ((∃ a, v = .slice a 0 0) ∨ ∃ (len cap m : Nat) (C : Nat → List Value), len ≤ cap ∧ cap ≤ maxLen ∧ (∀ i, i < len → ∃ y, DataW.trod enc P W 0 (fun _ => true) true m e (C i) = some y) ∧ (∀ i, i < len → (C i).length = P.cellsOf e) ∧
      ∀ ez, rc (P.cellsOf e) (reH ez W) (reV W.heap.size (P.cellsOf e) v) = some ((((List.range len).map C).flatten).map (reV W.heap.size ez))) := by
  rcases Go.Deep.open_slice ht h with ⟨rfl, -⟩ | ⟨a, len, cap, m, n, D, Pl, rfl, hb, hlc, hcap, hm, -, hx⟩
  · exact ⟨_, rfl, .inl ⟨_, rfl⟩⟩
  · simp only [if_true] at hm
    subst hm
    refine ⟨_, rfl, ?_⟩
    by_cases h0 : m = 0
    · subst h0
      have : len = 0 := by omega
      subst this
      exact .inl ⟨_, rfl⟩
    · right
      have hC : ∀ i, ∃ c, i < m → W.cells? 0 (a.add (i * P.cellsOf e)) (P.cellsOf e) = some c ∧ DataW.trod enc P W 0 (fun _ => true) true n e c = some (D i, Pl i) := fun i => by
        by_cases hi : i < m
        · obtain ⟨c, h1, h2⟩ := hx i hi; exact ⟨c, fun _ => ⟨h1, h2⟩⟩
        · exact ⟨[], fun h => absurd h hi⟩
      refine ⟨len, m, n, fun i => Classical.choose (hC i), hlc, hcap, fun i hi => ⟨_, (Classical.choose_spec (hC i) (by omega)).2⟩, fun i hi => (cells_some (Classical.choose_spec (hC i) (by omega)).1).1, fun ez => ?_⟩
      exact rc_row ez (P.cellsOf e) hsz hlc (by omega) _ (fun i hi => (Classical.choose_spec (hC i) hi).1)

theorem flat_one {α : Type} (f : Nat → α) : ∀ l : List Nat, (l.map fun i => [f i]).flatten = l.map f
  | [] => rfl
  | a :: l => by simp [flat_one f l]

/-- Bytes. -/
theorem arg_bytes {t e : TypeId} {fuel : Nat} {cs : List Value} {x : DataW H × List MemPlace} (ht : P.underlying t = some (.slice e)) (he : P.underlying e = some (.int .u8)) (hsz : P.cellsOf e = 1)
    (h : DataW.trod enc P W 0 (fun _ => true) true fuel t cs = some x) : ∃ v, cs = [v] ∧ ∃ l : List (BitVec 8), l.length ≤ maxLen ∧ ∀ ez, rc 1 (reH ez W) (reV W.heap.size 1 v) = some (cu8 l) := by
  obtain ⟨v, rfl, hv⟩ := arg_slice ht (by omega) h
  refine ⟨v, rfl, ?_⟩
  rcases hv with ⟨a, rfl⟩ | ⟨len, cap, m, C, hlc, hcap, h1, -, h2⟩
  · exact ⟨[], Nat.zero_le _, fun ez => by rw [reV_empty]; rfl⟩
  · rw [hsz] at h2
    have hb : ∀ i, ∃ b : BitVec 8, i < len → C i = [.int .u8 b.toNat] := fun i => by
      by_cases hi : i < len
      · obtain ⟨y, hy⟩ := h1 i hi
        obtain ⟨n, hn, hw⟩ := trod_int he hy
        obtain ⟨b, rfl⟩ := wf_u8 hw
        exact ⟨b, fun _ => hn⟩
      · exact ⟨0, fun h => absurd h hi⟩
    obtain ⟨L, hL⟩ := Classical.axiomOfChoice hb
    refine ⟨(List.range len).map fun i => L i, by simp; omega, fun ez => ?_⟩
    rw [h2]
    congr 1
    have : (List.range len).map C = (List.range len).map fun i => [Value.int .u8 (L i).toNat] :=
      List.map_congr_left fun i hi => hL i (List.mem_range.1 hi)
    rw [this, flat_one, cu8, List.map_map, List.map_map]
    rfl

/-- An array of bytes, cell by cell. -/
theorem arr_u8 {t e : TypeId} {n fuel : Nat} {cs : List Value} {x : DataW H × List MemPlace} (ht : P.underlying t = some (.array n e)) (he : P.underlying e = some (.int .u8)) (hsz : P.cellsOf e = 1) (hct : P.cellsOf t = n)
    (h : DataW.trod enc P W 0 (fun _ => true) true fuel t cs = some x) : ∃ l : List (BitVec 8), l.length = n ∧ cs = l.map fun b => .int .u8 b.toNat := by
  cases fuel with
  | zero => simp [DataW.trod] at h
  | succ m =>
    unfold DataW.trod at h
    rw [ht] at h
    have h' : (if cs.length = P.cellsOf t then ((List.range n).mapM fun i => DataW.trod enc P W 0 (fun _ => true) true m e ((cs.drop (i * P.cellsOf e)).take (P.cellsOf e))).map fun xs => (DataW.agg (xs.map (·.1)), xs.flatMap (·.2)) else none) = some x := by
      split at h <;> simp_all
    split at h'
    case isFalse => cases h'
    rename_i hlen
    rw [hct] at hlen
    simp only [Option.map_eq_some_iff] at h'
    obtain ⟨ys, h1, -⟩ := h'
    obtain ⟨h2, h3⟩ := mapM_some h1
    simp only [List.length_range] at h2
    have hb : ∀ i, ∃ b : BitVec 8, i < n → cs[i]? = some (.int .u8 b.toNat) := fun i => by
      by_cases hi : i < n
      · have := h3 i i (by simp [hi])
        rw [List.getElem?_eq_getElem (by omega)] at this
        obtain ⟨k, hk, hw⟩ := trod_int he this
        obtain ⟨b, rfl⟩ := wf_u8 hw
        refine ⟨b, fun _ => ?_⟩
        rw [hsz, Nat.mul_one, List.drop_eq_getElem_cons (by omega)] at hk
        rw [List.getElem?_eq_getElem (by omega)]
        simp only [List.take_succ_cons, List.take_zero, List.cons.injEq, and_true] at hk
        exact congrArg some hk
      · exact ⟨0, fun h => absurd h hi⟩
    obtain ⟨L, hL⟩ := Classical.axiomOfChoice hb
    refine ⟨(List.range n).map fun i => L i, by simp, ?_⟩
    apply List.ext_getElem?
    intro i
    by_cases hi : i < n
    · rw [hL i hi]; simp [hi]
    · rw [List.getElem?_eq_none (by omega), List.getElem?_eq_none (by simp; omega)]
theorem arr_u32 {t e : TypeId} {n fuel : Nat} {cs : List Value} {x : DataW H × List MemPlace} (ht : P.underlying t = some (.array n e)) (he : P.underlying e = some (.int .u32)) (hsz : P.cellsOf e = 1) (hct : P.cellsOf t = n)
    (h : DataW.trod enc P W 0 (fun _ => true) true fuel t cs = some x) : ∃ l : List (BitVec 32), l.length = n ∧ cs = l.map fun b => .int .u32 b.toNat := by
  cases fuel with
  | zero => simp [DataW.trod] at h
  | succ m =>
    unfold DataW.trod at h
    rw [ht] at h
    have h' : (if cs.length = P.cellsOf t then ((List.range n).mapM fun i => DataW.trod enc P W 0 (fun _ => true) true m e ((cs.drop (i * P.cellsOf e)).take (P.cellsOf e))).map fun xs => (DataW.agg (xs.map (·.1)), xs.flatMap (·.2)) else none) = some x := by
      split at h <;> simp_all
    split at h'
    case isFalse => cases h'
    rename_i hlen
    rw [hct] at hlen
    simp only [Option.map_eq_some_iff] at h'
    obtain ⟨ys, h1, -⟩ := h'
    obtain ⟨h2, h3⟩ := mapM_some h1
    simp only [List.length_range] at h2
    have hb : ∀ i, ∃ b : BitVec 32, i < n → cs[i]? = some (.int .u32 b.toNat) := fun i => by
      by_cases hi : i < n
      · have := h3 i i (by simp [hi])
        rw [List.getElem?_eq_getElem (by omega)] at this
        obtain ⟨k, hk, hw⟩ := trod_int he this
        obtain ⟨b, rfl⟩ := wf_u32 hw
        refine ⟨b, fun _ => ?_⟩
        rw [hsz, Nat.mul_one, List.drop_eq_getElem_cons (by omega)] at hk
        rw [List.getElem?_eq_getElem (by omega)]
        simp only [List.take_succ_cons, List.take_zero, List.cons.injEq, and_true] at hk
        exact congrArg some hk
      · exact ⟨0, fun h => absurd h hi⟩
    obtain ⟨L, hL⟩ := Classical.axiomOfChoice hb
    refine ⟨(List.range n).map fun i => L i, by simp, ?_⟩
    apply List.ext_getElem?
    intro i
    by_cases hi : i < n
    · rw [hL i hi]; simp [hi]
    · rw [List.getElem?_eq_none (by omega), List.getElem?_eq_none (by simp; omega)]

/-- Lists of arrays of bytes. -/
theorem arg_digests {t e b : TypeId} {n fuel : Nat} {cs : List Value} {x : DataW H × List MemPlace} (ht : P.underlying t = some (.slice e)) (he : P.underlying e = some (.array n b)) (hb : P.underlying b = some (.int .u8)) (hsz : P.cellsOf b = 1) (hct : P.cellsOf e = n) (hn : 0 < n)
    (h : DataW.trod enc P W 0 (fun _ => true) true fuel t cs = some x) : ∃ v, cs = [v] ∧ ∃ l : List (List (BitVec 8)), l.length ≤ maxLen ∧ (∀ d ∈ l, d.length = n) ∧ ∀ ez, rc n (reH ez W) (reV W.heap.size n v) = some ((l.map cu8).flatten) := by
  obtain ⟨v, rfl, hv⟩ := arg_slice ht (by omega) h
  refine ⟨v, rfl, ?_⟩
  rcases hv with ⟨a, rfl⟩ | ⟨len, cap, m, C, hlc, hcap, h1, -, h2⟩
  · exact ⟨[], Nat.zero_le _, fun d hd => by simp at hd, fun ez => by rw [reV_empty]; rfl⟩
  · rw [hct] at h2
    have hb : ∀ i, ∃ l : List (BitVec 8), i < len → l.length = n ∧ C i = l.map fun b => .int .u8 b.toNat := fun i => by
      by_cases hi : i < len
      · obtain ⟨y, hy⟩ := h1 i hi
        obtain ⟨l, hl, hc⟩ := arr_u8 he hb hsz hct hy
        exact ⟨l, fun _ => ⟨hl, hc⟩⟩
      · exact ⟨[], fun h => absurd h hi⟩
    obtain ⟨L, hL⟩ := Classical.axiomOfChoice hb
    refine ⟨(List.range len).map fun i => L i, by simp; omega, fun d hd => ?_, fun ez => ?_⟩
    · obtain ⟨i, hi, rfl⟩ := List.mem_map.1 hd
      exact (hL i (List.mem_range.1 hi)).1
    · rw [h2]
      congr 1
      rw [List.map_flatten, List.map_map, List.map_map]
      congr 1
      refine List.map_congr_left fun i hi => ?_
      simp only [Function.comp]
      rw [(hL i (List.mem_range.1 hi)).2, cu8, List.map_map]
      rfl

/-- Lists of bytes. -/
theorem arg_lists {t e b : TypeId} {fuel : Nat} {cs : List Value} {x : DataW H × List MemPlace} (ht : P.underlying t = some (.slice e)) (he : P.underlying e = some (.slice b)) (hb : P.underlying b = some (.int .u8)) (hsz : P.cellsOf b = 1) (hct : P.cellsOf e = 1)
    (h : DataW.trod enc P W 0 (fun _ => true) true fuel t cs = some x) : ∃ v, cs = [v] ∧ ∃ (ls : List (List (BitVec 8))) (vs : List V), ls.length ≤ maxLen ∧ (∀ d ∈ ls, d.length ≤ maxLen) ∧ rc 1 (reH 1 W) (reV W.heap.size 1 v) = some vs ∧ vs.length = ls.length ∧
      ∀ i (hi : i < ls.length), ∃ w, vs[i]? = some w ∧ rc 1 (reH 1 W) w = some (cu8 ls[i]) := by
  obtain ⟨v, rfl, hv⟩ := arg_slice ht (by omega) h
  refine ⟨v, rfl, ?_⟩
  rcases hv with ⟨a, rfl⟩ | ⟨len, cap, m, C, hlc, hcap, h1, -, h2⟩
  · exact ⟨[], [], Nat.zero_le _, fun d hd => by simp at hd, by rw [reV_empty]; rfl, rfl, fun i hi => by simp at hi⟩
  · rw [hct] at h2
    have hb : ∀ i, ∃ p : Value × List (BitVec 8), i < len → C i = [p.1] ∧ p.2.length ≤ maxLen ∧ rc 1 (reH 1 W) (reV W.heap.size 1 p.1) = some (cu8 p.2) := fun i => by
      by_cases hi : i < len
      · obtain ⟨y, hy⟩ := h1 i hi
        obtain ⟨v, hc, l, hl, hr⟩ := arg_bytes he hb hsz hy
        exact ⟨(v, l), fun _ => ⟨hc, hl, hr 1⟩⟩
      · exact ⟨(.nilFunc, []), fun h => absurd h hi⟩
    obtain ⟨L, hL⟩ := Classical.axiomOfChoice hb
    refine ⟨(List.range len).map fun i => (L i).2, _, by simp; omega, fun d hd => ?_, h2 1, ?_, fun i hi => ?_⟩
    · obtain ⟨i, hi, rfl⟩ := List.mem_map.1 hd
      exact (hL i (List.mem_range.1 hi)).2.1
    · have : (List.range len).map C = (List.range len).map fun i => [(L i).1] :=
        List.map_congr_left fun i hi => (hL i (List.mem_range.1 hi)).1
      rw [this, flat_one]; simp
    · have : (List.range len).map C = (List.range len).map fun i => [(L i).1] :=
        List.map_congr_left fun i hi => (hL i (List.mem_range.1 hi)).1
      simp only [List.length_map, List.length_range] at hi
      refine ⟨_, by rw [this, flat_one]; simp [hi]; rfl, ?_⟩
      have := (hL i hi).2.2
      simpa using this

theorem vrel_agg {β : Map} {xs : List V} {ys : Array Value} (h : LRel β xs ys.toList) : VRel β (.agg xs) (.agg ys) :=
  .agg (by simpa using h.1) fun i v v' a b => h.2 i v v' a (by simpa using b)
theorem lrel_u8 {β : Map} : ∀ (l : List (BitVec 8)), LRel β (cu8 l) (l.map fun b => Value.int .u8 b.toNat)
  | [] => .nil
  | x :: l => .cons (.int _ _) (lrel_u8 l)
theorem lrel_u32 {β : Map} : ∀ (l : List (BitVec 32)), LRel β (cu32 l) (l.map fun b => Value.int .u32 b.toNat)
  | [] => .nil
  | x :: l => .cons (.int _ _) (lrel_u32 l)

/-! ### each argument -/
theorem ok_slice {t e : TypeId} {base : Nat} {v : Value} (ht : P.underlying t = some (.slice e)) (hok : Value.okWide P W .any base t v) : v.cells.toList = [v] := by
  unfold Value.okWide at hok
  rw [ht] at hok
  simp only [Cell.okWide, ht] at hok
  unfold Cell.ok at hok
  rw [ht] at hok
  cases v <;> first | rfl | (simp at hok)
theorem ok_agg' {t : TypeId} {base : Nat} {v : Value} (ht : (∃ n e, P.underlying t = some (.array n e)) ∨ ∃ fs, P.underlying t = some (.struct fs)) (hok : Value.okWide P W .any base t v) : ∃ cs, v = .agg cs ∧ v.cells = cs := by
  unfold Value.okWide at hok
  rcases ht with ⟨n, e, ht⟩ | ⟨fs, ht⟩ <;> (rw [ht] at hok; obtain ⟨cs, rfl, -⟩ := hok; exact ⟨cs, rfl, rfl⟩)
theorem open_bytes {t e : TypeId} {base : Nat} {v : Value} {d : DataW H} {ps : List MemPlace} (ht : P.underlying t = some (.slice e)) (he : P.underlying e = some (.int .u8)) (hsz : P.cellsOf e = 1)
    (hok : Value.okWide P W .any base t v) (h : DataW.Trod enc P W 0 (fun _ => true) true t v d ps) : ∃ l : List (BitVec 8), l.length ≤ maxLen ∧ ∀ ez, rc 1 (reH ez W) (reV W.heap.size 1 v) = some (cu8 l) := by
  obtain ⟨fuel, hf⟩ := h
  rw [ok_slice ht hok] at hf
  obtain ⟨v', e, l, h1, h2⟩ := arg_bytes ht he hsz hf
  cases e
  exact ⟨l, h1, h2⟩
theorem open_digests {t e b : TypeId} {n base : Nat} {v : Value} {d : DataW H} {ps : List MemPlace} (ht : P.underlying t = some (.slice e)) (he : P.underlying e = some (.array n b)) (hb : P.underlying b = some (.int .u8)) (hsz : P.cellsOf b = 1) (hct : P.cellsOf e = n) (hn : 0 < n)
    (hok : Value.okWide P W .any base t v) (h : DataW.Trod enc P W 0 (fun _ => true) true t v d ps) : ∃ l : List (List (BitVec 8)), l.length ≤ maxLen ∧ (∀ d ∈ l, d.length = n) ∧ ∀ ez, rc n (reH ez W) (reV W.heap.size n v) = some ((l.map cu8).flatten) := by
  obtain ⟨fuel, hf⟩ := h
  rw [ok_slice ht hok] at hf
  obtain ⟨v', e, l, h1, h2⟩ := arg_digests ht he hb hsz hct hn hf
  cases e
  exact ⟨l, h1, h2⟩
theorem open_lists {t e b : TypeId} {base : Nat} {v : Value} {d : DataW H} {ps : List MemPlace} (ht : P.underlying t = some (.slice e)) (he : P.underlying e = some (.slice b)) (hb : P.underlying b = some (.int .u8)) (hsz : P.cellsOf b = 1) (hct : P.cellsOf e = 1)
    (hok : Value.okWide P W .any base t v) (h : DataW.Trod enc P W 0 (fun _ => true) true t v d ps) : ∃ (ls : List (List (BitVec 8))) (vs : List V), ls.length ≤ maxLen ∧ (∀ d ∈ ls, d.length ≤ maxLen) ∧ rc 1 (reH 1 W) (reV W.heap.size 1 v) = some vs ∧ vs.length = ls.length ∧
      ∀ i (hi : i < ls.length), ∃ w, vs[i]? = some w ∧ rc 1 (reH 1 W) w = some (cu8 ls[i]) := by
  obtain ⟨fuel, hf⟩ := h
  rw [ok_slice ht hok] at hf
  obtain ⟨v', e, l⟩ := arg_lists ht he hb hsz hct hf
  cases e
  exact l
theorem open_u8s {t e : TypeId} {n base : Nat} {v : Value} {d : DataW H} {ps : List MemPlace} (ht : P.underlying t = some (.array n e)) (he : P.underlying e = some (.int .u8)) (hsz : P.cellsOf e = 1) (hct : P.cellsOf t = n)
    (hok : Value.okWide P W .any base t v) (h : DataW.Trod enc P W 0 (fun _ => true) true t v d ps) : ∃ l : List (BitVec 8), l.length = n ∧ ∀ β, VRel β (.agg (cu8 l)) v := by
  obtain ⟨cs, rfl, e2⟩ := ok_agg' (.inl ⟨_, _, ht⟩) hok
  obtain ⟨fuel, hf⟩ := h
  rw [e2] at hf
  obtain ⟨l, h1, h2⟩ := arr_u8 ht he hsz hct hf
  exact ⟨l, h1, fun β => vrel_agg (by rw [h2]; exact lrel_u8 l)⟩
theorem open_u32s {t e : TypeId} {n base : Nat} {v : Value} {d : DataW H} {ps : List MemPlace} (ht : P.underlying t = some (.array n e)) (he : P.underlying e = some (.int .u32)) (hsz : P.cellsOf e = 1) (hct : P.cellsOf t = n)
    (hok : Value.okWide P W .any base t v) (h : DataW.Trod enc P W 0 (fun _ => true) true t v d ps) : ∃ l : List (BitVec 32), l.length = n ∧ ∀ β, VRel β (.agg (cu32 l)) v := by
  obtain ⟨cs, rfl, e2⟩ := ok_agg' (.inl ⟨_, _, ht⟩) hok
  obtain ⟨fuel, hf⟩ := h
  rw [e2] at hf
  obtain ⟨l, h1, h2⟩ := arr_u32 ht he hsz hct hf
  exact ⟨l, h1, fun β => vrel_agg (by rw [h2]; exact lrel_u32 l)⟩
theorem open_u8 {t : TypeId} {base : Nat} {v : Value} {d : DataW H} {ps : List MemPlace} (ht : P.underlying t = some (.int .u8)) (hok : Value.okWide P W .any base t v) (h : DataW.Trod enc P W 0 (fun _ => true) true t v d ps) : ∃ b : BitVec 8, v = .int .u8 b.toNat := by
  obtain ⟨a, rfl, -, -, w⟩ := open_int ht hok h
  obtain ⟨b, rfl⟩ := wf_u8 w
  exact ⟨b, rfl⟩
theorem open_u32 {t : TypeId} {base : Nat} {v : Value} {d : DataW H} {ps : List MemPlace} (ht : P.underlying t = some (.int .u32)) (hok : Value.okWide P W .any base t v) (h : DataW.Trod enc P W 0 (fun _ => true) true t v d ps) : ∃ b : BitVec 32, v = .int .u32 b.toNat := by
  obtain ⟨a, rfl, -, -, w⟩ := open_int ht hok h
  obtain ⟨b, rfl⟩ := wf_u32 w
  exact ⟨b, rfl⟩
theorem open_i64 {t : TypeId} {base : Nat} {v : Value} {d : DataW H} {ps : List MemPlace} (ht : P.underlying t = some (.int .i64)) (hok : Value.okWide P W .any base t v) (h : DataW.Trod enc P W 0 (fun _ => true) true t v d ps) : ∃ n : Int, v = .int .i64 n ∧ -9223372036854775808 ≤ n ∧ n < 9223372036854775808 := by
  obtain ⟨a, rfl, -, -, w⟩ := open_int ht hok h
  exact ⟨a, rfl, wf_i64 w⟩

/-! ### the frame of a law -/
theorem trodAll_stays (hl : laidOutB P = true) {W' : World} (hb : Below W.heap.size W W') {sp : Nat → Bool} : ∀ {ts : List TypeId} {vs : List Value} {ds : List (DataW H)} {ps : List MemPlace},
    (∀ t ∈ ts, P.readableRec t = true ∧ t < P.types.size) → DataW.TrodAll enc P W 0 (fun _ => true) true ts vs ds ps → (∀ p ∈ ps, p.block < W.heap.size) → (∀ p ∈ ps, sp p.block = true) → DataW.TrodAll enc P W' 0 sp true ts vs ds ps
  | [], [], [], _, _, h, _, _ => h
  | t :: ts, v :: vs, d :: ds, ps, hr, h, hlt, hs => by
    obtain ⟨p, q, h1, h2, rfl⟩ := h
    exact ⟨p, q, WideElems.Trod_stays hl (hr t (by simp)).1 (hr t (by simp)).2 h1 (fun x hx => hb.same (hlt x (by simp [hx]))) (fun x hx => hs x (by simp [hx])),
      trodAll_stays hl hb (fun t ht => hr t (by simp [ht])) h2 (fun x hx => hlt x (by simp [hx])) (fun x hx => hs x (by simp [hx])), rfl⟩

theorem law_post {f : Func} {s : ChangeSpec} {rt : TypeId} (hl : laidOutB P = true) (hread : ∀ t ∈ f.params.toList, P.readableRec t = true ∧ t < P.types.size) (hres : f.resultTypes = #[rt]) (hrt : P.underlying rt = some .bool) (hvars : s.vars = [])
    {W' : World} {args : Array Value} {ds gs : List (DataW H)} {before : List MemPlace} (hsp : s.fn H (ds ++ gs) = { results := [.lit (.bool true)], args := ds }) (hW : DataW.Whole enc P f.params.toList s.vars false W args.toList ds gs before) (hb : Below W.heap.size W W') :
    s.post enc P f false true false false W args (.bool true) W' := by
  have hlt : ∀ p ∈ before, p.block < W.heap.size := fun p hp => hW.lt p hp
  have hold : ∀ p ∈ before, (fun b => decide (b < W.heap.size)) p.block = true := fun p hp => by simpa using hlt p hp
  have hW2 := hW
  obtain ⟨p, q, hA, hV, hpq, hz, hn⟩ := hW2
  rw [hvars] at hV
  obtain ⟨rfl, rfl⟩ := trodVars_none hV
  simp only [List.append_nil] at hpq hsp
  subst hpq
  have hargs : ∀ sp : Nat → Bool, (∀ x ∈ before, sp x.block = true) → DataW.TrodAll enc P W' 0 sp true f.params.toList args.toList (s.fn H (ds ++ [])).args before := fun sp hs => by
    simp only [List.append_nil]
    rw [hsp]
    exact trodAll_stays hl hb hread hA hlt hs
  have hr : ∀ (b : Nat) (sp : Nat → Bool) (hd : Bool), DataW.TrodAll enc P W' b sp hd f.resultTypes.toList ((Value.bool true).resultList f.resultTypes.size) (s.fn H (ds ++ [])).results [] := fun b sp hd => by
    simp only [List.append_nil]
    rw [hsp, hres]
    exact trodAll_mk1 (shut_bool hrt true)
  have hv : ∀ sp : Nat → Bool, DataW.TrodVars enc P W' sp s.vars (s.fn H (ds ++ [])).vars [] := fun sp => by
    simp only [List.append_nil]
    rw [hvars, hsp]
    rfl
  refine ⟨ds, [], before, [], before, [], hW, hr _ _ _, hargs _ hold, hv _, World.keptBut_mono (fun x hx => ⟨hx, ?_⟩) (hb.frame (· ∈ before)), fun _ => ?_⟩
  · simpa using hx
  · refine ⟨ok_one hres rfl (okWide_bool_mk hrt true), _, _, ([] ++ before) ++ [], ⟨[] ++ before, [], trodAll_append (hargs _ (fun _ _ => rfl)) (hr _ _ _), hv _, rfl, ?_, ?_⟩, ?_⟩
    · intro b off hp
      have hin : MemPlace.cell b off ∈ before := by simpa using hp
      rw [hb.frozen (hlt _ hin)]
      exact hz b off hin
    · intro ha
      cases ha
    · intro x hx _
      simpa using hx
end
end Go.A

/- What all laws of this seat need of the program. -/
set_option linter.unusedVariables false
set_option linter.unusedSimpArgs false
set_option maxRecDepth 100000
namespace Go.Proofs.Ytccepmhhilhajaa.K
open Go Go.A Go.ChangeShapes Go.WideShapes Go.ChangeAt Go.RowKit

theorem own : ownKnob Try.prog.godebug = none := by kernel_rfl
theorem laidOut : laidOutB Try.prog = true := by kernel_rfl
theorem mixed : Try.prog.follows .mixedOrders = true := by kernel_rfl
theorem cells5 : Try.prog.cellsOf 5 = 1 := by kernel_rfl
theorem cells23 : Try.prog.cellsOf 23 = 1 := by kernel_rfl
theorem cells3 : Try.prog.cellsOf 3 = 1 := by kernel_rfl

/-- From a run of A to what a law asks. -/
theorem law_of {H : Type} {enc : TypeId × Value → H} {f : Func} {n : Nat} {s : ChangeSpec} {rt : TypeId} (hread : ∀ t ∈ f.params.toList, Try.prog.readableRec t = true ∧ t < Try.prog.types.size) (hres : f.resultTypes = #[rt]) (hrt : Try.prog.underlying rt = some .bool) (hvars : s.vars = [])
    {W : World} {args : Array Value} {ds gs : List (DataW H)} {before : List MemPlace} (hW : DataW.Whole enc Try.prog f.params.toList s.vars false W args.toList ds gs before) (hsp : s.fn H (ds ++ gs) = { results := [.lit (.bool true)], args := ds })
    (xs : List V) (ha : LRel (idMap W) xs args.toList) (hrun : ∃ u' h', (run T).call n xs none (reH 1 W) = some (.ret (.bool true), u', h')) :
    Calls Try.prog n args W fun e W' => ∃ v, e = .returned v ∧ s.post enc Try.prog f false true false false W args v W' := by
  obtain ⟨u', h', hr⟩ := hrun
  refine (calls_true mixed tblOk rfl 1 ha hr).mono fun e W' ⟨he, hb⟩ => ⟨_, he, ?_⟩
  exact law_post laidOut hread hres hrt hvars hsp hW hb
end Go.Proofs.Ytccepmhhilhajaa.K

/- Small equations for this seat. -/
set_option linter.unusedVariables false
set_option linter.unusedSimpArgs false
set_option maxRecDepth 100000
namespace Go.Proofs.Ytccepmhhilhajaa.K
open Go Go.A

theorem rem_m (x : BitVec 32) : evBin .rem (u32 x) (u32 65521) = some (u32 (x % 65521)) := rem_u32 _ _ (by decide)
theorem rem_m64 (x : BitVec 64) : evBin .rem (u64 x) (u64 65521) = some (u64 (x % 65521)) := rem_u64 _ _ (by decide)
theorem rem_2 (x : BitVec 32) : evBin .rem (u32 x) (u32 2) = some (u32 (x % 2)) := rem_u32 _ _ (by decide)
theorem quo_2 (x : BitVec 32) : evBin .quo (u32 x) (u32 2) = some (u32 (x / 2)) := quo_u32 _ _ (by decide)
theorem rem_mi (x : Int) : evBin .rem (i64 x) (i64 65521) = some (i64 (x.tmod 65521)) := rem_i64 _ _ (by decide)
theorem rem_2i (x : Int) : evBin .rem (i64 x) (i64 2) = some (i64 (x.tmod 2)) := rem_i64 _ _ (by decide)
theorem rem_4i (x : Int) : evBin .rem (i64 x) (i64 4) = some (i64 (x.tmod 4)) := rem_i64 _ _ (by decide)
theorem quo_2i (x : Int) : evBin .quo (i64 x) (i64 2) = some (i64 (wr (x.tdiv 2))) := quo_i64 _ _ (by decide)
theorem quo_4i (x : Int) : evBin .quo (i64 x) (i64 4) = some (i64 (wr (x.tdiv 4))) := quo_i64 _ _ (by decide)
theorem quo_16i (x : Int) : evBin .quo (i64 x) (i64 16) = some (i64 (wr (x.tdiv 16))) := quo_i64 _ _ (by decide)
theorem wr_succ_nat (i : Nat) (h : i < 4611686018427387904) : wr ((i : Int) + 1) = ((i + 1 : Nat) : Int) := by rw [wr_id (by omega) (by omega)]; rfl

theorem take_one (H : Heap) (a : Blk) (x : Heap) : (H ++ a :: x).take (H.length + 1) = H ++ [a] := by
  rw [List.take_append, List.take_of_length_le (by omega), show H.length + 1 - H.length = 1 by omega]; rfl
theorem take_two (H : Heap) (a b : Blk) (x : Heap) : (H ++ a :: b :: x).take (H.length + 2) = H ++ [a, b] := by
  rw [List.take_append, List.take_of_length_le (by omega), show H.length + 2 - H.length = 2 by omega]; rfl
theorem take_zero (H : Heap) (x : Heap) : (H ++ x).take H.length = H := by
  rw [List.take_append, List.take_of_length_le (by omega), Nat.sub_self, List.take_zero, List.append_nil]

end Go.Proofs.Ytccepmhhilhajaa.K

/- The permutation: what its functions compute. -/
set_option linter.unusedVariables false
set_option linter.unusedSimpArgs false
set_option maxRecDepth 100000
namespace Go.Proofs.Ytccepmhhilhajaa.K
open Go Go.A

/-- A word, rotated left. -/
def rotl (x : BitVec 32) (n : Nat) : BitVec 32 := x <<< n ||| x >>> (32 - n)

theorem call59 (x : BitVec 32) (n : Int) (h : Heap) : (run T).call 59 [u32 x, i64 n] none h = some (.ret (u32 (rotl x (BitVec.ofInt 64 n &&& 31).toNat)), none, h) := by
  refine call_gc1 fn59 _ _ (h' := roH h) ?_ rfl
  simp -implicitDefEqProofs only [runEqs, List.zipIdx_cons, List.zipIdx_nil, List.map_cons, List.map_nil, Nat.zero_add, Nat.add_zero, Nat.zero_mul, Nat.reduceAdd, Nat.reduceMul, Nat.reduceBEq, Nat.reduceLT, Nat.reduceSub, Option.map_some, Option.map_none, Option.isSome_some, Option.isSome_none, Bool.not_true, Bool.not_false, Bool.true_or, Bool.false_or, Bool.or_true, List.getElem?_cons_zero, List.getElem?_cons_succ, List.set_cons_zero, List.set_cons_succ, List.length_cons, List.length_nil, List.length_append, List.append_assoc, List.cons_append, List.nil_append, List.zip_cons_cons, List.zip_nil_right, Int.reduceAdd, Int.reduceSub, Int.reduceMul, Int.reduceLT, Int.reduceLE, Int.reduceNeg, Int.reduceToNat, Int.zero_add, Int.add_zero, decide_true, decide_false, Nat.reduceLeDiff, Nat.min_self, List.drop_succ_cons, List.drop_zero, List.drop_nil, List.take_succ_cons, List.take_zero, List.take_nil, List.all_cons, List.all_nil, Bool.and_true, Bool.true_and, Nat.mul_one, List.singleton_append, Int.le_refl, Nat.le_refl, c59, r59, cv_u64_i64, and_u64, or_u32, sub_u64, shl_u32_u64, shr_u32_u64]
  have hlt : (BitVec.ofInt 64 n &&& 31).toNat ≤ 31 := by
    rw [BitVec.toNat_and]
    exact Nat.and_le_right
  have : (32 - (BitVec.ofInt 64 n &&& 31)).toNat = 32 - (BitVec.ofInt 64 n &&& 31).toNat := by
    rw [BitVec.toNat_sub]
    generalize (BitVec.ofInt 64 n &&& 31).toNat = k at *
    have : (32 : BitVec 64).toNat = 32 := rfl
    omega
  rw [this]
  rfl

theorem call59c (x : BitVec 32) (h : Heap) : (run T).call 59 [u32 x, i64 7] none h = some (.ret (u32 (rotl x 7)), none, h) ∧ (run T).call 59 [u32 x, i64 16] none h = some (.ret (u32 (rotl x 16)), none, h) := ⟨call59 x 7 h, call59 x 16 h⟩

structure S8 where
  (a b c d e f g h : BitVec 32)

def S8.cells (s : S8) : List V := [u32 s.a, u32 s.b, u32 s.c, u32 s.d, u32 s.e, u32 s.f, u32 s.g, u32 s.h]

theorem S8.ag (s : S8) : kAg 0 8 (some s.cells) = some (.agg s.cells) := rfl
theorem S8.take8 (s : S8) : s.cells.take 8 = s.cells := Eq.trans rfl rfl
theorem S8.len (s : S8) : s.cells.length = 8 := Eq.trans rfl rfl
theorem S8.one (s : S8) : s.cells.all V.one = true := Eq.trans rfl rfl
/-- One round. -/
def rnd (r : Nat) (s : S8) : S8 :=
  let x := s.a ^^^ BitVec.ofNat 32 (r + 1) * 2654435769
  ⟨rotl (x + s.e) 16, rotl (s.b + s.f) 16, rotl (s.c + s.g) 16, rotl (s.d + s.h) 16, rotl s.f 7 ^^^ (s.b + s.f), rotl s.g 7 ^^^ (s.c + s.g), rotl s.h 7 ^^^ (s.d + s.h), rotl s.e 7 ^^^ (x + s.e)⟩

theorem round41 (s : S8) (r : Nat) (hr : r < 12) (H : Heap) : Nxt (execC (run T) c41_0 ⟨[1, 2, 7].zip [.ptr H.length 0, .ptr (H.length + 1) 0, i64 r], [], some none⟩ (H ++ [.cells .ex s.cells, .cells .ex (List.replicate 8 (u32 0))])) [1, 2, 7]
    [.ptr H.length 0, .ptr (H.length + 1) 0, i64 ((r + 1 : Nat) : Int)] [] (some none) (H ++ [.cells .ex (rnd r s).cells, .cells .ex (List.replicate 8 (u32 0))]) := by
  have hlt : decide ((r : Int) < 12) = true := by simpa using by omega
  have hw : wr ((r : Int) + 1) = ((r + 1 : Nat) : Int) := by rw [wr_id (by omega) (by omega)]; rfl
  simp -implicitDefEqProofs only [runEqs, List.zipIdx_cons, List.zipIdx_nil, List.map_cons, List.map_nil, Nat.zero_add, Nat.add_zero, Nat.zero_mul, Nat.reduceAdd, Nat.reduceMul, Nat.reduceBEq, Nat.reduceLT, Nat.reduceSub, Option.map_some, Option.map_none, Option.isSome_some, Option.isSome_none, Bool.not_true, Bool.not_false, Bool.true_or, Bool.false_or, Bool.or_true, List.getElem?_cons_zero, List.getElem?_cons_succ, List.set_cons_zero, List.set_cons_succ, List.length_cons, List.length_nil, List.length_append, List.append_assoc, List.cons_append, List.nil_append, List.zip_cons_cons, List.zip_nil_right, Int.reduceAdd, Int.reduceSub, Int.reduceMul, Int.reduceLT, Int.reduceLE, Int.reduceNeg, Int.reduceToNat, Int.zero_add, Int.add_zero, decide_true, decide_false, Nat.reduceLeDiff, Nat.min_self, List.drop_succ_cons, List.drop_zero, List.drop_nil, List.take_succ_cons, List.take_zero, List.take_nil, List.all_cons, List.all_nil, Bool.and_true, Bool.true_and, Nat.mul_one, List.singleton_append, Int.le_refl, Nat.le_refl, c41_0, c41_1, List.zip_cons_cons, List.zip_nil_right, lss_i64, hlt, hw, c_loop, kLp_norm, kLp_exit, S8.cells, add_i64, cv_u32_i64, mul_u32, xor_u32, add_u32, wr_id, Int.reduceAdd, Int.reduceLT, Int.reduceLE, Int.reduceNeg, Int.reduceToNat, Int.zero_add, Int.le_refl, decide_true, decide_false, Nat.reduceLeDiff, Nat.min_self, wr_many, List.drop_succ_cons, List.drop_zero, List.take_succ_cons, List.take_zero, List.all_cons, List.all_nil, Bool.and_true, call59c]
  exact nxt_some _ _ _ _ _ _ _ rfl rfl

def rounds : Nat → S8 → S8
  | 0, s => s
  | n + 1, s => rnd n (rounds n s)

theorem loop41 (s : S8) (H : Heap) (t : Env) (ht : kK [1, 2, 7] t = [(1, .ptr H.length 0), (2, .ptr (H.length + 1) 0), (7, i64 0)]) :
    execC (run T) (.loop (.seq (.keep [1, 2, 7]) c41_0)) ⟨t, [], some none⟩ (H ++ [.cells .ex s.cells, .cells .ex (List.replicate 8 (u32 0))]) =
      some (.exit 0, ⟨[(8, .bool false), (1, .ptr H.length 0), (2, .ptr (H.length + 1) 0), (7, i64 12)], [], some none⟩, H ++ [.cells .ex (rounds 12 s).cells, .cells .ex (List.replicate 8 (u32 0))]) := by
  refine loop_keep (T := T) (L := [1, 2, 7]) (c := c41_0) (d := []) (u := some none) (fun i => [.ptr H.length 0, .ptr (H.length + 1) 0, i64 i])
    (fun i => H ++ [.cells .ex (rounds i s).cells, .cells .ex (List.replicate 8 (u32 0))]) (e := .exit 0) (fun e => by cases e) 12 (fun i hi => round41 (rounds i s) i hi H) ?_ t ht
  have hf : decide (((12 : Nat) : Int) < 12) = false := by decide
  simp -implicitDefEqProofs only [runEqs, List.zipIdx_cons, List.zipIdx_nil, List.map_cons, List.map_nil, Nat.zero_add, Nat.add_zero, Nat.zero_mul, Nat.reduceAdd, Nat.reduceMul, Nat.reduceBEq, Nat.reduceLT, Nat.reduceSub, Option.map_some, Option.map_none, Option.isSome_some, Option.isSome_none, Bool.not_true, Bool.not_false, Bool.true_or, Bool.false_or, Bool.or_true, List.getElem?_cons_zero, List.getElem?_cons_succ, List.set_cons_zero, List.set_cons_succ, List.length_cons, List.length_nil, List.length_append, List.append_assoc, List.cons_append, List.nil_append, List.zip_cons_cons, List.zip_nil_right, Int.reduceAdd, Int.reduceSub, Int.reduceMul, Int.reduceLT, Int.reduceLE, Int.reduceNeg, Int.reduceToNat, Int.zero_add, Int.add_zero, decide_true, decide_false, Nat.reduceLeDiff, Nat.min_self, List.drop_succ_cons, List.drop_zero, List.drop_nil, List.take_succ_cons, List.take_zero, List.take_nil, List.all_cons, List.all_nil, Bool.and_true, Bool.true_and, Nat.mul_one, List.singleton_append, Int.le_refl, Nat.le_refl, c41_0, List.zip_cons_cons, List.zip_nil_right, lss_i64, hf]
  rfl

theorem call41 (s : S8) (h : Heap) : (run T).call 41 [.agg s.cells] none h = some (.ret (.agg (rounds 12 s).cells), none, h) := by
  refine call_gc1 fn41 _ _ (h' := roH h ++ [.cells .ex (rounds 12 s).cells, .cells .ex (rounds 12 s).cells]) ?_ rfl
  generalize roH h = H
  simp -implicitDefEqProofs only [runEqs, List.zipIdx_cons, List.zipIdx_nil, List.map_cons, List.map_nil, Nat.zero_add, Nat.add_zero, Nat.zero_mul, Nat.reduceAdd, Nat.reduceMul, Nat.reduceBEq, Nat.reduceLT, Nat.reduceSub, Option.map_some, Option.map_none, Option.isSome_some, Option.isSome_none, Bool.not_true, Bool.not_false, Bool.true_or, Bool.false_or, Bool.or_true, List.getElem?_cons_zero, List.getElem?_cons_succ, List.set_cons_zero, List.set_cons_succ, List.length_cons, List.length_nil, List.length_append, List.append_assoc, List.cons_append, List.nil_append, List.zip_cons_cons, List.zip_nil_right, Int.reduceAdd, Int.reduceSub, Int.reduceMul, Int.reduceLT, Int.reduceLE, Int.reduceNeg, Int.reduceToNat, Int.zero_add, Int.add_zero, decide_true, decide_false, Nat.reduceLeDiff, Nat.min_self, List.drop_succ_cons, List.drop_zero, List.drop_nil, List.take_succ_cons, List.take_zero, List.take_nil, List.all_cons, List.all_nil, Bool.and_true, Bool.true_and, Nat.mul_one, List.singleton_append, Int.le_refl, Nat.le_refl, c41, r41, loop41, S8.take8, S8.len, S8.one, List.length_replicate, res_cellN]
theorem call80 (x : BitVec 32) (n : Int) (h0 : 0 ≤ n) (h1 : n ≤ 32) (h : Heap) : (run T).call 80 [u32 x, i64 n] none h = some (.ret (u32 (rotl x n.toNat)), none, h) := by
  refine call_gc1 fn80 _ _ (h' := roH h) ?_ rfl
  have h2 : wr (32 - n) = 32 - n := wr_id (by omega) (by omega)
  have h3 : (0 : Int) ≤ 32 - n := by omega
  simp -implicitDefEqProofs only [runEqs, List.zipIdx_cons, List.zipIdx_nil, List.map_cons, List.map_nil, Nat.zero_add, Nat.add_zero, Nat.zero_mul, Nat.reduceAdd, Nat.reduceMul, Nat.reduceBEq, Nat.reduceLT, Nat.reduceSub, Option.map_some, Option.map_none, Option.isSome_some, Option.isSome_none, Bool.not_true, Bool.not_false, Bool.true_or, Bool.false_or, Bool.or_true, List.getElem?_cons_zero, List.getElem?_cons_succ, List.set_cons_zero, List.set_cons_succ, List.length_cons, List.length_nil, List.length_append, List.append_assoc, List.cons_append, List.nil_append, List.zip_cons_cons, List.zip_nil_right, Int.reduceAdd, Int.reduceSub, Int.reduceMul, Int.reduceLT, Int.reduceLE, Int.reduceNeg, Int.reduceToNat, Int.zero_add, Int.add_zero, decide_true, decide_false, Nat.reduceLeDiff, Nat.min_self, List.drop_succ_cons, List.drop_zero, List.drop_nil, List.take_succ_cons, List.take_zero, List.take_nil, List.all_cons, List.all_nil, Bool.and_true, Bool.true_and, Nat.mul_one, List.singleton_append, Int.le_refl, Nat.le_refl, c80, r80, sub_i64, h2, shl_u32_i64, shr_u32_i64, or_u32, h0, h3]
  rw [show (32 - n).toNat = 32 - n.toNat by omega]
  rfl

theorem call80c (x : BitVec 32) (h : Heap) : (run T).call 80 [u32 x, i64 7] none h = some (.ret (u32 (rotl x 7)), none, h) ∧ (run T).call 80 [u32 x, i64 16] none h = some (.ret (u32 (rotl x 16)), none, h) ∧ (run T).call 80 [u32 x, i64 25] none h = some (.ret (u32 (rotl x 25)), none, h) :=
  ⟨call80 x 7 (by omega) (by omega) h, call80 x 16 (by omega) (by omega) h, call80 x 25 (by omega) (by omega) h⟩

end Go.Proofs.Ytccepmhhilhajaa.K

/- Absorbing a block. -/
set_option linter.unusedVariables false
set_option linter.unusedSimpArgs false
set_option maxRecDepth 100000
namespace Go.Proofs.Ytccepmhhilhajaa.K
open Go Go.A

theorem s8_mk (a b c d e f g h : BitVec 32) : (S8.mk a b c d e f g h).cells = [u32 a, u32 b, u32 c, u32 d, u32 e, u32 f, u32 g, u32 h] := Eq.trans rfl rfl

/-- A word, its low byte first. -/
def rdA : Nat → BitVec 32 → List (BitVec 8) → BitVec 32
  | _, w, [] => w
  | i, w, x :: l => rdA (i + 1) (w ||| x.setWidth 32 <<< (8 * i)) l
def rdK (l : List (BitVec 8)) : Nat → BitVec 32
  | 0 => 0
  | i + 1 => rdK l i ||| (l.getD i 0).setWidth 32 <<< (8 * i)
theorem rdA_eq : ∀ (l p : List (BitVec 8)), rdA p.length (rdK (p ++ l) p.length) l = rdK (p ++ l) (p ++ l).length
  | [], p => by simp [rdA]
  | x :: l, p => by
    have h := rdA_eq l (p ++ [x])
    simp only [List.append_assoc, List.singleton_append, List.length_append, List.length_singleton] at h
    rw [rdA]
    have e : rdK (p ++ x :: l) (p.length + 1) = rdK (p ++ x :: l) p.length ||| x.setWidth 32 <<< (8 * p.length) := by
      show _ ||| ((p ++ x :: l).getD p.length 0).setWidth 32 <<< (8 * p.length) = _
      congr 3
      simp
    rw [← e, h]
    simp

theorem call57 (l : List (BitVec 8)) (hl : l.length ≤ 4) (h : Heap) (v : V) (hv : rc 1 h v = some (cu8 l)) : (run T).call 57 [v] none h = some (.ret (u32 (rdA 0 0 l)), none, h) := by
  have hr := rdA_eq l []
  simp only [List.nil_append, List.length_nil, rdK] at hr
  rw [hr]
  refine call_gc1 fn57 _ _ (h' := roH h) ?_ rfl
  replace hv := rc_ro hv
  generalize roH h = H at hv ⊢
  have hn : lenOf v = l.length := by have := rc_len hv; rw [cu8_len] at this; omega
  have hs := rc_isS hv
  have hlp : ∀ t, kK [3, 6, 7, 8] t = [(3, u32 0), (6, v), (7, i64 l.length), (8, i64 0)] → execC (run T) (.loop (.seq (.keep [3, 6, 7, 8]) c57_0)) ⟨t, [], some none⟩ H =
      kLp T (execC (run T) c57_0 ⟨[(3, u32 (rdK l l.length)), (6, v), (7, i64 l.length), (8, i64 l.length)], [], some none⟩ H) (.seq (.keep [3, 6, 7, 8]) c57_0) := by
    refine loop_to2 (T := T) (L := [3, 6, 7, 8]) (c := c57_0) (d := []) (u := some none) (fun i => [u32 (rdK l i), v, i64 l.length, i64 i]) (fun i => H) l.length (fun i hi => ?_) rfl rfl rfl rfl
    have hlt : decide ((i : Int) < (l.length : Int)) = true := by simpa using by omega
    have hw := wr_succ_nat i (by omega)
    have hat : kAt (offOf v + i) (cellsAt H (blkOf v)) = some (u8 l[i]) := by rw [rc_at hv i (by rw [cu8_len]; omega), cu8_at]
    have hm : wr (8 * (i : Int)) = 8 * (i : Int) := wr_id (by omega) (by omega)
    have h0 : (0 : Int) ≤ 8 * (i : Int) := by omega
    have ht : (8 * (i : Int)).toNat = 8 * i := by omega
    have hd : l.getD i 0 = l[i] := by simp [hi]
    show Nxt _ _ [u32 (rdK l i ||| (l.getD i 0).setWidth 32 <<< (8 * i)), v, i64 l.length, i64 ((i + 1 : Nat) : Int)] _ _ _
    rw [hd]
    simp -implicitDefEqProofs only [runEqs, List.zipIdx_cons, List.zipIdx_nil, List.map_cons, List.map_nil, Nat.zero_add, Nat.add_zero, Nat.zero_mul, Nat.reduceAdd, Nat.reduceMul, Nat.reduceBEq, Nat.reduceLT, Nat.reduceSub, Option.map_some, Option.map_none, Option.isSome_some, Option.isSome_none, Bool.not_true, Bool.not_false, Bool.true_or, Bool.false_or, Bool.or_true, List.getElem?_cons_zero, List.getElem?_cons_succ, List.set_cons_zero, List.set_cons_succ, List.length_cons, List.length_nil, List.length_append, List.append_assoc, List.cons_append, List.nil_append, List.zip_cons_cons, List.zip_nil_right, Int.reduceAdd, Int.reduceSub, Int.reduceMul, Int.reduceLT, Int.reduceLE, Int.reduceNeg, Int.reduceToNat, Int.zero_add, Int.add_zero, decide_true, decide_false, Nat.reduceLeDiff, Nat.min_self, List.drop_succ_cons, List.drop_zero, List.drop_nil, List.take_succ_cons, List.take_zero, List.take_nil, List.all_cons, List.all_nil, Bool.and_true, Bool.true_and, Nat.mul_one, List.singleton_append, Int.le_refl, Nat.le_refl, c57_0, hlt, hw, vIS_of, hn, hi, hat, cv_u32_u8, hm, shl_u32_i64, h0, ht, or_u32]
    exact nxt_some _ _ _ _ _ _ _ rfl rfl
  have hf : decide ((l.length : Int) < (l.length : Int)) = false := by simp
  simp -implicitDefEqProofs only [runEqs, List.zipIdx_cons, List.zipIdx_nil, List.map_cons, List.map_nil, Nat.zero_add, Nat.add_zero, Nat.zero_mul, Nat.reduceAdd, Nat.reduceMul, Nat.reduceBEq, Nat.reduceLT, Nat.reduceSub, Option.map_some, Option.map_none, Option.isSome_some, Option.isSome_none, Bool.not_true, Bool.not_false, Bool.true_or, Bool.false_or, Bool.or_true, List.getElem?_cons_zero, List.getElem?_cons_succ, List.set_cons_zero, List.set_cons_succ, List.length_cons, List.length_nil, List.length_append, List.append_assoc, List.cons_append, List.nil_append, List.zip_cons_cons, List.zip_nil_right, Int.reduceAdd, Int.reduceSub, Int.reduceMul, Int.reduceLT, Int.reduceLE, Int.reduceNeg, Int.reduceToNat, Int.zero_add, Int.add_zero, decide_true, decide_false, Nat.reduceLeDiff, Nat.min_self, List.drop_succ_cons, List.drop_zero, List.drop_nil, List.take_succ_cons, List.take_zero, List.take_nil, List.all_cons, List.all_nil, Bool.and_true, Bool.true_and, Nat.mul_one, List.singleton_append, Int.le_refl, Nat.le_refl, c57, r57, vLen_of, hs, hn, hlp]
  simp -implicitDefEqProofs only [runEqs, List.zipIdx_cons, List.zipIdx_nil, List.map_cons, List.map_nil, Nat.zero_add, Nat.add_zero, Nat.zero_mul, Nat.reduceAdd, Nat.reduceMul, Nat.reduceBEq, Nat.reduceLT, Nat.reduceSub, Option.map_some, Option.map_none, Option.isSome_some, Option.isSome_none, Bool.not_true, Bool.not_false, Bool.true_or, Bool.false_or, Bool.or_true, List.getElem?_cons_zero, List.getElem?_cons_succ, List.set_cons_zero, List.set_cons_succ, List.length_cons, List.length_nil, List.length_append, List.append_assoc, List.cons_append, List.nil_append, List.zip_cons_cons, List.zip_nil_right, Int.reduceAdd, Int.reduceSub, Int.reduceMul, Int.reduceLT, Int.reduceLE, Int.reduceNeg, Int.reduceToNat, Int.zero_add, Int.add_zero, decide_true, decide_false, Nat.reduceLeDiff, Nat.min_self, List.drop_succ_cons, List.drop_zero, List.drop_nil, List.take_succ_cons, List.take_zero, List.take_nil, List.all_cons, List.all_nil, Bool.and_true, Bool.true_and, Nat.mul_one, List.singleton_append, Int.le_refl, Nat.le_refl, c57_0, hf]

def absB (s : S8) (b : List (BitVec 8)) : S8 :=
  rounds 12 ⟨s.a ^^^ rdA 0 0 ((b.take 4).drop 0), s.b ^^^ rdA 0 0 ((b.take 8).drop 4), s.c ^^^ rdA 0 0 ((b.take 12).drop 8), s.d ^^^ rdA 0 0 ((b.take 16).drop 12), s.e, s.f, s.g, s.h⟩

theorem h41 (a b c d e f g h : BitVec 32) (H : Heap) : (run T).call 41 [.agg [u32 a, u32 b, u32 c, u32 d, u32 e, u32 f, u32 g, u32 h]] none H = some (.ret (.agg (rounds 12 ⟨a, b, c, d, e, f, g, h⟩).cells), none, H) := call41 ⟨a, b, c, d, e, f, g, h⟩ H

theorem body36 (s : S8) (r : V) (hr1 : r.one = true) (b : List (BitVec 8)) (hb : b.length = 16) (w : V) (H X : Heap) (hw : ∀ A, rc 1 (H ++ A :: X) w = some (cu8 b)) (t : Env) (h2 : A.get t 2 = .ptr H.length 0) (h7 : A.get t 7 = w) :
    ∃ t', execC (run T) c36_0 ⟨t, [], none⟩ (H ++ .cells .ex (s.cells ++ [r]) :: X) = some (.norm, ⟨t', [], none⟩, H ++ .cells .ex ((absB s b).cells ++ [r]) :: X) := by
  have hlw : lenOf w = 16 := by have := rc_len (hw .dead); rw [cu8_len] at this; omega
  have hv : ∀ l h : Int, 0 ≤ l → l ≤ h → h.toNat ≤ 16 → vSl 1 w (some (i64 l)) (some (i64 h)) none = some (slc 1 w l.toNat h.toNat) := fun l h a b c => sl_lh (hw .dead) l h a b (by omega)
  have h57 : ∀ (A : Blk) (l h : Nat), l ≤ h → h ≤ 16 → h ≤ l + 4 → (run T).call 57 [slc 1 w l h] none (H ++ A :: X) = some (.ret (u32 (rdA 0 0 ((b.take h).drop l))), none, H ++ A :: X) := fun A l h a b' c => by
    have := rc_slc (hw A) l h a (by omega)
    simp only [Nat.mul_one, cu8_take, cu8_drop] at this
    exact call57 _ (by simp; omega) _ _ this
  obtain ⟨sa, sb, sc, sd, se, sf, sg, sh⟩ := s
  have hB : absB ⟨sa, sb, sc, sd, se, sf, sg, sh⟩ b = rounds 12 ⟨sa ^^^ rdA 0 0 ((b.take 4).drop 0), sb ^^^ rdA 0 0 ((b.take 8).drop 4), sc ^^^ rdA 0 0 ((b.take 12).drop 8), sd ^^^ rdA 0 0 ((b.take 16).drop 12), se, sf, sg, sh⟩ := rfl
  rw [hB]
  simp -implicitDefEqProofs only [runEqs, List.zipIdx_cons, List.zipIdx_nil, List.map_cons, List.map_nil, Nat.zero_add, Nat.add_zero, Nat.zero_mul, Nat.reduceAdd, Nat.reduceMul, Nat.reduceBEq, Nat.reduceLT, Nat.reduceSub, Option.map_some, Option.map_none, Option.isSome_some, Option.isSome_none, Bool.not_true, Bool.not_false, Bool.true_or, Bool.false_or, Bool.or_true, List.getElem?_cons_zero, List.getElem?_cons_succ, List.set_cons_zero, List.set_cons_succ, List.length_cons, List.length_nil, List.length_append, List.append_assoc, List.cons_append, List.nil_append, List.zip_cons_cons, List.zip_nil_right, Int.reduceAdd, Int.reduceSub, Int.reduceMul, Int.reduceLT, Int.reduceLE, Int.reduceNeg, Int.reduceToNat, Int.zero_add, Int.add_zero, decide_true, decide_false, Nat.reduceLeDiff, Nat.min_self, List.drop_succ_cons, List.drop_zero, List.drop_nil, List.take_succ_cons, List.take_zero, List.take_nil, List.all_cons, List.all_nil, Bool.and_true, Bool.true_and, Nat.mul_one, List.singleton_append, Int.le_refl, Nat.le_refl, c36_0, c36_1, h2, h7, s8_mk, c_loop, hv, h57, xor_u32, wr_id, h41, S8.len, S8.one, wr_many]
  exact ⟨_, rfl⟩
end Go.Proofs.Ytccepmhhilhajaa.K

/- Absorb: what it computes. -/
set_option linter.unusedVariables false
set_option linter.unusedSimpArgs false
set_option maxRecDepth 100000
namespace Go.Proofs.Ytccepmhhilhajaa.K
open Go Go.A

/-- The part of a slice behind k blocks. -/
def sx (v : V) : Nat → V
  | 0 => v
  | k + 1 => slc 1 (sx v k) 16 (lenOf (sx v k))
theorem sx_rc (l : List (BitVec 8)) (H : Heap) (v : V) (hv : rc 1 H v = some (cu8 l)) : ∀ k, 16 * k ≤ l.length → rc 1 H (sx v k) = some (cu8 (l.drop (16 * k)))
  | 0, _ => by simpa [sx] using hv
  | k + 1, h => by
    have h1 := sx_rc l H v hv k (by omega)
    have hl := rc_len h1
    rw [cu8_len, List.length_drop] at hl
    have := rc_slc h1 16 (lenOf (sx v k)) (by omega) (Nat.le_refl _)
    simp only [Nat.mul_one, cu8_take, cu8_drop] at this
    rw [List.take_of_length_le (by rw [List.length_drop]; omega), List.drop_drop] at this
    rw [sx, this, show 16 * k + 16 = 16 * (k + 1) by omega]
def absN (s : S8) (l : List (BitVec 8)) : Nat → S8
  | 0 => s
  | k + 1 => absB (absN s l k) ((l.drop (16 * k)).take 16)

theorem sx_one (v : V) (h : isS v = true) : ∀ k, isS (sx v k) = true
  | 0 => h
  | k + 1 => by
    have := sx_one v h k
    rw [sx]
    cases hx : sx v k <;> first | rfl | (rw [hx] at this; cases this)

/-- One round of the loop over the blocks. -/
theorem round76 (l : List (BitVec 8)) (hl : l.length < 4611686018427387904) (s : S8) (r : V) (hr1 : r.one = true) (H G : Heap) (v : V) (ho : ∀ A X, rc 1 (H ++ A :: (G ++ X)) v = some (cu8 l)) (k : Nat) (hk : 16 * (k + 1) ≤ l.length) (t0 : Env) (ht0 : A.get t0 2 = .ptr H.length 0) :
    Nxt (execC (run T) c76_0 ⟨[0, 1].zip [.fn (.yield (H.length + (G.length + 2 + 1))) [] [], .ptr (H.length + (G.length + 1)) 0], [], some none⟩
      (H ++ .cells .ex ((absN s l k).cells ++ [r]) :: (G ++ [.cells .ex [sx v k], .dfl, .loop 0 none t0 [22] c36_0a c36_0]))) [0, 1]
      [.fn (.yield (H.length + (G.length + 2 + 1))) [] [], .ptr (H.length + (G.length + 1)) 0] [] (some none)
      (H ++ .cells .ex ((absN s l (k + 1)).cells ++ [r]) :: (G ++ [.cells .ex [sx v (k + 1)], .dfl, .loop 0 none t0 [22] c36_0a c36_0])) := by
  have hv := fun A X => sx_rc l _ v (ho A X) k (by omega)
  have hs := rc_isS (hv .dead [])
  have hlx : lenOf (sx v k) = l.length - 16 * k := by have := rc_len (hv .dead []); rw [cu8_len, List.length_drop] at this; omega
  have hge : decide (((l.length - 16 * k : Nat) : Int) ≥ 16) = true := by simp; omega
  have hsl := sl_hi (hv .dead []) 16 (by omega) (by rw [hlx]; simp; omega)
  have hsl2 := sl_lo (hv .dead []) 16 (by omega) (by rw [hlx]; simp; omega)
  have e16 : (16 : Int).toNat = 16 := rfl
  rw [e16] at hsl hsl2
  have hw := fun A X => rc_slc (hv A X) 0 16 (by omega) (by rw [hlx]; omega)
  simp only [Nat.mul_one, Nat.zero_mul, cu8_take, cu8_drop, List.drop_zero] at hw
  have hb16 : ((l.drop (16 * k)).take 16).length = 16 := by simp; omega
  have hy : callV (run T) (.fn (.yield (H.length + (G.length + 2 + 1))) [] []) [slc 1 (sx v k) 0 16]
      (H ++ .cells .ex ((absN s l k).cells ++ [r]) :: (G ++ [.cells .ex [sx v k], .dfl, .loop 0 none t0 [22] c36_0a c36_0])) =
      some (.ret (.bool true), H ++ .cells .ex ((absN s l (k + 1)).cells ++ [r]) :: (G ++ [.cells .ex [sx v k], .dfl, .loop 0 none t0 [22] c36_0a c36_0])) := by
    obtain ⟨t', hbd⟩ := body36 (absN s l k) r hr1 ((l.drop (16 * k)).take 16) hb16 (slc 1 (sx v k) 0 16) H (G ++ [.cells .ex [sx v k], .dfl, .loop 1 none t0 [22] c36_0a c36_0]) (fun A => hw A _)
      ((7, slc 1 (sx v k) 0 16) :: (22, slc 1 (sx v k) 0 16) :: t0) (by rw [get_miss _ _ _ _ rfl, get_miss _ _ _ _ rfl, ht0]) (get_hit _ _ _)
    have h1 := yld_ok (T := T) (l := H.length + (G.length + 2 + 1)) (args := [slc 1 (sx v k) 0 16]) (h := H ++ .cells .ex ((absN s l k).cells ++ [r]) :: (G ++ [.cells .ex [sx v k], .dfl, .loop 0 none t0 [22] c36_0a c36_0]))
      (env := t0) (ps := [22]) (asg := c36_0a) (body := c36_0) (e1 := (22, slc 1 (sx v k) 0 16) :: t0) (t1 := (7, slc 1 (sx v k) 0 16) :: (22, slc 1 (sx v k) 0 16) :: t0)
      (h2 := H ++ .cells .ex ((absN s l (k + 1)).cells ++ [r]) :: (G ++ [.cells .ex [sx v k], .dfl, .loop 1 none t0 [22] c36_0a c36_0])) (t2 := t') (u2 := none)
      (by rw [blk_get, List.getElem?_cons_succ, blk_get]; rfl) rfl (by simp -implicitDefEqProofs only [runEqs, List.zipIdx_cons, List.zipIdx_nil, List.map_cons, List.map_nil, Nat.zero_add, Nat.add_zero, Nat.zero_mul, Nat.reduceAdd, Nat.reduceMul, Nat.reduceBEq, Nat.reduceLT, Nat.reduceSub, Option.map_some, Option.map_none, Option.isSome_some, Option.isSome_none, Bool.not_true, Bool.not_false, Bool.true_or, Bool.false_or, Bool.or_true, List.getElem?_cons_zero, List.getElem?_cons_succ, List.set_cons_zero, List.set_cons_succ, List.length_cons, List.length_nil, List.length_append, List.append_assoc, List.cons_append, List.nil_append, List.zip_cons_cons, List.zip_nil_right, Int.reduceAdd, Int.reduceSub, Int.reduceMul, Int.reduceLT, Int.reduceLE, Int.reduceNeg, Int.reduceToNat, Int.zero_add, Int.add_zero, decide_true, decide_false, Nat.reduceLeDiff, Nat.min_self, List.drop_succ_cons, List.drop_zero, List.drop_nil, List.take_succ_cons, List.take_zero, List.take_nil, List.all_cons, List.all_nil, Bool.and_true, Bool.true_and, Nat.mul_one, List.singleton_append, Int.le_refl, Nat.le_refl, c36_0a]) (by rw [blk_set, List.set_cons_succ, blk_set]; exact hbd) (by rw [blk_get, List.getElem?_cons_succ, blk_get]; rfl)
    rw [h1, blk_set, List.set_cons_succ, blk_set]
    rfl
  have hone := sx_one v (rc_isS (ho .dead [])) (k + 1)
  have hone' : V.one (sx v (k + 1)) = true := isS_one hone
  have hx1 : slc 1 (sx v k) 16 (lenOf (sx v k)) = sx v (k + 1) := rfl
  simp -implicitDefEqProofs only [runEqs, List.zipIdx_cons, List.zipIdx_nil, List.map_cons, List.map_nil, Nat.zero_add, Nat.add_zero, Nat.zero_mul, Nat.reduceAdd, Nat.reduceMul, Nat.reduceBEq, Nat.reduceLT, Nat.reduceSub, Option.map_some, Option.map_none, Option.isSome_some, Option.isSome_none, Bool.not_true, Bool.not_false, Bool.true_or, Bool.false_or, Bool.or_true, List.getElem?_cons_zero, List.getElem?_cons_succ, List.set_cons_zero, List.set_cons_succ, List.length_cons, List.length_nil, List.length_append, List.append_assoc, List.cons_append, List.nil_append, List.zip_cons_cons, List.zip_nil_right, Int.reduceAdd, Int.reduceSub, Int.reduceMul, Int.reduceLT, Int.reduceLE, Int.reduceNeg, Int.reduceToNat, Int.zero_add, Int.add_zero, decide_true, decide_false, Nat.reduceLeDiff, Nat.min_self, List.drop_succ_cons, List.drop_zero, List.drop_nil, List.take_succ_cons, List.take_zero, List.take_nil, List.all_cons, List.all_nil, Bool.and_true, Bool.true_and, Nat.mul_one, List.singleton_append, Int.le_refl, Nat.le_refl, c76_0, vLen_of, hs, hlx, hge, hsl, callC_dyn, hy, not_bool]
  rw [hsl2, hx1]
  simp -implicitDefEqProofs only [runEqs, List.zipIdx_cons, List.zipIdx_nil, List.map_cons, List.map_nil, Nat.zero_add, Nat.add_zero, Nat.zero_mul, Nat.reduceAdd, Nat.reduceMul, Nat.reduceBEq, Nat.reduceLT, Nat.reduceSub, Option.map_some, Option.map_none, Option.isSome_some, Option.isSome_none, Bool.not_true, Bool.not_false, Bool.true_or, Bool.false_or, Bool.or_true, List.getElem?_cons_zero, List.getElem?_cons_succ, List.set_cons_zero, List.set_cons_succ, List.length_cons, List.length_nil, List.length_append, List.append_assoc, List.cons_append, List.nil_append, List.zip_cons_cons, List.zip_nil_right, Int.reduceAdd, Int.reduceSub, Int.reduceMul, Int.reduceLT, Int.reduceLE, Int.reduceNeg, Int.reduceToNat, Int.zero_add, Int.add_zero, decide_true, decide_false, Nat.reduceLeDiff, Nat.min_self, List.drop_succ_cons, List.drop_zero, List.drop_nil, List.take_succ_cons, List.take_zero, List.take_nil, List.all_cons, List.all_nil, Bool.and_true, Bool.true_and, Nat.mul_one, List.singleton_append, Int.le_refl, Nat.le_refl, hone']
  exact nxt_some _ _ _ _ _ _ _ rfl rfl

theorem absN_len (s : S8) (l : List (BitVec 8)) (k : Nat) : (absN s l k).cells.length = 8 := S8.len _
end Go.Proofs.Ytccepmhhilhajaa.K

/- Absorb: the whole. -/
set_option linter.unusedVariables false
set_option linter.unusedSimpArgs false
set_option maxRecDepth 100000
namespace Go.Proofs.Ytccepmhhilhajaa.K
open Go Go.A

def absS (s : S8) (l : List (BitVec 8)) : S8 := absN s l (l.length / 16)
def restL (l : List (BitVec 8)) : List (BitVec 8) := l.drop (l.length / 16 * 16)

theorem call56 (v : V) (hs : isS v = true) (H : Heap) : (run T).call 56 [v] none H = some (.ret (.fn (.func 76) [] [.ptr H.length 0]), none, H ++ [.cells .ex [v]]) := by
  have h1 := isS_ok hs
  have h2 := isS_cells hs
  rw [call_gc0 fn56]
  simp -implicitDefEqProofs only [runEqs, List.zipIdx_cons, List.zipIdx_nil, List.map_cons, List.map_nil, Nat.zero_add, Nat.add_zero, Nat.zero_mul, Nat.reduceAdd, Nat.reduceMul, Nat.reduceBEq, Nat.reduceLT, Nat.reduceSub, Option.map_some, Option.map_none, Option.isSome_some, Option.isSome_none, Bool.not_true, Bool.not_false, Bool.true_or, Bool.false_or, Bool.or_true, List.getElem?_cons_zero, List.getElem?_cons_succ, List.set_cons_zero, List.set_cons_succ, List.length_cons, List.length_nil, List.length_append, List.append_assoc, List.cons_append, List.nil_append, List.zip_cons_cons, List.zip_nil_right, Int.reduceAdd, Int.reduceSub, Int.reduceMul, Int.reduceLT, Int.reduceLE, Int.reduceNeg, Int.reduceToNat, Int.zero_add, Int.add_zero, decide_true, decide_false, Nat.reduceLeDiff, Nat.min_self, List.drop_succ_cons, List.drop_zero, List.drop_nil, List.take_succ_cons, List.take_zero, List.take_nil, List.all_cons, List.all_nil, Bool.and_true, Bool.true_and, Nat.mul_one, List.singleton_append, Int.le_refl, Nat.le_refl, c56, r56, h1, h2]

theorem call76 (l : List (BitVec 8)) (hl : l.length < 4611686018427387904) (s : S8) (r : V) (hr1 : r.one = true) (H G : Heap) (v : V) (ho : ∀ A X, rc 1 (H ++ A :: (G ++ X)) v = some (cu8 l)) (t0 : Env) (ht0 : A.get t0 2 = .ptr H.length 0) :
    (run T).call 76 [.fn (.yield (H.length + (G.length + 2 + 1))) [] [], .ptr (H.length + (G.length + 1)) 0] none (H ++ .cells .ex (s.cells ++ [r]) :: (G ++ [.cells .ex [v], .dfl, .loop 0 none t0 [22] c36_0a c36_0])) =
      some (.ret (.tup []), none, H ++ .cells .ex ((absS s l).cells ++ [r]) :: (G ++ [.cells .ex [sx v (l.length / 16)], .dfl, .loop 0 none t0 [22] c36_0a c36_0])) := by
  have hlp : ∀ t, kK [0, 1] t = [(0, .fn (.yield (H.length + (G.length + 2 + 1))) [] []), (1, .ptr (H.length + (G.length + 1)) 0)] →
      execC (run T) (.loop (.seq (.keep [0, 1]) c76_0)) ⟨t, [], some none⟩ (H ++ .cells .ex (s.cells ++ [r]) :: (G ++ [.cells .ex [v], .dfl, .loop 0 none t0 [22] c36_0a c36_0])) =
      kLp T (execC (run T) c76_0 ⟨[(0, .fn (.yield (H.length + (G.length + 2 + 1))) [] []), (1, .ptr (H.length + (G.length + 1)) 0)], [], some none⟩
        (H ++ .cells .ex ((absS s l).cells ++ [r]) :: (G ++ [.cells .ex [sx v (l.length / 16)], .dfl, .loop 0 none t0 [22] c36_0a c36_0]))) (.seq (.keep [0, 1]) c76_0) :=
    loop_to2 (T := T) (L := [0, 1]) (c := c76_0) (d := []) (u := some none) (fun _ => [.fn (.yield (H.length + (G.length + 2 + 1))) [] [], .ptr (H.length + (G.length + 1)) 0])
      (fun k => H ++ .cells .ex ((absN s l k).cells ++ [r]) :: (G ++ [.cells .ex [sx v k], .dfl, .loop 0 none t0 [22] c36_0a c36_0])) (l.length / 16)
      (fun k hk => by have hr := round76 l hl s r hr1 H G v ho k (by omega) t0 ht0; exact hr) rfl (by dsimp only [absN, sx]) rfl (by dsimp only [absS])
  have hv := sx_rc l _ v (ho .dead []) (l.length / 16) (by omega)
  have hs := rc_isS hv
  have hlx : lenOf (sx v (l.length / 16)) = l.length - 16 * (l.length / 16) := by have := rc_len hv; rw [cu8_len, List.length_drop] at this; omega
  have hge : decide (((l.length - 16 * (l.length / 16) : Nat) : Int) ≥ 16) = false := by simp; omega
  rw [call_gc0 fn76]
  simp -implicitDefEqProofs only [runEqs, List.zipIdx_cons, List.zipIdx_nil, List.map_cons, List.map_nil, Nat.zero_add, Nat.add_zero, Nat.zero_mul, Nat.reduceAdd, Nat.reduceMul, Nat.reduceBEq, Nat.reduceLT, Nat.reduceSub, Option.map_some, Option.map_none, Option.isSome_some, Option.isSome_none, Bool.not_true, Bool.not_false, Bool.true_or, Bool.false_or, Bool.or_true, List.getElem?_cons_zero, List.getElem?_cons_succ, List.set_cons_zero, List.set_cons_succ, List.length_cons, List.length_nil, List.length_append, List.append_assoc, List.cons_append, List.nil_append, List.zip_cons_cons, List.zip_nil_right, Int.reduceAdd, Int.reduceSub, Int.reduceMul, Int.reduceLT, Int.reduceLE, Int.reduceNeg, Int.reduceToNat, Int.zero_add, Int.add_zero, decide_true, decide_false, Nat.reduceLeDiff, Nat.min_self, List.drop_succ_cons, List.drop_zero, List.drop_nil, List.take_succ_cons, List.take_zero, List.take_nil, List.all_cons, List.all_nil, Bool.and_true, Bool.true_and, Nat.mul_one, List.singleton_append, Int.le_refl, Nat.le_refl, c76, r76, hlp]
  simp -implicitDefEqProofs only [runEqs, List.zipIdx_cons, List.zipIdx_nil, List.map_cons, List.map_nil, Nat.zero_add, Nat.add_zero, Nat.zero_mul, Nat.reduceAdd, Nat.reduceMul, Nat.reduceBEq, Nat.reduceLT, Nat.reduceSub, Option.map_some, Option.map_none, Option.isSome_some, Option.isSome_none, Bool.not_true, Bool.not_false, Bool.true_or, Bool.false_or, Bool.or_true, List.getElem?_cons_zero, List.getElem?_cons_succ, List.set_cons_zero, List.set_cons_succ, List.length_cons, List.length_nil, List.length_append, List.append_assoc, List.cons_append, List.nil_append, List.zip_cons_cons, List.zip_nil_right, Int.reduceAdd, Int.reduceSub, Int.reduceMul, Int.reduceLT, Int.reduceLE, Int.reduceNeg, Int.reduceToNat, Int.zero_add, Int.add_zero, decide_true, decide_false, Nat.reduceLeDiff, Nat.min_self, List.drop_succ_cons, List.drop_zero, List.drop_nil, List.take_succ_cons, List.take_zero, List.take_nil, List.all_cons, List.all_nil, Bool.and_true, Bool.true_and, Nat.mul_one, List.singleton_append, Int.le_refl, Nat.le_refl, c76_0, vLen_of, hs, hlx, hge]

theorem callV76 (r : Rec) (x y : V) (H : Heap) : callV r (.fn (.func 76) [] [y]) [x] H = k3 (r.call 76 [x, y] none H) := Eq.trans rfl rfl

theorem take_all (P x : Heap) : (P ++ x).take P.length = P := take_zero P x

theorem one_s8 (s : S8) (r : V) (h : r.one = true) : (s.cells ++ [r]).all V.one = true := by rw [List.all_append, S8.one]; simp [h]
theorem len_s8 (s : S8) (r : V) : (s.cells ++ [r]).length = 9 := by rw [List.length_append, S8.len]; rfl
theorem at8_s8 (s : S8) (r : V) : (s.cells ++ [r])[8]? = some r := Eq.trans rfl rfl
theorem set8_s8 (s : S8) (r q : V) : (s.cells ++ [r]).set 8 q = s.cells ++ [q] := Eq.trans rfl rfl
theorem take9_s8 (s : S8) (r : V) : (s.cells ++ [r]).take 9 = s.cells ++ [r] := Eq.trans rfl rfl
theorem take8_s8 (s : S8) (r : V) : (s.cells ++ [r]).take 8 = s.cells := Eq.trans rfl rfl

theorem call36 (s : S8) (rest l : List (BitVec 8)) (hr : rest.length < 16) (hl : l.length < 8796093022208) (h : Heap) (r v : V) (hrr : rc 1 h r = some (cu8 rest)) (hv : rc 1 h v = some (cu8 l)) :
    ∃ r' g, (run T).call 36 [.agg (s.cells ++ [r]), v] none h = some (.ret (.tup [.agg ((absS s (rest ++ l)).cells ++ [r']), i64 0]), none, h ++ g) ∧ rc 1 (h ++ g) r' = some (cu8 (restL (rest ++ l))) := by
  have hrs := rc_isS hrr
  have hr1 := isS_one hrs
  have hrl : lenOf r = rest.length := by have := rc_len hrr; rw [cu8_len] at this; omega
  have hvl : lenOf v = l.length := by have := rc_len hv; rw [cu8_len] at this; omega
  have hc : decide ((rest.length : Int) ≥ 16) = false := by simp; omega
  obtain ⟨B, hB⟩ : ∃ B : Blk, B = .cells .ex [u32 0, u32 0, u32 0, u32 0, u32 0, u32 0, u32 0, u32 0, .nils] := ⟨_, rfl⟩
  -- the bytes together
  have o0 : Own (h.length + 2) 1 (h ++ [.cells .ex (s.cells ++ [r]), B, .cells .ex []]) (.sl 1 (h.length + 2) 0 0 0) (cu8 []) := Own.mk (m := .ex) (Nat.le_refl _) (by rw [blk_get]; rfl) (.inl rfl) rfl
  obtain ⟨v1, g1, e1, o1, n1⟩ := app_own' (bts := 1) (by omega) (by simp) o0 (rc_app hrr _) (cu8_one _) (by rw [hrl]; simp only [lenOf]; omega) (by rw [hrl]; simp only [lenOf]; omega) _ (take_two _ _ _ _)
  simp only [List.append_assoc, List.cons_append, List.nil_append] at e1 o1
  have n1' : lenOf v1 = rest.length := by rw [n1, hrl]; simp [lenOf]
  obtain ⟨v2, g2, e2, o2, n2⟩ := app_own' (bts := 1) (by omega) (by simp) o1 (rc_app hv _) (cu8_one _) (by rw [n1', hvl]; omega) (by rw [n1', hvl]; omega) _ (take_two _ _ _ _)
  simp only [List.append_assoc, List.cons_append, List.nil_append, cu8_app] at e2 o2
  have n2' : lenOf v2 = (rest ++ l).length := by rw [n2, n1', hvl, List.length_append]
  have hal : (rest ++ l).length < 8796093022300 := by rw [List.length_append]; omega
  generalize rest ++ l = al at *
  have hs2 := rc_isS o2.rcn
  have h56 := call56 v2 hs2 (h ++ .cells .ex (s.cells ++ [r]) :: B :: g2)
  -- the loop
  obtain ⟨t0, ht0⟩ : ∃ t0 : Env, t0 = [(21, .fn (.func 76) [] [.ptr (h.length + (g2.length + 1 + 1)) 0]), (20, v2), (2, .ptr h.length 0), (4, .ptr (h.length + 1) 0), (5, i64 0), (6, v2)] := ⟨_, rfl⟩
  have ho : ∀ A X, rc 1 (h ++ A :: ((B :: g2) ++ X)) v2 = some (cu8 al) := fun A X => by
    have := (own_swap2 (A' := A) (B' := B) o2).app X
    simpa using this.rcn
  have h76 := call76 al (by omega) s r hr1 h (B :: g2) v2 ho t0 (by rw [ht0]; rfl)
  simp only [List.cons_append, List.length_cons] at h76
  have hrg : execRng (run T) (.fn (.func 76) [] [.ptr (h.length + (g2.length + 1 + 1)) 0]) [22] c36_0a c36_0 ⟨t0, [], some none⟩ (h ++ .cells .ex (s.cells ++ [r]) :: B :: (g2 ++ [.cells .ex [v2]])) =
      some (.norm, ⟨t0, [.coll (h.length + (g2.length + 1 + 1 + 1))], some none⟩, h ++ .cells .ex ((absS s al).cells ++ [r]) :: B :: (g2 ++ [.cells .ex [sx v2 (al.length / 16)], .dfl, .loop 3 none t0 [22] c36_0a c36_0])) := by
    have hln : (h ++ .cells .ex (s.cells ++ [r]) :: B :: (g2 ++ [.cells .ex [v2]])).length = h.length + (g2.length + 1 + 1 + 1) := by simp
    have := rngf_ok (r := run T) (f := .fn (.func 76) [] [.ptr (h.length + (g2.length + 1 + 1)) 0]) (v := .tup []) (ps := [22]) (asg := c36_0a) (body := c36_0) (t := t0) (d := []) (u := none) (h := h ++ .cells .ex (s.cells ++ [r]) :: B :: (g2 ++ [.cells .ex [v2]]))
      (h2 := h ++ .cells .ex ((absS s al).cells ++ [r]) :: B :: (g2 ++ [.cells .ex [sx v2 (al.length / 16)], .dfl, .loop 0 none t0 [22] c36_0a c36_0])) (e := t0) (p := [22]) (a := c36_0a) (b := c36_0)
      (by
        rw [callV76, hln]
        rw [show h.length + (g2.length + 1 + 1 + 1) + 1 = h.length + (g2.length + 1 + 2 + 1) by omega]
        simp only [List.append_assoc, List.cons_append, List.nil_append]
        rw [h76]; rfl)
      (by rw [hln, show h.length + (g2.length + 1 + 1 + 1) + 1 = h.length + (g2.length + 2 + 1 + 1) by omega, blk_get, List.getElem?_cons_succ, List.getElem?_cons_succ, blk_get]; rfl)
    rw [this, hln, show h.length + (g2.length + 1 + 1 + 1) + 1 = h.length + (g2.length + 2 + 1 + 1) by omega, blk_set, List.set_cons_succ, List.set_cons_succ, blk_set]
    rfl
  -- the rest
  have hq : wr ((al.length : Int).tdiv 16) = ((al.length / 16 : Nat) : Int) := by rw [Int.tdiv_eq_ediv_of_nonneg (by omega), wr_id (by omega) (by omega)]; omega
  have hm : wr (((al.length / 16 : Nat) : Int) * 16) = ((al.length / 16 * 16 : Nat) : Int) := by rw [wr_id (by omega) (by omega)]; omega
  have hsl := sl_lo o2.rcn ((al.length / 16 * 16 : Nat) : Int) (by omega) (by rw [n2']; omega)
  rw [show (((al.length / 16 * 16 : Nat) : Int)).toNat = al.length / 16 * 16 by omega, n2'] at hsl
  obtain ⟨L3, hL3⟩ : ∃ b : Blk, b = .loop 3 none t0 [22] c36_0a c36_0 := ⟨_, rfl⟩
  obtain ⟨C, hC⟩ : ∃ b : Blk, b = .cells .ex [sx v2 (al.length / 16)] := ⟨_, rfl⟩
  have hx := fun X => rc_slc (ho (.cells .ex ((absS s al).cells ++ [r])) X) (al.length / 16 * 16) al.length (by omega) (by omega)
  simp only [Nat.mul_one, cu8_take, cu8_drop, List.take_length, List.cons_append] at hx
  have o3 : Own (h.length + (g2.length + 3 + 1 + 1)) 1 (h ++ .cells .ex ((absS s al).cells ++ [r]) :: B :: (g2 ++ [C, .dfl, L3, .cells .ex []])) (.sl 1 (h.length + (g2.length + 3 + 1 + 1)) 0 0 0) (cu8 []) :=
    Own.mk (m := .ex) (Nat.le_refl _) (by rw [blk_get, List.getElem?_cons_succ, List.getElem?_cons_succ, blk_get]; rfl) (.inl rfl) rfl
  obtain ⟨r', g3, e3, o3', n3⟩ := app_own' (bts := 1) (by omega) (by simp) o3 (hx _) (cu8_one _) (by rw [slc_len _ _ _ _ (by omega)]; simp only [lenOf]; omega) (by rw [slc_len _ _ _ _ (by omega)]; simp only [lenOf]; omega)
    (h ++ .cells .ex ((absS s al).cells ++ [r]) :: B :: (g2 ++ [C, .dfl, L3])) (by
      have := take_all (h ++ .cells .ex ((absS s al).cells ++ [r]) :: B :: (g2 ++ [C, .dfl, L3])) [.cells .ex []]
      simpa using this)
  simp only [List.append_assoc, List.cons_append, List.nil_append, cu8_app] at e3 o3'
  have hr1' := isS_one (rc_isS o3'.rcn)
  refine ⟨r', ?_⟩
  rw [call_gc0 fn36]
  rw [hC, hL3] at e3
  rw [ht0] at hrg e3
  simp only [List.length_append, List.length_cons, List.append_assoc, List.cons_append, List.nil_append] at h56
  rw [hB] at e1 e2 h56 hrg e3
  have hfin : ∀ A B' X, rc 1 (h ++ A :: B' :: (g2 ++ C :: X :: L3 :: g3)) r' = some (cu8 (restL al)) := fun A B' X => by
    have h1 : Own (h.length + (g2.length + 3 + 1 + 1)) 1 ((h ++ A :: B' :: (g2 ++ [C, X, L3])) ++ g3) r' (cu8 (restL al)) :=
      own_swap (P := h ++ .cells .ex ((absS s al).cells ++ [r]) :: B :: (g2 ++ [C, .dfl, L3])) (by simpa [restL] using o3') (by simp) (by simp)
    simpa using h1.rcn
  rw [hC, hL3, ht0] at hfin
  clear hC hL3 hB o0 o1 o2 o3 o3' h76 hx
  simp -implicitDefEqProofs only [runEqs, List.zipIdx_cons, List.zipIdx_nil, List.map_cons, List.map_nil, Nat.zero_add, Nat.add_zero, Nat.zero_mul, Nat.reduceAdd, Nat.reduceMul, Nat.reduceBEq, Nat.reduceLT, Nat.reduceSub, Option.map_some, Option.map_none, Option.isSome_some, Option.isSome_none, Bool.not_true, Bool.not_false, Bool.true_or, Bool.false_or, Bool.or_true, List.getElem?_cons_zero, List.getElem?_cons_succ, List.set_cons_zero, List.set_cons_succ, List.length_cons, List.length_nil, List.length_append, List.append_assoc, List.cons_append, List.nil_append, List.zip_cons_cons, List.zip_nil_right, Int.reduceAdd, Int.reduceSub, Int.reduceMul, Int.reduceLT, Int.reduceLE, Int.reduceNeg, Int.reduceToNat, Int.zero_add, Int.add_zero, decide_true, decide_false, Nat.reduceLeDiff, Nat.min_self, List.drop_succ_cons, List.drop_zero, List.drop_nil, List.take_succ_cons, List.take_zero, List.take_nil, List.all_cons, List.all_nil, Bool.and_true, Bool.true_and, Nat.mul_one, List.singleton_append, Int.le_refl, Nat.le_refl, c36, r36, S8.len, len_s8, one_s8, hr1, hr1', at8_s8, set8_s8, take9_s8, vLen_of, hrs, hrl, hc, e1, e2, h56, c_rngf, hrg, hs2, n2', quo_16i, hq, hm, hsl, e3, leave_coll, blk_get, blk_set]
  exact ⟨_, rfl, hfin _ _ _⟩
end Go.Proofs.Ytccepmhhilhajaa.K

/- The digest: what its functions compute. -/
set_option linter.unusedVariables false
set_option linter.unusedSimpArgs false
set_option maxRecDepth 100000
namespace Go.Proofs.Ytccepmhhilhajaa.K
open Go Go.A

def S0 : S8 := ⟨0, 0, 0, 0, 0, 0, 0, 1634886504⟩
theorem call35 (h : Heap) : (run T).call 35 [] none h = some (.ret (.agg (S0.cells ++ [.nils])), none, h ++ [.cells .ex (S0.cells ++ [.nils]), .cells .ex (S0.cells ++ [.nils])]) := by
  rw [call_gc0 fn35, S0]
  simp -implicitDefEqProofs only [runEqs, List.zipIdx_cons, List.zipIdx_nil, List.map_cons, List.map_nil, Nat.zero_add, Nat.add_zero, Nat.zero_mul, Nat.reduceAdd, Nat.reduceMul, Nat.reduceBEq, Nat.reduceLT, Nat.reduceSub, Option.map_some, Option.map_none, Option.isSome_some, Option.isSome_none, Bool.not_true, Bool.not_false, Bool.true_or, Bool.false_or, Bool.or_true, List.getElem?_cons_zero, List.getElem?_cons_succ, List.set_cons_zero, List.set_cons_succ, List.length_cons, List.length_nil, List.length_append, List.append_assoc, List.cons_append, List.nil_append, List.zip_cons_cons, List.zip_nil_right, Int.reduceAdd, Int.reduceSub, Int.reduceMul, Int.reduceLT, Int.reduceLE, Int.reduceNeg, Int.reduceToNat, Int.zero_add, Int.add_zero, decide_true, decide_false, Nat.reduceLeDiff, Nat.min_self, List.drop_succ_cons, List.drop_zero, List.drop_nil, List.take_succ_cons, List.take_zero, List.take_nil, List.all_cons, List.all_nil, Bool.and_true, Bool.true_and, Nat.mul_one, List.singleton_append, Int.le_refl, Nat.le_refl, c35, r35, s8_mk, one_nils]

/-- The bytes of a word, the low one first. -/
def wrK (w : BitVec 32) : Nat → List (BitVec 8)
  | 0 => []
  | k + 1 => wrK w k ++ [(w >>> (8 * k)).setWidth 8]
def wrB (w : BitVec 32) : List (BitVec 8) := wrK w 4
theorem wrK_len (w : BitVec 32) : ∀ k, (wrK w k).length = k
  | 0 => rfl
  | k + 1 => by rw [wrK, List.length_append, wrK_len w k]; rfl

theorem call58 (w : BitVec 32) (h0 : Heap) (g : Heap) (b : V) (l : List (BitVec 8)) (hl : l.length < 1000) (ho : Own h0.length 1 (h0 ++ g) b (cu8 l)) :
    ∃ b' g', (run T).call 58 [b, u32 w, i64 4] none (h0 ++ g) = some (.ret b', none, h0 ++ g') ∧ Own h0.length 1 (h0 ++ g') b' (cu8 (l ++ wrB w)) := by
  obtain ⟨vs', h', ⟨b', g', rfl, rfl, ho'⟩, hlp⟩ := loop_up (T := T) (L := [0, 1, 8, 9]) (c := c58_0) (d := []) (u := some none)
    (fun k vs hh => ∃ b' g', vs = [b', u32 w, i64 4, i64 ((k : Nat) : Int)] ∧ hh = h0 ++ g' ∧ Own h0.length 1 (h0 ++ g') b' (cu8 (l ++ wrK w k))) 4
    (by
      rintro k vs hh hk ⟨b', g', rfl, rfl, ho'⟩
      have hlt : decide ((k : Int) < 4) = true := by simpa using by omega
      have hw := wr_succ_nat k (by omega)
      have hm : wr (8 * (k : Int)) = 8 * (k : Int) := wr_id (by omega) (by omega)
      have h1 : (0 : Int) ≤ 8 * (k : Int) := by omega
      have ht : (8 * (k : Int)).toNat = 8 * k := by omega
      have hbl : lenOf b' = l.length + k := by have := ho'.len; rw [cu8_len, List.length_append, wrK_len] at this; omega
      obtain ⟨b2, g2, e1, e2, e3⟩ := app_own' (bts := 1) (by omega) (by simp) (ho'.app [.cells .ex [u8 ((w >>> (8 * k)).setWidth 8)]]) (rc_new 1 (h0 ++ g') .ex (cu8 [(w >>> (8 * k)).setWidth 8]) 1 rfl) (cu8_one _)
        (by rw [hbl]; simp only [lenOf]; omega) (by rw [hbl]; simp only [lenOf]; omega) h0 (by rw [List.append_assoc]; exact take_zero _ _)
      rw [cu8_app, List.append_assoc] at e2
      simp only [List.append_assoc, List.length_append] at e1
      refine ⟨_, _, ?_, b2, g2, rfl, rfl, e2⟩
      simp -implicitDefEqProofs only [runEqs, List.zipIdx_cons, List.zipIdx_nil, List.map_cons, List.map_nil, Nat.zero_add, Nat.add_zero, Nat.zero_mul, Nat.reduceAdd, Nat.reduceMul, Nat.reduceBEq, Nat.reduceLT, Nat.reduceSub, Option.map_some, Option.map_none, Option.isSome_some, Option.isSome_none, Bool.not_true, Bool.not_false, Bool.true_or, Bool.false_or, Bool.or_true, List.getElem?_cons_zero, List.getElem?_cons_succ, List.set_cons_zero, List.set_cons_succ, List.length_cons, List.length_nil, List.length_append, List.append_assoc, List.cons_append, List.nil_append, List.zip_cons_cons, List.zip_nil_right, Int.reduceAdd, Int.reduceSub, Int.reduceMul, Int.reduceLT, Int.reduceLE, Int.reduceNeg, Int.reduceToNat, Int.zero_add, Int.add_zero, decide_true, decide_false, Nat.reduceLeDiff, Nat.min_self, List.drop_succ_cons, List.drop_zero, List.drop_nil, List.take_succ_cons, List.take_zero, List.take_nil, List.all_cons, List.all_nil, Bool.and_true, Bool.true_and, Nat.mul_one, List.singleton_append, Int.le_refl, Nat.le_refl, c58_0, hlt, hw, hm, shr_u32_i64, h1, ht, cv_u8_u32, e1]
      exact nxt_some _ _ _ _ _ _ _ rfl rfl)
    [b, u32 w, i64 4, i64 0] (h0 ++ g) ⟨b, g, rfl, rfl, by simpa [wrK] using ho⟩
  refine ⟨b', g', ?_, ho'⟩
  simp only [List.zip_cons_cons, List.zip_nil_right] at hlp
  have hf : decide (((4 : Nat) : Int) < 4) = false := by decide
  rw [call_gc0 fn58]
  simp -implicitDefEqProofs only [runEqs, List.zipIdx_cons, List.zipIdx_nil, List.map_cons, List.map_nil, Nat.zero_add, Nat.add_zero, Nat.zero_mul, Nat.reduceAdd, Nat.reduceMul, Nat.reduceBEq, Nat.reduceLT, Nat.reduceSub, Option.map_some, Option.map_none, Option.isSome_some, Option.isSome_none, Bool.not_true, Bool.not_false, Bool.true_or, Bool.false_or, Bool.or_true, List.getElem?_cons_zero, List.getElem?_cons_succ, List.set_cons_zero, List.set_cons_succ, List.length_cons, List.length_nil, List.length_append, List.append_assoc, List.cons_append, List.nil_append, List.zip_cons_cons, List.zip_nil_right, Int.reduceAdd, Int.reduceSub, Int.reduceMul, Int.reduceLT, Int.reduceLE, Int.reduceNeg, Int.reduceToNat, Int.zero_add, Int.add_zero, decide_true, decide_false, Nat.reduceLeDiff, Nat.min_self, List.drop_succ_cons, List.drop_zero, List.drop_nil, List.take_succ_cons, List.take_zero, List.take_nil, List.all_cons, List.all_nil, Bool.and_true, Bool.true_and, Nat.mul_one, List.singleton_append, Int.le_refl, Nat.le_refl, c58, r58, hlp]
  simp -implicitDefEqProofs only [runEqs, List.zipIdx_cons, List.zipIdx_nil, List.map_cons, List.map_nil, Nat.zero_add, Nat.add_zero, Nat.zero_mul, Nat.reduceAdd, Nat.reduceMul, Nat.reduceBEq, Nat.reduceLT, Nat.reduceSub, Option.map_some, Option.map_none, Option.isSome_some, Option.isSome_none, Bool.not_true, Bool.not_false, Bool.true_or, Bool.false_or, Bool.or_true, List.getElem?_cons_zero, List.getElem?_cons_succ, List.set_cons_zero, List.set_cons_succ, List.length_cons, List.length_nil, List.length_append, List.append_assoc, List.cons_append, List.nil_append, List.zip_cons_cons, List.zip_nil_right, Int.reduceAdd, Int.reduceSub, Int.reduceMul, Int.reduceLT, Int.reduceLE, Int.reduceNeg, Int.reduceToNat, Int.zero_add, Int.add_zero, decide_true, decide_false, Nat.reduceLeDiff, Nat.min_self, List.drop_succ_cons, List.drop_zero, List.drop_nil, List.take_succ_cons, List.take_zero, List.take_nil, List.all_cons, List.all_nil, Bool.and_true, Bool.true_and, Nat.mul_one, List.singleton_append, Int.le_refl, Nat.le_refl, c58_0, hf]

def wd (s : S8) : Nat → BitVec 32
  | 0 => s.a | 1 => s.b | 2 => s.c | 3 => s.d | 4 => s.e | 5 => s.f | 6 => s.g | _ => s.h
theorem wd_at (s : S8) (r : V) (i : Nat) (hi : i < 8) : (s.cells ++ [r])[i]? = some (u32 (wd s i)) := by
  match i, hi with
  | 0, _ => rfl
  | 1, _ => rfl
  | 2, _ => rfl
  | 3, _ => rfl
  | 4, _ => rfl
  | 5, _ => rfl
  | 6, _ => rfl
  | 7, _ => rfl
def outK (s : S8) : Nat → List (BitVec 8)
  | 0 => []
  | k + 1 => outK s k ++ wrB (wd s k)
def outD (s : S8) : List (BitVec 8) := outK s 4
theorem outK_len (s : S8) : ∀ k, (outK s k).length = 4 * k
  | 0 => rfl
  | k + 1 => by rw [outK, List.length_append, outK_len s k, wrB, wrK_len]; omega
theorem outD_len (s : S8) : (outD s).length = 16 := outK_len s 4

def padL (n : Nat) : List (BitVec 8) := 128 :: List.replicate (15 - n) 0
def endD (s : S8) (rest : List (BitVec 8)) : List (BitVec 8) := outD (absS s (rest ++ padL rest.length))
theorem endD_len (s : S8) (rest : List (BitVec 8)) : (endD s rest).length = 16 := outD_len _

theorem rep_u8 (n : Nat) : rep n [u8 0] = List.replicate n (u8 0) := by
  unfold rep
  induction n with
  | zero => rfl
  | succ n ih => rw [List.replicate_succ, List.flatten_cons, ih]; rfl
theorem pad_cells (n : Nat) (h : n < 16) : (rep (16 - n) [u8 0]).set 0 (u8 128) = cu8 (padL n) := by
  rw [rep_u8, show 16 - n = (15 - n) + 1 by omega, List.replicate_succ, List.set_cons_zero, padL, cu8, List.map_cons, List.map_replicate]
theorem rep_len (n : Nat) : (rep n [u8 0]).length = n := by rw [rep_u8]; simp

theorem len16 (l : List (BitVec 8)) (h : l.length = 16) : (cu8 l).length = 16 := by rw [cu8_len, h]
theorem take16 (l : List (BitVec 8)) (h : l.length = 16) : (cu8 l).take 16 = cu8 l := List.take_of_length_le (by rw [cu8_len, h]; omega)

theorem call37 (s : S8) (rest : List (BitVec 8)) (hr : rest.length < 16) (h : Heap) (r : V) (hrr : rc 1 h r = some (cu8 rest)) :
    (run T).call 37 [.agg (s.cells ++ [r])] none h = some (.ret (.tup [.agg (cu8 (endD s rest)), i64 0]), none, h) := by
  have hrs := rc_isS hrr
  have hr1 := isS_one hrs
  have hrl : lenOf r = rest.length := by have := rc_len hrr; rw [cu8_len] at this; omega
  have hc : decide ((rest.length : Int) ≥ 16) = false := by simp; omega
  have hsb : wr (16 - (rest.length : Int)) = ((16 - rest.length : Nat) : Int) := by rw [wr_id (by omega) (by omega)]; omega
  have key : ∃ h', kF (run T) r37 (execC (run T) c37 (frame0 [.agg (s.cells ++ [r])] none) (roH h)) = some (.ret (.tup [.agg (cu8 (endD s rest)), i64 0]), none, h') := by
    replace hrr := rc_ro hrr
    generalize roH h = H at hrr ⊢
    obtain ⟨B, hB⟩ : ∃ B : Blk, B = .cells .ex (List.replicate 16 (u8 0)) := ⟨_, rfl⟩
    have hp : rc 1 (H ++ [.cells .ex (s.cells ++ [r]), B, .cells .ex (cu8 (padL rest.length))]) (.sl 1 (H.length + 2) 0 (16 - rest.length) (16 - rest.length)) = some (cu8 (padL rest.length)) :=
      rc_newAt 1 _ .ex _ _ _ (by rw [cu8_len, padL, List.length_cons, List.length_replicate]; omega) (by rw [blk_get]; rfl)
    obtain ⟨r', g, e1, hr'⟩ := call36 s rest (padL rest.length) hr (by rw [padL, List.length_cons, List.length_replicate]; omega) _ r _ (rc_app hrr [.cells .ex (s.cells ++ [r]), B, .cells .ex (cu8 (padL rest.length))]) hp
    have hr1' := isS_one (rc_isS hr')
    simp only [List.append_assoc, List.cons_append, List.nil_append] at e1
    generalize hS : absS s (rest ++ padL rest.length) = s' at e1
    have hend : endD s rest = outK s' 4 := by rw [endD, hS]; rfl
    obtain ⟨A', hA'⟩ : ∃ A : Blk, A = .cells .ex (s'.cells ++ [r']) := ⟨_, rfl⟩
    obtain ⟨vs', h', ⟨b', g', rfl, rfl, ho'⟩, hlp⟩ := loop_up (T := T) (L := [1, 2, 5, 25]) (c := c37_0) (d := []) (u := some none)
      (fun k vs hh => ∃ b' g', vs = [.ptr H.length 0, .ptr (H.length + 1) 0, b', i64 ((k : Nat) : Int)] ∧ hh = H ++ A' :: B :: g' ∧ Own (H.length + 2) 1 (H ++ A' :: B :: g') b' (cu8 (outK s' k))) 4
      (by
        rintro k vs hh hk ⟨b', g', rfl, rfl, ho'⟩
        have hlt : decide ((k : Int) < 4) = true := by simpa using by omega
        have hw := wr_succ_nat k (by omega)
        obtain ⟨b2, g2, e1, e2⟩ := call58 (wd s' k) (H ++ [A', B]) g' b' (outK s' k) (by rw [outK_len]; omega) (by simpa using ho')
        simp only [List.append_assoc, List.cons_append, List.nil_append, List.length_append, List.length_cons, List.length_nil, Nat.zero_add, Nat.reduceAdd] at e1 e2
        refine ⟨_, _, ?_, b2, g2, rfl, rfl, e2⟩
        have h8 : k < 8 := by omega
        have hat := wd_at s' r' k h8
        rw [hA'] at e1 ⊢
        simp -implicitDefEqProofs only [runEqs, List.zipIdx_cons, List.zipIdx_nil, List.map_cons, List.map_nil, Nat.zero_add, Nat.add_zero, Nat.zero_mul, Nat.reduceAdd, Nat.reduceMul, Nat.reduceBEq, Nat.reduceLT, Nat.reduceSub, Option.map_some, Option.map_none, Option.isSome_some, Option.isSome_none, Bool.not_true, Bool.not_false, Bool.true_or, Bool.false_or, Bool.or_true, List.getElem?_cons_zero, List.getElem?_cons_succ, List.set_cons_zero, List.set_cons_succ, List.length_cons, List.length_nil, List.length_append, List.append_assoc, List.cons_append, List.nil_append, List.zip_cons_cons, List.zip_nil_right, Int.reduceAdd, Int.reduceSub, Int.reduceMul, Int.reduceLT, Int.reduceLE, Int.reduceNeg, Int.reduceToNat, Int.zero_add, Int.add_zero, decide_true, decide_false, Nat.reduceLeDiff, Nat.min_self, List.drop_succ_cons, List.drop_zero, List.drop_nil, List.take_succ_cons, List.take_zero, List.take_nil, List.all_cons, List.all_nil, Bool.and_true, Bool.true_and, Nat.mul_one, List.singleton_append, Int.le_refl, Nat.le_refl, c37_0, hlt, hw, h8, hat, e1]
        exact nxt_some _ _ _ _ _ _ _ rfl rfl)
      [.ptr H.length 0, .ptr (H.length + 1) 0, .nils, i64 0] (H ++ A' :: B :: (.cells .ex (cu8 (padL rest.length)) :: g)) ⟨.nils, _, rfl, rfl, Own.nil _ _ _⟩
    rw [hend]
    have hf : decide (((4 : Nat) : Int) < 4) = false := by decide
    have hl16 : (outK s' 4).length = 16 := outK_len s' 4
    have hbl : lenOf b' = 16 := by have := ho'.len; rw [cu8_len, hl16] at this; omega
    have hs2a : vS2a 16 b' = some (.ptr (blkOf b') (offOf b')) := by
      rcases ho' with ⟨rfl, -⟩ | ⟨b, m, q, a1, a2, a3, a4, rfl⟩
      · cases hbl
      · exact vS2a_sl _ _ _ _ _ _ (by simp only [lenOf] at hbl; omega)
    have hag := rc_ag ho'.rcn 0 16 (by rw [len16 _ hl16]; omega) (by omega)
    rw [Nat.add_zero, List.drop_zero, take16 _ hl16] at hag
    have hl16' := len16 _ hl16
    have hpc := pad_cells rest.length hr
    have hpl : 0 < (rep (16 - rest.length) [u8 0]).length := by rw [rep_len]; omega
    have hpl2 : 0 < 16 - rest.length := by omega
    have hpl3 : 16 - rest.length ≤ 140737488355328 := by omega
    have hpl4 : 1 * (16 - rest.length) ≤ 140737488355328 := by omega
    simp only [List.zip_cons_cons, List.zip_nil_right] at hlp
    rw [hA', hB] at hlp
    rw [hB] at e1
    rw [hA', hB] at hag
    simp -implicitDefEqProofs only [runEqs, List.zipIdx_cons, List.zipIdx_nil, List.map_cons, List.map_nil, Nat.zero_add, Nat.add_zero, Nat.zero_mul, Nat.reduceAdd, Nat.reduceMul, Nat.reduceBEq, Nat.reduceLT, Nat.reduceSub, Option.map_some, Option.map_none, Option.isSome_some, Option.isSome_none, Bool.not_true, Bool.not_false, Bool.true_or, Bool.false_or, Bool.or_true, List.getElem?_cons_zero, List.getElem?_cons_succ, List.set_cons_zero, List.set_cons_succ, List.length_cons, List.length_nil, List.length_append, List.append_assoc, List.cons_append, List.nil_append, List.zip_cons_cons, List.zip_nil_right, Int.reduceAdd, Int.reduceSub, Int.reduceMul, Int.reduceLT, Int.reduceLE, Int.reduceNeg, Int.reduceToNat, Int.zero_add, Int.add_zero, decide_true, decide_false, Nat.reduceLeDiff, Nat.min_self, List.drop_succ_cons, List.drop_zero, List.drop_nil, List.take_succ_cons, List.take_zero, List.take_nil, List.all_cons, List.all_nil, Bool.and_true, Bool.true_and, Nat.mul_one, List.singleton_append, Int.le_refl, Nat.le_refl, c37, r37, len_s8, S8.len, one_s8, hr1, hr1', at8_s8, set8_s8, take9_s8, vLen_of, hrs, hrl, hc, hsb, hpl, hpl2, hpl3, hpl4, hpc, e1, hlp]
    simp -implicitDefEqProofs only [runEqs, List.zipIdx_cons, List.zipIdx_nil, List.map_cons, List.map_nil, Nat.zero_add, Nat.add_zero, Nat.zero_mul, Nat.reduceAdd, Nat.reduceMul, Nat.reduceBEq, Nat.reduceLT, Nat.reduceSub, Option.map_some, Option.map_none, Option.isSome_some, Option.isSome_none, Bool.not_true, Bool.not_false, Bool.true_or, Bool.false_or, Bool.or_true, List.getElem?_cons_zero, List.getElem?_cons_succ, List.set_cons_zero, List.set_cons_succ, List.length_cons, List.length_nil, List.length_append, List.append_assoc, List.cons_append, List.nil_append, List.zip_cons_cons, List.zip_nil_right, Int.reduceAdd, Int.reduceSub, Int.reduceMul, Int.reduceLT, Int.reduceLE, Int.reduceNeg, Int.reduceToNat, Int.zero_add, Int.add_zero, decide_true, decide_false, Nat.reduceLeDiff, Nat.min_self, List.drop_succ_cons, List.drop_zero, List.drop_nil, List.take_succ_cons, List.take_zero, List.take_nil, List.all_cons, List.all_nil, Bool.and_true, Bool.true_and, Nat.mul_one, List.singleton_append, Int.le_refl, Nat.le_refl, c37_0, hf, ev_s2a, hs2a, vLdN_ptr, hag, hl16', List.length_replicate, cu8_one, take16, hl16]
    exact ⟨_, rfl⟩
  obtain ⟨h', hk⟩ := key
  exact call_gc1 fn37 _ _ hk (by simp only [V.bel, belowL, bel_cu8, i64, Bool.and_true])

def digL (l : List (BitVec 8)) : List (BitVec 8) := endD (absS S0 l) (restL l)
theorem digL_len (l : List (BitVec 8)) : (digL l).length = 16 := endD_len _ _
theorem restL_len (l : List (BitVec 8)) : (restL l).length < 16 := by simp [restL]; omega

theorem call39 (l : List (BitVec 8)) (hl : l.length < 8796093022208) (h : Heap) (v : V) (hv : rc 1 h v = some (cu8 l)) : (run T).call 39 [v] none h = some (.ret (.agg (cu8 (digL l))), none, h) := by
  have key : ∃ h', kF (run T) r39 (execC (run T) c39 (frame0 [v] none) (roH h)) = some (.ret (.agg (cu8 (digL l))), none, h') := by
    replace hv := rc_ro hv
    generalize roH h = H at hv ⊢
    have e0 := call35 (H ++ [.cells .ex (List.replicate 16 (u8 0))])
    obtain ⟨r', g, e1, hr'⟩ := call36 S0 [] l (by simp) hl _ .nils v (rfl : rc 1 (H ++ [.cells .ex (List.replicate 16 (u8 0))] ++ [.cells .ex (S0.cells ++ [.nils]), .cells .ex (S0.cells ++ [.nils])]) .nils = some (cu8 [])) (rc_app (rc_app hv _) _)
    rw [List.nil_append] at e1 hr'
    have hr1' := isS_one (rc_isS hr')
    have e2 := fun X => call37 (absS S0 l) (restL l) (restL_len l) _ r' (rc_app hr' X)
    simp only [List.append_assoc, List.cons_append, List.nil_append] at e0 e1 e2
    have hl16 := len16 _ (digL_len l)
    have ht16 := take16 _ (digL_len l)
    have hd : endD (absS S0 l) (restL l) = digL l := rfl
    rw [hd] at e2
    have hz : [u32 0, u32 0, u32 0, u32 0, u32 0, u32 0, u32 0, u32 0, V.nils].length = 9 := rfl
    simp -implicitDefEqProofs only [runEqs, List.zipIdx_cons, List.zipIdx_nil, List.map_cons, List.map_nil, Nat.zero_add, Nat.add_zero, Nat.zero_mul, Nat.reduceAdd, Nat.reduceMul, Nat.reduceBEq, Nat.reduceLT, Nat.reduceSub, Option.map_some, Option.map_none, Option.isSome_some, Option.isSome_none, Bool.not_true, Bool.not_false, Bool.true_or, Bool.false_or, Bool.or_true, List.getElem?_cons_zero, List.getElem?_cons_succ, List.set_cons_zero, List.set_cons_succ, List.length_cons, List.length_nil, List.length_append, List.append_assoc, List.cons_append, List.nil_append, List.zip_cons_cons, List.zip_nil_right, Int.reduceAdd, Int.reduceSub, Int.reduceMul, Int.reduceLT, Int.reduceLE, Int.reduceNeg, Int.reduceToNat, Int.zero_add, Int.add_zero, decide_true, decide_false, Nat.reduceLeDiff, Nat.min_self, List.drop_succ_cons, List.drop_zero, List.drop_nil, List.take_succ_cons, List.take_zero, List.take_nil, List.all_cons, List.all_nil, Bool.and_true, Bool.true_and, Nat.mul_one, List.singleton_append, Int.le_refl, Nat.le_refl, c39, r39, e0, e1, len_s8, S8.len, one_s8, hr1', take9_s8, e2, hl16, ht16, List.length_replicate, cu8_one]
    exact ⟨_, rfl⟩
  obtain ⟨h', hk⟩ := key
  exact call_gc1 fn39 _ _ hk (by simp only [V.bel, bel_cu8])
end Go.Proofs.Ytccepmhhilhajaa.K

/- Comparing lists. -/
set_option linter.unusedVariables false
set_option linter.unusedSimpArgs false
set_option maxRecDepth 100000
namespace Go.Proofs.Ytccepmhhilhajaa.K
open Go Go.A

/-- Two lists that are alike. -/
theorem call23 (l : List (BitVec 32)) (hl : l.length < 4611686018427387904) (h : Heap) (v w : V) (hv : rc 1 h v = some (cu32 l)) (hw : rc 1 h w = some (cu32 l)) : (run T).call 23 [v, w] none h = some (.ret (.bool true), none, h) := by
  refine call_gc1 fn23 _ _ (h' := roH h) ?_ rfl
  replace hv := rc_ro hv
  replace hw := rc_ro hw
  generalize roH h = H at hv hw ⊢
  have hn : lenOf v = l.length := by have := rc_len hv; rw [cu32_len] at this; omega
  have hn' : lenOf w = l.length := by have := rc_len hw; rw [cu32_len] at this; omega
  have hs := rc_isS hv
  have hs' := rc_isS hw
  have hlp := loop_to (T := T) (L := [0, 1, 5]) (c := c23_0) (d := []) (u := some none) (fun i => [v, w, i64 i]) (fun i => H) l.length (fun i hi => by
      have hlt : decide ((i : Int) < (l.length : Int)) = true := by simpa using by omega
      have hw1 := wr_succ_nat i (by omega)
      have hat : kAt (offOf v + i) (cellsAt H (blkOf v)) = some (u32 l[i]) := by rw [rc_at hv i (by rw [cu32_len]; omega), cu32_at]
      have hat' : kAt (offOf w + i) (cellsAt H (blkOf w)) = some (u32 l[i]) := by rw [rc_at hw i (by rw [cu32_len]; omega), cu32_at]
      have hne : (l[i] != l[i]) = false := by simp
      simp -implicitDefEqProofs only [runEqs, List.zipIdx_cons, List.zipIdx_nil, List.map_cons, List.map_nil, Nat.zero_add, Nat.add_zero, Nat.zero_mul, Nat.reduceAdd, Nat.reduceMul, Nat.reduceBEq, Nat.reduceLT, Nat.reduceSub, Option.map_some, Option.map_none, Option.isSome_some, Option.isSome_none, Bool.not_true, Bool.not_false, Bool.true_or, Bool.false_or, Bool.or_true, List.getElem?_cons_zero, List.getElem?_cons_succ, List.set_cons_zero, List.set_cons_succ, List.length_cons, List.length_nil, List.length_append, List.append_assoc, List.cons_append, List.nil_append, List.zip_cons_cons, List.zip_nil_right, Int.reduceAdd, Int.reduceSub, Int.reduceMul, Int.reduceLT, Int.reduceLE, Int.reduceNeg, Int.reduceToNat, Int.zero_add, Int.add_zero, decide_true, decide_false, Nat.reduceLeDiff, Nat.min_self, List.drop_succ_cons, List.drop_zero, List.drop_nil, List.take_succ_cons, List.take_zero, List.take_nil, List.all_cons, List.all_nil, Bool.and_true, Bool.true_and, Nat.mul_one, List.singleton_append, Int.le_refl, Nat.le_refl, c23_0, vLen_of, hs, hn, hlt, hw1, vIS_of, hn', hi, hat, hat', neq_u32, hne]
      exact nxt_some _ _ _ _ _ _ _ rfl rfl)
  have hf : decide ((l.length : Int) < (l.length : Int)) = false := by simp
  have hne : ((l.length : Int) != (l.length : Int)) = false := by simp
  simp -implicitDefEqProofs only [runEqs, List.zipIdx_cons, List.zipIdx_nil, List.map_cons, List.map_nil, Nat.zero_add, Nat.add_zero, Nat.zero_mul, Nat.reduceAdd, Nat.reduceMul, Nat.reduceBEq, Nat.reduceLT, Nat.reduceSub, Option.map_some, Option.map_none, Option.isSome_some, Option.isSome_none, Bool.not_true, Bool.not_false, Bool.true_or, Bool.false_or, Bool.or_true, List.getElem?_cons_zero, List.getElem?_cons_succ, List.set_cons_zero, List.set_cons_succ, List.length_cons, List.length_nil, List.length_append, List.append_assoc, List.cons_append, List.nil_append, List.zip_cons_cons, List.zip_nil_right, Int.reduceAdd, Int.reduceSub, Int.reduceMul, Int.reduceLT, Int.reduceLE, Int.reduceNeg, Int.reduceToNat, Int.zero_add, Int.add_zero, decide_true, decide_false, Nat.reduceLeDiff, Nat.min_self, List.drop_succ_cons, List.drop_zero, List.drop_nil, List.take_succ_cons, List.take_zero, List.take_nil, List.all_cons, List.all_nil, Bool.and_true, Bool.true_and, Nat.mul_one, List.singleton_append, Int.le_refl, Nat.le_refl, c23, r23, vLen_of, hs, hs', hn, hn', hne, hlp]
  simp -implicitDefEqProofs only [runEqs, List.zipIdx_cons, List.zipIdx_nil, List.map_cons, List.map_nil, Nat.zero_add, Nat.add_zero, Nat.zero_mul, Nat.reduceAdd, Nat.reduceMul, Nat.reduceBEq, Nat.reduceLT, Nat.reduceSub, Option.map_some, Option.map_none, Option.isSome_some, Option.isSome_none, Bool.not_true, Bool.not_false, Bool.true_or, Bool.false_or, Bool.or_true, List.getElem?_cons_zero, List.getElem?_cons_succ, List.set_cons_zero, List.set_cons_succ, List.length_cons, List.length_nil, List.length_append, List.append_assoc, List.cons_append, List.nil_append, List.zip_cons_cons, List.zip_nil_right, Int.reduceAdd, Int.reduceSub, Int.reduceMul, Int.reduceLT, Int.reduceLE, Int.reduceNeg, Int.reduceToNat, Int.zero_add, Int.add_zero, decide_true, decide_false, Nat.reduceLeDiff, Nat.min_self, List.drop_succ_cons, List.drop_zero, List.drop_nil, List.take_succ_cons, List.take_zero, List.take_nil, List.all_cons, List.all_nil, Bool.and_true, Bool.true_and, Nat.mul_one, List.singleton_append, Int.le_refl, Nat.le_refl, vLen_of, hs, hn, c23_0, hf]

/-- Lists of digests as cells. -/
def cdg (l : List (List (BitVec 8))) : List V := (l.map cu8).flatten
theorem cdg_nil : cdg [] = [] := rfl
theorem cdg_cons (a : List (BitVec 8)) (l : List (List (BitVec 8))) : cdg (a :: l) = cu8 a ++ cdg l := by simp [cdg]
theorem cdg_app (a b : List (List (BitVec 8))) : cdg a ++ cdg b = cdg (a ++ b) := by simp [cdg]
theorem cdg_one : ∀ (l : List (List (BitVec 8))), (cdg l).all V.one = true
  | [] => rfl
  | a :: l => by rw [cdg_cons, List.all_append, cu8_one, cdg_one l]; rfl
def all16 (l : List (List (BitVec 8))) : Prop := ∀ x ∈ l, x.length = 16
theorem cdg_len : ∀ (l : List (List (BitVec 8))), all16 l → (cdg l).length = l.length * 16
  | [], _ => rfl
  | a :: l, h => by
    have h1 : a.length = 16 := h a (by simp)
    have h2 := cdg_len l (fun x hx => h x (by simp [hx]))
    rw [cdg_cons, List.length_append, h2, cu8_len, List.length_cons]
    omega
theorem cdg_get : ∀ (l : List (List (BitVec 8))), all16 l → ∀ (i : Nat) (hi : i < l.length), ((cdg l).drop (i * 16)).take 16 = cu8 l[i]
  | a :: l, h, 0, _ => by
    have h1 : (cu8 a).length = 16 := by rw [cu8_len]; exact h a (by simp)
    rw [cdg_cons, Nat.zero_mul, List.drop_zero, List.take_append_of_le_length (by omega), List.take_of_length_le (by omega)]
    rfl
  | a :: l, h, i + 1, hi => by
    have h1 : (cu8 a).length = 16 := by rw [cu8_len]; exact h a (by simp)
    have h2 := cdg_get l (fun x hx => h x (by simp [hx])) i (by simpa using hi)
    rw [cdg_cons, List.drop_append, h1]
    rw [show (i + 1) * 16 - 16 = i * 16 by omega, List.drop_of_length_le (by omega), List.nil_append, h2]
    rfl

theorem call29 (l : List (List (BitVec 8))) (ha : all16 l) (hl : l.length < 4611686018427387904) (h : Heap) (v w : V) (hv : rc 16 h v = some (cdg l)) (hw : rc 16 h w = some (cdg l)) : (run T).call 29 [v, w] none h = some (.ret (.bool true), none, h) := by
  refine call_gc1 fn29 _ _ (h' := roH h) ?_ rfl
  replace hv := rc_ro hv
  replace hw := rc_ro hw
  generalize roH h = H at hv hw ⊢
  have hcl := cdg_len l ha
  have hn : lenOf v = l.length := by have := rc_len hv; rw [hcl] at this; omega
  have hn' : lenOf w = l.length := by have := rc_len hw; rw [hcl] at this; omega
  have hs := rc_isS hv
  have hs' := rc_isS hw
  have hlp := loop_to (T := T) (L := [0, 1, 5]) (c := c29_0) (d := []) (u := some none) (fun i => [v, w, i64 i]) (fun i => H) l.length (fun i hi => by
      have hlt : decide ((i : Int) < (l.length : Int)) = true := by simpa using by omega
      have hw1 := wr_succ_nat i (by omega)
      have hat : kAg (offOf v + i * 16) 16 (cellsAt H (blkOf v)) = some (.agg (cu8 l[i])) := by rw [rc_ag hv (i * 16) 16 (by omega) (by omega), cdg_get l ha i hi]
      have hat' : kAg (offOf w + i * 16) 16 (cellsAt H (blkOf w)) = some (.agg (cu8 l[i])) := by rw [rc_ag hw (i * 16) 16 (by omega) (by omega), cdg_get l ha i hi]
      have h16 : l[i].length = 16 := ha _ (by simp)
      have he := eq16 l[i] l[i] h16 h16
      rw [BEq.rfl] at he
      simp -implicitDefEqProofs only [runEqs, List.zipIdx_cons, List.zipIdx_nil, List.map_cons, List.map_nil, Nat.zero_add, Nat.add_zero, Nat.zero_mul, Nat.reduceAdd, Nat.reduceMul, Nat.reduceBEq, Nat.reduceLT, Nat.reduceSub, Option.map_some, Option.map_none, Option.isSome_some, Option.isSome_none, Bool.not_true, Bool.not_false, Bool.true_or, Bool.false_or, Bool.or_true, List.getElem?_cons_zero, List.getElem?_cons_succ, List.set_cons_zero, List.set_cons_succ, List.length_cons, List.length_nil, List.length_append, List.append_assoc, List.cons_append, List.nil_append, List.zip_cons_cons, List.zip_nil_right, Int.reduceAdd, Int.reduceSub, Int.reduceMul, Int.reduceLT, Int.reduceLE, Int.reduceNeg, Int.reduceToNat, Int.zero_add, Int.add_zero, decide_true, decide_false, Nat.reduceLeDiff, Nat.min_self, List.drop_succ_cons, List.drop_zero, List.drop_nil, List.take_succ_cons, List.take_zero, List.take_nil, List.all_cons, List.all_nil, Bool.and_true, Bool.true_and, Nat.mul_one, List.singleton_append, Int.le_refl, Nat.le_refl, c29_0, vLen_of, hs, hn, hlt, hw1, vIS_of, hn', hi, vLdN_ptr, hat, hat', he]
      exact nxt_some _ _ _ _ _ _ _ rfl rfl)
  have hf : decide ((l.length : Int) < (l.length : Int)) = false := by simp
  have hne : ((l.length : Int) != (l.length : Int)) = false := by simp
  simp -implicitDefEqProofs only [runEqs, List.zipIdx_cons, List.zipIdx_nil, List.map_cons, List.map_nil, Nat.zero_add, Nat.add_zero, Nat.zero_mul, Nat.reduceAdd, Nat.reduceMul, Nat.reduceBEq, Nat.reduceLT, Nat.reduceSub, Option.map_some, Option.map_none, Option.isSome_some, Option.isSome_none, Bool.not_true, Bool.not_false, Bool.true_or, Bool.false_or, Bool.or_true, List.getElem?_cons_zero, List.getElem?_cons_succ, List.set_cons_zero, List.set_cons_succ, List.length_cons, List.length_nil, List.length_append, List.append_assoc, List.cons_append, List.nil_append, List.zip_cons_cons, List.zip_nil_right, Int.reduceAdd, Int.reduceSub, Int.reduceMul, Int.reduceLT, Int.reduceLE, Int.reduceNeg, Int.reduceToNat, Int.zero_add, Int.add_zero, decide_true, decide_false, Nat.reduceLeDiff, Nat.min_self, List.drop_succ_cons, List.drop_zero, List.drop_nil, List.take_succ_cons, List.take_zero, List.take_nil, List.all_cons, List.all_nil, Bool.and_true, Bool.true_and, Nat.mul_one, List.singleton_append, Int.le_refl, Nat.le_refl, c29, r29, vLen_of, hs, hs', hn, hn', hne, hlp]
  simp -implicitDefEqProofs only [runEqs, List.zipIdx_cons, List.zipIdx_nil, List.map_cons, List.map_nil, Nat.zero_add, Nat.add_zero, Nat.zero_mul, Nat.reduceAdd, Nat.reduceMul, Nat.reduceBEq, Nat.reduceLT, Nat.reduceSub, Option.map_some, Option.map_none, Option.isSome_some, Option.isSome_none, Bool.not_true, Bool.not_false, Bool.true_or, Bool.false_or, Bool.or_true, List.getElem?_cons_zero, List.getElem?_cons_succ, List.set_cons_zero, List.set_cons_succ, List.length_cons, List.length_nil, List.length_append, List.append_assoc, List.cons_append, List.nil_append, List.zip_cons_cons, List.zip_nil_right, Int.reduceAdd, Int.reduceSub, Int.reduceMul, Int.reduceLT, Int.reduceLE, Int.reduceNeg, Int.reduceToNat, Int.zero_add, Int.add_zero, decide_true, decide_false, Nat.reduceLeDiff, Nat.min_self, List.drop_succ_cons, List.drop_zero, List.drop_nil, List.take_succ_cons, List.take_zero, List.take_nil, List.all_cons, List.all_nil, Bool.and_true, Bool.true_and, Nat.mul_one, List.singleton_append, Int.le_refl, Nat.le_refl, vLen_of, hs, hn, c29_0, hf]
end Go.Proofs.Ytccepmhhilhajaa.K

/- Small functions of the trees. -/
set_option linter.unusedVariables false
set_option linter.unusedSimpArgs false
set_option maxRecDepth 100000
namespace Go.Proofs.Ytccepmhhilhajaa.K
open Go Go.A

theorem call64 (l : List (BitVec 8)) (hl : l.length < 8796093022208) (h : Heap) (v : V) (hv : rc 1 h v = some (cu8 l)) :
    ∃ v' g, (run T).call 64 [v] none h = some (.ret v', none, h ++ g) ∧ Own h.length 1 (h ++ g) v' (cu8 (0 :: l)) := by
  have hvl : lenOf v = l.length := by have := rc_len hv; rw [cu8_len] at this; omega
  have o0 : Own h.length 1 (h ++ [.cells .ex [u8 0]]) (.sl 1 h.length 0 1 1) (cu8 [0]) := Own.mk (m := .ex) (Nat.le_refl _) (by rw [blk_get0]; rfl) (.inl rfl) rfl
  obtain ⟨v', g, e1, o1, -⟩ := app_own' (bts := 1) (by omega) (by simp) o0 (rc_app hv _) (cu8_one _) (by rw [hvl]; simp only [lenOf]; omega) (by rw [hvl]; simp only [lenOf]; omega) h (take_zero _ _)
  rw [cu8_app] at o1
  refine ⟨v', g, ?_, o1⟩
  rw [call_gc0 fn64]
  simp -implicitDefEqProofs only [runEqs, List.zipIdx_cons, List.zipIdx_nil, List.map_cons, List.map_nil, Nat.zero_add, Nat.add_zero, Nat.zero_mul, Nat.reduceAdd, Nat.reduceMul, Nat.reduceBEq, Nat.reduceLT, Nat.reduceSub, Option.map_some, Option.map_none, Option.isSome_some, Option.isSome_none, Bool.not_true, Bool.not_false, Bool.true_or, Bool.false_or, Bool.or_true, List.getElem?_cons_zero, List.getElem?_cons_succ, List.set_cons_zero, List.set_cons_succ, List.length_cons, List.length_nil, List.length_append, List.append_assoc, List.cons_append, List.nil_append, List.zip_cons_cons, List.zip_nil_right, Int.reduceAdd, Int.reduceSub, Int.reduceMul, Int.reduceLT, Int.reduceLE, Int.reduceNeg, Int.reduceToNat, Int.zero_add, Int.add_zero, decide_true, decide_false, Nat.reduceLeDiff, Nat.min_self, List.drop_succ_cons, List.drop_zero, List.drop_nil, List.take_succ_cons, List.take_zero, List.take_nil, List.all_cons, List.all_nil, Bool.and_true, Bool.true_and, Nat.mul_one, List.singleton_append, Int.le_refl, Nat.le_refl, c64, r64, ok_u8, e1]
theorem call66 (l : List (BitVec 8)) (hl : l.length < 8796093022208) (h : Heap) (v : V) (hv : rc 1 h v = some (cu8 l)) :
    ∃ v' g, (run T).call 66 [v] none h = some (.ret v', none, h ++ g) ∧ Own h.length 1 (h ++ g) v' (cu8 (0 :: l)) := by
  have hvl : lenOf v = l.length := by have := rc_len hv; rw [cu8_len] at this; omega
  have o0 : Own h.length 1 (h ++ [.cells .ex [u8 0]]) (.sl 1 h.length 0 1 1) (cu8 [0]) := Own.mk (m := .ex) (Nat.le_refl _) (by rw [blk_get0]; rfl) (.inl rfl) rfl
  obtain ⟨v', g, e1, o1, -⟩ := app_own' (bts := 1) (by omega) (by simp) o0 (rc_app hv _) (cu8_one _) (by rw [hvl]; simp only [lenOf]; omega) (by rw [hvl]; simp only [lenOf]; omega) h (take_zero _ _)
  rw [cu8_app] at o1
  refine ⟨v', g, ?_, o1⟩
  rw [call_gc0 fn66]
  simp -implicitDefEqProofs only [runEqs, List.zipIdx_cons, List.zipIdx_nil, List.map_cons, List.map_nil, Nat.zero_add, Nat.add_zero, Nat.zero_mul, Nat.reduceAdd, Nat.reduceMul, Nat.reduceBEq, Nat.reduceLT, Nat.reduceSub, Option.map_some, Option.map_none, Option.isSome_some, Option.isSome_none, Bool.not_true, Bool.not_false, Bool.true_or, Bool.false_or, Bool.or_true, List.getElem?_cons_zero, List.getElem?_cons_succ, List.set_cons_zero, List.set_cons_succ, List.length_cons, List.length_nil, List.length_append, List.append_assoc, List.cons_append, List.nil_append, List.zip_cons_cons, List.zip_nil_right, Int.reduceAdd, Int.reduceSub, Int.reduceMul, Int.reduceLT, Int.reduceLE, Int.reduceNeg, Int.reduceToNat, Int.zero_add, Int.add_zero, decide_true, decide_false, Nat.reduceLeDiff, Nat.min_self, List.drop_succ_cons, List.drop_zero, List.drop_nil, List.take_succ_cons, List.take_zero, List.take_nil, List.all_cons, List.all_nil, Bool.and_true, Bool.true_and, Nat.mul_one, List.singleton_append, Int.le_refl, Nat.le_refl, c66, r66, ok_u8, e1]

theorem slArr_all (n e b o : Nat) : vArr n e (.ptr b o) none none none = some (.sl e b o n n) := by
  rw [vArr_eq, bounds_eq]
  simp only [on_none, Option.isSome_none, Bool.not_false, Bool.true_or]
  rw [bd_some _ _ _ _ (Nat.zero_le _) (Nat.le_refl _) (Nat.le_refl _)]
  simp [kSl]

theorem pair_app (a b : List (BitVec 8)) (ha : a.length = 16) (hb : b.length = 16) (h : Heap) : ∃ v1 g1 v2 g2,
    evApp 1 1 (h ++ [.cells .ex (cu8 a), .cells .ex (cu8 b), .cells .ex [u8 1]]) (.sl 1 (h.length + 2) 0 1 1) (.sl 1 h.length 0 16 16) = some (v1, h ++ .cells .ex (cu8 a) :: .cells .ex (cu8 b) :: g1) ∧
    evApp 1 1 (h ++ .cells .ex (cu8 a) :: .cells .ex (cu8 b) :: g1) v1 (.sl 1 (h.length + 1) 0 16 16) = some (v2, h ++ .cells .ex (cu8 a) :: .cells .ex (cu8 b) :: g2) ∧
    Own (h.length + 2) 1 (h ++ .cells .ex (cu8 a) :: .cells .ex (cu8 b) :: g2) v2 (cu8 (1 :: (a ++ b))) := by
  have o0 : Own (h.length + 2) 1 (h ++ [.cells .ex (cu8 a), .cells .ex (cu8 b), .cells .ex [u8 1]]) (.sl 1 (h.length + 2) 0 1 1) (cu8 [1]) := Own.mk (m := .ex) (Nat.le_refl _) (by rw [blk_get]; rfl) (.inl rfl) rfl
  have ra : ∀ X, rc 1 (h ++ .cells .ex (cu8 a) :: .cells .ex (cu8 b) :: X) (.sl 1 h.length 0 16 16) = some (cu8 a) := fun X => rc_newAt 1 _ .ex _ 16 _ (by rw [cu8_len, ha]) (by rw [blk_get0]; rfl)
  have rb : ∀ X, rc 1 (h ++ .cells .ex (cu8 a) :: .cells .ex (cu8 b) :: X) (.sl 1 (h.length + 1) 0 16 16) = some (cu8 b) := fun X => rc_newAt 1 _ .ex _ 16 _ (by rw [cu8_len, hb]) (by rw [blk_get]; rfl)
  obtain ⟨v1, g1, e1, o1, n1⟩ := app_own' (bts := 1) (by omega) (by simp) o0 (ra _) (cu8_one _) (by simp only [lenOf]; omega) (by simp only [lenOf]; omega) _ (take_two _ _ _ _)
  simp only [List.append_assoc, List.cons_append, List.nil_append, cu8_app] at e1 o1
  obtain ⟨v2, g2, e2, o2, n2⟩ := app_own' (bts := 1) (by omega) (by simp) o1 (rb _) (cu8_one _) (by rw [n1]; simp only [lenOf]; omega) (by rw [n1]; simp only [lenOf]; omega) _ (take_two _ _ _ _)
  simp only [List.append_assoc, List.cons_append, List.nil_append, cu8_app] at e2 o2
  exact ⟨v1, g1, v2, g2, e1, e2, o2⟩

theorem call65 (a b : List (BitVec 8)) (ha : a.length = 16) (hb : b.length = 16) (h : Heap) :
    ∃ v' g, (run T).call 65 [.agg (cu8 a), .agg (cu8 b)] none h = some (.ret v', none, h ++ g) ∧ Own h.length 1 (h ++ g) v' (cu8 (1 :: (a ++ b))) := by
  obtain ⟨v1, g1, v2, g2, e1, e2, o2⟩ := pair_app a b ha hb h
  refine ⟨v2, _, ?_, o2.low (by omega)⟩
  rw [call_gc0 fn65]
  simp -implicitDefEqProofs only [runEqs, List.zipIdx_cons, List.zipIdx_nil, List.map_cons, List.map_nil, Nat.zero_add, Nat.add_zero, Nat.zero_mul, Nat.reduceAdd, Nat.reduceMul, Nat.reduceBEq, Nat.reduceLT, Nat.reduceSub, Option.map_some, Option.map_none, Option.isSome_some, Option.isSome_none, Bool.not_true, Bool.not_false, Bool.true_or, Bool.false_or, Bool.or_true, List.getElem?_cons_zero, List.getElem?_cons_succ, List.set_cons_zero, List.set_cons_succ, List.length_cons, List.length_nil, List.length_append, List.append_assoc, List.cons_append, List.nil_append, List.zip_cons_cons, List.zip_nil_right, Int.reduceAdd, Int.reduceSub, Int.reduceMul, Int.reduceLT, Int.reduceLE, Int.reduceNeg, Int.reduceToNat, Int.zero_add, Int.add_zero, decide_true, decide_false, Nat.reduceLeDiff, Nat.min_self, List.drop_succ_cons, List.drop_zero, List.drop_nil, List.take_succ_cons, List.take_zero, List.take_nil, List.all_cons, List.all_nil, Bool.and_true, Bool.true_and, Nat.mul_one, List.singleton_append, Int.le_refl, Nat.le_refl, c65, r65, ok_u8, slArr_all, e1, e2]
theorem call68 (a b : List (BitVec 8)) (ha : a.length = 16) (hb : b.length = 16) (h : Heap) :
    ∃ v' g, (run T).call 68 [.agg (cu8 a), .agg (cu8 b)] none h = some (.ret v', none, h ++ g) ∧ Own h.length 1 (h ++ g) v' (cu8 (1 :: (a ++ b))) := by
  obtain ⟨v1, g1, v2, g2, e1, e2, o2⟩ := pair_app a b ha hb h
  refine ⟨v2, _, ?_, o2.low (by omega)⟩
  rw [call_gc0 fn68]
  simp -implicitDefEqProofs only [runEqs, List.zipIdx_cons, List.zipIdx_nil, List.map_cons, List.map_nil, Nat.zero_add, Nat.add_zero, Nat.zero_mul, Nat.reduceAdd, Nat.reduceMul, Nat.reduceBEq, Nat.reduceLT, Nat.reduceSub, Option.map_some, Option.map_none, Option.isSome_some, Option.isSome_none, Bool.not_true, Bool.not_false, Bool.true_or, Bool.false_or, Bool.or_true, List.getElem?_cons_zero, List.getElem?_cons_succ, List.set_cons_zero, List.set_cons_succ, List.length_cons, List.length_nil, List.length_append, List.append_assoc, List.cons_append, List.nil_append, List.zip_cons_cons, List.zip_nil_right, Int.reduceAdd, Int.reduceSub, Int.reduceMul, Int.reduceLT, Int.reduceLE, Int.reduceNeg, Int.reduceToNat, Int.zero_add, Int.add_zero, decide_true, decide_false, Nat.reduceLeDiff, Nat.min_self, List.drop_succ_cons, List.drop_zero, List.drop_nil, List.take_succ_cons, List.take_zero, List.take_nil, List.all_cons, List.all_nil, Bool.and_true, Bool.true_and, Nat.mul_one, List.singleton_append, Int.le_refl, Nat.le_refl, c68, r68, ok_u8, slArr_all, e1, e2]

/-- The greatest power of 2 below n, from k on. -/
def halfK : Nat → Nat → Nat → Nat
  | 0, _, k => k
  | f + 1, n, k => if 2 * k < n then halfK f n (2 * k) else k
def half (n : Nat) : Nat := halfK n n 1
theorem halfK_bd : ∀ (f n k : Nat), 0 < k → k < n → 0 < halfK f n k ∧ halfK f n k < n
  | 0, n, k, h1, h2 => ⟨h1, h2⟩
  | f + 1, n, k, h1, h2 => by
    unfold halfK
    split
    · exact halfK_bd f n (2 * k) (by omega) (by omega)
    · exact ⟨h1, h2⟩
theorem half_bd (n : Nat) (h : 1 < n) : 0 < half n ∧ half n < n := halfK_bd n n 1 (by omega) h

theorem loopHalf (c : ACode) (hc1 : ∀ (n k : Nat) (h : Heap), n < 4611686018427387904 → 0 < k → 2 * k < n → Nxt (execC (run T) c ⟨[0, 3].zip [i64 n, i64 k], [], some none⟩ h) [0, 3] [i64 n, i64 ((2 * k : Nat) : Int)] [] (some none) h) (n : Nat) (hn : n < 4611686018427387904) (h : Heap) :
    ∀ (f k : Nat), 0 < k → n ≤ k + f → ∀ t, kK [0, 3] t = [(0, i64 n), (3, i64 k)] → execC (run T) (.loop (.seq (.keep [0, 3]) c)) ⟨t, [], some none⟩ h =
      kLp T (execC (run T) c ⟨[(0, i64 n), (3, i64 (halfK f n k))], [], some none⟩ h) (.seq (.keep [0, 3]) c) := by
  intro f
  induction f with
  | zero =>
    intro k hk hf t ht
    exact loop_to2 (T := T) (L := [0, 3]) (c := c) (d := []) (u := some none) (fun _ => [i64 n, i64 k]) (fun _ => h) 0 (fun i hi => by omega) rfl rfl rfl rfl t ht
  | succ f ih =>
    intro k hk hf t ht
    unfold halfK
    split
    · rename_i h2
      obtain ⟨t', h3, h4⟩ := hc1 n k h hn hk h2
      have h5 := ih (2 * k) (by omega) (by omega) t' h4
      have h6 := loop_to2 (T := T) (L := [0, 3]) (c := c) (d := []) (u := some none) (fun _ => [i64 n, i64 k]) (fun _ => h) 0 (fun i hi => by omega) rfl rfl rfl rfl t ht
      rw [h6]
      rw [h3, kLp_norm]
      exact h5
    · exact loop_to2 (T := T) (L := [0, 3]) (c := c) (d := []) (u := some none) (fun _ => [i64 n, i64 k]) (fun _ => h) 0 (fun i hi => by omega) rfl rfl rfl rfl t ht
theorem halfK_end : ∀ (f n k : Nat), 0 < k → n ≤ k + f → ¬ 2 * halfK f n k < n
  | 0, n, k, h1, h2 => by simp only [halfK]; omega
  | f + 1, n, k, h1, h2 => by
    unfold halfK
    split
    · exact halfK_end f n (2 * k) (by omega) (by omega)
    · assumption

theorem call50 (n : Nat) (hn : n < 2305843009213693952) (h : Heap) : (run T).call 50 [i64 n] none h = some (.ret (i64 (half n)), none, h) := by
  refine call_gc1 fn50 _ _ (h' := roH h) ?_ rfl
  have hlp := loopHalf c50_0 (fun n k h hn hk h2 => by
    have h3 : wr (2 * (k : Int)) = ((2 * k : Nat) : Int) := by rw [wr_id (by omega) (by omega)]; omega
    have h4 : wr ((k : Int) * 2) = ((2 * k : Nat) : Int) := by rw [wr_id (by omega) (by omega)]; omega
    have h5 : decide (((2 * k : Nat) : Int) < (n : Int)) = true := by simpa using by omega
    simp -implicitDefEqProofs only [runEqs, List.zipIdx_cons, List.zipIdx_nil, List.map_cons, List.map_nil, Nat.zero_add, Nat.add_zero, Nat.zero_mul, Nat.reduceAdd, Nat.reduceMul, Nat.reduceBEq, Nat.reduceLT, Nat.reduceSub, Option.map_some, Option.map_none, Option.isSome_some, Option.isSome_none, Bool.not_true, Bool.not_false, Bool.true_or, Bool.false_or, Bool.or_true, List.getElem?_cons_zero, List.getElem?_cons_succ, List.set_cons_zero, List.set_cons_succ, List.length_cons, List.length_nil, List.length_append, List.append_assoc, List.cons_append, List.nil_append, List.zip_cons_cons, List.zip_nil_right, Int.reduceAdd, Int.reduceSub, Int.reduceMul, Int.reduceLT, Int.reduceLE, Int.reduceNeg, Int.reduceToNat, Int.zero_add, Int.add_zero, decide_true, decide_false, Nat.reduceLeDiff, Nat.min_self, List.drop_succ_cons, List.drop_zero, List.drop_nil, List.take_succ_cons, List.take_zero, List.take_nil, List.all_cons, List.all_nil, Bool.and_true, Bool.true_and, Nat.mul_one, List.singleton_append, Int.le_refl, Nat.le_refl, c50_0, h3, h4, h5]
    exact nxt_some _ _ _ _ _ _ _ rfl rfl) n (by omega) (roH h) n 1 (by omega) (by omega)
  have he := halfK_end n n 1 (by omega) (by omega)
  have hb : halfK n n 1 ≤ n + 1 := by
    by_cases h1 : 1 < n
    · have := half_bd n h1; unfold half at this; omega
    · match n, h1 with
      | 0, _ => simp [halfK]
      | 1, _ => simp [halfK]
      | n + 2, h1 => omega
  unfold half
  generalize halfK n n 1 = k at *
  have h3 : wr (2 * (k : Int)) = ((2 * k : Nat) : Int) := by rw [wr_id (by omega) (by omega)]; omega
  have h5 : decide (((2 * k : Nat) : Int) < (n : Int)) = false := by simpa using by omega
  rw [show ((1 : Nat) : Int) = 1 from rfl] at hlp
  simp -implicitDefEqProofs only [runEqs, List.zipIdx_cons, List.zipIdx_nil, List.map_cons, List.map_nil, Nat.zero_add, Nat.add_zero, Nat.zero_mul, Nat.reduceAdd, Nat.reduceMul, Nat.reduceBEq, Nat.reduceLT, Nat.reduceSub, Option.map_some, Option.map_none, Option.isSome_some, Option.isSome_none, Bool.not_true, Bool.not_false, Bool.true_or, Bool.false_or, Bool.or_true, List.getElem?_cons_zero, List.getElem?_cons_succ, List.set_cons_zero, List.set_cons_succ, List.length_cons, List.length_nil, List.length_append, List.append_assoc, List.cons_append, List.nil_append, List.zip_cons_cons, List.zip_nil_right, Int.reduceAdd, Int.reduceSub, Int.reduceMul, Int.reduceLT, Int.reduceLE, Int.reduceNeg, Int.reduceToNat, Int.zero_add, Int.add_zero, decide_true, decide_false, Nat.reduceLeDiff, Nat.min_self, List.drop_succ_cons, List.drop_zero, List.drop_nil, List.take_succ_cons, List.take_zero, List.take_nil, List.all_cons, List.all_nil, Bool.and_true, Bool.true_and, Nat.mul_one, List.singleton_append, Int.le_refl, Nat.le_refl, c50, r50, hlp]
  simp -implicitDefEqProofs only [runEqs, List.zipIdx_cons, List.zipIdx_nil, List.map_cons, List.map_nil, Nat.zero_add, Nat.add_zero, Nat.zero_mul, Nat.reduceAdd, Nat.reduceMul, Nat.reduceBEq, Nat.reduceLT, Nat.reduceSub, Option.map_some, Option.map_none, Option.isSome_some, Option.isSome_none, Bool.not_true, Bool.not_false, Bool.true_or, Bool.false_or, Bool.or_true, List.getElem?_cons_zero, List.getElem?_cons_succ, List.set_cons_zero, List.set_cons_succ, List.length_cons, List.length_nil, List.length_append, List.append_assoc, List.cons_append, List.nil_append, List.zip_cons_cons, List.zip_nil_right, Int.reduceAdd, Int.reduceSub, Int.reduceMul, Int.reduceLT, Int.reduceLE, Int.reduceNeg, Int.reduceToNat, Int.zero_add, Int.add_zero, decide_true, decide_false, Nat.reduceLeDiff, Nat.min_self, List.drop_succ_cons, List.drop_zero, List.drop_nil, List.take_succ_cons, List.take_zero, List.take_nil, List.all_cons, List.all_nil, Bool.and_true, Bool.true_and, Nat.mul_one, List.singleton_append, Int.le_refl, Nat.le_refl, c50_0, h3, h5]
theorem call67 (n : Nat) (hn : n < 2305843009213693952) (h : Heap) : (run T).call 67 [i64 n] none h = some (.ret (i64 (half n)), none, h) := by
  refine call_gc1 fn67 _ _ (h' := roH h) ?_ rfl
  have hlp := loopHalf c67_0 (fun n k h hn hk h2 => by
    have h3 : wr (2 * (k : Int)) = ((2 * k : Nat) : Int) := by rw [wr_id (by omega) (by omega)]; omega
    have h5 : decide (((2 * k : Nat) : Int) < (n : Int)) = true := by simpa using by omega
    simp -implicitDefEqProofs only [runEqs, List.zipIdx_cons, List.zipIdx_nil, List.map_cons, List.map_nil, Nat.zero_add, Nat.add_zero, Nat.zero_mul, Nat.reduceAdd, Nat.reduceMul, Nat.reduceBEq, Nat.reduceLT, Nat.reduceSub, Option.map_some, Option.map_none, Option.isSome_some, Option.isSome_none, Bool.not_true, Bool.not_false, Bool.true_or, Bool.false_or, Bool.or_true, List.getElem?_cons_zero, List.getElem?_cons_succ, List.set_cons_zero, List.set_cons_succ, List.length_cons, List.length_nil, List.length_append, List.append_assoc, List.cons_append, List.nil_append, List.zip_cons_cons, List.zip_nil_right, Int.reduceAdd, Int.reduceSub, Int.reduceMul, Int.reduceLT, Int.reduceLE, Int.reduceNeg, Int.reduceToNat, Int.zero_add, Int.add_zero, decide_true, decide_false, Nat.reduceLeDiff, Nat.min_self, List.drop_succ_cons, List.drop_zero, List.drop_nil, List.take_succ_cons, List.take_zero, List.take_nil, List.all_cons, List.all_nil, Bool.and_true, Bool.true_and, Nat.mul_one, List.singleton_append, Int.le_refl, Nat.le_refl, c67_0, h3, h5]
    exact nxt_some _ _ _ _ _ _ _ rfl rfl) n (by omega) (roH h) n 1 (by omega) (by omega)
  have he := halfK_end n n 1 (by omega) (by omega)
  have hb : halfK n n 1 ≤ n + 1 := by
    by_cases h1 : 1 < n
    · have := half_bd n h1; unfold half at this; omega
    · match n, h1 with
      | 0, _ => simp [halfK]
      | 1, _ => simp [halfK]
      | n + 2, h1 => omega
  unfold half
  generalize halfK n n 1 = k at *
  have h3 : wr (2 * (k : Int)) = ((2 * k : Nat) : Int) := by rw [wr_id (by omega) (by omega)]; omega
  have h5 : decide (((2 * k : Nat) : Int) < (n : Int)) = false := by simpa using by omega
  rw [show ((1 : Nat) : Int) = 1 from rfl] at hlp
  simp -implicitDefEqProofs only [runEqs, List.zipIdx_cons, List.zipIdx_nil, List.map_cons, List.map_nil, Nat.zero_add, Nat.add_zero, Nat.zero_mul, Nat.reduceAdd, Nat.reduceMul, Nat.reduceBEq, Nat.reduceLT, Nat.reduceSub, Option.map_some, Option.map_none, Option.isSome_some, Option.isSome_none, Bool.not_true, Bool.not_false, Bool.true_or, Bool.false_or, Bool.or_true, List.getElem?_cons_zero, List.getElem?_cons_succ, List.set_cons_zero, List.set_cons_succ, List.length_cons, List.length_nil, List.length_append, List.append_assoc, List.cons_append, List.nil_append, List.zip_cons_cons, List.zip_nil_right, Int.reduceAdd, Int.reduceSub, Int.reduceMul, Int.reduceLT, Int.reduceLE, Int.reduceNeg, Int.reduceToNat, Int.zero_add, Int.add_zero, decide_true, decide_false, Nat.reduceLeDiff, Nat.min_self, List.drop_succ_cons, List.drop_zero, List.drop_nil, List.take_succ_cons, List.take_zero, List.take_nil, List.all_cons, List.all_nil, Bool.and_true, Bool.true_and, Nat.mul_one, List.singleton_append, Int.le_refl, Nat.le_refl, c67, r67, hlp]
  simp -implicitDefEqProofs only [runEqs, List.zipIdx_cons, List.zipIdx_nil, List.map_cons, List.map_nil, Nat.zero_add, Nat.add_zero, Nat.zero_mul, Nat.reduceAdd, Nat.reduceMul, Nat.reduceBEq, Nat.reduceLT, Nat.reduceSub, Option.map_some, Option.map_none, Option.isSome_some, Option.isSome_none, Bool.not_true, Bool.not_false, Bool.true_or, Bool.false_or, Bool.or_true, List.getElem?_cons_zero, List.getElem?_cons_succ, List.set_cons_zero, List.set_cons_succ, List.length_cons, List.length_nil, List.length_append, List.append_assoc, List.cons_append, List.nil_append, List.zip_cons_cons, List.zip_nil_right, Int.reduceAdd, Int.reduceSub, Int.reduceMul, Int.reduceLT, Int.reduceLE, Int.reduceNeg, Int.reduceToNat, Int.zero_add, Int.add_zero, decide_true, decide_false, Nat.reduceLeDiff, Nat.min_self, List.drop_succ_cons, List.drop_zero, List.drop_nil, List.take_succ_cons, List.take_zero, List.take_nil, List.all_cons, List.all_nil, Bool.and_true, Bool.true_and, Nat.mul_one, List.singleton_append, Int.le_refl, Nat.le_refl, c67_0, h3, h5]
end Go.Proofs.Ytccepmhhilhajaa.K

/- The node of some leaves. -/
set_option linter.unusedVariables false
set_option linter.unusedSimpArgs false
set_option maxRecDepth 100000
namespace Go.Proofs.Ytccepmhhilhajaa.K
open Go Go.A

/-- A list of lists of bytes in memory. -/
def Lv (h : Heap) (v : V) (ls : List (List (BitVec 8))) : Prop :=
  ∃ vs, rc 1 h v = some vs ∧ vs.length = ls.length ∧ ∀ i (hi : i < ls.length), ∃ w, vs[i]? = some w ∧ rc 1 h w = some (cu8 ls[i])
theorem Lv.app {h : Heap} {v : V} {ls : List (List (BitVec 8))} (l : Lv h v ls) (x : Heap) : Lv (h ++ x) v ls := by
  obtain ⟨vs, h1, h2, h3⟩ := l
  exact ⟨vs, rc_app h1 x, h2, fun i hi => by obtain ⟨w, a, b⟩ := h3 i hi; exact ⟨w, a, rc_app b x⟩⟩
theorem Lv.ro {h : Heap} {v : V} {ls : List (List (BitVec 8))} (l : Lv h v ls) : Lv (roH h) v ls := by
  obtain ⟨vs, h1, h2, h3⟩ := l
  exact ⟨vs, rc_ro h1, h2, fun i hi => by obtain ⟨w, a, b⟩ := h3 i hi; exact ⟨w, a, rc_ro b⟩⟩
theorem Lv.len {h : Heap} {v : V} {ls : List (List (BitVec 8))} (l : Lv h v ls) : lenOf v = ls.length := by
  obtain ⟨vs, h1, h2, h3⟩ := l
  have := rc_len h1
  omega
theorem Lv.isS {h : Heap} {v : V} {ls : List (List (BitVec 8))} (l : Lv h v ls) : A.isS v = true := by
  obtain ⟨vs, h1, h2, h3⟩ := l
  exact rc_isS h1
theorem Lv.at {h : Heap} {v : V} {ls : List (List (BitVec 8))} (l : Lv h v ls) (i : Nat) (hi : i < ls.length) : ∃ w, (∀ x, kAt (offOf v + i) (cellsAt (h ++ x) (blkOf v)) = some w) ∧ kAt (offOf v + i) (cellsAt h (blkOf v)) = some w ∧ rc 1 h w = some (cu8 ls[i]) := by
  obtain ⟨vs, h1, h2, h3⟩ := l
  obtain ⟨w, a, b⟩ := h3 i hi
  exact ⟨w, fun x => by rw [rc_at_app h1 x i (by omega), a], by rw [rc_at h1 i (by omega), a], b⟩
theorem Lv.sl {h : Heap} {v : V} {ls : List (List (BitVec 8))} (l : Lv h v ls) (a b : Nat) (hab : a ≤ b) (hb : b ≤ ls.length) : Lv h (slc 1 v a b) ((ls.take b).drop a) := by
  have hl := l.len
  obtain ⟨vs, h1, h2, h3⟩ := l
  have := rc_slc h1 a b hab (by omega)
  simp only [Nat.mul_one] at this
  refine ⟨_, this, by simp [h2], fun i hi => ?_⟩
  simp only [List.length_drop, List.length_take] at hi
  obtain ⟨w, c, d⟩ := h3 (a + i) (by omega)
  refine ⟨w, ?_, ?_⟩
  · rw [List.getElem?_drop, List.getElem?_take, if_pos (by omega), c]
  · rw [d]; simp
theorem Lv.lo {h : Heap} {v : V} {ls : List (List (BitVec 8))} (l : Lv h v ls) (a : Nat) (ha : a ≤ ls.length) : vSl 1 v (some (i64 a)) none none = some (slc 1 v a ls.length) ∧ Lv h (slc 1 v a ls.length) (ls.drop a) := by
  have hl := l.len
  have h1 := l.sl a ls.length ha (Nat.le_refl _)
  rw [List.take_length] at h1
  refine ⟨?_, h1⟩
  obtain ⟨vs, h1, h2, h3⟩ := l
  have := sl_lo h1 (a : Int) (by omega) (by omega)
  rw [this, hl]; rfl
theorem Lv.hi {h : Heap} {v : V} {ls : List (List (BitVec 8))} (l : Lv h v ls) (a : Nat) (ha : a ≤ ls.length) : vSl 1 v none (some (i64 a)) none = some (slc 1 v 0 a) ∧ Lv h (slc 1 v 0 a) (ls.take a) := by
  have hl := l.len
  have h1 := l.sl 0 a (Nat.zero_le _) ha
  rw [List.drop_zero] at h1
  refine ⟨?_, h1⟩
  obtain ⟨vs, h1, h2, h3⟩ := l
  have := sl_hi h1 (a : Int) (by omega) (by omega)
  rw [this]; rfl

def topF : Nat → List (List (BitVec 8)) → List (BitVec 8)
  | 0, _ => []
  | f + 1, ls => match ls with
    | [] => digL [2]
    | [x] => digL (0 :: x)
    | x :: y :: r => digL (1 :: (topF f ((x :: y :: r).take (half (x :: y :: r).length)) ++ topF f ((x :: y :: r).drop (half (x :: y :: r).length))))
def topL (ls : List (List (BitVec 8))) : List (BitVec 8) := topF (ls.length + 1) ls
theorem topF_two (f : Nat) (ls : List (List (BitVec 8))) (h : 1 < ls.length) : topF (f + 1) ls = digL (1 :: (topF f (ls.take (half ls.length)) ++ topF f (ls.drop (half ls.length)))) := by
  match ls, h with
  | x :: y :: r, _ => rfl
theorem topF_any : ∀ (f : Nat) (ls : List (List (BitVec 8))), ls.length < f → topF f ls = topL ls := by
  intro f
  induction f using Nat.strongRecOn with
  | ind f ih =>
    intro ls hf
    match f, hf with
    | f + 1, hf =>
      by_cases h : 1 < ls.length
      · have hb := half_bd _ h
        unfold topL
        rw [topF_two f ls h, topF_two _ ls h, ih f (by omega) _ (by simp; omega), ih f (by omega) _ (by simp; omega)]
        by_cases h2 : f = ls.length
        · subst h2
          rw [ih ls.length (by omega) _ (by simp; omega), ih ls.length (by omega) _ (by simp; omega)]
        · rw [ih ls.length (by omega) _ (by simp; omega), ih ls.length (by omega) _ (by simp; omega)]
      · match ls, h with
        | [], _ => rfl
        | [x], _ => rfl
        | x :: y :: r, h => simp at h
theorem topL_two (ls : List (List (BitVec 8))) (h : 1 < ls.length) : topL ls = digL (1 :: (topL (ls.take (half ls.length)) ++ topL (ls.drop (half ls.length)))) := by
  have hb := half_bd _ h
  have e : topL ls = topF (ls.length + 1) ls := rfl
  rw [e, topF_two _ ls h, topF_any _ _ (by simp; omega), topF_any _ _ (by simp; omega)]
theorem topL_len (ls : List (List (BitVec 8))) : (topL ls).length = 16 := by
  by_cases h : 1 < ls.length
  · rw [topL_two ls h]; exact digL_len _
  · match ls, h with
    | [], _ => exact digL_len _
    | [x], _ => exact digL_len _
    | x :: y :: r, h => simp at h

theorem call48 : ∀ (n : Nat) (ls : List (List (BitVec 8))), ls.length = n → n < 2305843009213693952 → (∀ x ∈ ls, x.length < 8796093022000) → ∀ (h : Heap) (v : V), Lv h v ls →
    (run T).call 48 [v] none h = some (.ret (.agg (cu8 (topL ls))), none, h) := by
  intro n
  induction n using Nat.strongRecOn with
  | ind n ih =>
    intro ls hn hsz hx h v hv
    have key : ∃ h', kF (run T) r48 (execC (run T) c48 (frame0 [v] none) (roH h)) = some (.ret (.agg (cu8 (topL ls))), none, h') := by
      replace hv := hv.ro
      generalize roH h = H at hv ⊢
      have hl := hv.len
      have hs := hv.isS
      match ls, hn with
      | [], hn =>
        have h39 := call39 [2] (by simp) (H ++ [.cells .ex (List.replicate 16 (u8 0)), .cells .ex [u8 2]]) (.sl 1 (H.length + 1) 0 1 1) (rc_newAt 1 _ .ex _ 1 _ rfl (by rw [blk_get]; rfl))
        have ht : topL [] = digL [2] := rfl
        have h16 := len16 _ (digL_len [2])
        have ht16 := take16 _ (digL_len [2])
        have hz : ((([] : List (List (BitVec 8))).length : Int) == 0) = true := rfl
        rw [ht]
        generalize digL [2] = d at *
        have h0 : lenOf v = 0 := hl
        have hz' : (0 : Int) == 0 := rfl
        simp -implicitDefEqProofs only [runEqs, List.zipIdx_cons, List.zipIdx_nil, List.map_cons, List.map_nil, Nat.zero_add, Nat.add_zero, Nat.zero_mul, Nat.reduceAdd, Nat.reduceMul, Nat.reduceBEq, Nat.reduceLT, Nat.reduceSub, Option.map_some, Option.map_none, Option.isSome_some, Option.isSome_none, Bool.not_true, Bool.not_false, Bool.true_or, Bool.false_or, Bool.or_true, List.getElem?_cons_zero, List.getElem?_cons_succ, List.set_cons_zero, List.set_cons_succ, List.length_cons, List.length_nil, List.length_append, List.append_assoc, List.cons_append, List.nil_append, List.zip_cons_cons, List.zip_nil_right, Int.reduceAdd, Int.reduceSub, Int.reduceMul, Int.reduceLT, Int.reduceLE, Int.reduceNeg, Int.reduceToNat, Int.zero_add, Int.add_zero, decide_true, decide_false, Nat.reduceLeDiff, Nat.min_self, List.drop_succ_cons, List.drop_zero, List.drop_nil, List.take_succ_cons, List.take_zero, List.take_nil, List.all_cons, List.all_nil, Bool.and_true, Bool.true_and, Nat.mul_one, List.singleton_append, Int.le_refl, Nat.le_refl, c48, r48, vLen_of, hs, h0, hz', h39, h16, ht16, List.length_replicate, cu8_one, ok_u8]
        exact ⟨_, rfl⟩
      | [x], hn =>
        have h0 : lenOf v = 1 := hl
        obtain ⟨w, hat, -, hw⟩ := hv.at 0 (by simp)
        have hat' := hat [.cells .ex (List.replicate 16 (u8 0))]
        rw [Nat.add_zero] at hat'
        obtain ⟨v', g, h64, o'⟩ := call64 x (by have := hx x (by simp); omega) _ w (rc_app hw [.cells .ex (List.replicate 16 (u8 0))])
        have h39 := call39 (0 :: x) (by have := hx x (by simp); rw [List.length_cons]; omega) _ v' o'.rcn
        simp only [List.append_assoc, List.cons_append, List.nil_append] at h64 h39
        have ht : topL [x] = digL (0 :: x) := rfl
        have h16 := len16 _ (digL_len (0 :: x))
        have ht16 := take16 _ (digL_len (0 :: x))
        rw [ht]
        generalize digL (0 :: x) = d at *
        have hz : ((1 : Int) == 0) = false := rfl
        have hz' : ((1 : Int) == 1) = true := rfl
        have hc1 : ((1 : Nat) : Int) = 1 := rfl
        have hi0 : vIS 1 v (some 0) = some (.ptr (blkOf v) (offOf v)) := by rw [vIS_of 1 0 (by omega)]; rfl
        have hi1 : (i64 0).nat? = some 0 := rfl
        simp -implicitDefEqProofs only [runEqs, List.zipIdx_cons, List.zipIdx_nil, List.map_cons, List.map_nil, Nat.zero_add, Nat.add_zero, Nat.zero_mul, Nat.reduceAdd, Nat.reduceMul, Nat.reduceBEq, Nat.reduceLT, Nat.reduceSub, Option.map_some, Option.map_none, Option.isSome_some, Option.isSome_none, Bool.not_true, Bool.not_false, Bool.true_or, Bool.false_or, Bool.or_true, List.getElem?_cons_zero, List.getElem?_cons_succ, List.set_cons_zero, List.set_cons_succ, List.length_cons, List.length_nil, List.length_append, List.append_assoc, List.cons_append, List.nil_append, List.zip_cons_cons, List.zip_nil_right, Int.reduceAdd, Int.reduceSub, Int.reduceMul, Int.reduceLT, Int.reduceLE, Int.reduceNeg, Int.reduceToNat, Int.zero_add, Int.add_zero, decide_true, decide_false, Nat.reduceLeDiff, Nat.min_self, List.drop_succ_cons, List.drop_zero, List.drop_nil, List.take_succ_cons, List.take_zero, List.take_nil, List.all_cons, List.all_nil, Bool.and_true, Bool.true_and, Nat.mul_one, List.singleton_append, Int.le_refl, Nat.le_refl, c48, r48, vLen_of, hs, h0, hc1, hz, hz', hi1, hi0, hat', h64, h39, h16, ht16, List.length_replicate, cu8_one, ok_u8]
        exact ⟨_, rfl⟩
      | x :: y :: r, hn =>
        generalize hls : x :: y :: r = ls at *
        have h1 : 1 < ls.length := by rw [← hls]; simp
        clear hls
        have hb := half_bd _ h1
        have h50 := call50 ls.length (by omega)
        rw [topL_two ls h1]
        generalize half ls.length = k at *
        obtain ⟨s1, l1⟩ := (hv.app [.cells .ex (List.replicate 16 (u8 0))]).hi k (by omega)
        obtain ⟨s2, l2⟩ := (hv.app [.cells .ex (List.replicate 16 (u8 0))]).lo k (by omega)
        have i1 := ih (ls.take k).length (by rw [List.length_take]; exact Nat.lt_of_le_of_lt (Nat.min_le_left _ _) (Nat.lt_of_lt_of_eq hb.2 hn)) (ls.take k) rfl (by rw [List.length_take, Nat.min_eq_left (by omega)]; omega) (fun z hz => hx z (List.mem_of_mem_take hz)) _ _ l1
        have i2 := ih (ls.drop k).length (by rw [List.length_drop]; exact Nat.lt_of_lt_of_eq (Nat.sub_lt (by omega) hb.1) hn) (ls.drop k) rfl (by rw [List.length_drop]; omega) (fun z hz => hx z (List.mem_of_mem_drop hz)) _ _ l2
        obtain ⟨v', g, h65, o'⟩ := call65 (topL (ls.take k)) (topL (ls.drop k)) (topL_len _) (topL_len _) (H ++ [.cells .ex (List.replicate 16 (u8 0))])
        have h39 := call39 _ (by simp [topL_len]) _ v' o'.rcn
        simp only [List.append_assoc, List.cons_append, List.nil_append] at h65 h39
        have h16 := len16 _ (digL_len (1 :: (topL (ls.take k) ++ topL (ls.drop k))))
        have ht16 := take16 _ (digL_len (1 :: (topL (ls.take k) ++ topL (ls.drop k))))
        generalize digL (1 :: (topL (ls.take k) ++ topL (ls.drop k))) = d at *
        have hz : ((ls.length : Int) == 0) = false := by simp only [beq_eq_false_iff_ne, ne_eq]; omega
        have hz' : ((ls.length : Int) == 1) = false := by simp only [beq_eq_false_iff_ne, ne_eq]; omega
        simp -implicitDefEqProofs only [runEqs, List.zipIdx_cons, List.zipIdx_nil, List.map_cons, List.map_nil, Nat.zero_add, Nat.add_zero, Nat.zero_mul, Nat.reduceAdd, Nat.reduceMul, Nat.reduceBEq, Nat.reduceLT, Nat.reduceSub, Option.map_some, Option.map_none, Option.isSome_some, Option.isSome_none, Bool.not_true, Bool.not_false, Bool.true_or, Bool.false_or, Bool.or_true, List.getElem?_cons_zero, List.getElem?_cons_succ, List.set_cons_zero, List.set_cons_succ, List.length_cons, List.length_nil, List.length_append, List.append_assoc, List.cons_append, List.nil_append, List.zip_cons_cons, List.zip_nil_right, Int.reduceAdd, Int.reduceSub, Int.reduceMul, Int.reduceLT, Int.reduceLE, Int.reduceNeg, Int.reduceToNat, Int.zero_add, Int.add_zero, decide_true, decide_false, Nat.reduceLeDiff, Nat.min_self, List.drop_succ_cons, List.drop_zero, List.drop_nil, List.take_succ_cons, List.take_zero, List.take_nil, List.all_cons, List.all_nil, Bool.and_true, Bool.true_and, Nat.mul_one, List.singleton_append, Int.le_refl, Nat.le_refl, c48, r48, vLen_of, hs, hl, hz, hz', h50, s1, s2, i1, i2, h65, h39, h16, ht16, List.length_replicate, cu8_one]
        exact ⟨_, rfl⟩
    obtain ⟨h', hk⟩ := key
    exact call_gc1 fn48 _ _ hk (by simp only [V.bel, bel_cu8])

def zer16 : List (BitVec 8) := List.replicate 16 0
theorem zer16_c : cu8 zer16 = List.replicate 16 (u8 0) := by rw [zer16, cu8, List.map_replicate]
def rootV (ls : List (List (BitVec 8))) : List (BitVec 8) := if 4096 < ls.length then zer16 else topL ls
def rootE (ls : List (List (BitVec 8))) : Int := if 4096 < ls.length then 2 else 0
theorem call25 (ls : List (List (BitVec 8))) (hsz : ls.length < 2305843009213693952) (hx : ls.length ≤ 4096 → ∀ x ∈ ls, x.length < 8796093022000) (h : Heap) (v : V) (hv : Lv h v ls) :
    (run T).call 25 [v] none h = some (.ret (.tup [.agg (cu8 (rootV ls)), i64 (rootE ls)]), none, h) := by
  have key : ∃ h', kF (run T) r25 (execC (run T) c25 (frame0 [v] none) (roH h)) = some (.ret (.tup [.agg (cu8 (rootV ls)), i64 (rootE ls)]), none, h') := by
    replace hv := hv.ro
    generalize roH h = H at hv ⊢
    have hl := hv.len
    have hs := hv.isS
    by_cases hc : 4096 < ls.length
    · rw [rootV, rootE, if_pos hc, if_pos hc, zer16_c]
      have hg : decide ((ls.length : Int) > 4096) = true := by simp; omega
      simp -implicitDefEqProofs only [runEqs, List.zipIdx_cons, List.zipIdx_nil, List.map_cons, List.map_nil, Nat.zero_add, Nat.add_zero, Nat.zero_mul, Nat.reduceAdd, Nat.reduceMul, Nat.reduceBEq, Nat.reduceLT, Nat.reduceSub, Option.map_some, Option.map_none, Option.isSome_some, Option.isSome_none, Bool.not_true, Bool.not_false, Bool.true_or, Bool.false_or, Bool.or_true, List.getElem?_cons_zero, List.getElem?_cons_succ, List.set_cons_zero, List.set_cons_succ, List.length_cons, List.length_nil, List.length_append, List.append_assoc, List.cons_append, List.nil_append, List.zip_cons_cons, List.zip_nil_right, Int.reduceAdd, Int.reduceSub, Int.reduceMul, Int.reduceLT, Int.reduceLE, Int.reduceNeg, Int.reduceToNat, Int.zero_add, Int.add_zero, decide_true, decide_false, Nat.reduceLeDiff, Nat.min_self, List.drop_succ_cons, List.drop_zero, List.drop_nil, List.take_succ_cons, List.take_zero, List.take_nil, List.all_cons, List.all_nil, Bool.and_true, Bool.true_and, Nat.mul_one, List.singleton_append, Int.le_refl, Nat.le_refl, c25, r25, vLen_of, hs, hl, hg, List.length_replicate, List.all_replicate, one_u8, ite_self]
      exact ⟨_, rfl⟩
    · rw [rootV, rootE, if_neg hc, if_neg hc]
      have hg : decide ((ls.length : Int) > 4096) = false := by simp; omega
      have h48 := call48 _ ls rfl hsz (hx (by omega)) _ v (hv.app [.cells .ex (List.replicate 16 (u8 0))])
      have h16 := len16 _ (topL_len ls)
      have ht16 := take16 _ (topL_len ls)
      generalize topL ls = d at *
      simp -implicitDefEqProofs only [runEqs, List.zipIdx_cons, List.zipIdx_nil, List.map_cons, List.map_nil, Nat.zero_add, Nat.add_zero, Nat.zero_mul, Nat.reduceAdd, Nat.reduceMul, Nat.reduceBEq, Nat.reduceLT, Nat.reduceSub, Option.map_some, Option.map_none, Option.isSome_some, Option.isSome_none, Bool.not_true, Bool.not_false, Bool.true_or, Bool.false_or, Bool.or_true, List.getElem?_cons_zero, List.getElem?_cons_succ, List.set_cons_zero, List.set_cons_succ, List.length_cons, List.length_nil, List.length_append, List.append_assoc, List.cons_append, List.nil_append, List.zip_cons_cons, List.zip_nil_right, Int.reduceAdd, Int.reduceSub, Int.reduceMul, Int.reduceLT, Int.reduceLE, Int.reduceNeg, Int.reduceToNat, Int.zero_add, Int.add_zero, decide_true, decide_false, Nat.reduceLeDiff, Nat.min_self, List.drop_succ_cons, List.drop_zero, List.drop_nil, List.take_succ_cons, List.take_zero, List.take_nil, List.all_cons, List.all_nil, Bool.and_true, Bool.true_and, Nat.mul_one, List.singleton_append, Int.le_refl, Nat.le_refl, c25, r25, vLen_of, hs, hl, hg, h48, h16, ht16, List.length_replicate, cu8_one]
      exact ⟨_, rfl⟩
  obtain ⟨h', hk⟩ := key
  exact call_gc1 fn25 _ _ hk (by simp only [V.bel, belowL, bel_cu8, i64, Bool.and_true])
end Go.Proofs.Ytccepmhhilhajaa.K

/- The path of a leaf. -/
set_option linter.unusedVariables false
set_option linter.unusedSimpArgs false
set_option maxRecDepth 100000
namespace Go.Proofs.Ytccepmhhilhajaa.K
open Go Go.A

theorem own_wr {H g : Heap} {e : Nat} {v : V} {cs xs : List V} (ho : Own H.length e (H ++ g) v cs) (o : Nat) (h0 : 0 < xs.length) (hle : o + xs.length ≤ cs.length) (hx : xs.all V.one = true) :
    ∃ g', writeN (H ++ g) (blkOf v) (offOf v + o) xs = some (H ++ g') ∧ Own H.length e (H ++ g') v (cs.take o ++ xs ++ cs.drop (o + xs.length)) := by
  rcases ho with ⟨rfl, rfl⟩ | ⟨b, m, k, a1, a2, a3, a4, rfl⟩
  · rw [List.length_nil] at hle; omega
  · obtain ⟨j, rfl⟩ : ∃ j, b = H.length + j := ⟨b - H.length, by omega⟩
    rw [blk_get] at a2
    have hj : j < g.length := (List.getElem?_eq_some_iff.1 a2).1
    refine ⟨g.set j (.cells m (cs.take o ++ xs ++ cs.drop (o + xs.length))), ?_, ?_⟩
    · simp only [blkOf_sl, offOf_sl, Nat.zero_add]
      rw [wr_app]
      simp only [writeN, a2]
      rw [if_pos ⟨by rcases a3 with rfl | rfl <;> simp, hle, hx⟩]
      rfl
    · refine .inr ⟨H.length + j, m, k, a1, ?_, a3, ?_, rfl⟩
      · rw [blk_get, List.getElem?_set_self hj]
      · simp only [List.length_append, List.length_take, List.length_drop]; omega

theorem cdg_set : ∀ (l : List (List (BitVec 8))), all16 l → ∀ (i : Nat) (hi : i < l.length) (d : List (BitVec 8)), d.length = 16 → (cdg l).take (i * 16) ++ cu8 d ++ (cdg l).drop (i * 16 + 16) = cdg (l.set i d)
  | a :: l, h, 0, _, d, hd => by
    have h1 : (cu8 a).length = 16 := by rw [cu8_len]; exact h a (by simp)
    rw [cdg_cons, List.set_cons_zero, cdg_cons, Nat.zero_mul, List.take_zero, List.nil_append, Nat.zero_add, ← h1, List.drop_left]
  | a :: l, h, i + 1, hi, d, hd => by
    have h1 : (cu8 a).length = 16 := by rw [cu8_len]; exact h a (by simp)
    have h2 := cdg_set l (fun x hx => h x (by simp [hx])) i (by simpa using hi) d hd
    rw [cdg_cons, List.set_cons_succ, cdg_cons, ← h2, List.take_append, List.drop_append, h1, show (i + 1) * 16 - 16 = i * 16 by omega, show (i + 1) * 16 + 16 - 16 = i * 16 + 16 by omega,
      List.take_of_length_le (by omega), List.drop_of_length_le (l := cu8 a) (by omega), List.nil_append]
    simp only [List.append_assoc]

def wayF : Nat → List (List (BitVec 8)) → Nat → List (List (BitVec 8))
  | 0, _, _ => []
  | f + 1, ls, i => if ls.length ≤ 1 then [] else
    if i < half ls.length then wayF f (ls.take (half ls.length)) i ++ [topL (ls.drop (half ls.length))]
    else wayF f (ls.drop (half ls.length)) (i - half ls.length) ++ [topL (ls.take (half ls.length))]
def wayL (ls : List (List (BitVec 8))) (i : Nat) : List (List (BitVec 8)) := wayF ls.length ls i
theorem wayF_any : ∀ (f : Nat) (ls : List (List (BitVec 8))) (i : Nat), ls.length ≤ f → wayF f ls i = wayL ls i := by
  intro f
  induction f using Nat.strongRecOn with
  | ind f ih =>
    intro ls i hf
    match f, hf with
    | 0, hf => have : ls = [] := List.length_eq_zero_iff.1 (by omega)
               subst this; rfl
    | f + 1, hf =>
      by_cases h : ls.length ≤ 1
      · unfold wayL
        match ls, h with
        | [], _ => simp [wayF]
        | [x], _ => simp [wayF]
      · have hb := half_bd ls.length (by omega)
        obtain ⟨m, hm⟩ : ∃ m, ls.length = m + 1 := ⟨ls.length - 1, by omega⟩
        unfold wayL
        have e : wayF ls.length ls i = wayF (m + 1) ls i := by rw [hm]
        rw [e, wayF, wayF, if_neg h, if_neg h]
        have l1 : (ls.take (half ls.length)).length ≤ m := by rw [List.length_take]; have := Nat.min_le_left (half ls.length) ls.length; omega
        have l2 : (ls.drop (half ls.length)).length ≤ m := by rw [List.length_drop]; omega
        rw [ih f (by omega) _ _ (by omega), ih f (by omega) _ _ (by omega)]
        by_cases hfm : f = m
        · subst hfm
          rw [ih f (by omega) _ _ (by omega), ih f (by omega) _ _ (by omega)]
        · rw [ih m (by omega) _ _ (by omega), ih m (by omega) _ _ (by omega)]
theorem wayL_one (ls : List (List (BitVec 8))) (i : Nat) (h : ls.length ≤ 1) : wayL ls i = [] := by
  rw [← wayF_any (ls.length + 1) ls i (by omega), wayF, if_pos h]
theorem wayL_lt (ls : List (List (BitVec 8))) (i : Nat) (h : 1 < ls.length) (hi : i < half ls.length) : wayL ls i = wayL (ls.take (half ls.length)) i ++ [topL (ls.drop (half ls.length))] := by
  have hb := half_bd _ h
  rw [← wayF_any (ls.length + 1) ls i (by omega), wayF, if_neg (by omega), if_pos hi, wayF_any _ _ _ (by rw [List.length_take]; have := Nat.min_le_right (half ls.length) ls.length; omega)]
theorem wayL_ge (ls : List (List (BitVec 8))) (i : Nat) (h : 1 < ls.length) (hi : ¬ i < half ls.length) : wayL ls i = wayL (ls.drop (half ls.length)) (i - half ls.length) ++ [topL (ls.take (half ls.length))] := by
  have hb := half_bd _ h
  rw [← wayF_any (ls.length + 1) ls i (by omega), wayF, if_neg (by omega), if_neg hi, wayF_any _ _ _ (by rw [List.length_drop]; omega)]
theorem wayL_16 : ∀ (n : Nat) (ls : List (List (BitVec 8))) (i : Nat), ls.length ≤ n → all16 (wayL ls i) ∧ (wayL ls i).length < n + 1 := by
  intro n
  induction n using Nat.strongRecOn with
  | ind n ih =>
    intro ls i hn
    by_cases h : ls.length ≤ 1
    · rw [wayL_one ls i h]; exact ⟨fun x hx => by simp at hx, by simp⟩
    · have hb := half_bd ls.length (by omega)
      by_cases hi : i < half ls.length
      · obtain ⟨a, b⟩ := ih (n - 1) (by omega) (ls.take (half ls.length)) i (by rw [List.length_take]; have := Nat.min_le_left (half ls.length) ls.length; omega)
        rw [wayL_lt ls i (by omega) hi]
        refine ⟨fun x hx => ?_, by simp; omega⟩
        rcases List.mem_append.1 hx with hx | hx
        · exact a x hx
        · rw [List.mem_singleton.1 hx]; exact topL_len _
      · obtain ⟨a, b⟩ := ih (n - 1) (by omega) (ls.drop (half ls.length)) (i - half ls.length) (by rw [List.length_drop]; omega)
        rw [wayL_ge ls i (by omega) hi]
        refine ⟨fun x hx => ?_, by simp; omega⟩
        rcases List.mem_append.1 hx with hx | hx
        · exact a x hx
        · rw [List.mem_singleton.1 hx]; exact topL_len _

theorem bel_ok : True := trivial

/-- One step down. -/
theorem round27 (ls : List (List (BitVec 8))) (i : Nat) (h1 : 1 < ls.length) (hsz : ls.length ≤ 4096) (hx : ∀ x ∈ ls, x.length < 8796093022000) (hi : i < ls.length) (H g : Heap) (v out : V) (hv : Lv H v ls) (dn : List (List (BitVec 8))) (hd : all16 dn) (hdl : dn.length ≤ 10000) (ho : Own H.length 16 (H ++ g) out (cdg dn)) :
    ∃ v' ls' i' out' g' d, Nxt (execC (run T) c27_0 ⟨[0, 1, 6].zip [v, i64 i, out], [], some none⟩ (H ++ g)) [0, 1, 6] [v', i64 (i' : Nat), out'] [] (some none) (H ++ g') ∧ Lv H v' ls' ∧ ls'.length < ls.length ∧ (∀ x ∈ ls', x ∈ ls) ∧ i' < ls'.length ∧
      d.length = 16 ∧ Own H.length 16 (H ++ g') out' (cdg (dn ++ [d])) ∧ wayL ls i = wayL ls' i' ++ [d] := by
  have hl := hv.len
  have hs := hv.isS
  have hb := half_bd _ h1
  have h50 := call50 ls.length (by omega)
  have hg1 : decide ((ls.length : Int) > 1) = true := by simp; omega
  have wlt := wayL_lt ls i h1
  have wge := wayL_ge ls i h1
  generalize half ls.length = k at *
  obtain ⟨s1, l1⟩ := hv.hi k (by omega)
  obtain ⟨s2, l2⟩ := hv.lo k (by omega)
  have hol : lenOf out = dn.length := by have := ho.len; rw [cdg_len _ hd] at this; omega
  by_cases hik : i < k
  · have hg2 : decide ((i : Int) < (k : Int)) = true := by simpa using by omega
    have h48 := call48 _ (ls.drop k) rfl (by rw [List.length_drop]; omega) (fun z hz => hx z (List.mem_of_mem_drop hz)) _ _ (l2.app g)
    have h16 := topL_len (ls.drop k)
    have hw := wlt hik
    generalize topL (ls.drop k) = d at *
    have hl16 := len16 d h16
    obtain ⟨out', g', e1, e2, e3⟩ := app_own' (bts := 16) (by omega) (by simp) (ho.app [.cells .ex (cu8 d)]) (rc_new 16 (H ++ g) .ex (cu8 d) 1 (by rw [cu8_len, h16])) (cu8_one _)
      (by rw [hol]; simp only [lenOf]; omega) (by rw [hol]; simp only [lenOf]; omega) H (by rw [List.append_assoc]; exact take_zero _ _)
    rw [show cdg dn ++ cu8 d = cdg (dn ++ [d]) by rw [← cdg_app, cdg_cons, cdg_nil, List.append_nil]] at e2
    simp only [List.append_assoc, List.length_append] at e1
    refine ⟨_, ls.take k, i, out', g', d, ?_, l1, by rw [List.length_take]; have := Nat.min_le_left k ls.length; omega, fun x hx => List.mem_of_mem_take hx, by rw [List.length_take, Nat.min_eq_left (by omega)]; exact hik, h16, e2, hw⟩
    simp -implicitDefEqProofs only [runEqs, List.zipIdx_cons, List.zipIdx_nil, List.map_cons, List.map_nil, Nat.zero_add, Nat.add_zero, Nat.zero_mul, Nat.reduceAdd, Nat.reduceMul, Nat.reduceBEq, Nat.reduceLT, Nat.reduceSub, Option.map_some, Option.map_none, Option.isSome_some, Option.isSome_none, Bool.not_true, Bool.not_false, Bool.true_or, Bool.false_or, Bool.or_true, List.getElem?_cons_zero, List.getElem?_cons_succ, List.set_cons_zero, List.set_cons_succ, List.length_cons, List.length_nil, List.length_append, List.append_assoc, List.cons_append, List.nil_append, List.zip_cons_cons, List.zip_nil_right, Int.reduceAdd, Int.reduceSub, Int.reduceMul, Int.reduceLT, Int.reduceLE, Int.reduceNeg, Int.reduceToNat, Int.zero_add, Int.add_zero, decide_true, decide_false, Nat.reduceLeDiff, Nat.min_self, List.drop_succ_cons, List.drop_zero, List.drop_nil, List.take_succ_cons, List.take_zero, List.take_nil, List.all_cons, List.all_nil, Bool.and_true, Bool.true_and, Nat.mul_one, List.singleton_append, Int.le_refl, Nat.le_refl, c27_0, vLen_of, hs, hl, hg1, h50, hg2, s1, s2, h48, hl16, List.length_replicate, List.drop_replicate, List.replicate_zero, List.append_nil, Nat.sub_self, e1]
    exact nxt_some _ _ _ _ _ _ _ rfl rfl
  · have hg2 : decide ((i : Int) < (k : Int)) = false := by simpa using by omega
    have h48 := call48 _ (ls.take k) rfl (by rw [List.length_take]; have := Nat.min_le_left k ls.length; omega) (fun z hz => hx z (List.mem_of_mem_take hz)) _ _ (l1.app g)
    have h16 := topL_len (ls.take k)
    have hw := wge hik
    generalize topL (ls.take k) = d at *
    have hl16 := len16 d h16
    have hsb : wr ((i : Int) - (k : Int)) = ((i - k : Nat) : Int) := by rw [wr_id (by omega) (by omega)]; omega
    obtain ⟨out', g', e1, e2, e3⟩ := app_own' (bts := 16) (by omega) (by simp) (ho.app [.cells .ex (cu8 d)]) (rc_new 16 (H ++ g) .ex (cu8 d) 1 (by rw [cu8_len, h16])) (cu8_one _)
      (by rw [hol]; simp only [lenOf]; omega) (by rw [hol]; simp only [lenOf]; omega) H (by rw [List.append_assoc]; exact take_zero _ _)
    rw [show cdg dn ++ cu8 d = cdg (dn ++ [d]) by rw [← cdg_app, cdg_cons, cdg_nil, List.append_nil]] at e2
    simp only [List.append_assoc, List.length_append] at e1
    refine ⟨_, ls.drop k, i - k, out', g', d, ?_, l2, by rw [List.length_drop]; omega, fun x hx => List.mem_of_mem_drop hx, by rw [List.length_drop]; omega, h16, e2, hw⟩
    simp -implicitDefEqProofs only [runEqs, List.zipIdx_cons, List.zipIdx_nil, List.map_cons, List.map_nil, Nat.zero_add, Nat.add_zero, Nat.zero_mul, Nat.reduceAdd, Nat.reduceMul, Nat.reduceBEq, Nat.reduceLT, Nat.reduceSub, Option.map_some, Option.map_none, Option.isSome_some, Option.isSome_none, Bool.not_true, Bool.not_false, Bool.true_or, Bool.false_or, Bool.or_true, List.getElem?_cons_zero, List.getElem?_cons_succ, List.set_cons_zero, List.set_cons_succ, List.length_cons, List.length_nil, List.length_append, List.append_assoc, List.cons_append, List.nil_append, List.zip_cons_cons, List.zip_nil_right, Int.reduceAdd, Int.reduceSub, Int.reduceMul, Int.reduceLT, Int.reduceLE, Int.reduceNeg, Int.reduceToNat, Int.zero_add, Int.add_zero, decide_true, decide_false, Nat.reduceLeDiff, Nat.min_self, List.drop_succ_cons, List.drop_zero, List.drop_nil, List.take_succ_cons, List.take_zero, List.take_nil, List.all_cons, List.all_nil, Bool.and_true, Bool.true_and, Nat.mul_one, List.singleton_append, Int.le_refl, Nat.le_refl, c27_0, vLen_of, hs, hl, hg1, h50, hg2, s1, s2, h48, hl16, List.length_replicate, List.drop_replicate, List.replicate_zero, List.append_nil, Nat.sub_self, hsb, e1]
    exact nxt_some _ _ _ _ _ _ _ rfl rfl

/-! ### turning round -/
def swp (L : List (List (BitVec 8))) (a b : Nat) : List (List (BitVec 8)) := (L.set a (L.getD b [])).set b (L.getD a [])
def revK (L : List (List (BitVec 8))) : Nat → List (List (BitVec 8))
  | 0 => L
  | j + 1 => swp (revK L j) j (L.length - 1 - j)
theorem revK_len (L : List (List (BitVec 8))) : ∀ j, (revK L j).length = L.length
  | 0 => rfl
  | j + 1 => by simp [revK, swp, revK_len L j]
theorem revK_at (L : List (List (BitVec 8))) : ∀ j, 2 * j ≤ L.length → ∀ i, i < L.length → (revK L j)[i]? = if i < j ∨ L.length - j ≤ i then L[L.length - 1 - i]? else L[i]?
  | 0, _, i, hi => by simp [revK]; omega
  | j + 1, h, i, hi => by
    have ih := revK_at L j (by omega)
    have hlen := revK_len L j
    have e1 : (revK L j).getD (L.length - 1 - j) [] = L.getD (L.length - 1 - j) [] := by
      rw [List.getD_eq_getElem?_getD, ih _ (by omega), List.getD_eq_getElem?_getD]
      by_cases hc : L.length - 1 - j < j ∨ L.length - j ≤ L.length - 1 - j
      · omega
      · rw [if_neg hc]
    have e2 : (revK L j).getD j [] = L.getD j [] := by
      rw [List.getD_eq_getElem?_getD, ih _ (by omega), List.getD_eq_getElem?_getD]
      by_cases hc : j < j ∨ L.length - j ≤ j
      · omega
      · rw [if_neg hc]
    rw [revK, swp, e1, e2]
    by_cases hib : i = L.length - 1 - j
    · subst hib
      rw [List.getElem?_set_self (by simp; omega), if_pos (by omega), show L.length - 1 - (L.length - 1 - j) = j by omega, List.getD_eq_getElem?_getD, List.getElem?_eq_getElem (by omega)]; rfl
    · rw [List.getElem?_set_ne (by omega)]
      by_cases hij : i = j
      · subst hij
        rw [List.getElem?_set_self (by omega), if_pos (by omega), List.getD_eq_getElem?_getD, List.getElem?_eq_getElem (by omega)]; rfl
      · rw [List.getElem?_set_ne (by omega), ih i hi]
        by_cases hc : i < j ∨ L.length - j ≤ i
        · rw [if_pos hc, if_pos (by omega)]
        · rw [if_neg hc, if_neg (by omega)]
theorem revK_end (L : List (List (BitVec 8))) : revK L (L.length / 2) = L.reverse := by
  apply List.ext_getElem?
  intro i
  by_cases hi : i < L.length
  · rw [revK_at L _ (by omega) i hi, List.getElem?_reverse hi]
    by_cases hc : i < L.length / 2 ∨ L.length - L.length / 2 ≤ i
    · rw [if_pos hc]
    · rw [if_neg hc]
      congr 1; omega
  · rw [List.getElem?_eq_none (by rw [revK_len]; omega), List.getElem?_eq_none (by simp; omega)]
theorem all16_set (L : List (List (BitVec 8))) (h : all16 L) (i : Nat) (d : List (BitVec 8)) (hd : d.length = 16) : all16 (L.set i d) := fun x hx => by
  rcases List.mem_or_eq_of_mem_set hx with hx | rfl
  · exact h x hx
  · exact hd
theorem all16_rev (L : List (List (BitVec 8))) (h : all16 L) : ∀ j, 2 * j ≤ L.length → all16 (revK L j)
  | 0, _ => h
  | j + 1, hj => by
    have ih := all16_rev L h j (by omega)
    have hl := revK_len L j
    rw [revK, swp]
    refine all16_set _ (all16_set _ ih _ _ ?_) _ _ ?_
    · rw [List.getD_eq_getElem?_getD, List.getElem?_eq_getElem (by omega)]; exact ih _ (List.getElem_mem _)
    · rw [List.getD_eq_getElem?_getD, List.getElem?_eq_getElem (by omega)]; exact ih _ (List.getElem_mem _)

theorem round27b (L : List (List (BitVec 8))) (h16 : all16 L) (n j : Nat) (hn : L.length = n) (hj : j + j + 1 < n) (hsz : n ≤ 10000) (H g : Heap) (out : V) (ho : Own H.length 16 (H ++ g) out (cdg L)) :
    ∃ g', Nxt (execC (run T) c27_1 ⟨[6, 8, 9].zip [out, i64 j, i64 ((n : Int) - 1 - j)], [], some none⟩ (H ++ g)) [6, 8, 9] [out, i64 ((j + 1 : Nat) : Int), i64 ((n : Int) - 1 - ((j + 1 : Nat) : Int))] [] (some none) (H ++ g') ∧
      Own H.length 16 (H ++ g') out (cdg (swp L j (n - 1 - j))) := by
  have hcl := cdg_len L h16
  have hol : lenOf out = n := by have := ho.len; rw [hcl] at this; omega
  obtain ⟨b, hb⟩ : ∃ b : Nat, (n : Int) - 1 - j = b := ⟨n - 1 - j, by omega⟩
  have hb' : n - 1 - j = b := by omega
  have hg1 : decide ((j : Int) < (b : Int)) = true := by simpa using by omega
  have hw1 := wr_succ_nat j (by omega)
  have hw2 : wr ((b : Int) - 1) = (n : Int) - 1 - ((j + 1 : Nat) : Int) := by rw [wr_id (by omega) (by omega)]; omega
  have hjn : j < n := by omega
  have hbn : b < n := by omega
  have ga : L.getD j [] = L[j] := by simp [hn, hjn]
  have gb : L.getD b [] = L[b] := by simp [hn, hbn]
  have la : (L[j]).length = 16 := h16 _ (List.getElem_mem _)
  have lb : (L[b]).length = 16 := h16 _ (List.getElem_mem _)
  have r1 := rc_ag ho.rcn (b * 16) 16 (by omega) (by omega)
  have r2 := rc_ag ho.rcn (j * 16) 16 (by omega) (by omega)
  rw [cdg_get L h16 b (by omega)] at r1
  rw [cdg_get L h16 j (by omega)] at r2
  have la' := len16 _ la
  have lb' := len16 _ lb
  obtain ⟨g1, w1, o1⟩ := own_wr (xs := cu8 L[b]) ho (j * 16) (by omega) (by omega) (cu8_one _)
  rw [lb', cdg_set L h16 j (by omega) _ lb] at o1
  have h16' := all16_set L h16 j L[b] lb
  have hcl' := cdg_len _ h16'
  rw [List.length_set] at hcl'
  obtain ⟨g2, w2, o2⟩ := own_wr (xs := cu8 L[j]) o1 (b * 16) (by omega) (by omega) (cu8_one _)
  rw [la', cdg_set _ h16' b (by rw [List.length_set]; omega) _ la] at o2
  rw [hb, hb', swp, ga, gb]
  refine ⟨g2, ?_, o2⟩
  simp -implicitDefEqProofs only [runEqs, List.zipIdx_cons, List.zipIdx_nil, List.map_cons, List.map_nil, Nat.zero_add, Nat.add_zero, Nat.zero_mul, Nat.reduceAdd, Nat.reduceMul, Nat.reduceBEq, Nat.reduceLT, Nat.reduceSub, Option.map_some, Option.map_none, Option.isSome_some, Option.isSome_none, Bool.not_true, Bool.not_false, Bool.true_or, Bool.false_or, Bool.or_true, List.getElem?_cons_zero, List.getElem?_cons_succ, List.set_cons_zero, List.set_cons_succ, List.length_cons, List.length_nil, List.length_append, List.append_assoc, List.cons_append, List.nil_append, List.zip_cons_cons, List.zip_nil_right, Int.reduceAdd, Int.reduceSub, Int.reduceMul, Int.reduceLT, Int.reduceLE, Int.reduceNeg, Int.reduceToNat, Int.zero_add, Int.add_zero, decide_true, decide_false, Nat.reduceLeDiff, Nat.min_self, List.drop_succ_cons, List.drop_zero, List.drop_nil, List.take_succ_cons, List.take_zero, List.take_nil, List.all_cons, List.all_nil, Bool.and_true, Bool.true_and, Nat.mul_one, List.singleton_append, Int.le_refl, Nat.le_refl, c27_1, hg1, hw1, hw2, vIS_of, hol, hjn, hbn, vLdN_ptr, r1, r2, la', lb', w1, w2]
  exact nxt_some _ _ _ _ _ _ _ rfl rfl

def proveV (ls : List (List (BitVec 8))) (i : Int) : List (List (BitVec 8)) := if 4096 < ls.length then [] else if i < 0 ∨ (ls.length : Int) ≤ i then [] else wayL ls i.toNat
def proveE (ls : List (List (BitVec 8))) (i : Int) : Int := if 4096 < ls.length then 2 else if i < 0 ∨ (ls.length : Int) ≤ i then 3 else 0

theorem call27 (ls : List (List (BitVec 8))) (i : Int) (hsz : ls.length < 2305843009213693952) (hx : ls.length ≤ 4096 → ∀ x ∈ ls, x.length < 8796093022000) (h : Heap) (v : V) (hv : Lv h v ls) :
    ∃ out g, (run T).call 27 [v, i64 i] none h = some (.ret (.tup [out, i64 (proveE ls i)]), none, h ++ g) ∧ Own h.length 16 (h ++ g) out (cdg (proveV ls i)) := by
  have hl := hv.len
  have hs := hv.isS
  by_cases hc : 4096 < ls.length
  · refine ⟨.nils, [], ?_, ?_⟩
    · rw [call_gc0 fn27, proveE, if_pos hc, List.append_nil]
      have hg : decide ((ls.length : Int) > 4096) = true := by simp; omega
      simp -implicitDefEqProofs only [runEqs, List.zipIdx_cons, List.zipIdx_nil, List.map_cons, List.map_nil, Nat.zero_add, Nat.add_zero, Nat.zero_mul, Nat.reduceAdd, Nat.reduceMul, Nat.reduceBEq, Nat.reduceLT, Nat.reduceSub, Option.map_some, Option.map_none, Option.isSome_some, Option.isSome_none, Bool.not_true, Bool.not_false, Bool.true_or, Bool.false_or, Bool.or_true, List.getElem?_cons_zero, List.getElem?_cons_succ, List.set_cons_zero, List.set_cons_succ, List.length_cons, List.length_nil, List.length_append, List.append_assoc, List.cons_append, List.nil_append, List.zip_cons_cons, List.zip_nil_right, Int.reduceAdd, Int.reduceSub, Int.reduceMul, Int.reduceLT, Int.reduceLE, Int.reduceNeg, Int.reduceToNat, Int.zero_add, Int.add_zero, decide_true, decide_false, Nat.reduceLeDiff, Nat.min_self, List.drop_succ_cons, List.drop_zero, List.drop_nil, List.take_succ_cons, List.take_zero, List.take_nil, List.all_cons, List.all_nil, Bool.and_true, Bool.true_and, Nat.mul_one, List.singleton_append, Int.le_refl, Nat.le_refl, c27, r27, vLen_of, hs, hl, hg]
    · rw [proveV, if_pos hc]; exact Own.nil _ _ _
  have hg : decide ((ls.length : Int) > 4096) = false := by simp; omega
  by_cases hi0 : i < 0
  · refine ⟨.nils, [], ?_, ?_⟩
    · rw [call_gc0 fn27, proveE, if_neg hc, if_pos (.inl hi0), List.append_nil]
      have hg1 : decide (i < 0) = true := by simpa using hi0
      simp -implicitDefEqProofs only [runEqs, List.zipIdx_cons, List.zipIdx_nil, List.map_cons, List.map_nil, Nat.zero_add, Nat.add_zero, Nat.zero_mul, Nat.reduceAdd, Nat.reduceMul, Nat.reduceBEq, Nat.reduceLT, Nat.reduceSub, Option.map_some, Option.map_none, Option.isSome_some, Option.isSome_none, Bool.not_true, Bool.not_false, Bool.true_or, Bool.false_or, Bool.or_true, List.getElem?_cons_zero, List.getElem?_cons_succ, List.set_cons_zero, List.set_cons_succ, List.length_cons, List.length_nil, List.length_append, List.append_assoc, List.cons_append, List.nil_append, List.zip_cons_cons, List.zip_nil_right, Int.reduceAdd, Int.reduceSub, Int.reduceMul, Int.reduceLT, Int.reduceLE, Int.reduceNeg, Int.reduceToNat, Int.zero_add, Int.add_zero, decide_true, decide_false, Nat.reduceLeDiff, Nat.min_self, List.drop_succ_cons, List.drop_zero, List.drop_nil, List.take_succ_cons, List.take_zero, List.take_nil, List.all_cons, List.all_nil, Bool.and_true, Bool.true_and, Nat.mul_one, List.singleton_append, Int.le_refl, Nat.le_refl, c27, r27, vLen_of, hs, hl, hg, hg1]
    · rw [proveV, if_neg hc, if_pos (.inl hi0)]; exact Own.nil _ _ _
  have hg1 : decide (i < 0) = false := by simpa using hi0
  by_cases hi1 : (ls.length : Int) ≤ i
  · refine ⟨.nils, [], ?_, ?_⟩
    · rw [call_gc0 fn27, proveE, if_neg hc, if_pos (.inr hi1), List.append_nil]
      have hg2 : decide (i ≥ (ls.length : Int)) = true := by simpa using hi1
      simp -implicitDefEqProofs only [runEqs, List.zipIdx_cons, List.zipIdx_nil, List.map_cons, List.map_nil, Nat.zero_add, Nat.add_zero, Nat.zero_mul, Nat.reduceAdd, Nat.reduceMul, Nat.reduceBEq, Nat.reduceLT, Nat.reduceSub, Option.map_some, Option.map_none, Option.isSome_some, Option.isSome_none, Bool.not_true, Bool.not_false, Bool.true_or, Bool.false_or, Bool.or_true, List.getElem?_cons_zero, List.getElem?_cons_succ, List.set_cons_zero, List.set_cons_succ, List.length_cons, List.length_nil, List.length_append, List.append_assoc, List.cons_append, List.nil_append, List.zip_cons_cons, List.zip_nil_right, Int.reduceAdd, Int.reduceSub, Int.reduceMul, Int.reduceLT, Int.reduceLE, Int.reduceNeg, Int.reduceToNat, Int.zero_add, Int.add_zero, decide_true, decide_false, Nat.reduceLeDiff, Nat.min_self, List.drop_succ_cons, List.drop_zero, List.drop_nil, List.take_succ_cons, List.take_zero, List.take_nil, List.all_cons, List.all_nil, Bool.and_true, Bool.true_and, Nat.mul_one, List.singleton_append, Int.le_refl, Nat.le_refl, c27, r27, vLen_of, hs, hl, hg, hg1, hg2]
    · rw [proveV, if_neg hc, if_pos (.inr hi1)]; exact Own.nil _ _ _
  have hg2 : decide (i ≥ (ls.length : Int)) = false := by simpa using hi1
  obtain ⟨i, rfl⟩ : ∃ m : Nat, i = m := ⟨i.toNat, by omega⟩
  have e1 : proveE ls (i : Int) = 0 := by rw [proveE, if_neg hc, if_neg (by omega)]
  have e2 : proveV ls (i : Int) = wayL ls i := by rw [proveV, if_neg hc, if_neg (by omega)]; rfl
  rw [e1, e2]
  have hx' := hx (by omega)
  obtain ⟨m, vs', h', ⟨v1, ls1, i1, out, g, dn, rfl, rfl, rfl, hv1, hi2, hsub, hd, hdl, ho, htgt⟩, hst, hlp⟩ := loop_st (T := T) (L := [0, 1, 6]) (c := c27_0) (d := []) (u := some none)
    (fun m vs hh => ∃ v1 ls1 i1 out g dn, m = ls1.length ∧ vs = [v1, i64 ((i1 : Nat) : Int), out] ∧ hh = h ++ g ∧ Lv h v1 ls1 ∧ i1 < ls1.length ∧ (∀ x ∈ ls1, x ∈ ls) ∧ all16 dn ∧ dn.length + ls1.length ≤ 4096 ∧ Own h.length 16 (h ++ g) out (cdg dn) ∧ wayL ls i = wayL ls1 i1 ++ dn.reverse)
    (fun m _ _ => m ≤ 1)
    (by
      rintro m vs hh ⟨v1, ls1, i1, out, g, dn, rfl, rfl, rfl, hv1, hi2, hsub, hd, hdl, ho, htgt⟩
      by_cases hm : ls1.length ≤ 1
      · exact .inl hm
      · right
        obtain ⟨v', ls', i', out', g', d, a1, a2, a3, a4, a5, a6, a7, a8⟩ := round27 ls1 i1 (by omega) (by omega) (fun x hx => hx' x (hsub x hx)) hi2 h g v1 out hv1 dn hd (by omega) ho
        refine ⟨ls'.length, _, _, a3, a1, v', ls', i', out', g', dn ++ [d], rfl, rfl, rfl, a2, a5, fun x hx => hsub x (a4 x hx), ?_, by simp; omega, a7, ?_⟩
        · intro x hx
          rcases List.mem_append.1 hx with hx | hx
          · exact hd x hx
          · rw [List.mem_singleton.1 hx]; exact a6
        · rw [htgt, a8]; simp)
    ls.length [v, i64 i, .nils] h ⟨v, ls, i, .nils, [], [], rfl, rfl, (List.append_nil h).symm, hv, by omega, fun x hx => hx, fun x hx => by simp at hx, by simp; omega, Own.nil _ _ _, by simp⟩
  rw [wayL_one ls1 i1 hst, List.nil_append] at htgt
  rw [htgt]
  have hcl := cdg_len dn hd
  have hol : lenOf out = dn.length := by have := ho.len; rw [hcl] at this; omega
  obtain ⟨vs2, h2, ⟨g2, rfl, rfl, ho2⟩, hlp2⟩ := loop_up (T := T) (L := [6, 8, 9]) (c := c27_1) (d := []) (u := some none)
    (fun j vs hh => ∃ g2, vs = [out, i64 ((j : Nat) : Int), i64 ((dn.length : Int) - 1 - (j : Nat))] ∧ hh = h ++ g2 ∧ Own h.length 16 (h ++ g2) out (cdg (revK dn j))) (dn.length / 2)
    (by
      rintro j vs hh hj ⟨g2, rfl, rfl, ho2⟩
      obtain ⟨g3, a, b⟩ := round27b (revK dn j) (all16_rev dn hd j (by omega)) dn.length j (revK_len dn j) (by omega) (by omega) h g2 out ho2
      exact ⟨_, _, a, g3, rfl, rfl, b⟩)
    [out, i64 0, i64 ((dn.length : Int) - 1)] (h ++ g) ⟨g, by simp, rfl, ho⟩
  rw [revK_end] at ho2
  refine ⟨out, g2, ?_, ho2⟩
  have hs1 := hv1.isS
  have hl1 := hv1.len
  have hgl : decide ((ls1.length : Int) > 1) = false := by simp; omega
  have hgr : decide (((dn.length / 2 : Nat) : Int) < (dn.length : Int) - 1 - ((dn.length / 2 : Nat) : Int)) = false := by simp; omega
  have hsb : wr ((dn.length : Int) - 1) = (dn.length : Int) - 1 := wr_id (by omega) (by omega)
  have hos := rc_isS ho.rcn
  rw [call_gc0 fn27]
  simp only [List.zip_cons_cons, List.zip_nil_right] at hlp hlp2
  simp -implicitDefEqProofs only [runEqs, List.zipIdx_cons, List.zipIdx_nil, List.map_cons, List.map_nil, Nat.zero_add, Nat.add_zero, Nat.zero_mul, Nat.reduceAdd, Nat.reduceMul, Nat.reduceBEq, Nat.reduceLT, Nat.reduceSub, Option.map_some, Option.map_none, Option.isSome_some, Option.isSome_none, Bool.not_true, Bool.not_false, Bool.true_or, Bool.false_or, Bool.or_true, List.getElem?_cons_zero, List.getElem?_cons_succ, List.set_cons_zero, List.set_cons_succ, List.length_cons, List.length_nil, List.length_append, List.append_assoc, List.cons_append, List.nil_append, List.zip_cons_cons, List.zip_nil_right, Int.reduceAdd, Int.reduceSub, Int.reduceMul, Int.reduceLT, Int.reduceLE, Int.reduceNeg, Int.reduceToNat, Int.zero_add, Int.add_zero, decide_true, decide_false, Nat.reduceLeDiff, Nat.min_self, List.drop_succ_cons, List.drop_zero, List.drop_nil, List.take_succ_cons, List.take_zero, List.take_nil, List.all_cons, List.all_nil, Bool.and_true, Bool.true_and, Nat.mul_one, List.singleton_append, Int.le_refl, Nat.le_refl, c27, r27, vLen_of, hs, hl, hg, hg1, hg2, hlp]
  simp -implicitDefEqProofs only [runEqs, List.zipIdx_cons, List.zipIdx_nil, List.map_cons, List.map_nil, Nat.zero_add, Nat.add_zero, Nat.zero_mul, Nat.reduceAdd, Nat.reduceMul, Nat.reduceBEq, Nat.reduceLT, Nat.reduceSub, Option.map_some, Option.map_none, Option.isSome_some, Option.isSome_none, Bool.not_true, Bool.not_false, Bool.true_or, Bool.false_or, Bool.or_true, List.getElem?_cons_zero, List.getElem?_cons_succ, List.set_cons_zero, List.set_cons_succ, List.length_cons, List.length_nil, List.length_append, List.append_assoc, List.cons_append, List.nil_append, List.zip_cons_cons, List.zip_nil_right, Int.reduceAdd, Int.reduceSub, Int.reduceMul, Int.reduceLT, Int.reduceLE, Int.reduceNeg, Int.reduceToNat, Int.zero_add, Int.add_zero, decide_true, decide_false, Nat.reduceLeDiff, Nat.min_self, List.drop_succ_cons, List.drop_zero, List.drop_nil, List.take_succ_cons, List.take_zero, List.take_nil, List.all_cons, List.all_nil, Bool.and_true, Bool.true_and, Nat.mul_one, List.singleton_append, Int.le_refl, Nat.le_refl, c27_0, vLen_of, hs1, hl1, hgl, hos, hol, hsb, hlp2]
  simp -implicitDefEqProofs only [runEqs, List.zipIdx_cons, List.zipIdx_nil, List.map_cons, List.map_nil, Nat.zero_add, Nat.add_zero, Nat.zero_mul, Nat.reduceAdd, Nat.reduceMul, Nat.reduceBEq, Nat.reduceLT, Nat.reduceSub, Option.map_some, Option.map_none, Option.isSome_some, Option.isSome_none, Bool.not_true, Bool.not_false, Bool.true_or, Bool.false_or, Bool.or_true, List.getElem?_cons_zero, List.getElem?_cons_succ, List.set_cons_zero, List.set_cons_succ, List.length_cons, List.length_nil, List.length_append, List.append_assoc, List.cons_append, List.nil_append, List.zip_cons_cons, List.zip_nil_right, Int.reduceAdd, Int.reduceSub, Int.reduceMul, Int.reduceLT, Int.reduceLE, Int.reduceNeg, Int.reduceToNat, Int.zero_add, Int.add_zero, decide_true, decide_false, Nat.reduceLeDiff, Nat.min_self, List.drop_succ_cons, List.drop_zero, List.drop_nil, List.take_succ_cons, List.take_zero, List.take_nil, List.all_cons, List.all_nil, Bool.and_true, Bool.true_and, Nat.mul_one, List.singleton_append, Int.le_refl, Nat.le_refl, c27_1, hgr]
end Go.Proofs.Ytccepmhhilhajaa.K

/- The nodes beside the way from a leaf to the root. -/
set_option linter.unusedVariables false
set_option linter.unusedSimpArgs false
set_option maxRecDepth 100000
namespace Go.Proofs.Ytccepmhhilhajaa.K
open Go Go.A

/-- From the root down: whether the other node stands on the right. -/
def sidF : Nat → Nat → Nat → List Bool
  | 0, _, _ => []
  | f + 1, n, i => if n ≤ 1 then [] else if i < half n then true :: sidF f (half n) i else false :: sidF f (n - half n) (i - half n)
def sidL (n i : Nat) : List Bool := sidF n n i
theorem sidF_any : ∀ (f n i : Nat), n ≤ f → sidF f n i = sidL n i := by
  intro f
  induction f using Nat.strongRecOn with
  | ind f ih =>
    intro n i hf
    match f, hf with
    | 0, hf => have : n = 0 := by omega
               subst this; rfl
    | f + 1, hf =>
      by_cases h : n ≤ 1
      · unfold sidL
        match n, h with
        | 0, _ => simp [sidF]
        | 1, _ => simp [sidF]
      · have hb := half_bd n (by omega)
        obtain ⟨m, hm⟩ : ∃ m, n = m + 1 := ⟨n - 1, by omega⟩
        have e : sidL n i = sidF (m + 1) n i := by rw [sidL, ← hm]
        rw [e, sidF, sidF, if_neg h, if_neg h, ih f (by omega) _ _ (by omega), ih f (by omega) _ _ (by omega)]
        by_cases hfm : f = m
        · subst hfm
          rw [ih f (by omega) _ _ (by omega), ih f (by omega) _ _ (by omega)]
        · rw [ih m (by omega) _ _ (by omega), ih m (by omega) _ _ (by omega)]
theorem sidL_one (n i : Nat) (h : n ≤ 1) : sidL n i = [] := by rw [← sidF_any (n + 1) n i (by omega), sidF, if_pos h]
theorem sidL_lt (n i : Nat) (h : 1 < n) (hi : i < half n) : sidL n i = true :: sidL (half n) i := by
  have hb := half_bd _ h
  rw [← sidF_any (n + 1) n i (by omega), sidF, if_neg (by omega), if_pos hi, sidF_any _ _ _ (by omega)]
theorem sidL_ge (n i : Nat) (h : 1 < n) (hi : ¬ i < half n) : sidL n i = false :: sidL (n - half n) (i - half n) := by
  have hb := half_bd _ h
  rw [← sidF_any (n + 1) n i (by omega), sidF, if_neg (by omega), if_neg hi, sidF_any _ _ _ (by omega)]

def cbo (l : List Bool) : List V := l.map V.bool
theorem cbo_len (l : List Bool) : (cbo l).length = l.length := by simp [cbo]
theorem cbo_app (a b : List Bool) : cbo a ++ cbo b = cbo (a ++ b) := by simp [cbo]
theorem cbo_one (l : List Bool) : (cbo l).all V.one = true := by simp [cbo, one_bool]
theorem cbo_at (l : List Bool) (j : Nat) (h : j < l.length) : (cbo l)[j]? = some (.bool l[j]) := by simp [cbo, h]

theorem round70 (n i : Nat) (h1 : 1 < n) (hsz : n ≤ 4096) (hi : i < n) (H g : Heap) (p out : V) (dn : List Bool) (hdl : dn.length ≤ 10000) (ho : Own H.length 1 (H ++ g) out (cbo dn)) :
    ∃ n' i' out' g' b, Nxt (execC (run T) c70_0 ⟨[0, 1, 2, 7].zip [i64 n, i64 i, p, out], [], some none⟩ (H ++ g)) [0, 1, 2, 7] [i64 (n' : Nat), i64 (i' : Nat), p, out'] [] (some none) (H ++ g') ∧ n' < n ∧ i' < n' ∧
      Own H.length 1 (H ++ g') out' (cbo (dn ++ [b])) ∧ sidL n i = b :: sidL n' i' := by
  have hb := half_bd _ h1
  have h50 := call50 n (by omega)
  have hg1 : decide ((n : Int) > 1) = true := by simp; omega
  have wlt := sidL_lt n i h1
  have wge := sidL_ge n i h1
  generalize half n = k at *
  have hol : lenOf out = dn.length := by have := ho.len; rw [cbo_len] at this; omega
  have hap : ∀ b : Bool, ∃ out' g', evApp 1 1 (H ++ (g ++ [.cells .ex [.bool b]])) out (.sl 1 (H.length + g.length) 0 1 1) = some (out', H ++ g') ∧ Own H.length 1 (H ++ g') out' (cbo (dn ++ [b])) := fun b => by
    obtain ⟨out', g', e1, e2, e3⟩ := app_own' (bts := 1) (by omega) (by simp) (ho.app [.cells .ex [.bool b]]) (rc_new 1 (H ++ g) .ex (cbo [b]) 1 rfl) (cbo_one _)
      (by rw [hol]; simp only [lenOf]; omega) (by rw [hol]; simp only [lenOf]; omega) H (by rw [List.append_assoc]; exact take_zero _ _)
    rw [cbo_app] at e2
    simp only [List.append_assoc, List.length_append] at e1
    exact ⟨out', g', e1, e2⟩
  by_cases hik : i < k
  · have hg2 : decide ((i : Int) < (k : Int)) = true := by simpa using by omega
    obtain ⟨out', g', e1, e2⟩ := hap true
    refine ⟨k, i, out', g', true, ?_, hb.2, hik, e2, wlt hik⟩
    simp -implicitDefEqProofs only [runEqs, List.zipIdx_cons, List.zipIdx_nil, List.map_cons, List.map_nil, Nat.zero_add, Nat.add_zero, Nat.zero_mul, Nat.reduceAdd, Nat.reduceMul, Nat.reduceBEq, Nat.reduceLT, Nat.reduceSub, Option.map_some, Option.map_none, Option.isSome_some, Option.isSome_none, Bool.not_true, Bool.not_false, Bool.true_or, Bool.false_or, Bool.or_true, List.getElem?_cons_zero, List.getElem?_cons_succ, List.set_cons_zero, List.set_cons_succ, List.length_cons, List.length_nil, List.length_append, List.append_assoc, List.cons_append, List.nil_append, List.zip_cons_cons, List.zip_nil_right, Int.reduceAdd, Int.reduceSub, Int.reduceMul, Int.reduceLT, Int.reduceLE, Int.reduceNeg, Int.reduceToNat, Int.zero_add, Int.add_zero, decide_true, decide_false, Nat.reduceLeDiff, Nat.min_self, List.drop_succ_cons, List.drop_zero, List.drop_nil, List.take_succ_cons, List.take_zero, List.take_nil, List.all_cons, List.all_nil, Bool.and_true, Bool.true_and, Nat.mul_one, List.singleton_append, Int.le_refl, Nat.le_refl, c70_0, hg1, h50, hg2, e1]
    exact nxt_some _ _ _ _ _ _ _ rfl rfl
  · have hg2 : decide ((i : Int) < (k : Int)) = false := by simpa using by omega
    have hs1 : wr ((i : Int) - (k : Int)) = ((i - k : Nat) : Int) := by rw [wr_id (by omega) (by omega)]; omega
    have hs2 : wr ((n : Int) - (k : Int)) = ((n - k : Nat) : Int) := by rw [wr_id (by omega) (by omega)]; omega
    obtain ⟨out', g', e1, e2⟩ := hap false
    refine ⟨n - k, i - k, out', g', false, ?_, by omega, by omega, e2, wge hik⟩
    simp -implicitDefEqProofs only [runEqs, List.zipIdx_cons, List.zipIdx_nil, List.map_cons, List.map_nil, Nat.zero_add, Nat.add_zero, Nat.zero_mul, Nat.reduceAdd, Nat.reduceMul, Nat.reduceBEq, Nat.reduceLT, Nat.reduceSub, Option.map_some, Option.map_none, Option.isSome_some, Option.isSome_none, Bool.not_true, Bool.not_false, Bool.true_or, Bool.false_or, Bool.or_true, List.getElem?_cons_zero, List.getElem?_cons_succ, List.set_cons_zero, List.set_cons_succ, List.length_cons, List.length_nil, List.length_append, List.append_assoc, List.cons_append, List.nil_append, List.zip_cons_cons, List.zip_nil_right, Int.reduceAdd, Int.reduceSub, Int.reduceMul, Int.reduceLT, Int.reduceLE, Int.reduceNeg, Int.reduceToNat, Int.zero_add, Int.add_zero, decide_true, decide_false, Nat.reduceLeDiff, Nat.min_self, List.drop_succ_cons, List.drop_zero, List.drop_nil, List.take_succ_cons, List.take_zero, List.take_nil, List.all_cons, List.all_nil, Bool.and_true, Bool.true_and, Nat.mul_one, List.singleton_append, Int.le_refl, Nat.le_refl, c70_0, hg1, h50, hg2, hs1, hs2, e1]
    exact nxt_some _ _ _ _ _ _ _ rfl rfl

/-- A node: a digest, and whether it stands on the right. -/
def cnode (x : List (BitVec 8) × Bool) : List V := cu8 x.1 ++ [.bool x.2]
def cnd (l : List (List (BitVec 8) × Bool)) : List V := (l.map cnode).flatten
theorem cnd_app (a b : List (List (BitVec 8) × Bool)) : cnd a ++ cnd b = cnd (a ++ b) := by simp [cnd]
theorem cnd_one : ∀ (l : List (List (BitVec 8) × Bool)), (cnd l).all V.one = true
  | [] => rfl
  | a :: l => by
    have := cnd_one l
    rw [cnd] at this
    rw [cnd, List.map_cons, List.flatten_cons, List.all_append, this, cnode, List.all_append, cu8_one]
    simp [one_bool]
def nodesL (path : List (List (BitVec 8))) (sd : List Bool) : List (List (BitVec 8) × Bool) := path.zip sd.reverse
theorem cnode_len (x : List (BitVec 8) × Bool) (h : x.1.length = 16) : (cnode x).length = 17 := by simp [cnode, cu8_len, h]

theorem round70b (path : List (List (BitVec 8))) (h16 : all16 path) (sd : List Bool) (hlen : path.length = sd.length) (hsz : sd.length ≤ 4096) (j : Nat) (hj : j < path.length) (H0 : Heap) (p : V) (hp : rc 16 H0 p = some (cdg path)) (sv : V) (hsv : rc 1 H0 sv = some (cbo sd)) (g : Heap) (out : V) (ho : Own H0.length 17 (H0 ++ g) out (cnd ((nodesL path sd).take j))) :
    ∃ out' g', Nxt (execC (run T) c70_1 ⟨[7, 9, 54, 55, 56].zip [sv, out, p, i64 path.length, i64 j], [], some none⟩ (H0 ++ g)) [7, 9, 54, 55, 56] [sv, out', p, i64 path.length, i64 ((j + 1 : Nat) : Int)] [] (some none) (H0 ++ g') ∧
      Own H0.length 17 (H0 ++ g') out' (cnd ((nodesL path sd).take (j + 1))) := by
  have hcl := cdg_len path h16
  have hpl : lenOf p = path.length := by have := rc_len hp; rw [hcl] at this; omega
  have hsl : lenOf sv = sd.length := by have := rc_len hsv; rw [cbo_len] at this; omega
  have hss := rc_isS hsv
  have hg1 : decide ((j : Int) < (path.length : Int)) = true := by simpa using by omega
  have hw := wr_succ_nat j (by omega)
  have hs1 : wr ((sd.length : Int) - 1) = (sd.length : Int) - 1 := wr_id (by omega) (by omega)
  have hs2 : wr ((sd.length : Int) - 1 - (j : Int)) = ((sd.length - 1 - j : Nat) : Int) := by rw [wr_id (by omega) (by omega)]; omega
  have hjs : sd.length - 1 - j < sd.length := by omega
  have r1 : ∀ x, kAg (offOf p + j * 16) 16 (cellsAt (H0 ++ x) (blkOf p)) = some (.agg (cu8 path[j])) := fun x => by rw [rc_ag_app hp x (j * 16) 16 (by omega) (by omega), cdg_get path h16 j hj]
  have r2 : ∀ x, kAg (offOf sv + (sd.length - 1 - j)) 1 (cellsAt (H0 ++ x) (blkOf sv)) = some (.agg [.bool sd[sd.length - 1 - j]]) := fun x => by
    rw [rc_ag_app hsv x (sd.length - 1 - j) 1 (by rw [cbo_len]; omega) (by omega)]
    have : (cbo sd).drop (sd.length - 1 - j) = .bool sd[sd.length - 1 - j] :: (cbo sd).drop (sd.length - 1 - j + 1) := by
      rw [List.drop_eq_getElem_cons (by rw [cbo_len]; omega)]
      simp [cbo]
    rw [this]; rfl
  have hnl : (nodesL path sd).length = path.length := by simp [nodesL, hlen]
  have hnj : (nodesL path sd).take (j + 1) = (nodesL path sd).take j ++ [(path[j], sd[sd.length - 1 - j])] := by
    rw [List.take_succ_eq_append_getElem (by omega)]
    congr 2
    simp [nodesL, List.getElem_zip, List.getElem_reverse]
  have hd : path[j].length = 16 := h16 _ (List.getElem_mem _)
  generalize path[j] = d at *
  generalize sd[sd.length - 1 - j] = b at *
  have hl16 := len16 d hd
  have ht16 := take16 d hd
  have hol : lenOf out = j := by
    have := ho.len
    rw [cnd, flat_len 17 _ (by
      intro x hx
      obtain ⟨y, hy, rfl⟩ := List.mem_map.1 hx
      have hy := List.mem_of_mem_take hy
      exact cnode_len y (h16 _ (List.of_mem_zip hy).1)), List.length_map, List.length_take, hnl, Nat.min_eq_left (by omega)] at this
    omega
  have hx := rc_new 17 (H0 ++ g ++ [.cells .ex (cu8 d)]) .ex (cnd [(d, b)]) 1 (by simp [cnd, cnode, cu8_len, hd])
  obtain ⟨out', g', e1, e2, e3⟩ := app_own' (bts := 17) (by omega) (by simp) ((ho.app [.cells .ex (cu8 d)]).app [.cells .ex (cnd [(d, b)])]) hx (cnd_one _)
    (by rw [hol]; simp only [lenOf]; omega) (by rw [hol]; simp only [lenOf]; omega) H0 (by rw [List.append_assoc, List.append_assoc]; exact take_zero _ _)
  rw [cnd_app, ← hnj] at e2
  have hcn : cnd [(d, b)] = cu8 d ++ [.bool b] := by simp [cnd, cnode]
  rw [hcn] at e1
  simp only [List.append_assoc, List.length_append, List.length_cons, List.length_nil, Nat.zero_add, List.cons_append, List.nil_append] at e1
  refine ⟨out', g', ?_, e2⟩
  have hlen17 : (cu8 d ++ [V.bool b]).length = 17 := by rw [List.length_append, hl16]; rfl
  have ht1 : (cu8 d ++ [V.bool false]).take 16 = cu8 d := by rw [List.take_append_of_le_length (by omega), ht16]
  have ht2 : (cu8 d ++ [V.bool false]).drop 17 = [] := by rw [List.drop_eq_nil_iff, List.length_append, hl16]; simp
  simp -implicitDefEqProofs only [runEqs, List.zipIdx_cons, List.zipIdx_nil, List.map_cons, List.map_nil, Nat.zero_add, Nat.add_zero, Nat.zero_mul, Nat.reduceAdd, Nat.reduceMul, Nat.reduceBEq, Nat.reduceLT, Nat.reduceSub, Option.map_some, Option.map_none, Option.isSome_some, Option.isSome_none, Bool.not_true, Bool.not_false, Bool.true_or, Bool.false_or, Bool.or_true, List.getElem?_cons_zero, List.getElem?_cons_succ, List.set_cons_zero, List.set_cons_succ, List.length_cons, List.length_nil, List.length_append, List.append_assoc, List.cons_append, List.nil_append, List.zip_cons_cons, List.zip_nil_right, Int.reduceAdd, Int.reduceSub, Int.reduceMul, Int.reduceLT, Int.reduceLE, Int.reduceNeg, Int.reduceToNat, Int.zero_add, Int.add_zero, decide_true, decide_false, Nat.reduceLeDiff, Nat.min_self, List.drop_succ_cons, List.drop_zero, List.drop_nil, List.take_succ_cons, List.take_zero, List.take_nil, List.all_cons, List.all_nil, Bool.and_true, Bool.true_and, Nat.mul_one, List.singleton_append, Int.le_refl, Nat.le_refl, c70_1, hg1, hw, hs1, hs2, vIS_of, hpl, hsl, hj, hjs, vLen_of, hss, vLdN_ptr, r1, r2, hl16, ht16, List.length_replicate, cu8_one, one_bool, ok_bool, hlen17, ht1, ht2, List.append_nil, e1]
  exact nxt_some _ _ _ _ _ _ _ rfl rfl

/-- What is wrong, or 0. -/
def placeE (n i : Int) (m : Nat) : Int := if n > 4096 then 2 else if i < 0 ∨ n ≤ i then 3 else if m ≠ (sidL n.toNat i.toNat).length then 22 else 0
theorem sidL_len : ∀ (n i : Nat), (sidL n i).length ≤ n := by
  intro n
  induction n using Nat.strongRecOn with
  | ind n ih =>
    intro i
    by_cases h : n ≤ 1
    · rw [sidL_one n i h]; simp
    · have hb := half_bd n (by omega)
      by_cases hi : i < half n
      · rw [sidL_lt n i (by omega) hi, List.length_cons]; have := ih (half n) (by omega) i; omega
      · rw [sidL_ge n i (by omega) hi, List.length_cons]; have := ih (n - half n) (by omega) (i - half n); omega

/-- Its end: a list of nodes, or a panic. -/
theorem call70 (n i : Int) (path : List (List (BitVec 8))) (h16 : all16 path) (hpl : path.length < 4611686018427387904) (h : Heap) (p : V) (hp : rc 16 h p = some (cdg path)) :
    (placeE n i path.length = 0 ∧ ∃ out g, (run T).call 70 [i64 n, i64 i, p] none h = some (.ret out, none, h ++ g) ∧ Own h.length 17 (h ++ g) out (cnd (nodesL path (sidL n.toNat i.toNat)))) ∨
    (placeE n i path.length ≠ 0 ∧ ∃ g, (run T).call 70 [i64 n, i64 i, p] none h = some (.pan (.ifc 96 (.agg [i64 (placeE n i path.length)])), none, h ++ g)) := by
  have hps := rc_isS hp
  have hcl := cdg_len path h16
  have hpl' : lenOf p = path.length := by have := rc_len hp; rw [hcl] at this; omega
  by_cases hn : n > 4096
  · right
    rw [placeE, if_pos hn]
    refine ⟨by decide, [], ?_⟩
    have hg : decide (n > 4096) = true := by simpa using hn
    rw [call_gc0 fn70, List.append_nil]
    simp -implicitDefEqProofs only [runEqs, List.zipIdx_cons, List.zipIdx_nil, List.map_cons, List.map_nil, Nat.zero_add, Nat.add_zero, Nat.zero_mul, Nat.reduceAdd, Nat.reduceMul, Nat.reduceBEq, Nat.reduceLT, Nat.reduceSub, Option.map_some, Option.map_none, Option.isSome_some, Option.isSome_none, Bool.not_true, Bool.not_false, Bool.true_or, Bool.false_or, Bool.or_true, List.getElem?_cons_zero, List.getElem?_cons_succ, List.set_cons_zero, List.set_cons_succ, List.length_cons, List.length_nil, List.length_append, List.append_assoc, List.cons_append, List.nil_append, List.zip_cons_cons, List.zip_nil_right, Int.reduceAdd, Int.reduceSub, Int.reduceMul, Int.reduceLT, Int.reduceLE, Int.reduceNeg, Int.reduceToNat, Int.zero_add, Int.add_zero, decide_true, decide_false, Nat.reduceLeDiff, Nat.min_self, List.drop_succ_cons, List.drop_zero, List.drop_nil, List.take_succ_cons, List.take_zero, List.take_nil, List.all_cons, List.all_nil, Bool.and_true, Bool.true_and, Nat.mul_one, List.singleton_append, Int.le_refl, Nat.le_refl, c70, r70, hg, ops_pan', kPn_ifc]
  have hg : decide (n > 4096) = false := by simpa using hn
  by_cases hi0 : i < 0
  · right
    rw [placeE, if_neg hn, if_pos (.inl hi0)]
    refine ⟨by decide, [], ?_⟩
    have hg1 : decide (i < 0) = true := by simpa using hi0
    rw [call_gc0 fn70, List.append_nil]
    simp -implicitDefEqProofs only [runEqs, List.zipIdx_cons, List.zipIdx_nil, List.map_cons, List.map_nil, Nat.zero_add, Nat.add_zero, Nat.zero_mul, Nat.reduceAdd, Nat.reduceMul, Nat.reduceBEq, Nat.reduceLT, Nat.reduceSub, Option.map_some, Option.map_none, Option.isSome_some, Option.isSome_none, Bool.not_true, Bool.not_false, Bool.true_or, Bool.false_or, Bool.or_true, List.getElem?_cons_zero, List.getElem?_cons_succ, List.set_cons_zero, List.set_cons_succ, List.length_cons, List.length_nil, List.length_append, List.append_assoc, List.cons_append, List.nil_append, List.zip_cons_cons, List.zip_nil_right, Int.reduceAdd, Int.reduceSub, Int.reduceMul, Int.reduceLT, Int.reduceLE, Int.reduceNeg, Int.reduceToNat, Int.zero_add, Int.add_zero, decide_true, decide_false, Nat.reduceLeDiff, Nat.min_self, List.drop_succ_cons, List.drop_zero, List.drop_nil, List.take_succ_cons, List.take_zero, List.take_nil, List.all_cons, List.all_nil, Bool.and_true, Bool.true_and, Nat.mul_one, List.singleton_append, Int.le_refl, Nat.le_refl, c70, r70, hg, hg1, ops_pan', kPn_ifc]
  have hg1 : decide (i < 0) = false := by simpa using hi0
  by_cases hi1 : n ≤ i
  · right
    rw [placeE, if_neg hn, if_pos (.inr hi1)]
    refine ⟨by decide, [], ?_⟩
    have hg2 : decide (i ≥ n) = true := by simpa using hi1
    rw [call_gc0 fn70, List.append_nil]
    simp -implicitDefEqProofs only [runEqs, List.zipIdx_cons, List.zipIdx_nil, List.map_cons, List.map_nil, Nat.zero_add, Nat.add_zero, Nat.zero_mul, Nat.reduceAdd, Nat.reduceMul, Nat.reduceBEq, Nat.reduceLT, Nat.reduceSub, Option.map_some, Option.map_none, Option.isSome_some, Option.isSome_none, Bool.not_true, Bool.not_false, Bool.true_or, Bool.false_or, Bool.or_true, List.getElem?_cons_zero, List.getElem?_cons_succ, List.set_cons_zero, List.set_cons_succ, List.length_cons, List.length_nil, List.length_append, List.append_assoc, List.cons_append, List.nil_append, List.zip_cons_cons, List.zip_nil_right, Int.reduceAdd, Int.reduceSub, Int.reduceMul, Int.reduceLT, Int.reduceLE, Int.reduceNeg, Int.reduceToNat, Int.zero_add, Int.add_zero, decide_true, decide_false, Nat.reduceLeDiff, Nat.min_self, List.drop_succ_cons, List.drop_zero, List.drop_nil, List.take_succ_cons, List.take_zero, List.take_nil, List.all_cons, List.all_nil, Bool.and_true, Bool.true_and, Nat.mul_one, List.singleton_append, Int.le_refl, Nat.le_refl, c70, r70, hg, hg1, hg2, ops_pan', kPn_ifc]
  have hg2 : decide (i ≥ n) = false := by simpa using hi1
  obtain ⟨n, rfl⟩ : ∃ m : Nat, n = m := ⟨n.toNat, by omega⟩
  obtain ⟨i, rfl⟩ : ∃ m : Nat, i = m := ⟨i.toNat, by omega⟩
  have tn : ((n : Int)).toNat = n := by omega
  have ti : ((i : Int)).toNat = i := by omega
  rw [placeE, if_neg hn, if_neg (by omega), tn, ti]
  have hsl := sidL_len n i
  obtain ⟨m, vs', h', ⟨n1, i1, out, g, dn, rfl, rfl, rfl, hi2, hdl, ho, htgt⟩, hst, hlp⟩ := loop_st (T := T) (L := [0, 1, 2, 7]) (c := c70_0) (d := []) (u := some none)
    (fun m vs hh => ∃ n1 i1 out g dn, m = n1 ∧ vs = [i64 ((n1 : Nat) : Int), i64 ((i1 : Nat) : Int), p, out] ∧ hh = h ++ g ∧ i1 < n1 ∧ dn.length + n1 ≤ 4096 ∧ Own h.length 1 (h ++ g) out (cbo dn) ∧ sidL n i = dn ++ sidL n1 i1)
    (fun m _ _ => m ≤ 1)
    (by
      rintro m vs hh ⟨n1, i1, out, g, dn, rfl, rfl, rfl, hi2, hdl, ho, htgt⟩
      by_cases hm : m ≤ 1
      · exact .inl hm
      · right
        obtain ⟨n', i', out', g', b, a1, a2, a3, a4, a5⟩ := round70 m i1 (by omega) (by omega) hi2 h g p out dn (by omega) ho
        exact ⟨n', _, _, a2, a1, n', i', out', g', dn ++ [b], rfl, rfl, rfl, a3, by simp; omega, a4, by rw [htgt, a5]; simp⟩)
    n [i64 n, i64 i, p, .nils] h ⟨n, i, .nils, [], [], rfl, rfl, (List.append_nil h).symm, by omega, by simp; omega, Own.nil _ _ _, by simp⟩
  rw [sidL_one m i1 hst, List.append_nil] at htgt
  rw [htgt]
  have hgl : decide ((m : Int) > 1) = false := by simp; omega
  have hol : lenOf out = dn.length := by have := ho.len; rw [cbo_len] at this; omega
  have hos := rc_isS ho.rcn
  simp only [List.zip_cons_cons, List.zip_nil_right] at hlp
  by_cases hm : path.length ≠ dn.length
  · right
    rw [if_pos hm]
    refine ⟨by decide, g, ?_⟩
    have hne : ((path.length : Int) != (dn.length : Int)) = true := by simpa using fun e => hm (by omega)
    rw [call_gc0 fn70]
    simp -implicitDefEqProofs only [runEqs, List.zipIdx_cons, List.zipIdx_nil, List.map_cons, List.map_nil, Nat.zero_add, Nat.add_zero, Nat.zero_mul, Nat.reduceAdd, Nat.reduceMul, Nat.reduceBEq, Nat.reduceLT, Nat.reduceSub, Option.map_some, Option.map_none, Option.isSome_some, Option.isSome_none, Bool.not_true, Bool.not_false, Bool.true_or, Bool.false_or, Bool.or_true, List.getElem?_cons_zero, List.getElem?_cons_succ, List.set_cons_zero, List.set_cons_succ, List.length_cons, List.length_nil, List.length_append, List.append_assoc, List.cons_append, List.nil_append, List.zip_cons_cons, List.zip_nil_right, Int.reduceAdd, Int.reduceSub, Int.reduceMul, Int.reduceLT, Int.reduceLE, Int.reduceNeg, Int.reduceToNat, Int.zero_add, Int.add_zero, decide_true, decide_false, Nat.reduceLeDiff, Nat.min_self, List.drop_succ_cons, List.drop_zero, List.drop_nil, List.take_succ_cons, List.take_zero, List.take_nil, List.all_cons, List.all_nil, Bool.and_true, Bool.true_and, Nat.mul_one, List.singleton_append, Int.le_refl, Nat.le_refl, c70, r70, hg, hg1, hg2, hlp]
    simp -implicitDefEqProofs only [runEqs, List.zipIdx_cons, List.zipIdx_nil, List.map_cons, List.map_nil, Nat.zero_add, Nat.add_zero, Nat.zero_mul, Nat.reduceAdd, Nat.reduceMul, Nat.reduceBEq, Nat.reduceLT, Nat.reduceSub, Option.map_some, Option.map_none, Option.isSome_some, Option.isSome_none, Bool.not_true, Bool.not_false, Bool.true_or, Bool.false_or, Bool.or_true, List.getElem?_cons_zero, List.getElem?_cons_succ, List.set_cons_zero, List.set_cons_succ, List.length_cons, List.length_nil, List.length_append, List.append_assoc, List.cons_append, List.nil_append, List.zip_cons_cons, List.zip_nil_right, Int.reduceAdd, Int.reduceSub, Int.reduceMul, Int.reduceLT, Int.reduceLE, Int.reduceNeg, Int.reduceToNat, Int.zero_add, Int.add_zero, decide_true, decide_false, Nat.reduceLeDiff, Nat.min_self, List.drop_succ_cons, List.drop_zero, List.drop_nil, List.take_succ_cons, List.take_zero, List.take_nil, List.all_cons, List.all_nil, Bool.and_true, Bool.true_and, Nat.mul_one, List.singleton_append, Int.le_refl, Nat.le_refl, c70_0, hgl, vLen_of, hos, hol, hps, hpl', hne, ops_pan', kPn_ifc]
  · left
    rw [if_neg hm]
    have hm : path.length = dn.length := by omega
    refine ⟨rfl, ?_⟩
    have hne : ((path.length : Int) != (dn.length : Int)) = false := by simp [hm]
    obtain ⟨vs2, h2, ⟨out2, g2, rfl, rfl, ho2⟩, hlp2⟩ := loop_up (T := T) (L := [7, 9, 54, 55, 56]) (c := c70_1) (d := []) (u := some none)
      (fun j vs hh => ∃ out2 g2, vs = [out, out2, p, i64 path.length, i64 ((j : Nat) : Int)] ∧ hh = (h ++ g) ++ g2 ∧ Own (h ++ g).length 17 ((h ++ g) ++ g2) out2 (cnd ((nodesL path dn).take j))) path.length
      (by
        rintro j vs hh hj ⟨out2, g2, rfl, rfl, ho2⟩
        obtain ⟨out3, g3, a, b⟩ := round70b path h16 dn hm (by omega) j hj (h ++ g) p (rc_app hp g) out ho.rcn g2 out2 ho2
        exact ⟨_, _, a, out3, g3, rfl, rfl, b⟩)
      [out, .nils, p, i64 path.length, i64 0] (h ++ g) ⟨.nils, [], rfl, by simp, Own.nil _ _ _⟩
    have hnl : (nodesL path dn).length = path.length := by simp [nodesL, hm]
    rw [List.take_of_length_le (by omega), List.append_assoc] at ho2
    refine ⟨out2, g ++ g2, ?_, ho2.low (by simp)⟩
    have hgr : decide ((path.length : Int) < (path.length : Int)) = false := by simp
    rw [call_gc0 fn70]
    simp only [List.zip_cons_cons, List.zip_nil_right] at hlp2
    simp -implicitDefEqProofs only [runEqs, List.zipIdx_cons, List.zipIdx_nil, List.map_cons, List.map_nil, Nat.zero_add, Nat.add_zero, Nat.zero_mul, Nat.reduceAdd, Nat.reduceMul, Nat.reduceBEq, Nat.reduceLT, Nat.reduceSub, Option.map_some, Option.map_none, Option.isSome_some, Option.isSome_none, Bool.not_true, Bool.not_false, Bool.true_or, Bool.false_or, Bool.or_true, List.getElem?_cons_zero, List.getElem?_cons_succ, List.set_cons_zero, List.set_cons_succ, List.length_cons, List.length_nil, List.length_append, List.append_assoc, List.cons_append, List.nil_append, List.zip_cons_cons, List.zip_nil_right, Int.reduceAdd, Int.reduceSub, Int.reduceMul, Int.reduceLT, Int.reduceLE, Int.reduceNeg, Int.reduceToNat, Int.zero_add, Int.add_zero, decide_true, decide_false, Nat.reduceLeDiff, Nat.min_self, List.drop_succ_cons, List.drop_zero, List.drop_nil, List.take_succ_cons, List.take_zero, List.take_nil, List.all_cons, List.all_nil, Bool.and_true, Bool.true_and, Nat.mul_one, List.singleton_append, Int.le_refl, Nat.le_refl, c70, r70, hg, hg1, hg2, hlp]
    simp -implicitDefEqProofs only [runEqs, List.zipIdx_cons, List.zipIdx_nil, List.map_cons, List.map_nil, Nat.zero_add, Nat.add_zero, Nat.zero_mul, Nat.reduceAdd, Nat.reduceMul, Nat.reduceBEq, Nat.reduceLT, Nat.reduceSub, Option.map_some, Option.map_none, Option.isSome_some, Option.isSome_none, Bool.not_true, Bool.not_false, Bool.true_or, Bool.false_or, Bool.or_true, List.getElem?_cons_zero, List.getElem?_cons_succ, List.set_cons_zero, List.set_cons_succ, List.length_cons, List.length_nil, List.length_append, List.append_assoc, List.cons_append, List.nil_append, List.zip_cons_cons, List.zip_nil_right, Int.reduceAdd, Int.reduceSub, Int.reduceMul, Int.reduceLT, Int.reduceLE, Int.reduceNeg, Int.reduceToNat, Int.zero_add, Int.add_zero, decide_true, decide_false, Nat.reduceLeDiff, Nat.min_self, List.drop_succ_cons, List.drop_zero, List.drop_nil, List.take_succ_cons, List.take_zero, List.take_nil, List.all_cons, List.all_nil, Bool.and_true, Bool.true_and, Nat.mul_one, List.singleton_append, Int.le_refl, Nat.le_refl, c70_0, hgl, vLen_of, hos, hol, hps, hpl', hne, hlp2]
    simp -implicitDefEqProofs only [runEqs, List.zipIdx_cons, List.zipIdx_nil, List.map_cons, List.map_nil, Nat.zero_add, Nat.add_zero, Nat.zero_mul, Nat.reduceAdd, Nat.reduceMul, Nat.reduceBEq, Nat.reduceLT, Nat.reduceSub, Option.map_some, Option.map_none, Option.isSome_some, Option.isSome_none, Bool.not_true, Bool.not_false, Bool.true_or, Bool.false_or, Bool.or_true, List.getElem?_cons_zero, List.getElem?_cons_succ, List.set_cons_zero, List.set_cons_succ, List.length_cons, List.length_nil, List.length_append, List.append_assoc, List.cons_append, List.nil_append, List.zip_cons_cons, List.zip_nil_right, Int.reduceAdd, Int.reduceSub, Int.reduceMul, Int.reduceLT, Int.reduceLE, Int.reduceNeg, Int.reduceToNat, Int.zero_add, Int.add_zero, decide_true, decide_false, Nat.reduceLeDiff, Nat.min_self, List.drop_succ_cons, List.drop_zero, List.drop_nil, List.take_succ_cons, List.take_zero, List.take_nil, List.all_cons, List.all_nil, Bool.and_true, Bool.true_and, Nat.mul_one, List.singleton_append, Int.le_refl, Nat.le_refl, c70_1, hgr]
end Go.Proofs.Ytccepmhhilhajaa.K

/- What is hashed on the way from a leaf to the root. -/
set_option linter.unusedVariables false
set_option linter.unusedSimpArgs false
set_option maxRecDepth 100000
namespace Go.Proofs.Ytccepmhhilhajaa.K
open Go Go.A

theorem call69n (H g : Heap) (A B : Blk) : (run T).call 69 [.ptr H.length 0, .ptr (H.length + 1) 0] none (H ++ A :: B :: g) = some (.ret (.tup []), none, H ++ A :: B :: (g ++ [.cells .ex [i64 0]])) := by
  rw [call_gc0 fn69]
  simp -implicitDefEqProofs only [runEqs, List.zipIdx_cons, List.zipIdx_nil, List.map_cons, List.map_nil, Nat.zero_add, Nat.add_zero, Nat.zero_mul, Nat.reduceAdd, Nat.reduceMul, Nat.reduceBEq, Nat.reduceLT, Nat.reduceSub, Option.map_some, Option.map_none, Option.isSome_some, Option.isSome_none, Bool.not_true, Bool.not_false, Bool.true_or, Bool.false_or, Bool.or_true, List.getElem?_cons_zero, List.getElem?_cons_succ, List.set_cons_zero, List.set_cons_succ, List.length_cons, List.length_nil, List.length_append, List.append_assoc, List.cons_append, List.nil_append, List.zip_cons_cons, List.zip_nil_right, Int.reduceAdd, Int.reduceSub, Int.reduceMul, Int.reduceLT, Int.reduceLE, Int.reduceNeg, Int.reduceToNat, Int.zero_add, Int.add_zero, decide_true, decide_false, Nat.reduceLeDiff, Nat.min_self, List.drop_succ_cons, List.drop_zero, List.drop_nil, List.take_succ_cons, List.take_zero, List.take_nil, List.all_cons, List.all_nil, Bool.and_true, Bool.true_and, Nat.mul_one, List.singleton_append, Int.le_refl, Nat.le_refl, c69, r69, ev_asrt, vAs_nil]
theorem call69p (H g : Heap) (x y : V) (e : Int) : (run T).call 69 [.ptr H.length 0, .ptr (H.length + 1) 0] (some (.ifc 96 (.agg [i64 e]))) (H ++ .cells .ex [x] :: .cells .ex [y] :: g) =
    some (.ret (.tup []), none, H ++ .cells .ex [.nils] :: .cells .ex [i64 e] :: (g ++ [.cells .ex [i64 e]])) := by
  rw [call_gc0 fn69]
  simp -implicitDefEqProofs only [runEqs, List.zipIdx_cons, List.zipIdx_nil, List.map_cons, List.map_nil, Nat.zero_add, Nat.add_zero, Nat.zero_mul, Nat.reduceAdd, Nat.reduceMul, Nat.reduceBEq, Nat.reduceLT, Nat.reduceSub, Option.map_some, Option.map_none, Option.isSome_some, Option.isSome_none, Bool.not_true, Bool.not_false, Bool.true_or, Bool.false_or, Bool.or_true, List.getElem?_cons_zero, List.getElem?_cons_succ, List.set_cons_zero, List.set_cons_succ, List.length_cons, List.length_nil, List.length_append, List.append_assoc, List.cons_append, List.nil_append, List.zip_cons_cons, List.zip_nil_right, Int.reduceAdd, Int.reduceSub, Int.reduceMul, Int.reduceLT, Int.reduceLE, Int.reduceNeg, Int.reduceToNat, Int.zero_add, Int.add_zero, decide_true, decide_false, Nat.reduceLeDiff, Nat.min_self, List.drop_succ_cons, List.drop_zero, List.drop_nil, List.take_succ_cons, List.take_zero, List.take_nil, List.all_cons, List.all_nil, Bool.and_true, Bool.true_and, Nat.mul_one, List.singleton_append, Int.le_refl, Nat.le_refl, c69, r69, ops_rcv1, ev_asrt, vAs_hit, one_nils]

theorem rc_swap2 {e : Nat} {H g : Heap} {A A' B B' : Blk} {w : V} {cs : List V} (h : rc e (H ++ A :: B :: g) w = some cs) (hb : H.length + 2 ≤ blkOf w) : rc e (H ++ A' :: B' :: g) w = some cs := by
  rcases rc_cases h with ⟨rfl, rfl⟩ | ⟨b, o, n, c, bs, rfl, h1, h2, h3, rfl⟩
  · rfl
  · refine rc_mk h1 ?_ h3
    rw [← h2]
    simp only [blkOf_sl] at hb
    obtain ⟨j, rfl⟩ : ∃ j, b = H.length + (j + 1 + 1) := ⟨b - H.length - 2, by omega⟩
    simp only [cellsAt, blk_get, List.getElem?_cons_succ]
theorem own_blk {n e : Nat} {h : Heap} {v : V} {cs : List V} (o : Own n e h v cs) (hne : cs ≠ []) : n ≤ blkOf v ∧ blkOf v < h.length := by
  rcases o with ⟨rfl, rfl⟩ | ⟨b, m, k, a1, a2, a3, a4, rfl⟩
  · exact absurd rfl hne
  · exact ⟨a1, (List.getElem?_eq_some_iff.1 a2).1⟩

def nxtB (c : List (BitVec 8)) (x : List (BitVec 8) × Bool) : List (BitVec 8) := 1 :: (if x.2 = true then digL c ++ x.1 else x.1 ++ digL c)
def curK (c : List (BitVec 8)) (nd : List (List (BitVec 8) × Bool)) : Nat → List (BitVec 8)
  | 0 => c
  | k + 1 => nxtB (curK c nd k) (nd.getD k ([], false))
def hashL (leaf : List (BitVec 8)) (nd : List (List (BitVec 8) × Bool)) : List (List (BitVec 8)) := (List.range (nd.length + 1)).map (curK (0 :: leaf) nd)
def allN (nd : List (List (BitVec 8) × Bool)) : Prop := ∀ x ∈ nd, x.1.length = 16
theorem curK_len (leaf : List (BitVec 8)) (nd : List (List (BitVec 8) × Bool)) (h : allN nd) : ∀ k, k ≤ nd.length → (curK (0 :: leaf) nd k).length ≤ leaf.length + 33 ∧ 0 < (curK (0 :: leaf) nd k).length
  | 0, _ => by simp only [curK, List.length_cons]; omega
  | k + 1, hk => by
    have hx : (nd.getD k ([], false)).1.length = 16 := by
      rw [List.getD_eq_getElem?_getD, List.getElem?_eq_getElem (by omega)]; exact h _ (List.getElem_mem _)
    simp only [curK, nxtB, List.length_cons]
    split <;> simp only [List.length_append, digL_len, hx] <;> omega

/-- The state of the loop. -/
structure HI (H : Heap) (leaf : List (BitVec 8)) (nd : List (List (BitVec 8) × Bool)) (nv : V) (k : Nat) (out : V) (g : Heap) (ws : List V) : Prop where
  own : Own (H.length + 2) 1 (H ++ .cells .ex [out] :: .cells .ex [i64 0] :: g) out ws
  len : ws.length = k + 1
  wone : ws.all V.one = true
  el : ∀ j, j ≤ k → ∃ w, ws[j]? = some w ∧ rc 1 (H ++ .cells .ex [out] :: .cells .ex [i64 0] :: g) w = some (cu8 (curK (0 :: leaf) nd j)) ∧ H.length + 2 ≤ blkOf w ∧ blkOf w ≠ blkOf out
  nrc : rc 17 (H ++ .cells .ex [out] :: .cells .ex [i64 0] :: g) nv = some (cnd nd)
  nbl : nd ≠ [] → H.length + 2 ≤ blkOf nv ∧ blkOf nv ≠ blkOf out

theorem cnd_get (nd : List (List (BitVec 8) × Bool)) (h : allN nd) (k : Nat) (hk : k < nd.length) : ((cnd nd).drop (k * 17)).take 17 = cnode nd[k] := by
  rw [cnd, flat_get 17 _ (by
    intro x hx
    obtain ⟨y, hy, rfl⟩ := List.mem_map.1 hx
    exact cnode_len y (h y hy)) k (by simpa using hk)]
  simp
theorem cnd_len (nd : List (List (BitVec 8) × Bool)) (h : allN nd) : (cnd nd).length = nd.length * 17 := by
  rw [cnd, flat_len 17 _ (by
    intro x hx
    obtain ⟨y, hy, rfl⟩ := List.mem_map.1 hx
    exact cnode_len y (h y hy)), List.length_map]

set_option maxHeartbeats 1000000 in
theorem round52 (H : Heap) (leaf : List (BitVec 8)) (hlf : leaf.length < 8796093000000) (nd : List (List (BitVec 8) × Bool)) (hnd : allN nd) (hsz : nd.length ≤ 4096) (nv : V) (k : Nat) (hk : k < nd.length) (out : V) (g : Heap) (ws : List V) (I : HI H leaf nd nv k out g ws) :
    ∃ out' g' ws', Nxt (execC (run T) c52_0 ⟨[8, 9, 20, 21, 22].zip [.ptr H.length 0, .ptr (H.length + 1) 0, nv, i64 nd.length, i64 k], [.call 69 [.ptr H.length 0, .ptr (H.length + 1) 0]], some none⟩ (H ++ .cells .ex [out] :: .cells .ex [i64 0] :: g)) [8, 9, 20, 21, 22]
      [.ptr H.length 0, .ptr (H.length + 1) 0, nv, i64 nd.length, i64 ((k + 1 : Nat) : Int)] [.call 69 [.ptr H.length 0, .ptr (H.length + 1) 0]] (some none) (H ++ .cells .ex [out'] :: .cells .ex [i64 0] :: g') ∧ HI H leaf nd nv (k + 1) out' g' ws' := by
  obtain ⟨own, len, wone, el, nrc, nbl⟩ := I
  have hne : nd ≠ [] := fun e => by rw [e] at hk; simp at hk
  have hcl := cnd_len nd hnd
  have hnl : lenOf nv = nd.length := by have := rc_len nrc; rw [hcl] at this; omega
  have hol : lenOf out = k + 1 := by have := own.len; omega
  have hos := rc_isS own.rcn
  have hwn : ws ≠ [] := fun e => by rw [e] at len; simp at len
  have hob := own_blk own hwn
  have hg1 : decide ((k : Int) < (nd.length : Int)) = true := by simpa using by omega
  have hw := wr_succ_nat k (by omega)
  have hsb : wr (((k + 1 : Nat) : Int) - 1) = (k : Int) := by rw [wr_id (by omega) (by omega)]; omega
  have r1 := rc_ag nrc (k * 17) 17 (by rw [hcl]; omega) (by omega)
  rw [cnd_get nd hnd k hk] at r1
  obtain ⟨w, hwk, hrw, hb1, hb2⟩ := el k (Nat.le_refl _)
  have hcu := curK_len leaf nd hnd k (by omega)
  have hk1 : k < k + 1 := by omega
  have r2 : ∀ x, kAt (offOf out + k) (cellsAt (H ++ .cells .ex [out] :: .cells .ex [i64 0] :: (g ++ x)) (blkOf out)) = some w := fun x => by
    have := rc_at_app own.rcn x k (by omega)
    rw [hwk] at this
    simpa using this
  have hx16 : (nd[k]).1.length = 16 := hnd _ (List.getElem_mem _)
  have hcs : curK (0 :: leaf) nd (k + 1) = nxtB (curK (0 :: leaf) nd k) nd[k] := by
    rw [curK]; congr 1; simp [hk]
  generalize hc0 : curK (0 :: leaf) nd k = cur at *
  have hd := digL_len cur
  generalize hdl : digL cur = dg at *
  generalize hx0 : nd[k] = x at *
  obtain ⟨d, r⟩ := x
  have h39 := call39 cur (by omega) (H ++ .cells .ex [out] :: .cells .ex [i64 0] :: (g ++ [.cells .ex (cnode (d, r))])) w (by have := rc_app hrw [.cells .ex (cnode (d, r))]; simpa using this)
  rw [hdl] at h39
  simp only at hx16
  have d1 := len16 d hx16
  have d2 := take16 d hx16
  have d3 := len16 dg hd
  have d4 := take16 dg hd
  have c1 : (cnode (d, r)).length = 17 := cnode_len _ hx16
  have c2 : (cnode (d, r)).take 17 = cnode (d, r) := List.take_of_length_le (by omega)
  have c3 : (cnode (d, r)).take 16 = cu8 d := by
    show (cu8 d ++ [V.bool r]).take 16 = cu8 d
    rw [List.take_append_of_le_length (by omega), d2]
  have c4 : (cnode (d, r))[16]? = some (.bool r) := by
    show (cu8 d ++ [V.bool r])[16]? = some (.bool r)
    rw [List.getElem?_append_right (by omega), d1]; rfl
  have c5 : (cnode (d, r)).all V.one = true := by rw [cnode, List.all_append, cu8_one]; simp [one_bool]
  -- the pair
  obtain ⟨w', g1, e65, o65⟩ : ∃ w' g1, (if r = true then (run T).call 65 [.agg (cu8 dg), .agg (cu8 d)] none (H ++ .cells .ex [out] :: .cells .ex [i64 0] :: (g ++ [.cells .ex (cnode (d, r)), .cells .ex (cu8 dg)])) else
      (run T).call 65 [.agg (cu8 d), .agg (cu8 dg)] none (H ++ .cells .ex [out] :: .cells .ex [i64 0] :: (g ++ [.cells .ex (cnode (d, r)), .cells .ex (cu8 dg)]))) = some (.ret w', none, H ++ .cells .ex [out] :: .cells .ex [i64 0] :: (g ++ .cells .ex (cnode (d, r)) :: .cells .ex (cu8 dg) :: g1)) ∧
      Own (H.length + (g.length + 2 + 1 + 1)) 1 (H ++ .cells .ex [out] :: .cells .ex [i64 0] :: (g ++ .cells .ex (cnode (d, r)) :: .cells .ex (cu8 dg) :: g1)) w' (cu8 (nxtB cur (d, r))) := by
    by_cases hr : r = true
    · obtain ⟨w', g1, a, b⟩ := call65 dg d hd hx16 (H ++ .cells .ex [out] :: .cells .ex [i64 0] :: (g ++ [.cells .ex (cnode (d, r)), .cells .ex (cu8 dg)]))
      refine ⟨w', g1, ?_, ?_⟩
      · rw [if_pos hr, a]; simp only [List.append_assoc, List.cons_append, List.nil_append]
      · rw [nxtB, if_pos hr, hdl]
        simp only [List.append_assoc, List.cons_append, List.nil_append, List.length_append, List.length_cons, List.length_nil, Nat.zero_add, Nat.reduceAdd] at b
        exact b
    · obtain ⟨w', g1, a, b⟩ := call65 d dg hx16 hd (H ++ .cells .ex [out] :: .cells .ex [i64 0] :: (g ++ [.cells .ex (cnode (d, r)), .cells .ex (cu8 dg)]))
      refine ⟨w', g1, ?_, ?_⟩
      · rw [if_neg hr, a]; simp only [List.append_assoc, List.cons_append, List.nil_append]
      · rw [nxtB, if_neg hr, hdl]
        simp only [List.append_assoc, List.cons_append, List.nil_append, List.length_append, List.length_cons, List.length_nil, Nat.zero_add, Nat.reduceAdd] at b
        exact b
  have hnn : cu8 (nxtB cur (d, r)) ≠ [] := by simp [cu8, nxtB]
  have hwb := own_blk o65 hnn
  have hws := rc_isS o65.rcn
  have hw1 := isS_one hws
  have hwo := isS_ok hws
  have hwc := isS_cells hws
  -- the append
  have o3 : Own (H.length + 2) 1 (H ++ .cells .ex [out] :: .cells .ex [i64 0] :: (g ++ .cells .ex (cnode (d, r)) :: .cells .ex (cu8 dg) :: (g1 ++ [.cells .ex [w']]))) out ws := by
    have := own.app (.cells .ex (cnode (d, r)) :: .cells .ex (cu8 dg) :: (g1 ++ [.cells .ex [w']]))
    simpa using this
  have x3 : rc 1 (H ++ .cells .ex [out] :: .cells .ex [i64 0] :: (g ++ .cells .ex (cnode (d, r)) :: .cells .ex (cu8 dg) :: (g1 ++ [.cells .ex [w']]))) (.sl 1 (H.length + (g.length + (g1.length + 1 + 1) + 1 + 1)) 0 1 1) = some [w'] := by
    have := rc_new 1 (H ++ .cells .ex [out] :: .cells .ex [i64 0] :: (g ++ .cells .ex (cnode (d, r)) :: .cells .ex (cu8 dg) :: g1)) .ex [w'] 1 rfl
    simpa using this
  obtain ⟨h', e4, o4, k4⟩ := app_new (bts := 24) (by omega) (by simp) o3 x3 (by simp [lenOf]) (by simpa using hw1) (by rw [hol]; simp only [lenOf]; omega) (by rw [hol]; simp only [lenOf]; omega)
  have hlen3 : (H ++ Blk.cells .ex [out] :: Blk.cells .ex [i64 0] :: (g ++ Blk.cells .ex (cnode (d, r)) :: Blk.cells .ex (cu8 dg) :: (g1 ++ [Blk.cells .ex [w']]))).length = H.length + (g.length + (g1.length + 1 + 1 + 1) + 1 + 1) := by simp
  have ht := k4.take (by simp)
  rw [take_two] at ht
  generalize h'.drop (H.length + 2) = g2 at ht
  subst ht
  simp only [List.append_assoc, List.cons_append, List.nil_append] at e4 o4 k4
  simp only [hlen3, hol, lenOf_sl] at e4 o4
  obtain ⟨out', hout'⟩ : ∃ o : V, o = .sl 1 (H.length + (g.length + (g1.length + 1 + 1 + 1) + 1 + 1)) 0 (k + 1 + 1) (k + 1 + 1) := ⟨_, rfl⟩
  have hob' : blkOf out' = H.length + (g.length + (g1.length + 1 + 1 + 1) + 1 + 1) := by rw [hout']; rfl
  have ho1' : out'.one = true := by rw [hout']; rfl
  rw [← hout'] at e4 o4
  have trans : ∀ (ee : Nat) (z : V) (cs : List V), rc ee (H ++ .cells .ex [out] :: .cells .ex [i64 0] :: g) z = some cs → H.length + 2 ≤ blkOf z → blkOf z ≠ blkOf out → rc ee (H ++ .cells .ex [out'] :: .cells .ex [i64 0] :: g2) z = some cs := fun ee z cs hz hb hne => by
    have h1 := rc_app hz (.cells .ex (cnode (d, r)) :: .cells .ex (cu8 dg) :: (g1 ++ [.cells .ex [w']]))
    simp only [List.append_assoc, List.cons_append, List.nil_append] at h1
    exact rc_swap2 (k4.rc h1 (.inr hne)) hb
  refine ⟨out', g2, ws ++ [w'], ?_, ⟨own_swap2 o4, by simp [len], by rw [List.all_append, wone]; simp [hw1], fun j hj => ?_, trans 17 nv _ nrc (nbl hne).1 (nbl hne).2, fun _ => ⟨(nbl hne).1, ?_⟩⟩⟩
  · cases r with
    | true =>
      rw [if_pos rfl] at e65
      simp -implicitDefEqProofs only [runEqs, List.zipIdx_cons, List.zipIdx_nil, List.map_cons, List.map_nil, Nat.zero_add, Nat.add_zero, Nat.zero_mul, Nat.reduceAdd, Nat.reduceMul, Nat.reduceBEq, Nat.reduceLT, Nat.reduceSub, Option.map_some, Option.map_none, Option.isSome_some, Option.isSome_none, Bool.not_true, Bool.not_false, Bool.true_or, Bool.false_or, Bool.or_true, List.getElem?_cons_zero, List.getElem?_cons_succ, List.set_cons_zero, List.set_cons_succ, List.length_cons, List.length_nil, List.length_append, List.append_assoc, List.cons_append, List.nil_append, List.zip_cons_cons, List.zip_nil_right, Int.reduceAdd, Int.reduceSub, Int.reduceMul, Int.reduceLT, Int.reduceLE, Int.reduceNeg, Int.reduceToNat, Int.zero_add, Int.add_zero, decide_true, decide_false, Nat.reduceLeDiff, Nat.min_self, List.drop_succ_cons, List.drop_zero, List.drop_nil, List.take_succ_cons, List.take_zero, List.take_nil, List.all_cons, List.all_nil, Bool.and_true, Bool.true_and, Nat.mul_one, List.singleton_append, Int.le_refl, Nat.le_refl, c52_0, hg1, hw, hsb, vIS_of, hnl, hol, hk, hk1, vLen_of, hos, vLdN_ptr, r1, r2, c1, c2, c3, c4, c5, h39, d1, d2, d3, d4, List.length_replicate, cu8_one, e65, hwo, hwc, e4, ho1', one_bool]
      exact nxt_some _ _ _ _ _ _ _ rfl rfl
    | false =>
      rw [if_neg (by decide)] at e65
      simp -implicitDefEqProofs only [runEqs, List.zipIdx_cons, List.zipIdx_nil, List.map_cons, List.map_nil, Nat.zero_add, Nat.add_zero, Nat.zero_mul, Nat.reduceAdd, Nat.reduceMul, Nat.reduceBEq, Nat.reduceLT, Nat.reduceSub, Option.map_some, Option.map_none, Option.isSome_some, Option.isSome_none, Bool.not_true, Bool.not_false, Bool.true_or, Bool.false_or, Bool.or_true, List.getElem?_cons_zero, List.getElem?_cons_succ, List.set_cons_zero, List.set_cons_succ, List.length_cons, List.length_nil, List.length_append, List.append_assoc, List.cons_append, List.nil_append, List.zip_cons_cons, List.zip_nil_right, Int.reduceAdd, Int.reduceSub, Int.reduceMul, Int.reduceLT, Int.reduceLE, Int.reduceNeg, Int.reduceToNat, Int.zero_add, Int.add_zero, decide_true, decide_false, Nat.reduceLeDiff, Nat.min_self, List.drop_succ_cons, List.drop_zero, List.drop_nil, List.take_succ_cons, List.take_zero, List.take_nil, List.all_cons, List.all_nil, Bool.and_true, Bool.true_and, Nat.mul_one, List.singleton_append, Int.le_refl, Nat.le_refl, c52_0, hg1, hw, hsb, vIS_of, hnl, hol, hk, hk1, vLen_of, hos, vLdN_ptr, r1, r2, c1, c2, c3, c4, c5, h39, d1, d2, d3, d4, List.length_replicate, cu8_one, e65, hwo, hwc, e4, ho1', one_bool]
      exact nxt_some _ _ _ _ _ _ _ rfl rfl
  · by_cases hjk : j ≤ k
    · obtain ⟨z, z1, z2, z3, z4⟩ := el j hjk
      have hcj := curK_len leaf nd hnd j (by omega)
      have hbl := rc_blk z2 (by rw [cu8_len]; omega)
      refine ⟨z, by rw [List.getElem?_append_left (by omega)]; exact z1, trans 1 z _ z2 z3 z4, z3, ?_⟩
      rw [hob']
      simp only [List.length_append, List.length_cons] at hbl
      omega
    · have hjk : j = k + 1 := by omega
      subst hjk
      refine ⟨w', by rw [List.getElem?_append_right (by omega), len, Nat.sub_self]; rfl, ?_, by omega, ?_⟩
      · rw [hcs]
        have h1 := rc_app o65.rcn [.cells .ex [w']]
        simp only [List.append_assoc, List.cons_append, List.nil_append] at h1
        refine rc_swap2 (k4.rc h1 (.inr ?_)) (by omega)
        have := hob.2
        simp only [List.length_append, List.length_cons] at this
        omega
      · rw [hob']
        have := hwb.2
        simp only [List.length_append, List.length_cons] at this
        omega
  · rw [hob']
    have hbl := rc_blk nrc (by rw [hcl]; omega)
    simp only [List.length_append, List.length_cons] at hbl
    omega

def hashE (n i : Int) (m : Nat) : Int := placeE n i m
theorem nodes_ok (path : List (List (BitVec 8))) (h : all16 path) (sd : List Bool) : allN (nodesL path sd) := fun x hx => h _ (List.of_mem_zip hx).1

theorem call52 (n i : Int) (leaf : List (BitVec 8)) (hlf : leaf.length < 8796093000000) (path : List (List (BitVec 8))) (h16 : all16 path) (hpl : path.length < 4611686018427387904) (h : Heap) (lv p : V) (hlv : rc 1 h lv = some (cu8 leaf)) (hp : rc 16 h p = some (cdg path)) :
    ∃ out g, (run T).call 52 [i64 n, i64 i, lv, p] none h = some (.ret (.tup [out, i64 (placeE n i path.length)]), none, h ++ g) ∧
      (placeE n i path.length = 0 → Lv (h ++ g) out (hashL leaf (nodesL path (sidL n.toNat i.toNat)))) ∧ (placeE n i path.length ≠ 0 → out = .nils) := by
  obtain ⟨w0, g0, e64, o64⟩ := call64 leaf (by omega) (h ++ [.cells .ex [.nils], .cells .ex [i64 0]]) lv (rc_app hlv _)
  simp only [List.append_assoc, List.cons_append, List.nil_append, List.length_append, List.length_cons, List.length_nil, Nat.zero_add, Nat.reduceAdd] at e64 o64
  have hw0 := own_blk o64 (by simp [cu8])
  have hws := rc_isS o64.rcn
  have hw1 := isS_one hws
  have hwo := isS_ok hws
  have hwc := isS_cells hws
  obtain ⟨out0, hout0⟩ : ∃ o : V, o = .sl 1 (h.length + (g0.length + 1 + 1)) 0 1 1 := ⟨_, rfl⟩
  have ho1 : out0.one = true := by rw [hout0]; rfl
  have hob : blkOf out0 = h.length + (g0.length + 1 + 1) := by rw [hout0]; rfl
  have h70 := call70 n i path h16 hpl (h ++ .cells .ex [out0] :: .cells .ex [i64 0] :: (g0 ++ [.cells .ex [w0]])) p (rc_app hp _)
  rcases h70 with ⟨he, nv, g, e70, o70⟩ | ⟨he, g, e70⟩
  · rw [he]
    simp only [List.append_assoc, List.cons_append, List.nil_append] at e70 o70
    have hpe := he
    generalize hnd : nodesL path (sidL n.toNat i.toNat) = nd at *
    have hN : allN nd := by rw [← hnd]; exact nodes_ok path h16 _
    have hnl : nd.length ≤ 4096 := by
      rw [← hnd, nodesL, List.length_zip, List.length_reverse]
      have hsl := sidL_len n.toNat i.toNat
      have : n.toNat ≤ 4096 := by
        unfold placeE at hpe
        split at hpe
        · simp at hpe
        · omega
      exact Nat.le_trans (Nat.min_le_right _ _) (by omega)
    have I0 : HI h leaf nd nv 0 out0 (g0 ++ .cells .ex [w0] :: g) [w0] := by
      refine ⟨?_, rfl, by simpa using hw1, fun j hj => ?_, o70.rcn, fun hne => ?_⟩
      · rw [hout0]
        refine Own.mk (m := .ex) (by omega) ?_ (.inl rfl) rfl
        rw [blk_get, List.getElem?_cons_succ, List.getElem?_cons_succ, blk_get0]; rfl
      · have hj : j = 0 := by omega
        subst hj
        refine ⟨w0, rfl, ?_, hw0.1, ?_⟩
        · have h1 := rc_app o64.rcn (.cells .ex [w0] :: g)
          simp only [List.append_assoc, List.cons_append, List.nil_append] at h1
          exact rc_swap2 h1 hw0.1
        · rw [hob]
          have := hw0.2
          simp only [List.length_append, List.length_cons] at this
          omega
      · have hcl := cnd_len nd hN
        have hb := own_blk o70 (fun e => hne (by rw [e] at hcl; exact List.length_eq_zero_iff.1 (by rw [List.length_nil] at hcl; omega)))
        simp only [List.length_append, List.length_cons, List.length_nil] at hb
        rw [hob]
        omega
    obtain ⟨vs', h', ⟨out, g', ws, rfl, rfl, I⟩, hlp⟩ := loop_up (T := T) (L := [8, 9, 20, 21, 22]) (c := c52_0) (d := [.call 69 [.ptr h.length 0, .ptr (h.length + 1) 0]]) (u := some none)
      (fun k vs hh => ∃ out g' ws, vs = [.ptr h.length 0, .ptr (h.length + 1) 0, nv, i64 nd.length, i64 ((k : Nat) : Int)] ∧ hh = h ++ .cells .ex [out] :: .cells .ex [i64 0] :: g' ∧ HI h leaf nd nv k out g' ws) nd.length
      (by
        rintro k vs hh hk ⟨out, g', ws, rfl, rfl, I⟩
        obtain ⟨out', g2, ws', a, b⟩ := round52 h leaf hlf nd hN hnl nv k hk out g' ws I
        exact ⟨_, _, a, out', g2, ws', rfl, rfl, b⟩)
      [.ptr h.length 0, .ptr (h.length + 1) 0, nv, i64 nd.length, i64 0] (h ++ .cells .ex [out0] :: .cells .ex [i64 0] :: (g0 ++ .cells .ex [w0] :: g)) ⟨out0, _, [w0], rfl, rfl, I0⟩
    have hns := rc_isS I0.nrc
    have hnl2 : lenOf nv = nd.length := by have := rc_len I0.nrc; rw [cnd_len nd hN] at this; omega
    have hf : decide ((nd.length : Int) < (nd.length : Int)) = false := by simp
    have ho2 := isS_one (rc_isS I.own.rcn)
    have h69 := call69n h g' (.cells .ex [out]) (.cells .ex [i64 0])
    refine ⟨out, .cells .ex [out] :: .cells .ex [i64 0] :: (g' ++ [.cells .ex [i64 0]]), ?_, fun _ => ?_, fun hh => absurd rfl hh⟩
    · rw [call_gc0 fn52]
      simp only [List.zip_cons_cons, List.zip_nil_right] at hlp
      have hout0' := hout0.symm
      simp -implicitDefEqProofs only [runEqs, List.zipIdx_cons, List.zipIdx_nil, List.map_cons, List.map_nil, Nat.zero_add, Nat.add_zero, Nat.zero_mul, Nat.reduceAdd, Nat.reduceMul, Nat.reduceBEq, Nat.reduceLT, Nat.reduceSub, Option.map_some, Option.map_none, Option.isSome_some, Option.isSome_none, Bool.not_true, Bool.not_false, Bool.true_or, Bool.false_or, Bool.or_true, List.getElem?_cons_zero, List.getElem?_cons_succ, List.set_cons_zero, List.set_cons_succ, List.length_cons, List.length_nil, List.length_append, List.append_assoc, List.cons_append, List.nil_append, List.zip_cons_cons, List.zip_nil_right, Int.reduceAdd, Int.reduceSub, Int.reduceMul, Int.reduceLT, Int.reduceLE, Int.reduceNeg, Int.reduceToNat, Int.zero_add, Int.add_zero, decide_true, decide_false, Nat.reduceLeDiff, Nat.min_self, List.drop_succ_cons, List.drop_zero, List.drop_nil, List.take_succ_cons, List.take_zero, List.take_nil, List.all_cons, List.all_nil, Bool.and_true, Bool.true_and, Nat.mul_one, List.singleton_append, Int.le_refl, Nat.le_refl, c52, r52, ops_dfrv', kDf_fn, e64, hwo, hwc, hout0', ho1, e70, vLen_of, hns, hnl2, hlp]
      simp -implicitDefEqProofs only [runEqs, List.zipIdx_cons, List.zipIdx_nil, List.map_cons, List.map_nil, Nat.zero_add, Nat.add_zero, Nat.zero_mul, Nat.reduceAdd, Nat.reduceMul, Nat.reduceBEq, Nat.reduceLT, Nat.reduceSub, Option.map_some, Option.map_none, Option.isSome_some, Option.isSome_none, Bool.not_true, Bool.not_false, Bool.true_or, Bool.false_or, Bool.or_true, List.getElem?_cons_zero, List.getElem?_cons_succ, List.set_cons_zero, List.set_cons_succ, List.length_cons, List.length_nil, List.length_append, List.append_assoc, List.cons_append, List.nil_append, List.zip_cons_cons, List.zip_nil_right, Int.reduceAdd, Int.reduceSub, Int.reduceMul, Int.reduceLT, Int.reduceLE, Int.reduceNeg, Int.reduceToNat, Int.zero_add, Int.add_zero, decide_true, decide_false, Nat.reduceLeDiff, Nat.min_self, List.drop_succ_cons, List.drop_zero, List.drop_nil, List.take_succ_cons, List.take_zero, List.take_nil, List.all_cons, List.all_nil, Bool.and_true, Bool.true_and, Nat.mul_one, List.singleton_append, Int.le_refl, Nat.le_refl, c52_0, hf, ho2, one_i64, leave_call, h69, kLv_ret, res_cc, kR2_some]
    · refine ⟨ws, ?_, by rw [I.len, hashL]; simp, fun j hj => ?_⟩
      · have := rc_app I.own.rcn [.cells .ex [i64 0]]
        simpa using this
      · rw [hashL, List.length_map, List.length_range] at hj
        obtain ⟨w, a, b, -, -⟩ := I.el j (by omega)
        refine ⟨w, a, ?_⟩
        have := rc_app b [.cells .ex [i64 0]]
        simpa [hashL] using this
  · refine ⟨.nils, .cells .ex [.nils] :: .cells .ex [i64 (placeE n i path.length)] :: (g0 ++ .cells .ex [w0] :: (g ++ [.cells .ex [i64 (placeE n i path.length)]])), ?_, fun hh => absurd hh he, fun _ => rfl⟩
    simp only [List.append_assoc, List.cons_append, List.nil_append] at e70
    generalize placeE n i path.length = e at *
    have h69 := call69p h (g0 ++ .cells .ex [w0] :: g) out0 (i64 0) e
    have hout0' := hout0.symm
    rw [call_gc0 fn52]
    simp -implicitDefEqProofs only [runEqs, List.zipIdx_cons, List.zipIdx_nil, List.map_cons, List.map_nil, Nat.zero_add, Nat.add_zero, Nat.zero_mul, Nat.reduceAdd, Nat.reduceMul, Nat.reduceBEq, Nat.reduceLT, Nat.reduceSub, Option.map_some, Option.map_none, Option.isSome_some, Option.isSome_none, Bool.not_true, Bool.not_false, Bool.true_or, Bool.false_or, Bool.or_true, List.getElem?_cons_zero, List.getElem?_cons_succ, List.set_cons_zero, List.set_cons_succ, List.length_cons, List.length_nil, List.length_append, List.append_assoc, List.cons_append, List.nil_append, List.zip_cons_cons, List.zip_nil_right, Int.reduceAdd, Int.reduceSub, Int.reduceMul, Int.reduceLT, Int.reduceLE, Int.reduceNeg, Int.reduceToNat, Int.zero_add, Int.add_zero, decide_true, decide_false, Nat.reduceLeDiff, Nat.min_self, List.drop_succ_cons, List.drop_zero, List.drop_nil, List.take_succ_cons, List.take_zero, List.take_nil, List.all_cons, List.all_nil, Bool.and_true, Bool.true_and, Nat.mul_one, List.singleton_append, Int.le_refl, Nat.le_refl, c52, r52, ops_dfrv', kDf_fn, e64, hwo, hwc, hout0', ho1, e70, leave_call, h69, kLv_ret, res_cc, kR2_some]
end Go.Proofs.Ytccepmhhilhajaa.K

/- Above and Check. -/
set_option linter.unusedVariables false
set_option linter.unusedSimpArgs false
set_option maxRecDepth 100000
namespace Go.Proofs.Ytccepmhhilhajaa.K
open Go Go.A

def aboveV (n i : Int) (leaf : List (BitVec 8)) (path : List (List (BitVec 8))) : List (BitVec 8) :=
  if placeE n i path.length = 0 then digL (curK (0 :: leaf) (nodesL path (sidL n.toNat i.toNat)) (nodesL path (sidL n.toNat i.toNat)).length) else zer16
theorem aboveV_len (n i : Int) (leaf : List (BitVec 8)) (path : List (List (BitVec 8))) : (aboveV n i leaf path).length = 16 := by
  unfold aboveV
  split
  · exact digL_len _
  · rfl

theorem call30 (n i : Int) (leaf : List (BitVec 8)) (hlf : leaf.length < 8796093000000) (path : List (List (BitVec 8))) (h16 : all16 path) (hpl : path.length < 4611686018427387) (h : Heap) (lv p : V) (hlv : rc 1 h lv = some (cu8 leaf)) (hp : rc 16 h p = some (cdg path)) :
    (run T).call 30 [i64 n, i64 i, lv, p] none h = some (.ret (.tup [.agg (cu8 (aboveV n i leaf path)), i64 (placeE n i path.length)]), none, h) := by
  have key : ∃ h', kF (run T) r30 (execC (run T) c30 (frame0 [i64 n, i64 i, lv, p] none) (roH h)) = some (.ret (.tup [.agg (cu8 (aboveV n i leaf path)), i64 (placeE n i path.length)]), none, h') := by
    replace hlv := rc_ro hlv
    replace hp := rc_ro hp
    generalize roH h = H at hlv hp ⊢
    obtain ⟨out, g, e52, hL, hN⟩ := call52 n i leaf hlf path h16 (by omega) (H ++ [.cells .ex (List.replicate 16 (u8 0))]) lv p (rc_app hlv _) (rc_app hp _)
    by_cases he : placeE n i path.length = 0
    · have hL := hL he
      rw [aboveV, if_pos he]
      rw [he] at e52 ⊢
      have hall := nodes_ok path h16 (sidL n.toNat i.toNat)
      have hnl : (nodesL path (sidL n.toNat i.toNat)).length < 4611686018427387 := by
        rw [nodesL, List.length_zip]; exact Nat.lt_of_le_of_lt (Nat.min_le_left _ _) hpl
      generalize nodesL path (sidL n.toNat i.toNat) = nd at *
      have hlen : (hashL leaf nd).length = nd.length + 1 := by simp [hashL]
      have hol := hL.len
      rw [hlen] at hol
      have hos := hL.isS
      obtain ⟨w, hat, hat0, hw⟩ := hL.at nd.length (by omega)
      have hcu := curK_len leaf nd hall nd.length (Nat.le_refl _)
      have hge : (hashL leaf nd)[nd.length] = curK (0 :: leaf) nd nd.length := by simp [hashL]
      rw [hge] at hw
      have hne : ((0 : Int) != 0) = false := rfl
      have hsb : wr (((nd.length + 1 : Nat) : Int) - 1) = (nd.length : Int) := by rw [wr_id (by omega) (by omega)]; omega
      have hlt : nd.length < nd.length + 1 := by omega
      have h39 := call39 (curK (0 :: leaf) nd nd.length) (by omega) _ w hw
      have hd := digL_len (curK (0 :: leaf) nd nd.length)
      generalize digL (curK (0 :: leaf) nd nd.length) = dg at *
      have d1 := len16 dg hd
      have d2 := take16 dg hd
      simp only [List.append_assoc, List.cons_append, List.nil_append] at e52 h39 hat0
      simp -implicitDefEqProofs only [runEqs, List.zipIdx_cons, List.zipIdx_nil, List.map_cons, List.map_nil, Nat.zero_add, Nat.add_zero, Nat.zero_mul, Nat.reduceAdd, Nat.reduceMul, Nat.reduceBEq, Nat.reduceLT, Nat.reduceSub, Option.map_some, Option.map_none, Option.isSome_some, Option.isSome_none, Bool.not_true, Bool.not_false, Bool.true_or, Bool.false_or, Bool.or_true, List.getElem?_cons_zero, List.getElem?_cons_succ, List.set_cons_zero, List.set_cons_succ, List.length_cons, List.length_nil, List.length_append, List.append_assoc, List.cons_append, List.nil_append, List.zip_cons_cons, List.zip_nil_right, Int.reduceAdd, Int.reduceSub, Int.reduceMul, Int.reduceLT, Int.reduceLE, Int.reduceNeg, Int.reduceToNat, Int.zero_add, Int.add_zero, decide_true, decide_false, Nat.reduceLeDiff, Nat.min_self, List.drop_succ_cons, List.drop_zero, List.drop_nil, List.take_succ_cons, List.take_zero, List.take_nil, List.all_cons, List.all_nil, Bool.and_true, Bool.true_and, Nat.mul_one, List.singleton_append, Int.le_refl, Nat.le_refl, c30, r30, e52, hne, vLen_of, hos, hol, hsb, vIS_of, hlt, hat0, h39, d1, d2, List.length_replicate, cu8_one]
      exact ⟨_, rfl⟩
    · rw [aboveV, if_neg he]
      generalize placeE n i path.length = e at *
      have hne : (e != 0) = true := by simpa using he
      have hz : cu8 zer16 = List.replicate 16 (u8 0) := zer16_c
      rw [hz]
      simp only [List.append_assoc, List.cons_append, List.nil_append] at e52
      simp -implicitDefEqProofs only [runEqs, List.zipIdx_cons, List.zipIdx_nil, List.map_cons, List.map_nil, Nat.zero_add, Nat.add_zero, Nat.zero_mul, Nat.reduceAdd, Nat.reduceMul, Nat.reduceBEq, Nat.reduceLT, Nat.reduceSub, Option.map_some, Option.map_none, Option.isSome_some, Option.isSome_none, Bool.not_true, Bool.not_false, Bool.true_or, Bool.false_or, Bool.or_true, List.getElem?_cons_zero, List.getElem?_cons_succ, List.set_cons_zero, List.set_cons_succ, List.length_cons, List.length_nil, List.length_append, List.append_assoc, List.cons_append, List.nil_append, List.zip_cons_cons, List.zip_nil_right, Int.reduceAdd, Int.reduceSub, Int.reduceMul, Int.reduceLT, Int.reduceLE, Int.reduceNeg, Int.reduceToNat, Int.zero_add, Int.add_zero, decide_true, decide_false, Nat.reduceLeDiff, Nat.min_self, List.drop_succ_cons, List.drop_zero, List.drop_nil, List.take_succ_cons, List.take_zero, List.take_nil, List.all_cons, List.all_nil, Bool.and_true, Bool.true_and, Nat.mul_one, List.singleton_append, Int.le_refl, Nat.le_refl, c30, r30, e52, hne, List.length_replicate, List.all_replicate, one_u8, ite_self]
      exact ⟨_, rfl⟩
  obtain ⟨h', hk⟩ := key
  exact call_gc1 fn30 _ _ hk (by simp only [V.bel, belowL, bel_cu8, i64, Bool.and_true])

def checkV (root : List (BitVec 8)) (n i : Int) (leaf : List (BitVec 8)) (path : List (List (BitVec 8))) : Int :=
  if placeE n i path.length = 0 then (if (aboveV n i leaf path == root) = true then 0 else 22) else placeE n i path.length

theorem call32 (root : List (BitVec 8)) (hrt : root.length = 16) (n i : Int) (leaf : List (BitVec 8)) (hlf : leaf.length < 8796093000000) (path : List (List (BitVec 8))) (h16 : all16 path) (hpl : path.length < 4611686018427387) (h : Heap) (lv p : V) (hlv : rc 1 h lv = some (cu8 leaf)) (hp : rc 16 h p = some (cdg path)) :
    (run T).call 32 [.agg (cu8 root), i64 n, i64 i, lv, p] none h = some (.ret (i64 (checkV root n i leaf path)), none, h) := by
  have key : ∃ h', kF (run T) r32 (execC (run T) c32 (frame0 [.agg (cu8 root), i64 n, i64 i, lv, p] none) (roH h)) = some (.ret (i64 (checkV root n i leaf path)), none, h') := by
    replace hlv := rc_ro hlv
    replace hp := rc_ro hp
    generalize roH h = H at hlv hp ⊢
    have e30 := call30 n i leaf hlf path h16 hpl (H ++ [.cells .ex (cu8 root)]) lv p (rc_app hlv _) (rc_app hp _)
    have hd := aboveV_len n i leaf path
    rw [checkV]
    generalize aboveV n i leaf path = dg at *
    generalize placeE n i path.length = e at *
    have d1 := len16 dg hd
    have d2 := take16 dg hd
    have d3 := len16 root hrt
    have d4 := take16 root hrt
    by_cases he : e = 0
    · subst he
      have hne : ((0 : Int) == 0) = true := rfl
      have heq := eq16 dg root hd hrt
      rw [if_pos rfl]
      cases hx : (dg == root) with
      | true =>
        rw [hx] at heq
        simp -implicitDefEqProofs only [runEqs, List.zipIdx_cons, List.zipIdx_nil, List.map_cons, List.map_nil, Nat.zero_add, Nat.add_zero, Nat.zero_mul, Nat.reduceAdd, Nat.reduceMul, Nat.reduceBEq, Nat.reduceLT, Nat.reduceSub, Option.map_some, Option.map_none, Option.isSome_some, Option.isSome_none, Bool.not_true, Bool.not_false, Bool.true_or, Bool.false_or, Bool.or_true, List.getElem?_cons_zero, List.getElem?_cons_succ, List.set_cons_zero, List.set_cons_succ, List.length_cons, List.length_nil, List.length_append, List.append_assoc, List.cons_append, List.nil_append, List.zip_cons_cons, List.zip_nil_right, Int.reduceAdd, Int.reduceSub, Int.reduceMul, Int.reduceLT, Int.reduceLE, Int.reduceNeg, Int.reduceToNat, Int.zero_add, Int.add_zero, decide_true, decide_false, Nat.reduceLeDiff, Nat.min_self, List.drop_succ_cons, List.drop_zero, List.drop_nil, List.take_succ_cons, List.take_zero, List.take_nil, List.all_cons, List.all_nil, Bool.and_true, Bool.true_and, Nat.mul_one, List.singleton_append, Int.le_refl, Nat.le_refl, c32, r32, e30, hne, d1, d2, d3, d4, heq, List.length_replicate, cu8_one, if_true]
        exact ⟨_, rfl⟩
      | false =>
        rw [hx] at heq
        simp -implicitDefEqProofs only [runEqs, List.zipIdx_cons, List.zipIdx_nil, List.map_cons, List.map_nil, Nat.zero_add, Nat.add_zero, Nat.zero_mul, Nat.reduceAdd, Nat.reduceMul, Nat.reduceBEq, Nat.reduceLT, Nat.reduceSub, Option.map_some, Option.map_none, Option.isSome_some, Option.isSome_none, Bool.not_true, Bool.not_false, Bool.true_or, Bool.false_or, Bool.or_true, List.getElem?_cons_zero, List.getElem?_cons_succ, List.set_cons_zero, List.set_cons_succ, List.length_cons, List.length_nil, List.length_append, List.append_assoc, List.cons_append, List.nil_append, List.zip_cons_cons, List.zip_nil_right, Int.reduceAdd, Int.reduceSub, Int.reduceMul, Int.reduceLT, Int.reduceLE, Int.reduceNeg, Int.reduceToNat, Int.zero_add, Int.add_zero, decide_true, decide_false, Nat.reduceLeDiff, Nat.min_self, List.drop_succ_cons, List.drop_zero, List.drop_nil, List.take_succ_cons, List.take_zero, List.take_nil, List.all_cons, List.all_nil, Bool.and_true, Bool.true_and, Nat.mul_one, List.singleton_append, Int.le_refl, Nat.le_refl, c32, r32, e30, hne, d1, d2, d3, d4, heq, List.length_replicate, cu8_one, Bool.false_eq_true, if_false]
        exact ⟨_, rfl⟩
    · have hne : (e == 0) = false := by simpa using he
      rw [if_neg he]
      simp -implicitDefEqProofs only [runEqs, List.zipIdx_cons, List.zipIdx_nil, List.map_cons, List.map_nil, Nat.zero_add, Nat.add_zero, Nat.zero_mul, Nat.reduceAdd, Nat.reduceMul, Nat.reduceBEq, Nat.reduceLT, Nat.reduceSub, Option.map_some, Option.map_none, Option.isSome_some, Option.isSome_none, Bool.not_true, Bool.not_false, Bool.true_or, Bool.false_or, Bool.or_true, List.getElem?_cons_zero, List.getElem?_cons_succ, List.set_cons_zero, List.set_cons_succ, List.length_cons, List.length_nil, List.length_append, List.append_assoc, List.cons_append, List.nil_append, List.zip_cons_cons, List.zip_nil_right, Int.reduceAdd, Int.reduceSub, Int.reduceMul, Int.reduceLT, Int.reduceLE, Int.reduceNeg, Int.reduceToNat, Int.zero_add, Int.add_zero, decide_true, decide_false, Nat.reduceLeDiff, Nat.min_self, List.drop_succ_cons, List.drop_zero, List.drop_nil, List.take_succ_cons, List.take_zero, List.take_nil, List.all_cons, List.all_nil, Bool.and_true, Bool.true_and, Nat.mul_one, List.singleton_append, Int.le_refl, Nat.le_refl, c32, r32, e30, hne, d1, d2, d3, d4, List.length_replicate, cu8_one]
      exact ⟨_, rfl⟩
  obtain ⟨h', hk⟩ := key
  exact call_gc1 fn32 _ _ hk rfl
end Go.Proofs.Ytccepmhhilhajaa.K

/- The rolling checksum: what its functions compute. -/
set_option linter.unusedVariables false
set_option linter.unusedSimpArgs false
set_option maxRecDepth 100000
namespace Go.Proofs.Ytccepmhhilhajaa.K
open Go Go.A

structure Roll where
  (a b : BitVec 32) (n : Int)

def Roll.cells (r : Roll) : List V := [u32 r.a, u32 r.b, i64 r.n]
theorem cells_mk (a b : BitVec 32) (n : Int) : (Roll.mk a b n).cells = [u32 a, u32 b, i64 n] := Eq.trans rfl rfl
theorem Roll.one (r : Roll) : r.cells.all V.one = true := Eq.trans rfl rfl

def sumStep (r : Roll) (x : BitVec 8) : Roll := ⟨(r.a + x.setWidth 32) % 65521, (r.b + (r.a + x.setWidth 32) % 65521) % 65521, r.n⟩
def sumL (l : List (BitVec 8)) : Roll := l.foldl sumStep ⟨0, 0, l.length⟩
def sumK (l : List (BitVec 8)) (i : Nat) : Roll := (l.take i).foldl sumStep ⟨0, 0, l.length⟩
theorem step_mk (a b : BitVec 32) (n : Int) (x : BitVec 8) : sumStep (Roll.mk a b n) x = ⟨(a + x.setWidth 32) % 65521, (b + (a + x.setWidth 32) % 65521) % 65521, n⟩ := Eq.trans rfl rfl
theorem sumK_succ (l : List (BitVec 8)) (i : Nat) (hi : i < l.length) : sumK l (i + 1) = sumStep (sumK l i) l[i] := by
  unfold sumK
  rw [List.take_succ_eq_append_getElem hi, List.foldl_append]
  rfl
theorem sumK_end (l : List (BitVec 8)) : sumK l l.length = sumL l := by simp [sumK, sumL]

theorem round19 (l : List (BitVec 8)) (hl : l.length < 4611686018427387904) (H : Heap) (v : V) (hv : rc 1 H v = some (cu8 l)) (i : Nat) (hi : i < l.length) (r : Roll) (z : Blk) :
    Nxt (execC (run T) c19_0 ⟨[2, 3, 9, 10, 11].zip [.ptr H.length 0, .ptr (H.length + 1) 0, v, i64 l.length, i64 i], [], some none⟩ (H ++ [z, .cells .ex r.cells])) [2, 3, 9, 10, 11]
    [.ptr H.length 0, .ptr (H.length + 1) 0, v, i64 l.length, i64 ((i + 1 : Nat) : Int)] [] (some none) (H ++ [z, .cells .ex (sumStep r l[i]).cells]) := by
  have hlt : decide ((i : Int) < (l.length : Int)) = true := by simpa using by omega
  have hw := wr_succ_nat i (by omega)
  have hn : lenOf v = l.length := by have := rc_len hv; rw [cu8_len] at this; omega
  have hidx : i < lenOf v := by omega
  have hat : ∀ x, kAt (offOf v + i) (cellsAt (H ++ x) (blkOf v)) = some (u8 l[i]) := fun x => by rw [rc_at_app hv x i (by rw [cu8_len]; omega), cu8_at]
  obtain ⟨ra, rb, rn⟩ := r
  simp -implicitDefEqProofs only [runEqs, List.zipIdx_cons, List.zipIdx_nil, List.map_cons, List.map_nil, Nat.zero_add, Nat.add_zero, Nat.zero_mul, Nat.reduceAdd, Nat.reduceMul, Nat.reduceBEq, Nat.reduceLT, Nat.reduceSub, Option.map_some, Option.map_none, Option.isSome_some, Option.isSome_none, Bool.not_true, Bool.not_false, Bool.true_or, Bool.false_or, Bool.or_true, List.getElem?_cons_zero, List.getElem?_cons_succ, List.set_cons_zero, List.set_cons_succ, List.length_cons, List.length_nil, List.length_append, List.append_assoc, List.cons_append, List.nil_append, List.zip_cons_cons, List.zip_nil_right, Int.reduceAdd, Int.reduceSub, Int.reduceMul, Int.reduceLT, Int.reduceLE, Int.reduceNeg, Int.reduceToNat, Int.zero_add, Int.add_zero, decide_true, decide_false, Nat.reduceLeDiff, Nat.min_self, List.drop_succ_cons, List.drop_zero, List.drop_nil, List.take_succ_cons, List.take_zero, List.take_nil, List.all_cons, List.all_nil, Bool.and_true, Bool.true_and, Nat.mul_one, List.singleton_append, Int.le_refl, Nat.le_refl, c19_0, hlt, hw, vIS_of, hidx, hat, cells_mk, step_mk, cv_u32_u8, add_u32, rem_m]
  exact nxt_some _ _ _ _ _ _ _ rfl rfl

theorem loop19 (l : List (BitVec 8)) (hl : l.length < 4611686018427387904) (H : Heap) (v : V) (hv : rc 1 H v = some (cu8 l)) (z : Blk) (t : Env) (ht : kK [2, 3, 9, 10, 11] t = [(2, .ptr H.length 0), (3, .ptr (H.length + 1) 0), (9, v), (10, i64 l.length), (11, i64 0)]) :
    execC (run T) (.loop (.seq (.keep [2, 3, 9, 10, 11]) c19_0)) ⟨t, [], some none⟩ (H ++ [z, .cells .ex (Roll.mk 0 0 l.length).cells]) =
      some (.exit 0, ⟨[(12, .bool false), (2, .ptr H.length 0), (3, .ptr (H.length + 1) 0), (9, v), (10, i64 l.length), (11, i64 l.length)], [], some none⟩, H ++ [z, .cells .ex (sumL l).cells]) := by
  have := loop_keep (T := T) (L := [2, 3, 9, 10, 11]) (c := c19_0) (d := []) (u := some none) (fun i => [.ptr H.length 0, .ptr (H.length + 1) 0, v, i64 l.length, i64 i])
    (fun i => H ++ [z, .cells .ex (sumK l i).cells]) (e := .exit 0) (fun e => by cases e) l.length (fun i hi => by rw [sumK_succ l i hi]; exact round19 l hl H v hv i hi (sumK l i) z) (fr' := ⟨[(12, .bool false), (2, .ptr H.length 0), (3, .ptr (H.length + 1) 0), (9, v), (10, i64 l.length), (11, i64 l.length)], [], some none⟩) (h' := H ++ [z, .cells .ex (sumL l).cells]) ?_ t ht
  · exact this
  · have hf : decide ((l.length : Int) < (l.length : Int)) = false := by simp
    simp -implicitDefEqProofs only [runEqs, List.zipIdx_cons, List.zipIdx_nil, List.map_cons, List.map_nil, Nat.zero_add, Nat.add_zero, Nat.zero_mul, Nat.reduceAdd, Nat.reduceMul, Nat.reduceBEq, Nat.reduceLT, Nat.reduceSub, Option.map_some, Option.map_none, Option.isSome_some, Option.isSome_none, Bool.not_true, Bool.not_false, Bool.true_or, Bool.false_or, Bool.or_true, List.getElem?_cons_zero, List.getElem?_cons_succ, List.set_cons_zero, List.set_cons_succ, List.length_cons, List.length_nil, List.length_append, List.append_assoc, List.cons_append, List.nil_append, List.zip_cons_cons, List.zip_nil_right, Int.reduceAdd, Int.reduceSub, Int.reduceMul, Int.reduceLT, Int.reduceLE, Int.reduceNeg, Int.reduceToNat, Int.zero_add, Int.add_zero, decide_true, decide_false, Nat.reduceLeDiff, Nat.min_self, List.drop_succ_cons, List.drop_zero, List.drop_nil, List.take_succ_cons, List.take_zero, List.take_nil, List.all_cons, List.all_nil, Bool.and_true, Bool.true_and, Nat.mul_one, List.singleton_append, Int.le_refl, Nat.le_refl, c19_0, hf, sumK_end]

theorem call19 (l : List (BitVec 8)) (hl : l.length < 4611686018427387904) (h : Heap) (v : V) (hv : rc 1 h v = some (cu8 l)) : (run T).call 19 [v] none h = some (.ret (.agg (sumL l).cells), none, h) := by
  refine call_gc1 fn19 _ _ (h' := roH h ++ [.cells .ex (sumL l).cells, .cells .ex (sumL l).cells]) ?_ rfl
  replace hv := rc_ro hv
  generalize roH h = H at hv ⊢
  have hn : lenOf v = l.length := by have := rc_len hv; rw [cu8_len] at this; omega
  have hs := rc_isS hv
  have hlp := loop19 l hl H v hv
  simp only [cells_mk] at hlp
  generalize sumL l = sl at hlp ⊢
  obtain ⟨ra, rb, rn⟩ := sl
  simp only [cells_mk] at hlp ⊢
  simp -implicitDefEqProofs only [runEqs, List.zipIdx_cons, List.zipIdx_nil, List.map_cons, List.map_nil, Nat.zero_add, Nat.add_zero, Nat.zero_mul, Nat.reduceAdd, Nat.reduceMul, Nat.reduceBEq, Nat.reduceLT, Nat.reduceSub, Option.map_some, Option.map_none, Option.isSome_some, Option.isSome_none, Bool.not_true, Bool.not_false, Bool.true_or, Bool.false_or, Bool.or_true, List.getElem?_cons_zero, List.getElem?_cons_succ, List.set_cons_zero, List.set_cons_succ, List.length_cons, List.length_nil, List.length_append, List.append_assoc, List.cons_append, List.nil_append, List.zip_cons_cons, List.zip_nil_right, Int.reduceAdd, Int.reduceSub, Int.reduceMul, Int.reduceLT, Int.reduceLE, Int.reduceNeg, Int.reduceToNat, Int.zero_add, Int.add_zero, decide_true, decide_false, Nat.reduceLeDiff, Nat.min_self, List.drop_succ_cons, List.drop_zero, List.drop_nil, List.take_succ_cons, List.take_zero, List.take_nil, List.all_cons, List.all_nil, Bool.and_true, Bool.true_and, Nat.mul_one, List.singleton_append, Int.le_refl, Nat.le_refl, c19, r19, vLen_of, hs, hn, hlp]
end Go.Proofs.Ytccepmhhilhajaa.K

/- The rolling checksum, second part. -/
set_option linter.unusedVariables false
set_option linter.unusedSimpArgs false
set_option maxRecDepth 100000
namespace Go.Proofs.Ytccepmhhilhajaa.K
open Go Go.A

theorem round20 (l : List (BitVec 8)) (hl : l.length < 4611686018427387904) (H : Heap) (v : V) (hv : rc 1 H v = some (cu8 l)) (i : Nat) (hi : i < l.length) (r : Roll) (z : Blk) :
    Nxt (execC (run T) c20_0 ⟨[0, 2, 3, 4].zip [v, .ptr H.length 0, .ptr (H.length + 1) 0, i64 i], [], some none⟩ (H ++ [z, .cells .ex r.cells])) [0, 2, 3, 4]
    [v, .ptr H.length 0, .ptr (H.length + 1) 0, i64 ((i + 1 : Nat) : Int)] [] (some none) (H ++ [z, .cells .ex (sumStep r l[i]).cells]) := by
  have hlt : decide ((i : Int) < (l.length : Int)) = true := by simpa using by omega
  have hw := wr_succ_nat i (by omega)
  have hn : lenOf v = l.length := by have := rc_len hv; rw [cu8_len] at this; omega
  have hs := rc_isS hv
  have hat : ∀ x, kAt (offOf v + i) (cellsAt (H ++ x) (blkOf v)) = some (u8 l[i]) := fun x => by rw [rc_at_app hv x i (by rw [cu8_len]; omega), cu8_at]
  obtain ⟨ra, rb, rn⟩ := r
  simp -implicitDefEqProofs only [runEqs, List.zipIdx_cons, List.zipIdx_nil, List.map_cons, List.map_nil, Nat.zero_add, Nat.add_zero, Nat.zero_mul, Nat.reduceAdd, Nat.reduceMul, Nat.reduceBEq, Nat.reduceLT, Nat.reduceSub, Option.map_some, Option.map_none, Option.isSome_some, Option.isSome_none, Bool.not_true, Bool.not_false, Bool.true_or, Bool.false_or, Bool.or_true, List.getElem?_cons_zero, List.getElem?_cons_succ, List.set_cons_zero, List.set_cons_succ, List.length_cons, List.length_nil, List.length_append, List.append_assoc, List.cons_append, List.nil_append, List.zip_cons_cons, List.zip_nil_right, Int.reduceAdd, Int.reduceSub, Int.reduceMul, Int.reduceLT, Int.reduceLE, Int.reduceNeg, Int.reduceToNat, Int.zero_add, Int.add_zero, decide_true, decide_false, Nat.reduceLeDiff, Nat.min_self, List.drop_succ_cons, List.drop_zero, List.drop_nil, List.take_succ_cons, List.take_zero, List.take_nil, List.all_cons, List.all_nil, Bool.and_true, Bool.true_and, Nat.mul_one, List.singleton_append, Int.le_refl, Nat.le_refl, c20_0, vLen_of, hs, hn, hlt, hw, vIS_of, hi, hat, cells_mk, step_mk, cv_u32_u8, add_u32, rem_m]
  exact nxt_some _ _ _ _ _ _ _ rfl rfl
theorem call20 (l : List (BitVec 8)) (hl : l.length < 4611686018427387904) (h : Heap) (v : V) (hv : rc 1 h v = some (cu8 l)) : (run T).call 20 [v] none h = some (.ret (.agg (sumL l).cells), none, h) := by
  refine call_gc1 fn20 _ _ (h' := roH h ++ [.cells .ex (sumL l).cells, .cells .ex (sumL l).cells]) ?_ rfl
  replace hv := rc_ro hv
  generalize roH h = H at hv ⊢
  have hn : lenOf v = l.length := by have := rc_len hv; rw [cu8_len] at this; omega
  have hs := rc_isS hv
  have hlp : ∀ t, kK [0, 2, 3, 4] t = [(0, v), (2, .ptr H.length 0), (3, .ptr (H.length + 1) 0), (4, i64 0)] → execC (run T) (.loop (.seq (.keep [0, 2, 3, 4]) c20_0)) ⟨t, [], some none⟩ (H ++ [.cells .ex [u32 0, u32 0, i64 0], .cells .ex [u32 0, u32 0, i64 l.length]]) =
      kLp T (execC (run T) c20_0 ⟨[(0, v), (2, .ptr H.length 0), (3, .ptr (H.length + 1) 0), (4, i64 l.length)], [], some none⟩ (H ++ [.cells .ex [u32 0, u32 0, i64 0], .cells .ex (sumL l).cells])) (.seq (.keep [0, 2, 3, 4]) c20_0) := by
    rw [← sumK_end]
    exact loop_to (T := T) (L := [0, 2, 3, 4]) (c := c20_0) (d := []) (u := some none) (fun i => [v, .ptr H.length 0, .ptr (H.length + 1) 0, i64 i])
      (fun i => H ++ [.cells .ex [u32 0, u32 0, i64 0], .cells .ex (sumK l i).cells]) l.length (fun i hi => by rw [sumK_succ l i hi]; exact round20 l hl H v hv i hi _ _)
  have hf : decide ((l.length : Int) < (l.length : Int)) = false := by simp
  generalize sumL l = sl at hlp ⊢
  obtain ⟨ra, rb, rn⟩ := sl
  simp only [cells_mk] at hlp ⊢
  simp -implicitDefEqProofs only [runEqs, List.zipIdx_cons, List.zipIdx_nil, List.map_cons, List.map_nil, Nat.zero_add, Nat.add_zero, Nat.zero_mul, Nat.reduceAdd, Nat.reduceMul, Nat.reduceBEq, Nat.reduceLT, Nat.reduceSub, Option.map_some, Option.map_none, Option.isSome_some, Option.isSome_none, Bool.not_true, Bool.not_false, Bool.true_or, Bool.false_or, Bool.or_true, List.getElem?_cons_zero, List.getElem?_cons_succ, List.set_cons_zero, List.set_cons_succ, List.length_cons, List.length_nil, List.length_append, List.append_assoc, List.cons_append, List.nil_append, List.zip_cons_cons, List.zip_nil_right, Int.reduceAdd, Int.reduceSub, Int.reduceMul, Int.reduceLT, Int.reduceLE, Int.reduceNeg, Int.reduceToNat, Int.zero_add, Int.add_zero, decide_true, decide_false, Nat.reduceLeDiff, Nat.min_self, List.drop_succ_cons, List.drop_zero, List.drop_nil, List.take_succ_cons, List.take_zero, List.take_nil, List.all_cons, List.all_nil, Bool.and_true, Bool.true_and, Nat.mul_one, List.singleton_append, Int.le_refl, Nat.le_refl, c20, r20, vLen_of, hs, hn, hlp]
  simp -implicitDefEqProofs only [runEqs, List.zipIdx_cons, List.zipIdx_nil, List.map_cons, List.map_nil, Nat.zero_add, Nat.add_zero, Nat.zero_mul, Nat.reduceAdd, Nat.reduceMul, Nat.reduceBEq, Nat.reduceLT, Nat.reduceSub, Option.map_some, Option.map_none, Option.isSome_some, Option.isSome_none, Bool.not_true, Bool.not_false, Bool.true_or, Bool.false_or, Bool.or_true, List.getElem?_cons_zero, List.getElem?_cons_succ, List.set_cons_zero, List.set_cons_succ, List.length_cons, List.length_nil, List.length_append, List.append_assoc, List.cons_append, List.nil_append, List.zip_cons_cons, List.zip_nil_right, Int.reduceAdd, Int.reduceSub, Int.reduceMul, Int.reduceLT, Int.reduceLE, Int.reduceNeg, Int.reduceToNat, Int.zero_add, Int.add_zero, decide_true, decide_false, Nat.reduceLeDiff, Nat.min_self, List.drop_succ_cons, List.drop_zero, List.drop_nil, List.take_succ_cons, List.take_zero, List.take_nil, List.all_cons, List.all_nil, Bool.and_true, Bool.true_and, Nat.mul_one, List.singleton_append, Int.le_refl, Nat.le_refl, vLen_of, hs, hn, c20_0, hf]

theorem call21 (r : Roll) (h : Heap) : (run T).call 21 [.agg r.cells] none h = some (.ret (u32 (r.b <<< 16 + r.a)), none, h) := by
  obtain ⟨ra, rb, rn⟩ := r
  refine call_gc1 fn21 _ _ (h' := roH h ++ [.cells .ex (Roll.mk ra rb rn).cells]) ?_ rfl
  generalize roH h = H
  have e : (16 : BitVec 64).toNat = 16 := rfl
  simp -implicitDefEqProofs only [runEqs, List.zipIdx_cons, List.zipIdx_nil, List.map_cons, List.map_nil, Nat.zero_add, Nat.add_zero, Nat.zero_mul, Nat.reduceAdd, Nat.reduceMul, Nat.reduceBEq, Nat.reduceLT, Nat.reduceSub, Option.map_some, Option.map_none, Option.isSome_some, Option.isSome_none, Bool.not_true, Bool.not_false, Bool.true_or, Bool.false_or, Bool.or_true, List.getElem?_cons_zero, List.getElem?_cons_succ, List.set_cons_zero, List.set_cons_succ, List.length_cons, List.length_nil, List.length_append, List.append_assoc, List.cons_append, List.nil_append, List.zip_cons_cons, List.zip_nil_right, Int.reduceAdd, Int.reduceSub, Int.reduceMul, Int.reduceLT, Int.reduceLE, Int.reduceNeg, Int.reduceToNat, Int.zero_add, Int.add_zero, decide_true, decide_false, Nat.reduceLeDiff, Nat.min_self, List.drop_succ_cons, List.drop_zero, List.drop_nil, List.take_succ_cons, List.take_zero, List.take_nil, List.all_cons, List.all_nil, Bool.and_true, Bool.true_and, Nat.mul_one, List.singleton_append, Int.le_refl, Nat.le_refl, c21, r21, cells_mk, shl_u32_u64, add_u32, e]

theorem val_eq (x y : BitVec 32) : x * (65536 : BitVec 32) + y = x <<< 16 + y := by
  congr 1
  apply BitVec.eq_of_toNat_eq
  rw [BitVec.toNat_mul, BitVec.toNat_shiftLeft, Nat.shiftLeft_eq]
  rfl

theorem call22 (r : Roll) (h : Heap) : (run T).call 22 [.agg r.cells] none h = some (.ret (u32 (r.b <<< 16 + r.a)), none, h) := by
  obtain ⟨ra, rb, rn⟩ := r
  refine call_gc1 fn22 _ _ (h' := roH h ++ [.cells .ex (Roll.mk ra rb rn).cells]) ?_ rfl
  generalize roH h = H
  simp -implicitDefEqProofs only [runEqs, List.zipIdx_cons, List.zipIdx_nil, List.map_cons, List.map_nil, Nat.zero_add, Nat.add_zero, Nat.zero_mul, Nat.reduceAdd, Nat.reduceMul, Nat.reduceBEq, Nat.reduceLT, Nat.reduceSub, Option.map_some, Option.map_none, Option.isSome_some, Option.isSome_none, Bool.not_true, Bool.not_false, Bool.true_or, Bool.false_or, Bool.or_true, List.getElem?_cons_zero, List.getElem?_cons_succ, List.set_cons_zero, List.set_cons_succ, List.length_cons, List.length_nil, List.length_append, List.append_assoc, List.cons_append, List.nil_append, List.zip_cons_cons, List.zip_nil_right, Int.reduceAdd, Int.reduceSub, Int.reduceMul, Int.reduceLT, Int.reduceLE, Int.reduceNeg, Int.reduceToNat, Int.zero_add, Int.add_zero, decide_true, decide_false, Nat.reduceLeDiff, Nat.min_self, List.drop_succ_cons, List.drop_zero, List.drop_nil, List.take_succ_cons, List.take_zero, List.take_nil, List.all_cons, List.all_nil, Bool.and_true, Bool.true_and, Nat.mul_one, List.singleton_append, Int.le_refl, Nat.le_refl, c22, r22, cells_mk, mul_u32, add_u32]
  rw [val_eq]

def Roll.ok (r : Roll) : Bool := !decide (65521 ≤ r.a) && !decide (65521 ≤ r.b) && !decide (r.n < 1) && !decide (2147483647 < r.n)
def Roll.slide (r : Roll) (o i : BitVec 8) : Roll :=
  ⟨(r.a + 65521 - o.setWidth 32 + i.setWidth 32) % 65521,
    (r.b + 65521 - ((BitVec.ofInt 64 (r.n.tmod 65521) * o.setWidth 64) % 65521).setWidth 32 + (r.a + 65521 - o.setWidth 32 + i.setWidth 32) % 65521) % 65521, r.n⟩
def slideV (r : Roll) (o i : BitVec 8) : Roll := if r.ok = true then r.slide o i else ⟨0, 0, 0⟩
def slideE (r : Roll) : Int := if r.ok = true then 0 else 1

theorem slide_mk (a b : BitVec 32) (n : Int) (o i : BitVec 8) : (Roll.mk a b n).slide o i = ⟨(a + 65521 - o.setWidth 32 + i.setWidth 32) % 65521,
    (b + 65521 - ((BitVec.ofInt 64 (n.tmod 65521) * o.setWidth 64) % 65521).setWidth 32 + (a + 65521 - o.setWidth 32 + i.setWidth 32) % 65521) % 65521, n⟩ := Eq.trans rfl rfl
theorem ok_mk (a b : BitVec 32) (n : Int) : (Roll.mk a b n).ok = (!decide (65521 ≤ a) && !decide (65521 ≤ b) && !decide (n < 1) && !decide (2147483647 < n)) := Eq.trans rfl rfl
theorem call15 (r : Roll) (o i : BitVec 8) (h : Heap) : (run T).call 15 [.agg r.cells, u8 o, u8 i] none h = some (.ret (.tup [.agg (slideV r o i).cells, i64 (slideE r)]), none, h) := by
  by_cases hok : r.ok = true
  · have e1 : slideV r o i = r.slide o i := by rw [slideV, if_pos hok]
    have e2 : slideE r = 0 := by rw [slideE, if_pos hok]
    rw [e1, e2]
    obtain ⟨ra, rb, rn⟩ := r
    simp only [ok_mk, Bool.and_eq_true, Bool.not_eq_true'] at hok
    obtain ⟨⟨⟨h1, h2⟩, h3⟩, h4⟩ := hok
    refine call_gc1 fn15 _ _ (h' := roH h ++ [.cells .ex ((Roll.mk ra rb rn).slide o i).cells, .cells .ex ((Roll.mk ra rb rn).slide o i).cells]) ?_ rfl
    generalize roH h = H
    simp -implicitDefEqProofs only [runEqs, List.zipIdx_cons, List.zipIdx_nil, List.map_cons, List.map_nil, Nat.zero_add, Nat.add_zero, Nat.zero_mul, Nat.reduceAdd, Nat.reduceMul, Nat.reduceBEq, Nat.reduceLT, Nat.reduceSub, Option.map_some, Option.map_none, Option.isSome_some, Option.isSome_none, Bool.not_true, Bool.not_false, Bool.true_or, Bool.false_or, Bool.or_true, List.getElem?_cons_zero, List.getElem?_cons_succ, List.set_cons_zero, List.set_cons_succ, List.length_cons, List.length_nil, List.length_append, List.append_assoc, List.cons_append, List.nil_append, List.zip_cons_cons, List.zip_nil_right, Int.reduceAdd, Int.reduceSub, Int.reduceMul, Int.reduceLT, Int.reduceLE, Int.reduceNeg, Int.reduceToNat, Int.zero_add, Int.add_zero, decide_true, decide_false, Nat.reduceLeDiff, Nat.min_self, List.drop_succ_cons, List.drop_zero, List.drop_nil, List.take_succ_cons, List.take_zero, List.take_nil, List.all_cons, List.all_nil, Bool.and_true, Bool.true_and, Nat.mul_one, List.singleton_append, Int.le_refl, Nat.le_refl, c15, r15, cells_mk, slide_mk, geq_u32, add_u32, sub_u32, rem_m, rem_mi, cv_u64_i64, cv_u64_u8, mul_u64, rem_m64, cv_u32_u64, cv_u32_u8, h1, h2, h3, h4, gt_iff_lt, ge_iff_le]
  · have e1 : slideV r o i = ⟨0, 0, 0⟩ := by rw [slideV, if_neg hok]
    have e2 : slideE r = 1 := by rw [slideE, if_neg hok]
    rw [e1, e2]
    obtain ⟨ra, rb, rn⟩ := r
    refine call_gc1 fn15 _ _ (h' := roH h ++ [.cells .ex (Roll.mk ra rb rn).cells, .cells .ex (Roll.mk 0 0 0).cells]) ?_ rfl
    generalize roH h = H
    cases h1 : decide (65521 ≤ ra) with
    | true => simp -implicitDefEqProofs only [runEqs, List.zipIdx_cons, List.zipIdx_nil, List.map_cons, List.map_nil, Nat.zero_add, Nat.add_zero, Nat.zero_mul, Nat.reduceAdd, Nat.reduceMul, Nat.reduceBEq, Nat.reduceLT, Nat.reduceSub, Option.map_some, Option.map_none, Option.isSome_some, Option.isSome_none, Bool.not_true, Bool.not_false, Bool.true_or, Bool.false_or, Bool.or_true, List.getElem?_cons_zero, List.getElem?_cons_succ, List.set_cons_zero, List.set_cons_succ, List.length_cons, List.length_nil, List.length_append, List.append_assoc, List.cons_append, List.nil_append, List.zip_cons_cons, List.zip_nil_right, Int.reduceAdd, Int.reduceSub, Int.reduceMul, Int.reduceLT, Int.reduceLE, Int.reduceNeg, Int.reduceToNat, Int.zero_add, Int.add_zero, decide_true, decide_false, Nat.reduceLeDiff, Nat.min_self, List.drop_succ_cons, List.drop_zero, List.drop_nil, List.take_succ_cons, List.take_zero, List.take_nil, List.all_cons, List.all_nil, Bool.and_true, Bool.true_and, Nat.mul_one, List.singleton_append, Int.le_refl, Nat.le_refl, c15, r15, cells_mk, geq_u32, h1, gt_iff_lt, ge_iff_le]
    | false =>
    cases h2 : decide (65521 ≤ rb) with
    | true => simp -implicitDefEqProofs only [runEqs, List.zipIdx_cons, List.zipIdx_nil, List.map_cons, List.map_nil, Nat.zero_add, Nat.add_zero, Nat.zero_mul, Nat.reduceAdd, Nat.reduceMul, Nat.reduceBEq, Nat.reduceLT, Nat.reduceSub, Option.map_some, Option.map_none, Option.isSome_some, Option.isSome_none, Bool.not_true, Bool.not_false, Bool.true_or, Bool.false_or, Bool.or_true, List.getElem?_cons_zero, List.getElem?_cons_succ, List.set_cons_zero, List.set_cons_succ, List.length_cons, List.length_nil, List.length_append, List.append_assoc, List.cons_append, List.nil_append, List.zip_cons_cons, List.zip_nil_right, Int.reduceAdd, Int.reduceSub, Int.reduceMul, Int.reduceLT, Int.reduceLE, Int.reduceNeg, Int.reduceToNat, Int.zero_add, Int.add_zero, decide_true, decide_false, Nat.reduceLeDiff, Nat.min_self, List.drop_succ_cons, List.drop_zero, List.drop_nil, List.take_succ_cons, List.take_zero, List.take_nil, List.all_cons, List.all_nil, Bool.and_true, Bool.true_and, Nat.mul_one, List.singleton_append, Int.le_refl, Nat.le_refl, c15, r15, cells_mk, geq_u32, h1, h2, gt_iff_lt, ge_iff_le]
    | false =>
    cases h3 : decide (rn < 1) with
    | true => simp -implicitDefEqProofs only [runEqs, List.zipIdx_cons, List.zipIdx_nil, List.map_cons, List.map_nil, Nat.zero_add, Nat.add_zero, Nat.zero_mul, Nat.reduceAdd, Nat.reduceMul, Nat.reduceBEq, Nat.reduceLT, Nat.reduceSub, Option.map_some, Option.map_none, Option.isSome_some, Option.isSome_none, Bool.not_true, Bool.not_false, Bool.true_or, Bool.false_or, Bool.or_true, List.getElem?_cons_zero, List.getElem?_cons_succ, List.set_cons_zero, List.set_cons_succ, List.length_cons, List.length_nil, List.length_append, List.append_assoc, List.cons_append, List.nil_append, List.zip_cons_cons, List.zip_nil_right, Int.reduceAdd, Int.reduceSub, Int.reduceMul, Int.reduceLT, Int.reduceLE, Int.reduceNeg, Int.reduceToNat, Int.zero_add, Int.add_zero, decide_true, decide_false, Nat.reduceLeDiff, Nat.min_self, List.drop_succ_cons, List.drop_zero, List.drop_nil, List.take_succ_cons, List.take_zero, List.take_nil, List.all_cons, List.all_nil, Bool.and_true, Bool.true_and, Nat.mul_one, List.singleton_append, Int.le_refl, Nat.le_refl, c15, r15, cells_mk, geq_u32, h1, h2, h3, gt_iff_lt, ge_iff_le]
    | false =>
    cases h4 : decide (2147483647 < rn) with
    | true => simp -implicitDefEqProofs only [runEqs, List.zipIdx_cons, List.zipIdx_nil, List.map_cons, List.map_nil, Nat.zero_add, Nat.add_zero, Nat.zero_mul, Nat.reduceAdd, Nat.reduceMul, Nat.reduceBEq, Nat.reduceLT, Nat.reduceSub, Option.map_some, Option.map_none, Option.isSome_some, Option.isSome_none, Bool.not_true, Bool.not_false, Bool.true_or, Bool.false_or, Bool.or_true, List.getElem?_cons_zero, List.getElem?_cons_succ, List.set_cons_zero, List.set_cons_succ, List.length_cons, List.length_nil, List.length_append, List.append_assoc, List.cons_append, List.nil_append, List.zip_cons_cons, List.zip_nil_right, Int.reduceAdd, Int.reduceSub, Int.reduceMul, Int.reduceLT, Int.reduceLE, Int.reduceNeg, Int.reduceToNat, Int.zero_add, Int.add_zero, decide_true, decide_false, Nat.reduceLeDiff, Nat.min_self, List.drop_succ_cons, List.drop_zero, List.drop_nil, List.take_succ_cons, List.take_zero, List.take_nil, List.all_cons, List.all_nil, Bool.and_true, Bool.true_and, Nat.mul_one, List.singleton_append, Int.le_refl, Nat.le_refl, c15, r15, cells_mk, geq_u32, h1, h2, h3, h4, gt_iff_lt, ge_iff_le]
    | false => exact absurd (by simp only [ok_mk, h1, h2, h3, h4]; rfl) hok
end Go.Proofs.Ytccepmhhilhajaa.K

/- The rolling checksum of the reference: Slide. -/
set_option linter.unusedVariables false
set_option linter.unusedSimpArgs false
set_option maxRecDepth 100000
namespace Go.Proofs.Ytccepmhhilhajaa.K
open Go Go.A

def Roll.valid (r : Roll) : Bool := decide (r.a < 65521) && decide (r.b < 65521) && decide (0 ≤ r.n) && decide (r.n ≤ 2147483647)

theorem valid_mk (a b : BitVec 32) (n : Int) : (Roll.mk a b n).valid = (decide (a < 65521) && decide (b < 65521) && decide (0 ≤ n) && decide (n ≤ 2147483647)) := Eq.trans rfl rfl
theorem call47 (r : Roll) (h : Heap) : (run T).call 47 [.agg r.cells] none h = some (.ret (.bool r.valid), none, h) := by
  obtain ⟨ra, rb, rn⟩ := r
  refine call_gc1 fn47 _ _ (h' := roH h ++ [.cells .ex (Roll.mk ra rb rn).cells]) ?_ rfl
  generalize roH h = H
  cases h1 : decide (ra < 65521) with
  | false =>
    have e : (Roll.mk ra rb rn).valid = false := by simp only [valid_mk, h1, Bool.false_and]
    simp -implicitDefEqProofs only [runEqs, List.zipIdx_cons, List.zipIdx_nil, List.map_cons, List.map_nil, Nat.zero_add, Nat.add_zero, Nat.zero_mul, Nat.reduceAdd, Nat.reduceMul, Nat.reduceBEq, Nat.reduceLT, Nat.reduceSub, Option.map_some, Option.map_none, Option.isSome_some, Option.isSome_none, Bool.not_true, Bool.not_false, Bool.true_or, Bool.false_or, Bool.or_true, List.getElem?_cons_zero, List.getElem?_cons_succ, List.set_cons_zero, List.set_cons_succ, List.length_cons, List.length_nil, List.length_append, List.append_assoc, List.cons_append, List.nil_append, List.zip_cons_cons, List.zip_nil_right, Int.reduceAdd, Int.reduceSub, Int.reduceMul, Int.reduceLT, Int.reduceLE, Int.reduceNeg, Int.reduceToNat, Int.zero_add, Int.add_zero, decide_true, decide_false, Nat.reduceLeDiff, Nat.min_self, List.drop_succ_cons, List.drop_zero, List.drop_nil, List.take_succ_cons, List.take_zero, List.take_nil, List.all_cons, List.all_nil, Bool.and_true, Bool.true_and, Nat.mul_one, List.singleton_append, Int.le_refl, Nat.le_refl, c47, r47, cells_mk, lss_u32, h1, e]
  | true =>
  cases h2 : decide (rb < 65521) with
  | false =>
    have e : (Roll.mk ra rb rn).valid = false := by simp only [valid_mk, h1, h2, Bool.false_and, Bool.true_and]
    simp -implicitDefEqProofs only [runEqs, List.zipIdx_cons, List.zipIdx_nil, List.map_cons, List.map_nil, Nat.zero_add, Nat.add_zero, Nat.zero_mul, Nat.reduceAdd, Nat.reduceMul, Nat.reduceBEq, Nat.reduceLT, Nat.reduceSub, Option.map_some, Option.map_none, Option.isSome_some, Option.isSome_none, Bool.not_true, Bool.not_false, Bool.true_or, Bool.false_or, Bool.or_true, List.getElem?_cons_zero, List.getElem?_cons_succ, List.set_cons_zero, List.set_cons_succ, List.length_cons, List.length_nil, List.length_append, List.append_assoc, List.cons_append, List.nil_append, List.zip_cons_cons, List.zip_nil_right, Int.reduceAdd, Int.reduceSub, Int.reduceMul, Int.reduceLT, Int.reduceLE, Int.reduceNeg, Int.reduceToNat, Int.zero_add, Int.add_zero, decide_true, decide_false, Nat.reduceLeDiff, Nat.min_self, List.drop_succ_cons, List.drop_zero, List.drop_nil, List.take_succ_cons, List.take_zero, List.take_nil, List.all_cons, List.all_nil, Bool.and_true, Bool.true_and, Nat.mul_one, List.singleton_append, Int.le_refl, Nat.le_refl, c47, r47, cells_mk, lss_u32, h1, h2, e]
  | true =>
  cases h3 : decide (0 ≤ rn) with
  | false =>
    have e : (Roll.mk ra rb rn).valid = false := by simp only [valid_mk, h1, h2, h3, Bool.false_and, Bool.true_and]
    simp -implicitDefEqProofs only [runEqs, List.zipIdx_cons, List.zipIdx_nil, List.map_cons, List.map_nil, Nat.zero_add, Nat.add_zero, Nat.zero_mul, Nat.reduceAdd, Nat.reduceMul, Nat.reduceBEq, Nat.reduceLT, Nat.reduceSub, Option.map_some, Option.map_none, Option.isSome_some, Option.isSome_none, Bool.not_true, Bool.not_false, Bool.true_or, Bool.false_or, Bool.or_true, List.getElem?_cons_zero, List.getElem?_cons_succ, List.set_cons_zero, List.set_cons_succ, List.length_cons, List.length_nil, List.length_append, List.append_assoc, List.cons_append, List.nil_append, List.zip_cons_cons, List.zip_nil_right, Int.reduceAdd, Int.reduceSub, Int.reduceMul, Int.reduceLT, Int.reduceLE, Int.reduceNeg, Int.reduceToNat, Int.zero_add, Int.add_zero, decide_true, decide_false, Nat.reduceLeDiff, Nat.min_self, List.drop_succ_cons, List.drop_zero, List.drop_nil, List.take_succ_cons, List.take_zero, List.take_nil, List.all_cons, List.all_nil, Bool.and_true, Bool.true_and, Nat.mul_one, List.singleton_append, Int.le_refl, Nat.le_refl, c47, r47, cells_mk, lss_u32, h1, h2, h3, e, ge_iff_le]
  | true =>
    have e : (Roll.mk ra rb rn).valid = decide (rn ≤ 2147483647) := by simp only [valid_mk, h1, h2, h3, Bool.true_and]
    simp -implicitDefEqProofs only [runEqs, List.zipIdx_cons, List.zipIdx_nil, List.map_cons, List.map_nil, Nat.zero_add, Nat.add_zero, Nat.zero_mul, Nat.reduceAdd, Nat.reduceMul, Nat.reduceBEq, Nat.reduceLT, Nat.reduceSub, Option.map_some, Option.map_none, Option.isSome_some, Option.isSome_none, Bool.not_true, Bool.not_false, Bool.true_or, Bool.false_or, Bool.or_true, List.getElem?_cons_zero, List.getElem?_cons_succ, List.set_cons_zero, List.set_cons_succ, List.length_cons, List.length_nil, List.length_append, List.append_assoc, List.cons_append, List.nil_append, List.zip_cons_cons, List.zip_nil_right, Int.reduceAdd, Int.reduceSub, Int.reduceMul, Int.reduceLT, Int.reduceLE, Int.reduceNeg, Int.reduceToNat, Int.zero_add, Int.add_zero, decide_true, decide_false, Nat.reduceLeDiff, Nat.min_self, List.drop_succ_cons, List.drop_zero, List.drop_nil, List.take_succ_cons, List.take_zero, List.take_nil, List.all_cons, List.all_nil, Bool.and_true, Bool.true_and, Nat.mul_one, List.singleton_append, Int.le_refl, Nat.le_refl, c47, r47, cells_mk, lss_u32, h1, h2, h3, e, ge_iff_le]

def iA (a : BitVec 32) (o i : BitVec 8) : Int := (a.toNat + 65521 - o.toNat + i.toNat : Int).tmod 65521
def iG (n : Int) (o : BitVec 8) : Int := (n.tmod 65521 * o.toNat).tmod 65521
def iB (a b : BitVec 32) (n : Int) (o i : BitVec 8) : Int := (b.toNat + 65521 - iG n o + iA a o i).tmod 65521
def uA (a : BitVec 32) (o i : BitVec 8) : BitVec 32 := (a + 65521 - o.setWidth 32 + i.setWidth 32) % 65521
def uG (n : Int) (o : BitVec 8) : BitVec 32 := ((BitVec.ofInt 64 (n.tmod 65521) * o.setWidth 64) % 65521).setWidth 32
def uB (a b : BitVec 32) (n : Int) (o i : BitVec 8) : BitVec 32 := (b + 65521 - uG n o + uA a o i) % 65521
theorem nat_m : (65521 : BitVec 32).toNat = 65521 := Eq.trans rfl rfl
theorem nat_m64 : (65521 : BitVec 64).toNat = 65521 := Eq.trans rfl rfl

theorem iA_bd (a : BitVec 32) (o i : BitVec 8) (ha : a < 65521) : 0 ≤ iA a o i ∧ iA a o i < 65521 := by
  have a1 : a.toNat < 65521 := ha
  have := o.isLt
  have := i.isLt
  unfold iA; rw [Int.tmod_eq_emod_of_nonneg (by omega)]; omega
theorem iG_bd (n : Int) (o : BitVec 8) (hn : 0 ≤ n) : 0 ≤ n.tmod 65521 * (o.toNat : Int) ∧ n.tmod 65521 * (o.toNat : Int) < 16777216 ∧ 0 ≤ iG n o ∧ iG n o < 65521 := by
  have a3 := o.isLt
  have hm : 0 ≤ n.tmod 65521 ∧ n.tmod 65521 < 65521 := by rw [Int.tmod_eq_emod_of_nonneg (by omega)]; omega
  have hmul : 0 ≤ n.tmod 65521 * (o.toNat : Int) ∧ n.tmod 65521 * (o.toNat : Int) < 16777216 := by
    constructor
    · exact Int.mul_nonneg hm.1 (by omega)
    · have h5 : n.tmod 65521 * (o.toNat : Int) ≤ 65520 * 255 := Int.mul_le_mul (by omega) (by omega) (by omega) (by omega)
      omega
  refine ⟨hmul.1, hmul.2, ?_⟩
  unfold iG; rw [Int.tmod_eq_emod_of_nonneg hmul.1]; omega
theorem uA_eq (a : BitVec 32) (o i : BitVec 8) (ha : a < 65521) : uA a o i = BitVec.ofInt 32 (iA a o i) := by
  have a1 : a.toNat < 65521 := ha
  have a3 := o.isLt
  have a4 := i.isLt
  apply BitVec.eq_of_toNat_eq
  have : (uA a o i).toNat = ((a.toNat + 65521) - o.toNat + i.toNat) % 65521 := by
    simp only [uA, BitVec.toNat_umod, BitVec.toNat_add, BitVec.toNat_sub, BitVec.toNat_setWidth, nat_m, Nat.reducePow, Nat.reduceMod]
    omega
  rw [this, BitVec.toNat_ofInt]
  unfold iA
  rw [Int.tmod_eq_emod_of_nonneg (by omega)]
  omega
theorem uG_eq (n : Int) (o : BitVec 8) (hn : 0 ≤ n) : uG n o = BitVec.ofInt 32 (iG n o) := by
  have hb := iG_bd n o hn
  have a3 := o.isLt
  have hm : 0 ≤ n.tmod 65521 ∧ n.tmod 65521 < 65521 := by rw [Int.tmod_eq_emod_of_nonneg (by omega)]; omega
  obtain ⟨k, hk⟩ : ∃ k : Nat, n.tmod 65521 = k := ⟨(n.tmod 65521).toNat, by omega⟩
  apply BitVec.eq_of_toNat_eq
  unfold iG uG
  rw [hk] at hm hb ⊢
  rw [Int.tmod_eq_emod_of_nonneg hb.1]
  simp only [BitVec.toNat_umod, BitVec.toNat_mul, BitVec.toNat_setWidth, nat_m64, BitVec.toNat_ofInt, Nat.reducePow, Nat.reduceMod]
  have e3 : (k : Int) * (o.toNat : Int) = ((k * o.toNat : Nat) : Int) := by simp
  rw [e3] at hb ⊢
  have e4 : ((k : Int) % (18446744073709551616 : Nat)).toNat = k := by omega
  rw [e4, Nat.mod_eq_of_lt (a := o.toNat) (by omega)]
  have hb1 := hb.2.1
  clear hb hk
  generalize k * o.toNat = z at *
  have hz : z < 16777216 := by omega
  rw [Nat.mod_eq_of_lt (a := z) (by omega), Nat.mod_eq_of_lt (a := z % 65521) (by omega)]
  omega
theorem ofI (x : Nat) (h : x < 65521) : (BitVec.ofInt 32 (x : Int)).toNat = x := by
  rw [BitVec.toNat_ofInt]
  omega
theorem iB_bd (a b : BitVec 32) (n : Int) (o i : BitVec 8) (ha : a < 65521) (hb : b < 65521) (hn : 0 ≤ n) : 0 ≤ iB a b n o i ∧ iB a b n o i < 65521 := by
  have a1 : b.toNat < 65521 := hb
  have h1 := iA_bd a o i ha
  have h2 := iG_bd n o hn
  unfold iB; rw [Int.tmod_eq_emod_of_nonneg (by omega)]; omega
theorem uB_eq (a b : BitVec 32) (n : Int) (o i : BitVec 8) (ha : a < 65521) (hb : b < 65521) (hn : 0 ≤ n) : uB a b n o i = BitVec.ofInt 32 (iB a b n o i) := by
  have a1 : b.toNat < 65521 := hb
  have h1 := iA_bd a o i ha
  have h2 := (iG_bd n o hn).2.2
  obtain ⟨x, hx⟩ : ∃ k : Nat, iA a o i = k := ⟨(iA a o i).toNat, by omega⟩
  obtain ⟨y, hy⟩ : ∃ k : Nat, iG n o = k := ⟨(iG n o).toNat, by omega⟩
  apply BitVec.eq_of_toNat_eq
  unfold uB iB
  rw [uA_eq a o i ha, uG_eq n o hn, hx, hy]
  rw [hx] at h1
  rw [hy] at h2
  have hx1 : x < 65521 := by omega
  have hy1 : y < 65521 := by omega
  rw [Int.tmod_eq_emod_of_nonneg (by omega)]
  have e1 : (b.toNat + 65521 - y + x : Int) % 65521 = ((((b.toNat + 65521 - y + x) % 65521 : Nat)) : Int) := by omega
  rw [e1, ofI _ (by omega)]
  simp only [BitVec.toNat_umod, BitVec.toNat_add, BitVec.toNat_sub, ofI x hx1, ofI y hy1, nat_m, Nat.reducePow, Nat.reduceMod]
  congr 1
  omega

set_option maxHeartbeats 1000000 in
theorem call16 (r : Roll) (o i : BitVec 8) (h : Heap) : (run T).call 16 [.agg r.cells, u8 o, u8 i] none h = some (.ret (.tup [.agg (slideV r o i).cells, i64 (slideE r)]), none, h) := by
  obtain ⟨a, b, n⟩ := r
  by_cases hok : (Roll.mk a b n).ok = true
  · have e1 : slideV (Roll.mk a b n) o i = (Roll.mk a b n).slide o i := by rw [slideV, if_pos hok]
    have e2 : slideE (Roll.mk a b n) = 0 := by rw [slideE, if_pos hok]
    rw [e1, e2]
    simp only [ok_mk, Bool.and_eq_true, Bool.not_eq_true', decide_eq_false_iff_not, BitVec.not_le, Int.not_lt] at hok
    obtain ⟨⟨⟨h1, h2⟩, h3⟩, h4⟩ := hok
    have hv : (Roll.mk a b n).valid = true := by simp only [valid_mk, h1, h2, h4, decide_true, Bool.true_and, Bool.and_true, decide_eq_true_eq]; omega
    have h0 : (n == 0) = false := by simp; omega
    have a1 : a.toNat < 65521 := h1
    have a2 : b.toNat < 65521 := h2
    have a3 := o.isLt
    have a4 := i.isLt
    have h5 : 0 ≤ n := by omega
    have hA := iA_bd a o i h1
    have hG := iG_bd n o h5
    have hB := iB_bd a b n o i h1 h2 h5
    have es : (Roll.mk a b n).slide o i = ⟨BitVec.ofInt 32 (iA a o i), BitVec.ofInt 32 (iB a b n o i), n⟩ := by
      rw [← uA_eq a o i h1, ← uB_eq a b n o i h1 h2 h5, slide_mk]; rfl
    have w1 : wr (a.toNat + 65521 : Int) = a.toNat + 65521 := wr_id (by omega) (by omega)
    have w2 : wr (a.toNat + 65521 - o.toNat : Int) = a.toNat + 65521 - o.toNat := wr_id (by omega) (by omega)
    have w3 : wr (a.toNat + 65521 - o.toNat + i.toNat : Int) = a.toNat + 65521 - o.toNat + i.toNat := wr_id (by omega) (by omega)
    have w4 : wr (n.tmod 65521 * o.toNat) = n.tmod 65521 * o.toNat := wr_id (by omega) (by omega)
    have w5 : wr (b.toNat + 65521 : Int) = b.toNat + 65521 := wr_id (by omega) (by omega)
    have w6 : wr (b.toNat + 65521 - iG n o : Int) = b.toNat + 65521 - iG n o := wr_id (by omega) (by omega)
    have w7 : wr (b.toNat + 65521 - iG n o + iA a o i : Int) = b.toNat + 65521 - iG n o + iA a o i := wr_id (by omega) (by omega)
    have eA : (a.toNat + 65521 - o.toNat + i.toNat : Int).tmod 65521 = iA a o i := rfl
    have eG : (n.tmod 65521 * o.toNat).tmod 65521 = iG n o := rfl
    have eB : (b.toNat + 65521 - iG n o + iA a o i).tmod 65521 = iB a b n o i := rfl
    have hc := call47 (Roll.mk a b n)
    rw [es]
    clear hA hG hB es h1 h2 h3 h4 h5 a1 a2 a3 a4
    generalize iA a o i = jA at *
    generalize iG n o = jG at *
    generalize iB a b n o i = jB at *
    refine call_gc1 fn16 _ _ (h' := roH h ++ [.cells .ex (Roll.mk a b n).cells, .cells .ex (Roll.mk (BitVec.ofInt 32 jA) (BitVec.ofInt 32 jB) n).cells]) ?_ rfl
    generalize roH h = H
    simp only [cells_mk, hv] at hc ⊢
    simp -implicitDefEqProofs only [runEqs, List.zipIdx_cons, List.zipIdx_nil, List.map_cons, List.map_nil, Nat.zero_add, Nat.add_zero, Nat.zero_mul, Nat.reduceAdd, Nat.reduceMul, Nat.reduceBEq, Nat.reduceLT, Nat.reduceSub, Option.map_some, Option.map_none, Option.isSome_some, Option.isSome_none, Bool.not_true, Bool.not_false, Bool.true_or, Bool.false_or, Bool.or_true, List.getElem?_cons_zero, List.getElem?_cons_succ, List.set_cons_zero, List.set_cons_succ, List.length_cons, List.length_nil, List.length_append, List.append_assoc, List.cons_append, List.nil_append, List.zip_cons_cons, List.zip_nil_right, Int.reduceAdd, Int.reduceSub, Int.reduceMul, Int.reduceLT, Int.reduceLE, Int.reduceNeg, Int.reduceToNat, Int.zero_add, Int.add_zero, decide_true, decide_false, Nat.reduceLeDiff, Nat.min_self, List.drop_succ_cons, List.drop_zero, List.drop_nil, List.take_succ_cons, List.take_zero, List.take_nil, List.all_cons, List.all_nil, Bool.and_true, Bool.true_and, Nat.mul_one, List.singleton_append, Int.le_refl, Nat.le_refl, c16, r16, hc, rem_mi, cv_i64_u32, cv_i64_u8, cv_u32_i64, w1, w2, w3, w4, w5, w6, w7, eA, eG, eB, h0, not_bool, Bool.not_true]
  · have e1 : slideV (Roll.mk a b n) o i = ⟨0, 0, 0⟩ := by rw [slideV, if_neg hok]
    have e2 : slideE (Roll.mk a b n) = 1 := by rw [slideE, if_neg hok]
    rw [e1, e2]
    refine call_gc1 fn16 _ _ (h' := roH h ++ [.cells .ex (Roll.mk a b n).cells, .cells .ex (Roll.mk 0 0 0).cells]) ?_ rfl
    generalize roH h = H
    have hc := call47 (Roll.mk a b n)
    cases hv : (Roll.mk a b n).valid with
    | false =>
      simp only [cells_mk, hv] at hc ⊢
      simp -implicitDefEqProofs only [runEqs, List.zipIdx_cons, List.zipIdx_nil, List.map_cons, List.map_nil, Nat.zero_add, Nat.add_zero, Nat.zero_mul, Nat.reduceAdd, Nat.reduceMul, Nat.reduceBEq, Nat.reduceLT, Nat.reduceSub, Option.map_some, Option.map_none, Option.isSome_some, Option.isSome_none, Bool.not_true, Bool.not_false, Bool.true_or, Bool.false_or, Bool.or_true, List.getElem?_cons_zero, List.getElem?_cons_succ, List.set_cons_zero, List.set_cons_succ, List.length_cons, List.length_nil, List.length_append, List.append_assoc, List.cons_append, List.nil_append, List.zip_cons_cons, List.zip_nil_right, Int.reduceAdd, Int.reduceSub, Int.reduceMul, Int.reduceLT, Int.reduceLE, Int.reduceNeg, Int.reduceToNat, Int.zero_add, Int.add_zero, decide_true, decide_false, Nat.reduceLeDiff, Nat.min_self, List.drop_succ_cons, List.drop_zero, List.drop_nil, List.take_succ_cons, List.take_zero, List.take_nil, List.all_cons, List.all_nil, Bool.and_true, Bool.true_and, Nat.mul_one, List.singleton_append, Int.le_refl, Nat.le_refl, c16, r16, hc, not_bool, Bool.not_false]
    | true =>
      have h0 : (n == 0) = true := by
        simp only [valid_mk, Bool.and_eq_true, decide_eq_true_eq] at hv
        obtain ⟨⟨⟨h1, h2⟩, h3⟩, h4⟩ := hv
        simp only [ok_mk, Bool.and_eq_true, Bool.not_eq_true', decide_eq_false_iff_not, BitVec.not_le, Int.not_lt, h1, h2, h4, true_and, and_true] at hok
        simp
        omega
      simp only [cells_mk, hv] at hc ⊢
      simp -implicitDefEqProofs only [runEqs, List.zipIdx_cons, List.zipIdx_nil, List.map_cons, List.map_nil, Nat.zero_add, Nat.add_zero, Nat.zero_mul, Nat.reduceAdd, Nat.reduceMul, Nat.reduceBEq, Nat.reduceLT, Nat.reduceSub, Option.map_some, Option.map_none, Option.isSome_some, Option.isSome_none, Bool.not_true, Bool.not_false, Bool.true_or, Bool.false_or, Bool.or_true, List.getElem?_cons_zero, List.getElem?_cons_succ, List.set_cons_zero, List.set_cons_succ, List.length_cons, List.length_nil, List.length_append, List.append_assoc, List.cons_append, List.nil_append, List.zip_cons_cons, List.zip_nil_right, Int.reduceAdd, Int.reduceSub, Int.reduceMul, Int.reduceLT, Int.reduceLE, Int.reduceNeg, Int.reduceToNat, Int.zero_add, Int.add_zero, decide_true, decide_false, Nat.reduceLeDiff, Nat.min_self, List.drop_succ_cons, List.drop_zero, List.drop_nil, List.take_succ_cons, List.take_zero, List.take_nil, List.all_cons, List.all_nil, Bool.and_true, Bool.true_and, Nat.mul_one, List.singleton_append, Int.le_refl, Nat.le_refl, c16, r16, hc, not_bool, Bool.not_true, h0]
end Go.Proofs.Ytccepmhhilhajaa.K

/- The windows. -/
set_option linter.unusedVariables false
set_option linter.unusedSimpArgs false
set_option maxRecDepth 100000
namespace Go.Proofs.Ytccepmhhilhajaa.K
open Go Go.A

def Roll.val (r : Roll) : BitVec 32 := r.b <<< 16 + r.a
def win (l : List (BitVec 8)) (n k : Nat) : List (BitVec 8) := (l.take (n + k)).drop k
def wins (l : List (BitVec 8)) (n m : Nat) : List (BitVec 32) := (List.range m).map fun k => (sumL (win l n k)).val
theorem wins_succ (l : List (BitVec 8)) (n m : Nat) : wins l n (m + 1) = wins l n m ++ [(sumL (win l n m)).val] := by simp [wins, List.range_succ]
theorem wins_len (l : List (BitVec 8)) (n m : Nat) : (wins l n m).length = m := by simp [wins]

/-! ### sliding -/
def sS : List (BitVec 8) → Nat
  | [] => 0
  | x :: l => x.toNat + sS l
def sW : List (BitVec 8) → Nat
  | [] => 0
  | x :: l => (l.length + 1) * x.toNat + sW l
theorem sS_snoc (y : BitVec 8) : ∀ l, sS (l ++ [y]) = sS l + y.toNat
  | [] => by simp [sS]
  | x :: l => by simp only [List.cons_append, sS, sS_snoc y l]; omega
theorem sW_snoc (y : BitVec 8) : ∀ l, sW (l ++ [y]) = sW l + sS l + y.toNat
  | [] => by simp [sW, sS]
  | x :: l => by
    simp only [List.cons_append, sW, sS, sW_snoc y l, List.length_append, List.length_singleton]
    have : (l.length + 1 + 1) * x.toNat = (l.length + 1) * x.toNat + x.toNat := by rw [Nat.add_mul (l.length + 1) 1, Nat.one_mul]
    omega
theorem fold_sum (n : Int) : ∀ (l : List (BitVec 8)) (a b : BitVec 32), a.toNat < 65521 → b.toNat < 65521 →
    (l.foldl sumStep ⟨a, b, n⟩).a.toNat = (a.toNat + sS l) % 65521 ∧ (l.foldl sumStep ⟨a, b, n⟩).b.toNat = (b.toNat + l.length * a.toNat + sW l) % 65521 ∧ (l.foldl sumStep ⟨a, b, n⟩).n = n
  | [], a, b, ha, hb => by
    simp only [List.foldl_nil, sS, sW, List.length_nil, Nat.zero_mul, Nat.add_zero, and_true]
    constructor <;> omega
  | x :: l, a, b, ha, hb => by
    have hx := x.isLt
    rw [List.foldl_cons, step_mk]
    have e1 : ((a + x.setWidth 32) % 65521 : BitVec 32).toNat = (a.toNat + x.toNat) % 65521 := by
      simp only [BitVec.toNat_umod, BitVec.toNat_add, BitVec.toNat_setWidth, nat_m, Nat.reducePow]
      omega
    have e2 : ((b + (a + x.setWidth 32) % 65521) % 65521 : BitVec 32).toNat = (b.toNat + (a.toNat + x.toNat) % 65521) % 65521 := by
      rw [BitVec.toNat_umod, BitVec.toNat_add, e1, nat_m]
      omega
    obtain ⟨h1, h2, h3⟩ := fold_sum n l _ _ (show ((a + x.setWidth 32) % 65521 : BitVec 32).toNat < 65521 by omega) (show ((b + (a + x.setWidth 32) % 65521) % 65521 : BitVec 32).toNat < 65521 by omega)
    refine ⟨?_, ?_, h3⟩
    · rw [h1, e1, sS]; omega
    · rw [h2, e1, e2, sW, List.length_cons]
      have q : l.length * ((a.toNat + x.toNat) % 65521) % 65521 = (l.length * (a.toNat + x.toNat)) % 65521 := by rw [Nat.mul_mod, Nat.mod_mod, ← Nat.mul_mod]
      have q2 : l.length * (a.toNat + x.toNat) = l.length * a.toNat + l.length * x.toNat := Nat.mul_add _ _ _
      have q3 : (l.length + 1) * a.toNat = l.length * a.toNat + a.toNat := by rw [Nat.add_mul, Nat.one_mul]
      have q4 : (l.length + 1) * x.toNat = l.length * x.toNat + x.toNat := by rw [Nat.add_mul, Nat.one_mul]
      rw [q3, q4]
      rw [q2] at q
      generalize l.length * ((a.toNat + x.toNat) % 65521) = z at *
      generalize l.length * a.toNat = y1 at *
      generalize l.length * x.toNat = y2 at *
      omega
theorem sumL_a (l : List (BitVec 8)) : (sumL l).a.toNat = sS l % 65521 := by
  have := (fold_sum l.length l 0 0 (by decide) (by decide)).1
  simpa [sumL] using this
theorem sumL_b (l : List (BitVec 8)) : (sumL l).b.toNat = sW l % 65521 := by
  have := (fold_sum l.length l 0 0 (by decide) (by decide)).2.1
  simpa [sumL] using this
theorem sumL_n (l : List (BitVec 8)) : (sumL l).n = l.length := (fold_sum l.length l 0 0 (by decide) (by decide)).2.2

theorem Roll.ext' {r s : Roll} (h1 : r.a = s.a) (h2 : r.b = s.b) (h3 : r.n = s.n) : r = s := by cases r; cases s; simp_all
theorem sumL_ok (l : List (BitVec 8)) (h0 : 0 < l.length) (h1 : l.length < 2147483648) : (sumL l).ok = true := by
  have a := sumL_a l
  have b := sumL_b l
  have n := sumL_n l
  simp only [Roll.ok, Bool.and_eq_true, Bool.not_eq_true', decide_eq_false_iff_not, BitVec.le_def, nat_m, n]
  omega
theorem slide_sum (x y : BitVec 8) (m : List (BitVec 8)) (h1 : m.length + 1 < 2147483648) : slideV (sumL (x :: m)) x y = sumL (m ++ [y]) := by
  have hok : (sumL (x :: m)).ok = true := sumL_ok _ (by simp) (by simpa using h1)
  rw [slideV, if_pos hok]
  have a := sumL_a (x :: m)
  have b := sumL_b (x :: m)
  have n := sumL_n (x :: m)
  have a' := sumL_a (m ++ [y])
  have b' := sumL_b (m ++ [y])
  have n' := sumL_n (m ++ [y])
  generalize sumL (x :: m) = r at *
  obtain ⟨ra, rb, rn⟩ := r
  simp only at a b n
  have hx := x.isLt
  have hy := y.isLt
  have ha : ra < 65521 := by rw [BitVec.lt_def, nat_m]; omega
  have hb : rb < 65521 := by rw [BitVec.lt_def, nat_m]; omega
  have hn : 0 ≤ rn := by omega
  have es : (Roll.mk ra rb rn).slide x y = ⟨BitVec.ofInt 32 (iA ra x y), BitVec.ofInt 32 (iB ra rb rn x y), rn⟩ := by
    rw [← uA_eq ra x y ha, ← uB_eq ra rb rn x y ha hb hn, slide_mk]; rfl
  have bA := iA_bd ra x y ha
  have bB := iB_bd ra rb rn x y ha hb hn
  rw [es]
  simp only [sS, sS_snoc, sW, sW_snoc, List.length_append, List.length_singleton, List.length_cons] at a b n a' b' n'
  have vA : iA ra x y = ((sS m + y.toNat) % 65521 : Nat) := by
    unfold iA
    rw [Int.tmod_eq_emod_of_nonneg (by omega), a]
    omega
  have vG : iG rn x = (((m.length + 1) * x.toNat) % 65521 : Nat) := by
    unfold iG
    have e0 : rn.tmod 65521 = (((m.length + 1) % 65521 : Nat) : Int) := by rw [Int.tmod_eq_emod_of_nonneg (by omega), n]; rfl
    rw [e0, ← Int.natCast_mul, Int.tmod_eq_emod_of_nonneg (by omega), show ((65521 : Int)) = ((65521 : Nat) : Int) from rfl, ← Int.natCast_emod]
    congr 1
    rw [Nat.mul_mod, Nat.mod_mod, ← Nat.mul_mod]
  have vB : iB ra rb rn x y = ((sW m + sS m + y.toNat) % 65521 : Nat) := by
    have := iG_bd rn x hn
    unfold iB
    rw [vA, vG, Int.tmod_eq_emod_of_nonneg (by omega), b]
    generalize (m.length + 1) * x.toNat = z at *
    omega
  refine Roll.ext' ?_ ?_ ?_
  · apply BitVec.eq_of_toNat_eq
    rw [a', vA, ofI _ (by omega)]
  · apply BitVec.eq_of_toNat_eq
    rw [b', vB, ofI _ (by omega)]
  · show rn = _
    rw [n', n]; rfl

theorem win_len (l : List (BitVec 8)) (n k : Nat) (h : n + k ≤ l.length) : (win l n k).length = n := by simp [win]; omega
theorem win_slide (l : List (BitVec 8)) (n k : Nat) (hn : 0 < n) (h : n + k < l.length) (h1 : l.length < 2147483648) : slideV (sumL (win l n k)) (l[k]'(by omega)) (l[n + k]'h) = sumL (win l n (k + 1)) := by
  have e1 : win l n k = l[k]'(by omega) :: (l.take (n + k)).drop (k + 1) := by
    unfold win
    rw [List.drop_eq_getElem_cons (by simp; omega)]
    simp
  have e2 : win l n (k + 1) = (l.take (n + k)).drop (k + 1) ++ [l[n + k]'h] := by
    unfold win
    rw [show n + (k + 1) = n + k + 1 by omega, List.take_succ_eq_append_getElem h, List.drop_append_of_le_length (by simp; omega)]
  rw [e1, e2]
  exact slide_sum _ _ _ (by simp; omega)
end Go.Proofs.Ytccepmhhilhajaa.K

