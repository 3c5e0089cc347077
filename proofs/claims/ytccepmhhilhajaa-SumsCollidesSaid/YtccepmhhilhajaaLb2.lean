/- Texts of this claim, put together (ACtl4, ACtl5, ACtl6, ACong, ADraw, ADraw2, ADraw3, ADraw4, ATop, AEv, AEv2, AEv3, AEv4): lemmas towards the statement; no conditions of their own. -/
import Derived.Test.YtccepmhhilhajaaLb1
import Derived.Orders
import Derived.Below
/- A step over one operation. -/
set_option linter.unusedVariables false
set_option linter.unusedSimpArgs false
set_option linter.unusedSectionVars false
namespace Go.A

section steps
variable {P : Program} {b : Frame} {a : Act} {k : List Item} {cs : List Frame} {w w' : World} {ops : Array Oper} {i : Nat} {rest : List Nat} {o : Oper}

theorem fstep_value (ho : ops[i]? = some o) (hw : Region.wanted o (yielded ops a.tmps) = true) (hd : b.roundOf = none ∨ ∀ c, o.op ≠ .defer c) {v : Value} (hx : (execOp a.eval o).run P w = .ok (.value v) w') :
    step P (lone (fat b a (.inRegion ops (i :: rest) :: k)) cs w) = .next (lone (fat b (a.put o.dst v) (.inRegion ops rest :: k)) cs w') := by
  have hfin := fat_finish b a ops i rest k v
  rw [ho] at hfin
  refine step_lone_go ?_
  rw [fstepG_op ho hw hd]
  simp only [stepG.apply, Sem.runT_eq, if_true, hx, GStep.bare_after]
  exact congrArg (fun fr => GStep.go { frame := fr, callers := cs, status := .running, dying := none } w') hfin

theorem fstep_void (ho : ops[i]? = some o) (hw : Region.wanted o (yielded ops a.tmps) = true) (hd : b.roundOf = none ∨ ∀ c, o.op ≠ .defer c) (hx : (execOp a.eval o).run P w = .ok .skip w') :
    step P (lone (fat b a (.inRegion ops (i :: rest) :: k)) cs w) = .next (lone (fat b (a.put o.dst undef) (.inRegion ops rest :: k)) cs w') := by
  have hfin := fat_finish b a ops i rest k undef
  rw [ho] at hfin
  refine step_lone_go ?_
  rw [fstepG_op ho hw hd]
  simp only [stepG.apply, Sem.runT_eq, if_true, hx, GStep.bare_after]
  exact congrArg (fun fr => GStep.go { frame := fr, callers := cs, status := .running, dying := none } w') hfin

theorem fstep_enter (ho : ops[i]? = some o) (hw : Region.wanted o (yielded ops a.tmps) = true) (hd : b.roundOf = none ∨ ∀ c, o.op ≠ .defer c) {nx : Next} {fe : Frame} (hx : (execOp a.eval o).run P w = .ok nx w') (hn : entered P nx = some fe) :
    step P (lone (fat b a (.inRegion ops (i :: rest) :: k)) cs w) = .next (lone fe (fat b a (.inRegion ops (i :: rest) :: k) :: cs) w') := by
  refine step_lone_go ?_
  rw [fstepG_op ho hw hd]
  simp only [stepG.apply, Sem.runT_eq, if_true, hx, GStep.bare_after]
  cases nx <;> simp only [entered, reduceCtorEq, Option.some.injEq] at hn <;> subst hn <;> rfl

theorem fstep_defer (ho : ops[i]? = some o) (hw : Region.wanted o (yielded ops a.tmps) = true) (hd : b.roundOf = none) {d : Deferred} (hx : (execOp a.eval o).run P w = .ok (.defer d) w') :
    step P (lone (fat b a (.inRegion ops (i :: rest) :: k)) cs w) = .next (lone (fat b ({ a with defers := d :: a.defers }.put o.dst undef) (.inRegion ops rest :: k)) cs w') := by
  have hfin := fat_finish b { a with defers := d :: a.defers } ops i rest k undef
  rw [ho] at hfin
  refine step_lone_go ?_
  rw [fstepG_op ho hw (.inl hd)]
  simp only [stepG.apply, Sem.runT_eq, if_true, hx, GStep.bare_after]
  exact congrArg (fun fr => GStep.go { frame := fr, callers := cs, status := .running, dying := none } w') hfin

theorem fstep_recover (ho : ops[i]? = some o) (hw : Region.wanted o (yielded ops a.tmps) = true) (hd : b.roundOf = none) (hx : (execOp a.eval o).run P w = .ok .recover w') {v : Value} {cs' : List Frame}
    (hr : (tryRecover (fat b a (.inRegion ops (i :: rest) :: k)) cs = some (v, cs')) ∨ (tryRecover (fat b a (.inRegion ops (i :: rest) :: k)) cs = none ∧ v = .nilIface ∧ cs' = cs)) :
    step P (lone (fat b a (.inRegion ops (i :: rest) :: k)) cs w) = .next (lone (fat b (a.put o.dst v) (.inRegion ops rest :: k)) cs' w') := by
  have hfin := fat_finish b a ops i rest k v
  rw [ho] at hfin
  refine step_lone_go ?_
  rw [fstepG_op ho hw (.inl hd)]
  simp only [stepG.apply, Sem.runT_eq, if_true, hx, GStep.bare_after]
  have hro : (fat b a (.inRegion ops (i :: rest) :: k)).roundOf = none := hd
  simp only [hro]
  rcases hr with hr | ⟨hr, rfl, rfl⟩
  · rw [hr]
    exact congrArg (fun fr => GStep.go { frame := fr, callers := cs', status := .running, dying := none } w') hfin
  · rw [hr]
    exact congrArg (fun fr => GStep.go { frame := fr, callers := cs', status := .running, dying := none } w') hfin

theorem fstep_panic (ho : ops[i]? = some o) (hw : Region.wanted o (yielded ops a.tmps) = true) (hd : b.roundOf = none ∨ ∀ c, o.op ≠ .defer c) {v : Value} (hx : (execOp a.eval o).run P w = .halt (.panic v) w') :
    step P (lone (fat b a (.inRegion ops (i :: rest) :: k)) cs w) = .next (lone { fat b a (.inRegion ops (i :: rest) :: k) with mode := .panicking [{ v, recovered := false }] } cs w') := by
  refine step_lone_go ?_
  rw [fstepG_op ho hw hd]
  simp only [stepG.apply, Sem.runT_eq, if_true, hx, GStep.bare_after]
  rfl

end steps

variable {P : Program} {T : Tbl} {β0 β : Map} {r : Rec} {h : Heap} {w : World}

theorem compOp_inv {op : Op} {x : AOp} (e : compOp P op = some x) : (∃ q, x = .p q ∧ (compP P op = some q ∨ compS P op = some q)) ∨ (∃ q, x = .r q ∧ compR P op = some q) ∨ (∃ q, x = .n q ∧ compN P op = some q) ∨
    (∃ q, x = .l q ∧ compL P op = some q) ∨ compX op = some x := by
  unfold compOp at e
  split at e
  · rename_i q hq; cases e; exact .inl ⟨q, rfl, .inl hq⟩
  · split at e
    · rename_i q hq; cases e; exact .inr (.inl ⟨q, rfl, hq⟩)
    · split at e
      · rename_i q hq; cases e; exact .inr (.inr (.inl ⟨q, rfl, hq⟩))
      · split at e
        · rename_i q hq; cases e; exact .inl ⟨q, rfl, .inr hq⟩
        · split at e
          · rename_i q hq; cases e; exact .inr (.inr (.inr (.inl ⟨q, rfl, hq⟩)))
          · exact .inr (.inr (.inr (.inr e)))

theorem notDefer {op : Op} (h : (∃ q, compP P op = some q ∨ compS P op = some q) ∨ (∃ q, compR P op = some q) ∨ (∃ q, compN P op = some q) ∨ (∃ q, compL P op = some q)) : ∀ c, op ≠ .defer c := by
  rintro c rfl
  rcases h with ⟨q, h | h⟩ | ⟨q, h⟩ | ⟨q, h⟩ | ⟨q, h⟩ <;> cases h

theorem compX_inv {op : Op} {x : AOp} (e : compX op = some x) :
    (∃ c f q l, op = .call c ∧ c.callee = .value f ∧ calOf f = some q ∧ opds c.args.toList = some l ∧ x = .call q l) ∨ (∃ c f q l, op = .defer c ∧ c.callee = .value f ∧ calOf f = some q ∧ opds c.args.toList = some l ∧ x = .dfr q l) ∨
    (∃ y z, op = .panic y ∧ opd y = some z ∧ x = .pan z) ∨ (∃ c, op = .call c ∧ c.callee = .builtin .recover ∧ x = .rcv) := by
  unfold compX at e
  split at e
  · rename_i f args _
    simp only [Option.bind_eq_some_iff, Option.map_eq_some_iff] at e
    obtain ⟨q, hq, l, hl, rfl⟩ := e
    exact .inl ⟨_, f, q, l, rfl, rfl, hq, hl, rfl⟩
  · rename_i f args _
    simp only [Option.bind_eq_some_iff, Option.map_eq_some_iff] at e
    obtain ⟨q, hq, l, hl, rfl⟩ := e
    exact .inr (.inl ⟨_, f, q, l, rfl, rfl, hq, hl, rfl⟩)
  · simp only [Option.map_eq_some_iff] at e
    obtain ⟨z, hz, rfl⟩ := e
    exact .inr (.inr (.inl ⟨_, z, rfl, hz, rfl⟩))
  · cases e
    exact .inr (.inr (.inr ⟨_, rfl, rfl, rfl⟩))
  · cases e

theorem skip_rel : VRel β (.tup []) Go.undef := .tup (xs := []) (ys := #[]) rfl (fun i v v' h => by simp at h)
theorem VRel.tup_inv' {xs : List V} {v : Value} (h : VRel β (.tup xs) v) : ∃ ys, v = .tuple ys := by cases h; exact ⟨_, rfl⟩

theorem wanted_ok {e : Env} {tmps : Array Value} (r : ERel β e tmps) {ops : Array Oper} {o : Oper} {g : Option (Nat × Bool)} (hg : compG ops o.guard = some g) {b : Bool} (hw : wanted e g = some b) :
    Region.wanted o (yielded ops tmps) = b := by
  unfold Region.wanted
  cases hgd : o.guard with
  | none =>
    rw [hgd] at hg
    simp only [compG, Option.some.injEq] at hg
    subst hg
    simp only [wanted, Option.some.injEq] at hw
    exact hw
  | some jw =>
    obtain ⟨j, x⟩ := jw
    rw [hgd] at hg
    simp only [compG] at hg
    split at hg
    case h_2 => cases hg
    rename_i t ht
    cases hg
    simp only [wanted] at hw
    split at hw
    case h_3 => cases hw
    case h_2 xs hy =>
      cases hw
      have h1 := r t
      rw [hy] at h1
      obtain ⟨ys, h2⟩ := h1.tup_inv'
      have h4 : yielded ops tmps j = none := by
        cases hx : tmps[t]? with
        | none => simp [yielded, ht, hx]
        | some z =>
          rw [Array.getD_eq_getD_getElem?, hx] at h2
          simp at h2
          subst h2
          simp [yielded, ht, hx]
      simp [h4]
    rename_i y hy
    cases hw
    have h1 := r t
    rw [hy] at h1
    have h2 := h1.bool_inv
    have h3 : tmps[t]? = some (.bool y) := by
      rw [Array.getD_eq_getD_getElem?] at h2
      cases hx : tmps[t]? with
      | none => rw [hx] at h2; cases h2
      | some z => rw [hx] at h2; simp at h2; rw [h2]
    have h4 : yielded ops tmps j = some y := by simp [yielded, ht, h3]
    simp [h4]

theorem run_ofValue_func (f : Fn) (x y args : Array Value) : (Deferred.ofValue (.func f x y) args).run P w = .ok { target := .fn f y, args := x ++ args } w := by simp [Deferred.ofValue]

theorem run_execCall {ρ : Operand → Value} {o : Oper} {c : Call} (ho : o.op = .call c) {f : Operand} (hf : c.callee = .value f) {d : Deferred} (hd : (Deferred.ofValue (ρ f) (c.args.map ρ)).run P w = .ok d w) :
    (execOp ρ o).run P w = (invoke d.target d.args).run P w := by
  simp [execOp, ho, resolve, hf, Sem.run_bind, hd, Result.andThen]

/-- A call of what an operand names. -/
theorem callC_ok (hr : RecOk P T β0 r) {c : Cal} {f : Operand} (hc : calOf f = some c) {e : Env} {a : Act} (he : ERel β e a.tmps) {args : List V} {o : Out} {h' : Heap} (hx : callC r c (Opd.ev e) args h = some (o, h'))
    {args' : Array Value} (ha : LRel β args args'.toList) (hh : HRel P (CRel P) β h w) (ht : Tab P T β0 β h w) :
    ∃ d nx fe, (Deferred.ofValue (a.eval f) args').run P w = .ok d w ∧ (invoke d.target d.args).run P w = .ok nx w ∧ entered P nx = some fe ∧ CallGoes P β h w fe o h' := by
  unfold calOf at hc
  split at hc
  · cases hc
    rename_i g
    simp only [callC, Option.map_eq_some_iff] at hx
    obtain ⟨⟨o', u', h''⟩, hc, e⟩ := hx
    cases e
    obtain ⟨fn, hfn, hbody, hname⟩ := hr.fn hc
    refine ⟨_, _, _, by simp only [Act.eval]; exact run_ofValue_func _ _ _ _, by simp only [invoke]; exact run_callFunc hfn hbody hname _ _, rfl, hr.plain hc hh ht (by simpa using ha)⟩
  · cases hc
    rename_i t
    exact callV_ok hr (f := get e t) hx (he t) ha hh ht
  · cases hc

theorem put_other (a : Act) (d : Option Nat) (v : Value) {i : Nat} (h : d ≠ some i) : (a.put d v).tmps.getD i undef = a.tmps.getD i undef := by
  cases d with
  | none => rfl
  | some d =>
    have hne : d ≠ i := fun e => h (by rw [e])
    simp only [Act.put, Array.getD_eq_getD_getElem?]
    rw [Array.getElem?_setIfInBounds_ne hne]

theorem step_op' (hr : RecOk P T β0 r) {ops : Array Oper} {i : Nat} {o : Oper} {q : AOper} (ho : ops[i]? = some o) (hq : compOper P ops o = some q) {fr : Fr} {e : Ex} {fr' : Fr} {h' : Heap} (hs : stepOp r q fr h = some (e, fr', h'))
    {b : Frame} {a : Act} {rest : List Nat} {k : List Item} {cs0 cs : List Frame} (hd : ∀ d, o.dst = some d → d < a.tmps.size) (hh : HRel P (CRel P) β h w) (ht : Tab P T β0 β h w) (hF : FRel β b cs0 fr a cs) :
    ∃ β' w' a' cs', HRel P (CRel P) β' h' w' ∧ Stp β h w β' h' w' ∧ FRel β' b cs0 fr' a' cs' ∧ a'.tmps.size = a.tmps.size ∧
      Lands P (lone (fat b a (.inRegion ops (i :: rest) :: k)) cs w) b (.inRegion ops rest :: k) β' a' cs' w' e ∧ (∀ i, o.dst ≠ some i → a'.tmps.getD i undef = a.tmps.getD i undef) := by
  unfold compOper at hq
  simp only [Option.bind_eq_some_iff, Option.map_eq_some_iff] at hq
  obtain ⟨x, hx, g, hg, rfl⟩ := hq
  simp only [stepOp, Option.bind_eq_some_iff] at hs
  obtain ⟨wnt, hw, hs⟩ := hs
  have hwant := wanted_ok hF.t hg hw
  have hρ : ∀ x y, opd x = some y → VRel β (Opd.ev fr.t y) (a.eval x) := fun x y e => opd_rel hF.t e
  have hput : ∀ {β' : Map} {v : V} {v' : Value} {fr1 : Fr}, β.le β' → fr1.t = put fr.t o.dst v → fr1.d = fr.d → fr1.u = fr.u → VRel β' v v' → FRel β' b cs0 fr1 (a.put o.dst v') cs := by
    intro β' v v' fr1 hle h1 h2 h3 hv
    exact ⟨by rw [h1]; exact (hF.t.mono hle).put' hv hd, by rw [put_defers, h2]; exact hF.d.mono hle, by rw [h3]; exact hF.u.mono hle⟩
  cases wnt with
  | false =>
    simp only [Bool.false_eq_true, if_false, Option.some.injEq, Prod.mk.injEq] at hs
    obtain ⟨rfl, rfl, rfl⟩ := hs
    refine ⟨β, w, a.put o.dst undef, cs, hh, Stp.refl _ _ _, hput (Map.le.refl _) rfl rfl rfl skip_rel, put_size _ _ _, ?_, fun _ hd => put_other _ _ _ hd⟩
    have := fstep_op_skip (P := P) (b := b) (a := a) (k := k) (cs := cs) (w := w) (ops := ops) (i := i) (rest := rest) (by simp [ho, hwant])
    rw [ho] at this
    exact .one this
  | true =>
    simp only [if_true] at hs
    rcases compOp_inv hx with ⟨q, rfl, hc⟩ | ⟨q, rfl, hc⟩ | ⟨q, rfl, hc⟩ | ⟨q, rfl, hc⟩ | hc
    · have hnd := notDefer (.inl ⟨q, hc⟩)
      simp only [Option.map_eq_some_iff, Prod.mk.injEq] at hs
      obtain ⟨v, hv, rfl, rfl, rfl⟩ := hs
      have hgv : Gives P β a.eval o.op v := by
        rcases hc with hc | hc
        · exact gives_P hρ hc hv
        · exact gives_S hρ hc hv
      obtain ⟨v', hrun, hvr⟩ := hgv o rfl w
      exact ⟨β, w, _, cs, hh, Stp.refl _ _ _, hput (Map.le.refl _) rfl rfl rfl hvr, put_size _ _ _, .one (fstep_value ho hwant (.inr hnd) hrun), fun _ hd => put_other _ _ _ hd⟩
    · have hnd := notDefer (P := P) (op := o.op) (.inr (.inl ⟨q, hc⟩))
      simp only [Option.map_eq_some_iff, Prod.mk.injEq] at hs
      obtain ⟨v, hv, rfl, rfl, rfl⟩ := hs
      obtain ⟨v', hrun, hvr⟩ := gives_R hh hρ hc hv o rfl
      exact ⟨β, w, _, cs, hh, Stp.refl _ _ _, hput (Map.le.refl _) rfl rfl rfl hvr, put_size _ _ _, .one (fstep_value ho hwant (.inr hnd) hrun), fun _ hd => put_other _ _ _ hd⟩
    · have hnd := notDefer (P := P) (op := o.op) (.inr (.inr (.inl ⟨q, hc⟩)))
      simp only [Option.map_eq_some_iff, Prod.mk.injEq] at hs
      obtain ⟨⟨blk, vf⟩, hv, rfl, rfl, rfl⟩ := hs
      obtain ⟨v', w', obj, md, csz, hrun, hpush, hall⟩ := gives_N (CR := CRel P) hρ hc hv o rfl w
      obtain ⟨hb, hvr⟩ := hall h.length hh.fresh
      obtain ⟨hh', hst⟩ := hh.push hpush hb
      exact ⟨_, w', _, cs, hh', hst, hput hst.ext rfl rfl rfl hvr, put_size _ _ _, .one (fstep_value ho hwant (.inr hnd) hrun), fun _ hd => put_other _ _ _ hd⟩
    · have hnd := notDefer (P := P) (op := o.op) (.inr (.inr (.inr ⟨q, hc⟩)))
      simp only [Option.map_eq_some_iff, Prod.mk.injEq] at hs
      obtain ⟨⟨v, h1⟩, hv, rfl, rfl, rfl⟩ := hs
      obtain ⟨β', nx, w', hrun, hres, hh', hst⟩ := gives_L hρ hh hc hv o rfl
      rcases hres with ⟨v', rfl, hvr⟩ | ⟨rfl, rfl⟩
      · exact ⟨_, w', _, cs, hh', hst, hput hst.ext rfl rfl rfl hvr, put_size _ _ _, .one (fstep_value ho hwant (.inr hnd) hrun), fun _ hd => put_other _ _ _ hd⟩
      · exact ⟨_, w', _, cs, hh', hst, hput hst.ext rfl rfl rfl (.undef _), put_size _ _ _, .one (fstep_void ho hwant (.inr hnd) hrun), fun _ hd => put_other _ _ _ hd⟩
    · rcases compX_inv hc with ⟨c, f, q, l, hop, hf, hq, hl, rfl⟩ | ⟨c, f, q, l, hop, hf, hq, hl, rfl⟩ | ⟨y, z, hop, hz, rfl⟩ | ⟨c, hop, hf, rfl⟩
      · -- a call
        simp only [Option.map_eq_some_iff] at hs
        obtain ⟨⟨out, h1⟩, hv, hs⟩ := hs
        have hla : LRel β (l.map (Opd.ev fr.t)) (c.args.map a.eval).toList := by simpa using opds_rel hρ hl
        obtain ⟨d, nx, fe, e1, e2, e3, e4⟩ := callC_ok hr hq hF.t hv hla hh ht
        have hrun : (execOp a.eval o).run P w = .ok nx w := by rw [run_execCall hop hf e1]; exact e2
        have hent := fstep_enter (k := k) (cs := cs) (rest := rest) ho hwant (.inr fun c' => by rw [hop]; exact fun e => by cases e) hrun e3 (b := b)
        obtain ⟨β', w', c', hback, hsteps, hh', hst⟩ := e4 (fat b a (.inRegion ops (i :: rest) :: k)) cs
        cases out with
        | ret v =>
          simp only [Prod.mk.injEq] at hs
          obtain ⟨rfl, rfl, rfl⟩ := hs
          obtain ⟨v', hvr, rfl⟩ := hback
          refine ⟨β', w', a.put o.dst v', cs, hh', hst, hput hst.ext rfl rfl rfl hvr, put_size _ _ _, ?_, fun _ hd => put_other _ _ _ hd⟩
          have hfin := fat_finish b a ops i rest k v'
          rw [ho] at hfin
          rw [hfin] at hsteps
          exact .head hent hsteps
        | pan v =>
          simp only [Prod.mk.injEq] at hs
          obtain ⟨rfl, rfl, rfl⟩ := hs
          obtain ⟨v', hvr, rfl⟩ := hback
          exact ⟨β', w', a, cs, hh', hst, hF.mono hst.ext, rfl, ⟨v', _, hvr, .head hent hsteps⟩, fun _ _ => rfl⟩
      · -- a deferred call
        dsimp only at hs
        split at hs
        case isFalse => cases hs
        rename_i hus
        simp only [Option.map_eq_some_iff, Prod.mk.injEq] at hs
        obtain ⟨dd, hv, rfl, rfl, rfl⟩ := hs
        have hro : b.roundOf = none := by
          have := hF.u
          cases hu : fr.u with
          | none => rw [hu] at hus; cases hus
          | some u => rw [hu] at this; exact this.1
        have hla : LRel β (l.map (Opd.ev fr.t)) (c.args.map a.eval).toList := by simpa using opds_rel hρ hl
        have hdd : ∃ d, (Deferred.ofValue (a.eval f) (c.args.map a.eval)).run P w = .ok d w ∧ DR1 β dd d := by
          unfold calOf at hq
          split at hq
          · cases hq
            cases hv
            exact ⟨_, by simp only [Act.eval]; exact run_ofValue_func _ _ _ _, #[], rfl, by simpa using hla⟩
          · cases hq
            rename_i t
            simp only [dfrOf] at hv
            split at hv
            · rename_i g first caps hg'
              cases hv
              have := hF.t t
              simp only [Opd.ev] at hg'
              rw [hg'] at this
              obtain ⟨g', ys, us, e1, h1, h2, ⟨rfl, -⟩ | ⟨l', bi, hl', -⟩⟩ := this.fn_inv
              · exact ⟨_, by simp only [Act.eval, e1]; exact run_ofValue_func _ _ _ _, us, rfl, by simpa using (h1.append hla).append h2⟩
              · cases hl'
            · cases hv
          · cases hq
        obtain ⟨d, hd1, hd2⟩ := hdd
        have hrun : (execOp a.eval o).run P w = .ok (.defer d) w := by simp [execOp, hop, resolve, hf, Sem.run_bind, hd1, Result.andThen]
        refine ⟨β, w, _, cs, hh, Stp.refl _ _ _, ⟨?_, ?_, hF.u⟩, by simp [put_size], .one (fstep_defer ho hwant hro hrun), fun _ hd => put_other _ _ _ hd⟩
        · exact ERel.put' (a := { a with defers := d :: a.defers }) hF.t (.undef _) hd
        · rw [put_defers]
          exact ⟨d, a.defers, rfl, hd2, hF.d⟩
      · -- a panic
        dsimp only at hs
        split at hs
        case h_2 => cases hs
        rename_i t v hz'
        simp only [Option.some.injEq, Prod.mk.injEq] at hs
        obtain ⟨rfl, rfl, rfl⟩ := hs
        have := hρ _ _ hz
        rw [hz'] at this
        obtain ⟨v', e1, hv⟩ := this.ifc_inv
        have hrun : (execOp a.eval o).run P w = .halt (.panic (.iface t v')) w := by simp [execOp, hop, Instr.panic, e1, goPanic, Sem.run, Sem.run_bind]
        exact ⟨β, w, a, cs, hh, Stp.refl _ _ _, hF, rfl, ⟨_, _, .ifc hv, .one (fstep_panic ho hwant (.inr fun c' => by rw [hop]; exact fun e => by cases e) hrun)⟩, fun _ _ => rfl⟩
      · -- recover
        dsimp only at hs
        have hrun : (execOp a.eval o).run P w = .ok .recover w := by simp [execOp, hop, resolve, hf, Sem.run_bind, invoke, builtin, Result.andThen]
        have hu := hF.u
        split at hs
        · rename_i v hfu
          simp only [Option.some.injEq, Prod.mk.injEq] at hs
          obtain ⟨rfl, rfl, rfl⟩ := hs
          rw [hfu] at hu
          obtain ⟨hro, ⟨-, hx, -⟩ | ⟨hkd, c1, rst, m, rfl, rfl, ⟨v', hvr, rfl⟩, hmode⟩⟩ := hu
          · cases hx
          · refine ⟨β, w, a.put o.dst v', { c1 with mode := .panicking [{ v := v', recovered := true }] } :: rst, hh, Stp.refl _ _ _, ⟨hF.t.put' hvr hd, by rw [put_defers]; exact hF.d, hro, .inr ⟨hkd, c1, rst, _, rfl, rfl, .inr ⟨v', rfl⟩, fun e => by cases hmode e⟩⟩, put_size _ _ _, ?_, fun _ hd => put_other _ _ _ hd⟩
            exact .one (fstep_recover ho hwant hro hrun (.inl (by simp [tryRecover, fat, hkd])))
        · rename_i hfu
          simp only [Option.some.injEq, Prod.mk.injEq] at hs
          obtain ⟨rfl, rfl, rfl⟩ := hs
          rw [hfu] at hu
          refine ⟨β, w, a.put o.dst .nilIface, cs, hh, Stp.refl _ _ _, hput (Map.le.refl _) rfl rfl rfl .nili, put_size _ _ _, ?_, fun _ hd => put_other _ _ _ hd⟩
          obtain ⟨hro, ⟨hkd, -, -⟩ | ⟨hkd, c1, rst, m, rfl, rfl, rfl | ⟨v', rfl⟩, -⟩⟩ := hu
          · exact .one (fstep_recover ho hwant hro hrun (.inr ⟨by simp [tryRecover, fat, hkd], rfl, rfl⟩))
          · exact .one (fstep_recover ho hwant hro hrun (.inr ⟨by simp [tryRecover, fat, hkd], rfl, rfl⟩))
          · exact .one (fstep_recover ho hwant hro hrun (.inr ⟨by simp [tryRecover, fat, hkd], rfl, rfl⟩))
        · cases hs

theorem step_op (hr : RecOk P T β0 r) {ops : Array Oper} {i : Nat} {o : Oper} {q : AOper} (ho : ops[i]? = some o) (hq : compOper P ops o = some q) {fr : Fr} {e : Ex} {fr' : Fr} {h' : Heap} (hs : stepOp r q fr h = some (e, fr', h'))
    {b : Frame} {a : Act} {rest : List Nat} {k : List Item} {cs0 cs : List Frame} (hd : ∀ d, o.dst = some d → d < a.tmps.size) (hh : HRel P (CRel P) β h w) (ht : Tab P T β0 β h w) (hF : FRel β b cs0 fr a cs) :
    Goes P β h w b cs0 a.tmps.size (lone (fat b a (.inRegion ops (i :: rest) :: k)) cs w) (.inRegion ops rest :: k) e fr' h' := by
  obtain ⟨β', w', a', cs', h1, h2, h3, h4, h5, -⟩ := step_op' hr ho hq hs (rest := rest) (k := k) hd hh ht hF
  exact ⟨β', w', a', cs', h1, h2, h3, h4, h5⟩

end Go.A

/- Code: what A computes is what the machine computes. -/
set_option linter.unusedVariables false
set_option linter.unusedSimpArgs false
set_option linter.unusedSectionVars false
namespace Go.A

variable {P : Program} {T : Tbl} {β0 β : Map} {r : Rec} {h : Heap} {w : World}

theorem Lands.of_steps {m m1 : Machine} {b : Frame} {k : List Item} {a : Act} {cs : List Frame} {e : Ex} (hs : Steps P m m1) (l : Lands P m1 b k β a cs w e) : Lands P m b k β a cs w e := by
  cases e with
  | norm => exact hs.trans l
  | exit id => obtain ⟨k1, h1, h2⟩ := l; exact ⟨k1, h1, hs.trans h2⟩
  | ret => obtain ⟨k1, h2⟩ := l; exact ⟨k1, hs.trans h2⟩
  | pan v => obtain ⟨v', todo, h1, h2⟩ := l; exact ⟨v', todo, h1, hs.trans h2⟩

section goes
variable {b : Frame} {cs0 : List Frame} {n : Nat} {m m1 : Machine} {k k1 : List Item} {e : Ex} {fr1 fr2 : Fr} {h1 h2 : Heap}

theorem Goes.head (hs : step P m = .next m1) (g : Goes P β h w b cs0 n m1 k e fr1 h1) : Goes P β h w b cs0 n m k e fr1 h1 := by
  obtain ⟨β', w', a', cs', g1, g2, g3, g4, g5⟩ := g
  exact ⟨β', w', a', cs', g1, g2, g3, g4, g5.of_steps (.one hs)⟩

theorem Goes.bind (g : Goes P β h w b cs0 n m k1 .norm fr1 h1)
    (f : ∀ β1 w1 a1 cs1, HRel P (CRel P) β1 h1 w1 → Stp β h w β1 h1 w1 → FRel β1 b cs0 fr1 a1 cs1 → a1.tmps.size = n → Goes P β1 h1 w1 b cs0 n (lone (fat b a1 k1) cs1 w1) k e fr2 h2) :
    Goes P β h w b cs0 n m k e fr2 h2 := by
  obtain ⟨β', w', a', cs', g1, g2, g3, g4, g5⟩ := g
  obtain ⟨β2, w2, a2, cs2, f1, f2, f3, f4, f5⟩ := f β' w' a' cs' g1 g2 g3 g4
  exact ⟨β2, w2, a2, cs2, f1, g2.trans f2, f3, f4, f5.of_steps g5⟩

theorem Goes.pass (g : Goes P β h w b cs0 n m k1 e fr1 h1) (hn : e ≠ .norm) (hx : ∀ id, e = .exit id → exitTo id k1 = exitTo id k) : Goes P β h w b cs0 n m k e fr1 h1 := by
  obtain ⟨β', w', a', cs', g1, g2, g3, g4, g5⟩ := g
  refine ⟨β', w', a', cs', g1, g2, g3, g4, ?_⟩
  cases e with
  | norm => exact absurd rfl hn
  | exit id => obtain ⟨k2, q1, q2⟩ := g5; exact ⟨k2, q1.trans (hx id rfl), q2⟩
  | ret => exact g5
  | pan v => exact g5

theorem Goes.last (g : Goes P β h w b cs0 n m k1 .norm fr1 h1) (hs : ∀ a cs w, step P (lone (fat b a k1) cs w) = .next (lone (fat b a k) cs w)) : Goes P β h w b cs0 n m k .norm fr1 h1 := by
  obtain ⟨β', w', a', cs', g1, g2, g3, g4, g5⟩ := g
  exact ⟨β', w', a', cs', g1, g2, g3, g4, g5.trans (.one (hs _ _ _))⟩

end goes

theorem compOpers_get {ops : Array Oper} : ∀ {os : List Oper} {l : List AOper}, compOpers P ops os = some l → os.length = l.length ∧ ∀ (i : Nat) (o : Oper), os[i]? = some o → ∃ q, l[i]? = some q ∧ compOper P ops o = some q
  | [], l, e => by simp only [compOpers, Option.some.injEq] at e; subst e; exact ⟨rfl, fun i o h => by simp at h⟩
  | o :: os, l, e => by
    simp only [compOpers, Option.bind_eq_some_iff, Option.some.injEq] at e
    obtain ⟨q, hq, qs, hqs, rfl⟩ := e
    obtain ⟨h1, h2⟩ := compOpers_get hqs
    refine ⟨by simp [h1], fun i o' ho => ?_⟩
    cases i with
    | zero => simp only [List.getElem?_cons_zero, Option.some.injEq] at ho; subst ho; exact ⟨q, rfl, hq⟩
    | succ i => simpa using h2 i o' (by simpa using ho)

/-- Operations in their order. -/
theorem steps_ok (hr : RecOk P T β0 r) {ops : Array Oper} {l : List AOper} (hl : compOpers P ops ops.toList = some l) {b : Frame} {k : List Item} {cs0 : List Frame} {n : Nat}
    (hd : ∀ (i : Nat) (o : Oper) d, ops[i]? = some o → o.dst = some d → d < n) :
    ∀ (m i : Nat), i + m = ops.size → ∀ (β : Map) (w : World) (fr : Fr) (h : Heap) (e : Ex) (fr' : Fr) (h' : Heap) (a : Act) (cs : List Frame), a.tmps.size = n → stepOps r (l.drop i) fr h = some (e, fr', h') →
      HRel P (CRel P) β h w → Tab P T β0 β h w → FRel β b cs0 fr a cs → Goes P β h w b cs0 n (lone (fat b a (.inRegion ops (List.range' i m) :: k)) cs w) k e fr' h' := by
  obtain ⟨hlen, hget⟩ := compOpers_get hl
  simp only [Array.length_toList] at hlen
  intro m
  induction m with
  | zero =>
    intro i hi β w fr h e fr' h' a cs hn hs hh ht hF
    rw [List.drop_eq_nil_of_le (by omega)] at hs
    simp only [stepOps, Option.some.injEq, Prod.mk.injEq] at hs
    obtain ⟨rfl, rfl, rfl⟩ := hs
    exact ⟨β, w, a, cs, hh, Stp.refl _ _ _, hF, hn, .one fstep_region_end⟩
  | succ m ih =>
    intro i hi β w fr h e fr' h' a cs hn hs hh ht hF
    have ho : ops[i]? = some ops[i] := Array.getElem?_eq_getElem (by omega)
    obtain ⟨q, hq, hc⟩ := hget i ops[i] (by simp)
    have hdrop : l.drop i = q :: l.drop (i + 1) := by
      have hlt : i < l.length := by omega
      rw [List.drop_eq_getElem_cons hlt]
      have : l[i] = q := by rw [List.getElem?_eq_getElem hlt] at hq; exact Option.some.inj hq
      rw [this]
    rw [hdrop] at hs
    simp only [stepOps, Option.bind_eq_some_iff] at hs
    obtain ⟨⟨e1, fr1, h1⟩, hs1, hs2⟩ := hs
    have g := step_op hr ho hc hs1 (rest := List.range' (i + 1) m) (k := k) (fun d hdst => by rw [hn]; exact hd i _ d ho hdst) hh ht hF
    rw [hn] at g
    rw [List.range'_succ]
    cases e1 with
    | norm =>
      exact g.bind fun β1 w1 a1 cs1 hh1 st1 hF1 hn1 => ih (i + 1) (by omega) β1 w1 fr1 h1 e fr' h' a1 cs1 hn1 hs2 hh1 (ht.step st1) hF1
    | exit id => 
      simp only [Option.some.injEq, Prod.mk.injEq] at hs2
      obtain ⟨rfl, rfl, rfl⟩ := hs2
      exact g.pass (by simp) fun id _ => rfl
    | ret => 
      simp only [Option.some.injEq, Prod.mk.injEq] at hs2
      obtain ⟨rfl, rfl, rfl⟩ := hs2
      exact g.pass (by simp) fun id _ => rfl
    | pan v => 
      simp only [Option.some.injEq, Prod.mk.injEq] at hs2
      obtain ⟨rfl, rfl, rfl⟩ := hs2
      exact g.pass (by simp) fun id _ => rfl

/-- Regions whose order is open. -/
def DrwOk (P : Program) (T : Tbl) (β0 : Map) (r : Rec) : Prop :=
  ∀ {id : Nat} {ops : Array Oper} {l : List (AOper × List Nat × Bool)} {n : Nat}, compC P (.region id ops true) = some (.drw l) → dstOk n (.region id ops true) = true →
    ∀ {fr : Fr} {h : Heap} {e : Ex} {fr' : Fr} {h' : Heap}, execDrw r l [] fr h = some (e, fr', h') →
    ∀ {β : Map} {w : World} {b : Frame} {a : Act} {k : List Item} {cs0 cs : List Frame}, a.tmps.size = n → HRel P (CRel P) β h w → Tab P T β0 β h w → FRel β b cs0 fr a cs →
    Goes P β h w b cs0 n (lone (fat b a (.code (.region id ops true) :: k)) cs w) k e fr' h'

theorem keep_get (t : Env) (l : List Nat) (i : Nat) : get (l.map fun j => (j, get t j)) i = get t i ∨ get (l.map fun j => (j, get t j)) i = .undef := by
  induction l with
  | nil => exact .inr rfl
  | cons j l ih =>
    rw [List.map_cons, get_cons]
    split
    · rename_i e; subst e; exact .inl rfl
    · exact ih

theorem HRel.drop {CR : Nat → Code → ACode → Prop} (r : HRel P CR β h w) {b : Nat} {bi : BI} {old : Blk} (hbi : β b = some bi) (hold : h[b]? = some old) (hwr : old.wr = true) {w' : World}
    (hos : w'.os = w.os) (htape : w'.tape = w.tape) (hout : w'.output = w.output) (hsz : w'.heap.size = w.heap.size) (hother : ∀ k, k ≠ bi.blk → w'.heap[k]? = w.heap[k]?) :
    HRel P CR β (h.set b .dead) w' ∧ Stp β h w β (h.set b .dead) w' := by
  have hlt : b < h.length := (List.getElem?_eq_some_iff.1 hold).1
  have hset : (h.set b .dead)[b]? = some .dead := by rw [List.getElem?_set_self hlt]
  have hget : ∀ {c ck}, (h.set b .dead)[c]? = some ck → ck.live = true → c ≠ b ∧ h[c]? = some ck := by
    intro c ck e hl
    by_cases hc : c = b
    · subst hc; rw [hset] at e; cases e; cases hl
    · rw [List.getElem?_set_ne (by omega)] at e; exact ⟨hc, e⟩
  refine ⟨(r.kill old hold).still (by omega) fun c ci ck e1 e2 hl => ?_, ⟨⟨Map.le.refl _, hos, htape, hout, by omega, by simp, fun _ _ _ e => e, ?_, ?_, fun _ _ e => .inl e, ?_⟩, ?_⟩⟩
  · obtain ⟨hc, e3⟩ := hget e2 hl
    exact hother _ fun e => r.uniq b c bi ci old ck (fun e => hc e.symm) hbi e1 hold e3 hwr hl e.symm
  · intro B hB hn
    exact hother B fun e => hn ⟨b, bi, old, hbi, hold, hwr, e.symm⟩
  · rintro B ⟨c, ci, ck, e1, e2, e3, rfl⟩
    obtain ⟨hc, e4⟩ := hget e2 (Blk.wr_live e3)
    exact .inl ⟨c, ci, ck, e1, e4, e3, rfl⟩
  · intro c ck _ e hl
    exact ⟨ck, (hget e hl).2, hl⟩
  · intro tot c ck e hl
    exact tot c ck (hget e hl).2 hl

theorem fstep_rangeFunc {b : Frame} {a : Act} {k : List Item} {cs : List Frame} {f : Operand} {ps : Array Tmp} {assign body : Code} (hro : b.roundOf = none) {w1 : World}
    (hw1 : w1 = (w.alloc (.deferred (some []))).alloc (.loop { state := .ready, pending := none, fn := b.fn, tmps := a.tmps, params := ps, assign, body, defers := w.heap.size }))
    {d : Deferred} {nx : Next} {fe : Frame} (hd : (Deferred.ofValue (a.eval f) #[.func (.yield (w.heap.size + 1)) #[] #[]]).run P w1 = .ok d w1) (hi : (invoke d.target d.args).run P w1 = .ok nx w1) (hn : entered P nx = some fe) :
    step P (lone (fat b a (.code (.rangeFunc f ps assign body) :: k)) cs w) =
      .next (lone fe (fat b { a with defers := { target := .collected w.heap.size, args := #[] } :: a.defers } (.inRangeFunc (w.heap.size + 1) :: k) :: cs) w1) := by
  refine step_lone_go ?_
  have hen := run_enterLoop_outer (P := P) (w := w) b.fn a.tmps ps assign body
  rw [← hw1] at hen
  have hev : ∀ todo ds, ({ b with tmps := a.tmps, todo := todo, defers := ds, mode := .run } : Frame).eval = a.eval := fun todo ds => by funext x; cases x <;> rfl
  have hrun : (do let d ← resolve a.eval { callee := .value f, args := #[.const (.func (.yield (w.heap.size + 1)) #[] #[])], argTypes := #[] } 0; invoke d.target d.args : Sem Next).run P w1 = .ok nx w1 := by
    simp only [Sem.run_bind, resolve, List.map_toArray, List.map_cons, List.map_nil, Act.eval]
    simp only [Act.eval] at hd
    rw [hd]
    exact hi
  simp only [stepG, stepG.exec, fat, hro, Sem.runT_eq, hen, GStep.bare_after, List.singleton_append]
  have hev' := hev (.inRangeFunc (w.heap.size + 1) :: k) ({ target := .collected w.heap.size, args := #[] } :: a.defers)
  simp only [hro] at hev'
  simp only [hev', stepG.apply, Sem.runT_eq, if_true, hrun, GStep.bare_after]
  cases nx <;> simp only [entered, reduceCtorEq, Option.some.injEq] at hn <;> subst hn <;> rfl

theorem fstep_endRange {b : Frame} {a : Act} {k : List Item} {cs : List Frame} {l : Nat} {L : Loop} (hL : w.heap[l]? = some (.loop L)) (hs : L.state ≠ .busy) :
    step P (lone (fat b a (.endRangeFunc l :: k)) cs w) = .next (lone (fat b a ((L.pending.map Item.code).toList ++ k)) cs (w.putObj l (.loop { L with state := .exhausted }))) := by
  refine step_lone_go ?_
  simp [stepG, stepG.exec, fat, Sem.runT_eq, run_endLoop hL hs]

theorem rng_ok (hr : RecOk P T β0 r) {x : Operand} {q : Opd} {ps : Array Tmp} {c d : Code} {asg body : ACode} {fr : Fr} {e : Ex} {fr' : Fr} {h' : Heap} (he : execRng r (q.ev fr.t) ps.toList asg body fr h = some (e, fr', h'))
    {b : Frame} {a : Act} {k : List Item} {cs0 cs : List Frame} (hq : opd x = some q) (hp : ∀ p ∈ ps.toList, p < a.tmps.size) (hc : CRel P a.tmps.size c asg) (hd : CRel P a.tmps.size d body) (hfn : ∃ fn, P.funcs[b.fn]? = some fn)
    (hh : HRel P (CRel P) β h w) (ht : Tab P T β0 β h w) (hF : FRel β b cs0 fr a cs) :
    Goes P β h w b cs0 a.tmps.size (lone (fat b a (.code (.rangeFunc x ps c d) :: k)) cs w) k e fr' h' := by
  unfold execRng at he
  split at he
  case isFalse => cases he
  rename_i hus
  have hro : b.roundOf = none := by
    have := hF.u
    cases hu : fr.u with
    | none => rw [hu] at hus; cases hus
    | some u => rw [hu] at this; exact this.1
  simp only [Option.bind_eq_some_iff] at he
  obtain ⟨⟨o, h2⟩, hcall, he⟩ := he
  -- the two blocks
  have hp1 := Pushed.alloc w (.deferred (some []))
  obtain ⟨hh1, st1⟩ := hh.push (blk := .dfl) (md := .ex) (csz := 0) hp1 rfl
  generalize hβ1 : upd β h.length ⟨w.heap.size, 0, .ex, 0⟩ = β1 at hh1 st1
  have hb1 : β1 h.length = some ⟨w.heap.size, 0, .ex, 0⟩ := by rw [← hβ1]; exact upd_self _ _
  generalize hL : ({ state := .ready, pending := none, fn := b.fn, tmps := a.tmps, params := ps, assign := c, body := d, defers := w.heap.size } : Loop) = L
  have hp2 := Pushed.alloc (w.alloc (.deferred (some []))) (.loop L)
  have hsz1 : (w.alloc (.deferred (some []))).heap.size = w.heap.size + 1 := World.size_alloc w _
  obtain ⟨hh2, st2⟩ := hh1.push (blk := .loop 0 none fr.t ps.toList asg body) (md := .ex) (csz := 0) hp2
    (by refine ⟨L, rfl, by rw [← hL], by rw [← hL]; exact hc, by rw [← hL]; exact hd, by rw [← hL]; exact hp, by rw [← hL]; exact hfn, ?_, by rw [← hL]; exact ⟨rfl, rfl⟩⟩
        intro i
        rw [← hL]
        exact (hF.t i).mono (st1.ext.trans (upd_le hh1.fresh)))
  have hlen : (h ++ [Blk.dfl]).length = h.length + 1 := by simp
  rw [hlen, hsz1] at hh2 st2
  generalize hβ2 : upd β1 (h.length + 1) ⟨w.heap.size + 1, 0, .ex, 0⟩ = β2 at hh2 st2
  have hb2 : β2 (h.length + 1) = some ⟨w.heap.size + 1, 0, .ex, 0⟩ := by rw [← hβ2]; exact upd_self _ _
  rw [List.append_assoc] at hh2 st2
  have st12 := st1.trans st2
  have hle := st12.ext
  obtain ⟨dd, nx, fe, e1, e2, e3, e4⟩ := callV_ok hr hcall ((opd_rel hF.t hq).mono hle) (args' := #[.func (.yield (w.heap.size + 1)) #[] #[]])
    (.cons (.yld hb2) .nil) hh2 (ht.step st12)
  have hstep := fstep_rangeFunc (P := P) (w := w) (b := b) (a := a) (k := k) (cs := cs) (f := x) (ps := ps) (assign := c) (body := d) hro rfl (d := dd) (nx := nx) (fe := fe)
    (by rw [hL]; exact e1) (by rw [hL]; exact e2) e3
  rw [hL] at hstep
  obtain ⟨β3, w3, c', hback, hsteps, hh3, st3⟩ := e4 (fat b { a with defers := { target := .collected w.heap.size, args := #[] } :: a.defers } (.inRangeFunc (w.heap.size + 1) :: k)) cs
  have hst := st12.trans st3
  have hb3 : β3 h.length = some ⟨w.heap.size, 0, .ex, 0⟩ := st3.ext _ _ (st2.ext _ _ hb1)
  have hb4 : β3 (h.length + 1) = some ⟨w.heap.size + 1, 0, .ex, 0⟩ := st3.ext _ _ hb2
  have hF3 : FRel β3 b cs0 { fr with d := .coll h.length :: fr.d } { a with defers := { target := .collected w.heap.size, args := #[] } :: a.defers } cs :=
    ⟨hF.t.mono hst.ext, ⟨_, _, rfl, ⟨_, hb3, rfl⟩, hF.d.mono hst.ext⟩, hF.u.mono hst.ext⟩
  cases o with
  | pan v =>
    simp only [Option.some.injEq, Prod.mk.injEq] at he
    obtain ⟨rfl, rfl, rfl⟩ := he
    obtain ⟨v', hv, rfl⟩ := hback
    exact ⟨β3, w3, _, cs, hh3, hst, hF3, rfl, v', _, hv, .head hstep hsteps⟩
  | ret v =>
    obtain ⟨v', hv, rfl⟩ := hback
    dsimp only at he
    split at he
    · rename_i env0 ps0 asg0 body0 hg
      cases he
      obtain ⟨L3, hL3, p1, p2, p3, p4, p5, p6, p7⟩ := hh3.loopAt hb4 hg
      obtain ⟨hh5, st5⟩ := hh3.loopSet (st' := 3) (pend' := none) hb4 hg hL3 (L' := { L3 with state := .exhausted }) ⟨rfl, rfl, rfl, rfl, rfl⟩ trivial
      have hend := fstep_endRange (P := P) (b := b) (a := { a with defers := { target := .collected w.heap.size, args := #[] } :: a.defers }) (k := k) (cs := cs) hL3 (by rw [p7.1]; simp)
      rw [p7.2] at hend
      exact ⟨β3, _, _, cs, hh5, hst.trans st5, hF3, rfl, .head hstep (hsteps.trans (.one (by rw [show L3.pending = none from p7.2] at *; exact hend)))⟩
    · rename_i ex env0 ps0 asg0 body0 hg
      cases he
      obtain ⟨L3, hL3, p1, p2, p3, p4, p5, p6, p7⟩ := hh3.loopAt hb4 hg
      obtain ⟨hh5, st5⟩ := hh3.loopSet (st' := 3) (pend' := some e) hb4 hg hL3 (L' := { L3 with state := .exhausted }) ⟨rfl, rfl, rfl, rfl, rfl⟩ trivial
      have hend := fstep_endRange (P := P) (b := b) (a := { a with defers := { target := .collected w.heap.size, args := #[] } :: a.defers }) (k := k) (cs := cs) hL3 (by rw [p7.1]; simp)
      have hgo := Steps.head hstep (hsteps.trans (.one hend))
      refine ⟨β3, _, _, cs, hh5, hst.trans st5, hF3, rfl, ?_⟩
      have p8 := p7.2
      cases e with
      | exit id => exact ⟨k, rfl, by rw [show (L3.pending.map Item.code).toList ++ k = .code (.exit id) :: k by rw [show L3.pending = some (.exit id) from p8]; rfl] at hgo; exact hgo⟩
      | ret => exact ⟨k, by rw [show (L3.pending.map Item.code).toList ++ k = .code .ret :: k by rw [show L3.pending = some .ret from p8]; rfl] at hgo; exact hgo⟩
      | norm => exact p8.elim
      | pan v => exact p8.elim
    · cases he

theorem drwC_inv {id : Nat} {ops : Array Oper} {draw : Bool} {a : ACode} (h : compC P (.region id ops draw) = some a) :
    (draw = false ∧ ∃ l, compOpers P ops ops.toList = some l ∧ a = .reg l) ∨ (draw = true ∧ ∃ l, a = .drw l) := by
  simp only [compC, Option.bind_eq_some_iff] at h
  obtain ⟨l, hl, h⟩ := h
  cases draw with
  | false => simp only [Bool.false_eq_true, if_false, Option.some.injEq] at h; subst h; exact .inl ⟨rfl, l, hl, rfl⟩
  | true =>
    simp only [if_true] at h
    split at h
    · cases h; exact .inr ⟨rfl, _, rfl⟩
    · cases h

/-- Code. -/
theorem exec_ok (hr : RecOk P T β0 r) (hdrw : DrwOk P T β0 r) : ∀ (c : ACode) (fr : Fr) (h : Heap) (e : Ex) (fr' : Fr) (h' : Heap), execC r c fr h = some (e, fr', h') →
    ∀ (β : Map) (w : World) (b : Frame) (a : Act) (k : List Item) (cs0 cs : List Frame) (it : Item), IRel P a.tmps.size it c → (∃ fn, P.funcs[b.fn]? = some fn) → HRel P (CRel P) β h w → Tab P T β0 β h w → FRel β b cs0 fr a cs →
    Goes P β h w b cs0 a.tmps.size (lone (fat b a (it :: k)) cs w) k e fr' h' := by
  intro c
  induction c with
  | skip =>
    intro fr h e fr' h' he β w b a k cs0 cs it hi hfn hh ht hF
    cases he
    cases hi with
    | code hc =>
      cases hc with
      | skip => exact ⟨β, w, a, cs, hh, Stp.refl _ _ _, hF, rfl, .one fstep_skip⟩
      | region hx hd => rcases drwC_inv hx with ⟨-, l, -, hx⟩ | ⟨-, l, hx⟩ <;> cases hx
  | reg l =>
    intro fr h e fr' h' he β w b a k cs0 cs it hi hfn hh ht hF
    cases hi with
    | code hc =>
      cases hc with
      | @region id ops draw _ hx hd =>
        rcases drwC_inv hx with ⟨rfl, l', hl, hx⟩ | ⟨-, l', hx⟩
        · cases hx
          have hd' : ∀ (i : Nat) (o : Oper) d, ops[i]? = some o → o.dst = some d → d < a.tmps.size := by
            intro i o d ho hdst
            simp only [dstOk, List.all_eq_true] at hd
            have := hd o (by simpa using Array.mem_of_getElem? ho)
            rw [hdst] at this
            simpa using this
          have g := steps_ok hr hl (b := b) (k := k) (cs0 := cs0) hd' ops.size 0 (by omega) β w fr h e fr' h' a cs rfl (by simpa [execC] using he) hh ht hF
          rw [← List.range_eq_range'] at g
          exact g.head fstep_region
        · cases hx
  | drw l =>
    intro fr h e fr' h' he β w b a k cs0 cs it hi hfn hh ht hF
    cases hi with
    | code hc =>
      cases hc with
      | @region id ops draw _ hx hd =>
        rcases drwC_inv hx with ⟨rfl, l', hl, hx'⟩ | ⟨rfl, l', hx'⟩
        · cases hx'
        · exact hdrw hx hd (by simpa [execC] using he) rfl hh ht hF
  | seq x y ix iy =>
    intro fr h e fr' h' he β w b a k cs0 cs it hi hfn hh ht hF
    simp only [execC, Option.bind_eq_some_iff] at he
    obtain ⟨⟨e1, fr1, h1⟩, he1, he2⟩ := he
    cases hi with
    | code hc =>
      cases hc with
      | region hx hd => rcases drwC_inv hx with ⟨-, l, -, hx⟩ | ⟨-, l, hx⟩ <;> cases hx
      | @seq c d _ _ hc1 hc2 =>
        have g := ix fr h e1 fr1 h1 he1 β w b a (.code d :: k) cs0 cs _ (.code hc1) hfn hh ht hF
        have g' := g.head (fstep_seq (P := P) (b := b) (a := a) (k := k) (cs := cs) (w := w) (x := c) (y := d))
        cases e1 with
        | norm =>
          exact g'.bind fun β1 w1 a1 cs1 hh1 st1 hF1 hn1 => by
            have := iy fr1 h1 e fr' h' he2 β1 w1 b a1 k cs0 cs1 _ (.code (by rw [hn1]; exact hc2)) hfn hh1 (ht.step st1) hF1
            rw [hn1] at this
            exact this
        | exit id => cases he2; exact g'.pass (by simp) fun id _ => rfl
        | ret => cases he2; exact g'.pass (by simp) fun id _ => rfl
        | pan v => cases he2; exact g'.pass (by simp) fun id _ => rfl
      | keep l hc =>
        simp only [execC, Option.some.injEq, Prod.mk.injEq] at he1
        obtain ⟨rfl, rfl, rfl⟩ := he1
        refine iy _ h e fr' h' he2 β w b a k cs0 cs _ (.code hc) hfn hh ht ⟨fun i => ?_, hF.d, hF.u⟩
        rcases keep_get fr.t l i with hk | hk
        · show VRel β (get (l.map fun i => (i, get fr.t i)) i) _
          rw [hk]; exact hF.t i
        · show VRel β (get (l.map fun i => (i, get fr.t i)) i) _
          rw [hk]; exact .undef _
  | cond q x y ix iy =>
    intro fr h e fr' h' he β w b a k cs0 cs it hi hfn hh ht hF
    cases hi with
    | code hc =>
      cases hc with
      | region hx hd => rcases drwC_inv hx with ⟨-, l, -, hx⟩ | ⟨-, l, hx⟩ <;> cases hx
      | cond hq hc1 hc2 =>
        have hv := opd_rel hF.t hq
        simp only [execC] at he
        split at he
        · rename_i hb
          rw [hb] at hv
          exact (ix fr h e fr' h' he β w b a k cs0 cs _ (.code hc1) hfn hh ht hF).head (fstep_cond hv.bool_inv)
        · rename_i hb
          rw [hb] at hv
          exact (iy fr h e fr' h' he β w b a k cs0 cs _ (.code hc2) hfn hh ht hF).head (fstep_cond hv.bool_inv)
        · cases he
  | blk id x ix =>
    intro fr h e fr' h' he β w b a k cs0 cs it hi hfn hh ht hF
    simp only [execC, Option.bind_eq_some_iff] at he
    obtain ⟨⟨e1, fr1, h1⟩, he1, he2⟩ := he
    cases hi with
    | code hc =>
      cases hc with
      | region hx hd => rcases drwC_inv hx with ⟨-, l, -, hx⟩ | ⟨-, l, hx⟩ <;> cases hx
      | @block _ c _ hc =>
        have g := ix fr h e1 fr1 h1 he1 β w b a (.inBlock id :: k) cs0 cs _ (.code hc) hfn hh ht hF
        have g' := g.head (fstep_block (P := P) (b := b) (a := a) (k := k) (cs := cs) (w := w) (id := id) (c := c))
        cases e1 with
        | norm => cases he2; exact g'.last fun a cs w => fstep_inBlock
        | exit i =>
          dsimp only at he2
          split at he2
          · rename_i hie
            have hie : i = id := by simpa using hie
            subst hie
            cases he2
            obtain ⟨β', w', a', cs', g1, g2, g3, g4, k1, g5, g6⟩ := g'
            refine ⟨β', w', a', cs', g1, g2, g3, g4, g6.trans (.one (fstep_exit ?_))⟩
            rw [g5]; simp [exitTo]
          · rename_i hie
            have hie : ¬ i = id := by simpa using hie
            cases he2
            refine g'.pass (by simp) fun j hj => ?_
            cases hj
            have : (id == i) = false := by simpa using fun e => hie e.symm
            simp [exitTo, this]
        | ret => cases he2; exact g'.pass (by simp) fun id e => by cases e
        | pan v => cases he2; exact g'.pass (by simp) fun id e => by cases e
  | loop x ix =>
    intro fr h e fr' h' he β w b a k cs0 cs it hi hfn hh ht hF
    simp only [execC, Option.bind_eq_some_iff] at he
    obtain ⟨⟨e1, fr1, h1⟩, he1, he2⟩ := he
    have main : ∀ c, CRel P a.tmps.size c x → Goes P β h w b cs0 a.tmps.size (lone (fat b a (.code c :: .inLoop c :: k)) cs w) k e fr' h' := by
      intro c hc
      have g := ix fr h e1 fr1 h1 he1 β w b a (.inLoop c :: k) cs0 cs _ (.code hc) hfn hh ht hF
      cases e1 with
      | norm =>
        exact g.bind fun β1 w1 a1 cs1 hh1 st1 hF1 hn1 => by
          have := hr.code he2 (b := b) (a := a1) (k := k) (cs0 := cs0) (cs := cs1) (it := .inLoop c) (.inLoop (by rw [hn1]; exact hc)) hfn hh1 (ht.step st1) hF1
          rw [hn1] at this
          exact this
      | exit id => cases he2; exact g.pass (by simp) fun id _ => rfl
      | ret => cases he2; exact g.pass (by simp) fun id _ => rfl
      | pan v => cases he2; exact g.pass (by simp) fun id _ => rfl
    cases hi with
    | code hc =>
      cases hc with
      | region hx hd => rcases drwC_inv hx with ⟨-, l, -, hx⟩ | ⟨-, l, hx⟩ <;> cases hx
      | loop hc => exact (main _ hc).head fstep_loop
    | inLoop hc => exact (main _ hc).head fstep_inLoop
  | rngf f ps x y ix iy =>
    intro fr h e fr' h' he β w b a k cs0 cs it hi hfn hh ht hF
    cases hi with
    | code hc =>
      cases hc with
      | region hx hd => rcases drwC_inv hx with ⟨-, l, -, hx⟩ | ⟨-, l, hx⟩ <;> cases hx
      | rangeFunc hq hp hc1 hc2 => exact rng_ok hr (by simpa [execC] using he) hq hp hc1 hc2 hfn hh ht hF
  | exit id =>
    intro fr h e fr' h' he β w b a k cs0 cs it hi hfn hh ht hF
    cases he
    cases hi with
    | code hc =>
      cases hc with
      | region hx hd => rcases drwC_inv hx with ⟨-, l, -, hx⟩ | ⟨-, l, hx⟩ <;> cases hx
      | exit => exact ⟨β, w, a, cs, hh, Stp.refl _ _ _, hF, rfl, k, rfl, Steps.refl _ _⟩
  | ret =>
    intro fr h e fr' h' he β w b a k cs0 cs it hi hfn hh ht hF
    cases he
    cases hi with
    | code hc =>
      cases hc with
      | region hx hd => rcases drwC_inv hx with ⟨-, l, -, hx⟩ | ⟨-, l, hx⟩ <;> cases hx
      | ret => exact ⟨β, w, a, cs, hh, Stp.refl _ _ _, hF, rfl, k, Steps.refl _ _⟩
  | keep l =>
    intro fr h e fr' h' he β w b a k cs0 cs it hi hfn hh ht hF
    cases hi with
    | code hc =>
      cases hc with
      | region hx hd => rcases drwC_inv hx with ⟨-, l, -, hx⟩ | ⟨-, l, hx⟩ <;> cases hx

end Go.A

/- Calls: what A computes is what the machine computes. -/
set_option linter.unusedVariables false
set_option linter.unusedSimpArgs false
set_option linter.unusedSectionVars false
namespace Go.A

variable {P : Program} {T : Tbl} {β0 β : Map} {r : Rec} {h : Heap} {w : World}

theorem resOf_ok {CR : Nat → Code → ACode → Prop} (hh : HRel P CR β h w) {e : Env} {tmps : Array Value} (he : ERel β e tmps) {x : ResultVar} {y : ARes} {v : V} (hc : compRes P [x] = some [y]) (hv : resOf e h y = some v) :
    ∃ v', (match x with | .tmp t => pure (tmps.getD t undef) | .cell a t => do loadVar t (← asAddr (tmps.getD a undef)) : Sem Value).run P w = .ok v' w ∧ VRel β v v' := by
  cases x with
  | tmp t =>
    simp only [compRes, Option.bind_some, Option.some.injEq, List.cons.injEq, and_true] at hc
    subst hc
    simp only [resOf, Option.some.injEq] at hv
    subst hv
    exact ⟨_, by simp, he t⟩
  | cell a t =>
    simp only [compRes, Option.bind_some, Option.bind_eq_some_iff, Option.some.injEq, List.cons.injEq, and_true] at hc
    obtain ⟨z, hz, rfl⟩ := hc
    have ha := he a
    cases z with
    | none =>
      simp only [resOf] at hv
      split at hv
      · rename_i b o hb
        rw [hb] at ha
        obtain ⟨bi, hbi, e'⟩ := ha.ptr_inv
        simp only [Option.bind_eq_some_iff] at hv
        obtain ⟨cs, h1, h2⟩ := hv
        obtain ⟨v', h3, h4⟩ := hh.cell hbi h1 h2
        refine ⟨v', ?_, h4⟩
        dsimp only
        rw [e']
        simp [asAddr, loadVar, run_isAgg (szOf_none hz), h3, Sem.run_bind, Result.andThen]
      · cases hv
    | some n =>
      obtain ⟨g1, g2⟩ := szOf_some hz
      simp only [resOf] at hv
      split at hv
      · rename_i b o hb
        rw [hb] at ha
        obtain ⟨bi, hbi, e'⟩ := ha.ptr_inv
        simp only [Option.map_eq_some_iff] at hv
        obtain ⟨xs, h1, rfl⟩ := hv
        obtain ⟨ys, h2, h3, -⟩ := hh.readN hbi h1 (fun _ => trivial)
        refine ⟨.agg ys.toArray, ?_, .agg' (by simpa using h3)⟩
        dsimp only
        rw [e']
        simp [asAddr, loadVar, run_isAgg g1, run_sizeOf g2, h2, Sem.run_bind, Result.andThen]
      · cases hv

theorem compRes_cons {x : ResultVar} {xs : List ResultVar} {l : List ARes} (hc : compRes P (x :: xs) = some l) : ∃ y ys, l = y :: ys ∧ compRes P [x] = some [y] ∧ compRes P xs = some ys := by
  cases x with
  | tmp t =>
    simp only [compRes, Option.bind_eq_some_iff, Option.some.injEq] at hc
    obtain ⟨ys, h1, rfl⟩ := hc
    exact ⟨_, ys, rfl, rfl, h1⟩
  | cell a t =>
    simp only [compRes, Option.bind_eq_some_iff, Option.some.injEq] at hc
    obtain ⟨z, hz, ys, h1, rfl⟩ := hc
    exact ⟨_, ys, rfl, by simp [compRes, hz], h1⟩

theorem resAll_ok {CR : Nat → Code → ACode → Prop} (hh : HRel P CR β h w) {e : Env} {tmps : Array Value} (he : ERel β e tmps) : ∀ (xs : List ResultVar) (ys : List ARes) (vs : List V), compRes P xs = some ys → resAll e h ys = some vs →
    ∃ vs', (xs.mapM (fun x => (match x with | .tmp t => pure (tmps.getD t undef) | .cell a t => do loadVar t (← asAddr (tmps.getD a undef)) : Sem Value))).run P w = .ok vs' w ∧ LRel β vs vs'
  | [], ys, vs, hc, hv => by
    simp only [compRes, Option.some.injEq] at hc
    subst hc
    simp only [resAll, Option.some.injEq] at hv
    subst hv
    exact ⟨[], by simp, .nil⟩
  | x :: xs, ys, vs, hc, hv => by
    obtain ⟨y, ys', rfl, h1, h2⟩ := compRes_cons hc
    simp only [resAll, Option.bind_eq_some_iff, Option.some.injEq] at hv
    obtain ⟨v, hv1, vs1, hv2, rfl⟩ := hv
    obtain ⟨v', e1, e2⟩ := resOf_ok hh he h1 hv1
    obtain ⟨vs', e3, e4⟩ := resAll_ok hh he xs ys' vs1 h2 hv2
    refine ⟨v' :: vs', ?_, .cons e2 e4⟩
    rw [List.mapM_cons]
    simp only [Sem.run_bind, e1, Result.andThen, e3, Sem.run_pure]

theorem results_ok {CR : Nat → Code → ACode → Prop} (hh : HRel P CR β h w) {e : Env} {tmps : Array Value} (he : ERel β e tmps) {fn : Func} {rs : List ARes} (hc : compRes P fn.results.toList = some rs) {v : V} (hv : resV e h rs = some v) :
    ∃ v', (results fn tmps).run P w = .ok v' w ∧ VRel β v v' := by
  simp only [resV, Option.bind_eq_some_iff] at hv
  obtain ⟨vs, hv1, hv2⟩ := hv
  obtain ⟨vs', h1, h2⟩ := resAll_ok hh he _ _ _ hc hv1
  have hm : (fn.results.mapM (fun x => (match x with | .tmp t => pure (tmps.getD t undef) | .cell a t => do loadVar t (← asAddr (tmps.getD a undef)) : Sem Value))).run P w = .ok vs'.toArray w := by
    rw [Array.mapM_eq_mapM_toList]
    simp only [Sem.run_map, h1]
    rfl
  have hr : (results fn tmps).run P w = .ok (if h : vs'.toArray.size = 1 then vs'.toArray[0] else .tuple vs'.toArray) w := by
    unfold results
    rw [Sem.run_bind]
    exact Eq.trans (congrArg (fun z => Result.andThen z (fun a w' => Sem.run P (pure (if h : a.size = 1 then a[0] else .tuple a)) w')) hm) rfl
  refine ⟨_, hr, ?_⟩
  split at hv2
  · rename_i x
    cases hv2
    obtain ⟨y, ys, rfl, hxy, hn⟩ := h2.inv_cons
    have := hn.inv_nil
    subst this
    exact hxy
  · rename_i hne
    cases hv2
    have hlen := h2.1
    have hn1 : ¬ vs'.toArray.size = 1 := by
      intro h1'
      have : vs.length = 1 := by rw [hlen]; simpa using h1'
      match vs, this with
      | [x], _ => exact hne x rfl
    rw [dif_neg hn1]
    exact .tup' (by simpa using h2)

/-- The mode of a frame that is left. -/
def SM (β : Map) : Option V → FrameMode → Prop
  | none, m => m = .returning
  | some v, m => ∃ v', VRel β v v' ∧ m = .panicking [{ v := v', recovered := false }]

theorem SM.mono {β β' : Map} (h : β.le β') {u : Option V} {m : FrameMode} (r : SM β u m) : SM β' u m := by
  cases u with
  | none => exact r
  | some v => obtain ⟨v', k, e⟩ := r; exact ⟨v', k.mono h, e⟩

theorem SM.toMR {u : Option V} {m : FrameMode} (r : SM β u m) : MR β u m := by
  cases u with
  | none => exact .inl r
  | some v => exact r

theorem MR.settle {u : Option V} {m : FrameMode} (r : MR β u m) : SM β u (settle m) := by
  cases u with
  | none =>
    rcases r with rfl | ⟨v, rfl⟩
    · rfl
    · rfl
  | some v => obtain ⟨v', k, rfl⟩ := r; exact ⟨v', k, rfl⟩

theorem SM.ne_run {u : Option V} {m : FrameMode} (r : SM β u m) : m ≠ .run := by
  cases u with
  | none => rw [show m = .returning from r]; simp
  | some v => obtain ⟨v', k, rfl⟩ := r; simp

theorem step_fin_deferred {fr c : Frame} {cs : List Frame} {o : Out} (hk : fr.kind = .deferred) (hf : Fin P β w fr o) :
    ∃ m, step P (lone fr (c :: cs) w) = .next (lone { c with mode := m } cs w) ∧ (match o with | .ret _ => m = settle c.mode | .pan v => ∃ v', VRel β v v' ∧ m = raised c.mode [{ v := v', recovered := false }]) := by
  cases o with
  | ret v =>
    obtain ⟨hd, hm, fn, v', hfn, hr, hv⟩ := hf
    exact ⟨_, step_going_returned hk ⟨hm, hd, fn, hfn, hr⟩, rfl⟩
  | pan v =>
    obtain ⟨hd, fn, v', hfn, hm, hv⟩ := hf
    exact ⟨_, step_going_panicked ⟨hm, hd, fn, hfn⟩, v', hv, rfl⟩

theorem leave_ok (hr : RecOk P T β0 r) {rs : List ARes} {fn : Func} (hc : compRes P fn.results.toList = some rs) {e : Env} {u : Option V} :
    ∀ (ds : List Dfr) (m : Option V) (h : Heap) (o : Out) (u' : Option V) (h' : Heap), leave r rs e u ds m h = some (o, u', h') →
    ∀ (β : Map) (w : World) (fr : Frame) (kind : CallKind) (cs0 cs : List Frame), HRel P (CRel P) β h w → Tab P T β0 β h w → ERel β e fr.tmps → DRel β ds fr.defers → SM β m fr.mode → P.funcs[fr.fn]? = some fn → fr.kind = kind → UR β kind none cs0 (some u) cs →
      ∃ β' w' fr' cs', Steps P (lone fr cs w) (lone fr' cs' w') ∧ UR β' kind none cs0 (some u') cs' ∧ (fr'.kind = kind ∧ fr'.fn = fr.fn) ∧ Fin P β' w' fr' o ∧ HRel P (CRel P) β' h' w' ∧ Stp β h w β' h' w' := by
  intro ds
  induction ds with
  | nil =>
    intro m h o u' h' he β w fr kind cs0 cs hh ht hE hD hM hfn hk hU
    cases m with
    | none =>
      simp only [leave, Option.map_eq_some_iff, Prod.mk.injEq] at he
      obtain ⟨v, hv, rfl, rfl, rfl⟩ := he
      obtain ⟨v', h1, h2⟩ := results_ok hh hE hc hv
      exact ⟨β, w, fr, cs, Steps.refl _ _, hU, ⟨hk, rfl⟩, ⟨hD, hM, fn, v', hfn, h1, h2⟩, hh, Stp.refl _ _ _⟩
    | some v =>
      simp only [leave, Option.some.injEq, Prod.mk.injEq] at he
      obtain ⟨rfl, rfl, rfl⟩ := he
      obtain ⟨v', h1, h2⟩ := hM
      exact ⟨β, w, fr, cs, Steps.refl _ _, hU, ⟨hk, rfl⟩, ⟨hD, fn, v', hfn, h2, h1⟩, hh, Stp.refl _ _ _⟩
  | cons d ds ih =>
    intro m h o u' h' he β w fr kind cs0 cs hh ht hE hD hM hfn hk hU
    obtain ⟨y, ys, hds, hd1, hd2⟩ := hD
    cases d with
    | coll b =>
      simp only [leave] at he
      split at he
      case h_2 => cases he
      rename_i hb
      obtain ⟨bi, hbi, htar⟩ := hd1
      obtain ⟨ob, hob, hrel⟩ := hh.blk b bi _ hbi hb rfl
      have hob' : ob = .deferred (some []) := hrel
      subst hob'
      have hlt := (hh.dom _ _ hbi).2
      have hrun := run_takeDeferred (P := P) hob
      have hstep : step P (lone fr cs w) = .next (lone { fr with defers := ys } cs (w.putObj bi.blk (.deferred none))) := by
        obtain ⟨tg, ag⟩ := y
        simp only at htar
        subst htar
        refine step_lone_go ?_
        have hne := hM.ne_run
        cases hmode : fr.mode with
        | run => exact absurd hmode hne
        | returning => simp [stepG, unwind, hmode, hds, Sem.runT_eq, hrun]
        | panicking chain => simp [stepG, unwind, hmode, hds, Sem.runT_eq, hrun]
      obtain ⟨hh1, st1⟩ := hh.drop hbi hb rfl (w' := w.putObj bi.blk (.deferred none)) rfl rfl rfl World.putObj_size (fun k hk => World.putObj_heap_other hk)
      obtain ⟨β', w', fr', cs', g1, g2, g3, g4, g5, g6⟩ := ih m _ o u' h' he β _ { fr with defers := ys } kind cs0 cs hh1 (ht.step st1) hE hd2 hM hfn hk hU
      exact ⟨β', w', fr', cs', .head hstep g1, g2, g3, g4, g5, st1.trans g6⟩
    | call f args =>
      simp only [leave] at he
      split at he
      · cases he
      simp only [Option.bind_eq_some_iff] at he
      obtain ⟨⟨o1, m1, h1⟩, hcall, he⟩ := he
      obtain ⟨cap, htar, hargs⟩ := hd1
      obtain ⟨fn', hfn', hbody, hname⟩ := hr.fn hcall
      have hinv : (invoke y.target y.args).run P w = .ok (.enter f (y.args ++ cap)) w := by rw [htar]; simp only [invoke]; exact run_callFunc hfn' hbody hname _ _
      have hstep := step_defer (P := P) (cs := cs) hM.ne_run hds htar hinv
      obtain ⟨β1, w1, fr1, cs1, k1, k2, k3, k4, k5, k6⟩ := hr.call hcall (β := β) (w := w) (args' := y.args ++ cap) (kind := .deferred) (cs0 := { fr with defers := ys } :: cs) (cs := { fr with defers := ys } :: cs) hh ht (by simpa using hargs)
        ⟨rfl, .inr ⟨rfl, _, _, fr.mode, rfl, rfl, hM.toMR, id⟩⟩
      obtain ⟨-, ⟨hx, -⟩ | ⟨-, c, rest, mm, hcs, rfl, hmr, hret⟩⟩ := k2
      · cases hx
      · cases hcs
        obtain ⟨mm', hs2, hmm⟩ := step_fin_deferred (c := { { fr with defers := ys } with mode := mm }) (cs := cs) k3.1 k4
        have hpath : Steps P (lone fr cs w) (lone { fr with defers := ys, mode := mm' } cs w1) := .head hstep (k1.trans (.one hs2))
        cases o1 with
        | ret v =>
          dsimp only at he hmm
          subst hmm
          obtain ⟨β', w', fr', cs', g1, g2, g3, g4, g5, g6⟩ := ih m1 _ o u' h' he β1 w1 { fr with defers := ys, mode := settle mm } kind cs0 cs k5 (ht.step k6) (hE.mono k6.ext) (hd2.mono k6.ext) hmr.settle hfn hk (hU.mono k6.ext)
          exact ⟨β', w', fr', cs', hpath.trans g1, g2, g3, g4, g5, k6.trans g6⟩
        | pan v =>
          dsimp only at he hmm
          split at he
          case h_2 => cases he
          have hfm : fr.mode = .returning := hM
          have hmm2 : mm = .returning := hret hfm
          subst hmm2
          obtain ⟨v', hv, rfl⟩ := hmm
          obtain ⟨β', w', fr', cs', g1, g2, g3, g4, g5, g6⟩ := ih (some v) _ o u' h' he β1 w1 { fr with defers := ys, mode := .panicking [{ v := v', recovered := false }] } kind cs0 cs k5 (ht.step k6) (hE.mono k6.ext) (hd2.mono k6.ext) ⟨v', hv, rfl⟩ hfn hk (hU.mono k6.ext)
          exact ⟨β', w', fr', cs', hpath.trans g1, g2, g3, g4, g5, k6.trans g6⟩

/-- What the table of A's functions says of the program. -/
structure TblOk (P : Program) (T : Tbl) : Prop where
  fn : ∀ {f : Nat} {af : AFunc}, T.fn f = some af → ∃ fn c, P.funcs[f]? = some fn ∧ fn.body = some c ∧ fn.name ≠ "runtime.NumGoroutine" ∧ CRel P fn.ntmps c af.body ∧ compRes P fn.results.toList = some af.res

theorem frame0_rel {args : List V} {args' : Array Value} (ha : LRel β args args'.toList) (n : Nat) (u : Option V) : ERel β (frame0 args u).t (args' ++ Array.replicate n undef) := by
  intro i
  have key : ∀ (l : List V) (k : Nat), get ((l.zipIdx k).map fun (v, i) => (i, v)) i = if k ≤ i then l.getD (i - k) .undef else .undef := by
    intro l
    induction l with
    | nil => intro k; simp [get]
    | cons v l ih =>
      intro k
      rw [List.zipIdx_cons, List.map_cons, get_cons, ih (k + 1)]
      by_cases h1 : k = i
      · subst h1; simp
      · rw [if_neg h1]
        by_cases h2 : k ≤ i
        · rw [if_pos h2, if_pos (by omega), show i - k = (i - (k + 1)) + 1 by omega]
          simp
        · rw [if_neg h2, if_neg (by omega)]
  have := key args 0
  simp only [frame0]
  rw [this]
  simp only [Nat.zero_le, if_true, Nat.sub_zero]
  rw [List.getD_eq_getElem?_getD]
  cases hx : args[i]? with
  | none => exact .undef _
  | some v =>
    obtain ⟨v', h1, h2⟩ := ha.get hx
    have hlt : i < args'.size := by have := (List.getElem?_eq_some_iff.1 h1).1; simpa using this
    have : (args' ++ Array.replicate n undef).getD i undef = v' := by
      rw [Array.getD_eq_getD_getElem?, Array.getElem?_append_left hlt]
      have h3 : args'[i]? = some v' := by simpa using h1
      rw [h3]; rfl
    rw [this]
    exact h2

theorem callB_ok (hr : RecOk P T β0 r) (hdrw : DrwOk P T β0 r) {f : Nat} {af : AFunc} {fn : Func} {c : Code} (hfn : P.funcs[f]? = some fn) (hb : fn.body = some c) (hc : CRel P fn.ntmps c af.body) (hres : compRes P fn.results.toList = some af.res)
    {args : List V} {u : Option V} {o : Out} {u' : Option V} {h' : Heap} (he : callB r af args u h = some (o, u', h')) {args' : Array Value} {kind : CallKind} {cs0 cs : List Frame}
    (hh : HRel P (CRel P) β h w) (ht : Tab P T β0 β h w) (ha : LRel β args args'.toList) (hU : UR β kind none cs0 (some u) cs) :
    ∃ β' w' fr' cs', Steps P (lone (Frame.enter P f args' kind) cs w) (lone fr' cs' w') ∧ UR β' kind none cs0 (some u') cs' ∧ (fr'.kind = kind ∧ fr'.fn = f) ∧ Fin P β' w' fr' o ∧ HRel P (CRel P) β' h' w' ∧ Stp β h w β' h' w' := by
  simp only [callB, Option.bind_eq_some_iff] at he
  obtain ⟨⟨e1, fr1, h1⟩, hrun, he⟩ := he
  generalize hbf : ({ (default : Frame) with fn := f, kind := kind } : Frame) = bf
  have b1 : bf.fn = f := by rw [← hbf]
  have b2 : bf.kind = kind := by rw [← hbf]
  have b3 : bf.roundOf = none := by rw [← hbf]; rfl
  have henter : Frame.enter P f args' kind = fat bf ⟨args' ++ Array.replicate (fn.ntmps - args'.size) undef, []⟩ (.code c :: []) := by
    rw [← hbf]; simp [Frame.enter, fat, hfn, hb]; rfl
  rw [henter]
  have hsz : fn.ntmps ≤ (args' ++ Array.replicate (fn.ntmps - args'.size) undef).size := by simp; omega
  have hF : FRel β bf cs0 (frame0 args u) ⟨args' ++ Array.replicate (fn.ntmps - args'.size) undef, []⟩ cs := ⟨frame0_rel ha _ _, rfl, by rw [b2, b3]; exact hU⟩
  obtain ⟨β1, w1, a1, cs1, hh1, st1, hF1, hn1, hland⟩ := exec_ok hr hdrw _ _ _ _ _ _ hrun β w bf ⟨args' ++ Array.replicate (fn.ntmps - args'.size) undef, []⟩ [] cs0 cs (.code c) (.code (hc.mono hsz)) ⟨fn, by rw [b1]; exact hfn⟩ hh ht hF
  have hu1 := hF1.u
  rw [b2, b3] at hu1
  dsimp only at he
  have fin : ∀ (m : Option V) (todo : List Item) (mode : FrameMode) (u1 : Option V), fr1.u = some u1 → SM β1 m mode → Steps P (lone (fat bf ⟨args' ++ Array.replicate (fn.ntmps - args'.size) undef, []⟩ (.code c :: [])) cs w) (lone { fat bf a1 todo with mode := mode } cs1 w1) →
      leave r af.res fr1.t u1 fr1.d m h1 = some (o, u', h') →
      ∃ β' w' fr' cs', Steps P (lone (fat bf ⟨args' ++ Array.replicate (fn.ntmps - args'.size) undef, []⟩ (.code c :: [])) cs w) (lone fr' cs' w') ∧ UR β' kind none cs0 (some u') cs' ∧ (fr'.kind = kind ∧ fr'.fn = f) ∧ Fin P β' w' fr' o ∧ HRel P (CRel P) β' h' w' ∧ Stp β h w β' h' w' := by
    intro m todo mode u1 hu hm hs hl
    rw [hu] at hu1
    obtain ⟨β', w', fr', cs', g1, g2, g3, g4, g5, g6⟩ := leave_ok hr hres fr1.d m h1 o u' h' hl β1 w1 { fat bf a1 todo with mode := mode } kind cs0 cs1 hh1 (ht.step st1) hF1.t hF1.d hm (by show P.funcs[bf.fn]? = some fn; rw [b1]; exact hfn) b2 hu1
    exact ⟨β', w', fr', cs', hs.trans g1, g2, ⟨g3.1, g3.2.trans b1⟩, g4, g5, st1.trans g6⟩
  split at he
  · rename_i u1 hu
    exact fin none [] .returning u1 hu rfl (hland.trans (.one (fstep_end b3))) he
  · rename_i u1 hu
    obtain ⟨k1, hs⟩ := hland
    exact fin none _ .returning u1 hu rfl (hs.trans (.one (fstep_ret b3))) he
  · rename_i v u1 hu
    obtain ⟨v', todo, hv, hs⟩ := hland
    exact fin (some v) todo _ u1 hu ⟨v', hv, rfl⟩ hs he
  · cases he

theorem VRel.narrow {β β' : Map} {n : Nat} (hb : ∀ b bi, b < n → β' b = some bi → β b = some bi) {v : V} {v' : Value} (r : VRel β' v v') : v.bel n = true → VRel β v v' := by
  have bl : ∀ (xs : List V), belowL n xs = true → ∀ (i : Nat) (v : V), xs[i]? = some v → v.bel n = true := by
    intro xs
    induction xs with
    | nil => intro _ i v e; simp at e
    | cons x xs ih =>
      intro h i v e
      simp only [belowL, Bool.and_eq_true] at h
      cases i with
      | zero => simp at e; subst e; exact h.1
      | succ i => exact ih h.2 i v (by simpa using e)
  induction r with
  | undef v => intro _; exact .undef v
  | int k m => intro _; exact .int k m
  | bool b => intro _; exact .bool b
  | str s => intro _; exact .str s
  | ptr h => intro hn; exact .ptr (hb _ _ (by simpa [V.bel] using hn) h)
  | nilp => intro _; exact .nilp
  | sl h hn hc ho hs => intro hx; exact .sl (hb _ _ (by simpa [V.bel] using hx) h) hn hc ho hs
  | nils a => intro _; exact .nils a
  | agg hl _ ih => intro hx; exact .agg hl fun i v v' a b => ih i v v' a b (bl _ (by simpa [V.bel] using hx) i v a)
  | tup hl _ ih => intro hx; exact .tup hl fun i v v' a b => ih i v v' a b (bl _ (by simpa [V.bel] using hx) i v a)
  | fn hl _ kl _ hy ih ik =>
    intro hx
    simp only [V.bel, Bool.and_eq_true] at hx
    exact .fn hl (fun i v v' a b => ih i v v' a b (bl _ hx.2.1 i v a)) kl (fun i v v' a b => ik i v v' a b (bl _ hx.2.2 i v a)) hy
  | yld h =>
    intro hx
    simp only [V.bel, Bool.and_eq_true, yBel, decide_eq_true_eq] at hx
    exact .yld (hb _ _ hx.1 h)
  | nilf => intro _; exact .nilf
  | ifc _ ih => intro hx; exact .ifc (ih (by simpa [V.bel] using hx))
  | nili => intro _; exact .nili
  | nilm => intro _; exact .nilm

theorem LRel.narrow {β β' : Map} {n : Nat} (hb : ∀ b bi, b < n → β' b = some bi → β b = some bi) {xs : List V} {ys : List Value} (r : LRel β' xs ys) (hx : belowL n xs = true) : LRel β xs ys := by
  have := VRel.narrow hb (VRel.agg' (ys := ys.toArray) (by simpa using r)) (by simpa [V.bel] using hx)
  obtain ⟨zs, e, hz⟩ := this.agg_inv
  cases e
  simpa using hz

theorem Fin.narrow {β β' : Map} {n : Nat} (hb : ∀ b bi, b < n → β' b = some bi → β b = some bi) {fr : Frame} {o : Out} (r : Fin P β' w fr o) (ho : o.bel n = true) : Fin P β w fr o := by
  cases o with
  | ret v => obtain ⟨h1, h2, fn, v', h3, h4, h5⟩ := r; exact ⟨h1, h2, fn, v', h3, h4, h5.narrow hb ho⟩
  | pan v => obtain ⟨h1, fn, v', h3, h4, h5⟩ := r; exact ⟨h1, fn, v', h3, h4, h5.narrow hb ho⟩

theorem UR_flat {β β' : Map} {kind : CallKind} {rnd : Option Nat} {cs0 cs : List Frame} {u : Option V} (r : UR β' kind rnd cs0 (some u) cs) (hu : ∀ v v', u = some v → VRel β' v v' → VRel β v v') : UR β kind rnd cs0 (some u) cs := by
  obtain ⟨h1, h2 | ⟨h2, c, rest, m, h3, h4, h5, h6⟩⟩ := r
  · exact ⟨h1, .inl h2⟩
  · refine ⟨h1, .inr ⟨h2, c, rest, m, h3, h4, ?_, h6⟩⟩
    cases u with
    | none => exact h5
    | some v => obtain ⟨v', h7, h8⟩ := h5; exact ⟨v', hu v v' rfl h7, h8⟩

theorem roH_get (h : Heap) (b : Nat) : (roH h)[b]? = (h[b]?).map Blk.ro := by simp [roH]

theorem ro_live {b : Blk} (h : b.ro.live = true) : b.live = true := by cases b <;> simp_all [Blk.ro, Blk.live]
theorem ro_wr (b : Blk) : b.ro.wr = false := by cases b <;> rfl

theorem HRel.ro {CR : Nat → Code → ACode → Prop} (r : HRel P CR β h w) : HRel P CR β (roH h) w := by
  refine ⟨fun b bi e => by simpa [roH] using r.dom b bi e, ?_, ?_⟩
  · intro b bi blk e1 e2 hl
    rw [roH_get] at e2
    simp only [Option.map_eq_some_iff] at e2
    obtain ⟨x, h1, rfl⟩ := e2
    obtain ⟨o, ho, hb⟩ := r.blk b bi x e1 h1 (ro_live hl)
    refine ⟨o, ho, ?_⟩
    cases x with
    | cells m cs =>
      obtain ⟨c, e, fr, q1, q2, q3, q4, q5⟩ := hb
      exact ⟨c, e, fr, q1, q2, q3, q4, fun hx => absurd rfl hx⟩
    | dead => trivial
    | dfl => cases hl
    | loop => cases hl
  · intro b b' bi bi' blk blk' hne e1 e2 e3 e4 hw hl
    rw [roH_get] at e3
    simp only [Option.map_eq_some_iff] at e3
    obtain ⟨x, h1, rfl⟩ := e3
    rw [ro_wr] at hw
    cases hw

theorem noWr_ro {B : Nat} : ¬ Wr β (roH h) B := by
  rintro ⟨b, bi, blk, h1, h2, h3, -⟩
  rw [roH_get] at h2
  simp only [Option.map_eq_some_iff] at h2
  obtain ⟨x, -, rfl⟩ := h2
  rw [ro_wr] at h3
  cases h3

theorem callG_ok (hT : TblOk P T) (hr : RecOk P T β0 r) (hdrw : DrwOk P T β0 r) {f : Nat} {args : List V} {u : Option V} {o : Out} {u' : Option V} {h' : Heap} (he : callG T r f args u h = some (o, u', h'))
    {args' : Array Value} {kind : CallKind} {cs0 cs : List Frame} (hh : HRel P (CRel P) β h w) (ht : Tab P T β0 β h w) (ha : LRel β args args'.toList) (hU : UR β kind none cs0 (some u) cs) :
    ∃ β' w' fr' cs', Steps P (lone (Frame.enter P f args' kind) cs w) (lone fr' cs' w') ∧ UR β' kind none cs0 (some u') cs' ∧ (fr'.kind = kind ∧ fr'.fn = f) ∧ Fin P β' w' fr' o ∧ HRel P (CRel P) β' h' w' ∧ Stp β h w β' h' w' := by
  unfold callG at he
  split at he
  · cases he
  rename_i af haf
  obtain ⟨fn, c, hfn, hb, hname, hc, hres⟩ := hT.fn haf
  split at he
  · exact callB_ok hr hdrw hfn hb hc hres he hh ht ha hU
  · split at he
    · -- old memory is read only
      simp only [Option.bind_eq_some_iff] at he
      obtain ⟨⟨o1, u1, h1⟩, hrun, he⟩ := he
      dsimp only at he
      split at he
      case isFalse => cases he
      rename_i hbel
      simp only [Bool.and_eq_true] at hbel
      cases he
      have htr : Tab P T β0 β (roH h) w := ⟨ht.rel, ht.ext, fun b bi e => noWr_ro, by simpa [roH] using ht.le, ht.same, ht.ro, fun b blk e hl => by
        rw [roH_get] at e
        simp only [Option.map_eq_some_iff] at e
        obtain ⟨x, h1, rfl⟩ := e
        exact ht.tot b x h1 (ro_live hl), ht.tot0⟩
      obtain ⟨β1, w1, fr1, cs1, g1, g2, g3, g4, g5, g6⟩ := callB_ok hr hdrw hfn hb hc hres hrun hh.ro htr ha hU
      have hkeep : ∀ B, B < w.heap.size → w1.heap[B]? = w.heap[B]? := fun B hB => g6.keep B hB noWr_ro
      have hold : ∀ b bi, b < h.length → β1 b = some bi → β b = some bi := fun b bi hb e => g6.old b bi (by simpa [roH] using hb) e
      refine ⟨β, w1, fr1, cs1, g1, UR_flat g2 (fun v v' hv hr => hr.narrow hold (by subst hv; exact hbel.2)), g3, g4.narrow hold hbel.1, hh.still g6.size fun b bi blk e1 e2 hl => hkeep _ (hh.dom _ _ e1).2,
        ⟨⟨Map.le.refl _, g6.os, g6.tape, g6.output, g6.size, Nat.le_refl _, fun _ _ _ e => e, fun B hB _ => hkeep B hB, fun _ e => .inl e, fun _ _ e => .inl e, fun _ _ _ e l => ⟨_, e, l⟩⟩, id⟩⟩
    · -- in the memory of the tables
      split at he
      case isFalse => cases he
      rename_i hcond
      obtain ⟨hu, hbelA⟩ := hcond
      simp only [Option.bind_eq_some_iff] at he
      obtain ⟨⟨o1, u1, h1⟩, hrun, he⟩ := he
      dsimp only at he
      split at he
      case isFalse => cases he
      rename_i hbel
      simp only [Bool.and_eq_true] at hbel
      cases he
      have hnw : ∀ B, ¬ Wr β0 T.tab B := by
        rintro B ⟨b, bi, blk, h1, h2, h3, -⟩
        rw [ht.ro b blk h2] at h3
        cases h3
      have ht0 : Tab P T β0 β0 T.tab w := ⟨ht.rel, Map.le.refl _, fun b bi e => hnw _, Nat.le_refl _, fun b bi _ e => e, ht.ro, ht.tot0, ht.tot0⟩
      have hun : u = none := by cases u with | none => rfl | some v => cases hu
      subst hun
      obtain ⟨β1, w1, fr1, cs1, g1, g2, g3, g4, g5, g6⟩ := callB_ok hr hdrw hfn hb hc hres hrun ht.rel ht0 (ha.narrow ht.same hbelA) (UR_flat hU fun v v' e => by cases e)
      have hkeep : ∀ B, B < w.heap.size → w1.heap[B]? = w.heap[B]? := fun B hB => g6.keep B hB (hnw B)
      have hold : ∀ b bi, b < T.tab.length → β1 b = some bi → β b = some bi := fun b bi hb e => ht.ext _ _ (g6.old b bi hb e)
      refine ⟨β, w1, fr1, cs1, g1, UR_flat g2 (fun v v' hv hr => hr.narrow hold (by subst hv; exact hbel.2)), g3, g4.narrow hold hbel.1, hh.still g6.size fun b bi blk e1 e2 hl => hkeep _ (hh.dom _ _ e1).2,
        ⟨⟨Map.le.refl _, g6.os, g6.tape, g6.output, g6.size, Nat.le_refl _, fun _ _ _ e => e, fun B hB _ => hkeep B hB, fun _ e => .inl e, fun _ _ e => .inl e, fun _ _ _ e l => ⟨_, e, l⟩⟩, id⟩⟩

theorem execK_ok (hT : TblOk P T) (hdrw : ∀ r, RecOk P T β0 r → DrwOk P T β0 r) : ∀ k, RecOk P T β0 (execK T k)
  | 0 => ⟨fun e => (by cases e), fun e => (by cases e), fun e => (by cases e)⟩
  | k + 1 => by
    have ih := execK_ok hT hdrw k
    refine ⟨fun {f args u h y} e => ?_, fun {f args u h o u' h'} e {β w args' kind cs0 cs} hh ht ha hU => callG_ok hT ih (hdrw _ ih) e hh ht ha hU,
      fun {c fr h e fr' h'} he {β w b a k cs0 cs it} hi hfn hh ht hF => exec_ok ih (hdrw _ ih) c fr h e fr' h' he β w b a k cs0 cs it hi hfn hh ht hF⟩
    simp only [execK, callG] at e
    split at e
    · cases e
    · rename_i af haf
      obtain ⟨fn, c, hfn, hb, hname, -⟩ := hT.fn haf
      exact ⟨fn, hfn, by rw [hb]; rfl, hname⟩

end Go.A

/- What an operation gives hangs on the temporaries that it looks at alone. -/
set_option linter.unusedVariables false
set_option linter.unusedSimpArgs false
set_option linter.unusedSectionVars false
namespace Go.A

mutual
theorem veq_eq : ∀ (a b : V), veq a b = true → a = b := by
  intro a b h
  cases a <;> cases b <;> simp only [veq, Bool.and_eq_true, decide_eq_true_eq, Nat.beq_eq, beq_iff_eq, reduceCtorEq, Bool.false_eq_true] at h <;> try contradiction
  case undef.undef => rfl
  case int.int => obtain ⟨rfl, rfl⟩ := h; rfl
  case bool.bool => subst h; rfl
  case str.str => subst h; rfl
  case ptr.ptr => obtain ⟨rfl, rfl⟩ := h; rfl
  case nilp.nilp => rfl
  case sl.sl => obtain ⟨rfl, rfl, rfl, rfl, rfl⟩ := h; rfl
  case nils.nils => rfl
  case agg.agg x y => rw [veqL_eq x y h]
  case tup.tup x y => rw [veqL_eq x y h]
  case fn.fn f x y f' x' y' => rw [h.1.1, veqL_eq x x' h.1.2, veqL_eq y y' h.2]
  case nilf.nilf => rfl
  case ifc.ifc t v t' v' => rw [h.1, veq_eq v v' h.2]
  case nili.nili => rfl
  case map.map => subst h; rfl
  case nilm.nilm => rfl
theorem veqL_eq : ∀ (a b : List V), veqL a b = true → a = b := by
  intro a b h
  cases a <;> cases b <;> simp only [veqL, Bool.and_eq_true, Bool.false_eq_true] at h <;> try contradiction
  case nil.nil => rfl
  case cons.cons x xs y ys => rw [veq_eq x y h.1, veqL_eq xs ys h.2]
end

section
variable {ρ ρ' : Rho}

theorem map_cong {l : List Opd} (h : ∀ x ∈ l, ρ x = ρ' x) : l.map ρ = l.map ρ' := List.map_congr_left h

theorem parts_cong {l : List (Nat × Nat × Opd)} (h : ∀ x ∈ l.map (·.2.2), ρ x = ρ' x) : (l.map fun (o, s, x) => (o, s, ρ x)) = l.map fun (o, s, x) => (o, s, ρ' x) := by
  refine List.map_congr_left fun x hx => ?_
  obtain ⟨o, s, y⟩ := x
  have := h y (List.mem_map.2 ⟨_, hx, rfl⟩)
  simp [this]

theorem opt_cong {x : Option Opd} (h : ∀ y ∈ x.toList, ρ y = ρ' y) : x.map ρ = x.map ρ' := by
  cases x with
  | none => rfl
  | some y => simp [h y (by simp)]

theorem POp.cong (q : POp) (h : ∀ x ∈ q.os, ρ x = ρ' x) : q.ev ρ = q.ev ρ' := by
  cases q with
  | build zs parts => simp only [POp.ev, parts_cong h]
  | mkfn fn a b => simp only [POp.os, List.mem_append] at h; simp only [POp.ev, map_cong fun x hx => h x (.inl hx), map_cong fun x hx => h x (.inr hx)]
  | slStr x lo hi =>
    simp only [POp.os, List.mem_cons, List.mem_append] at h
    simp only [POp.ev, h x (.inl rfl), opt_cong fun y hy => h y (.inr (.inl hy)), opt_cong fun y hy => h y (.inr (.inr hy))]
  | slSl e x lo hi mx =>
    simp only [POp.os, List.mem_cons, List.mem_append] at h
    simp only [POp.ev, h x (.inl rfl), opt_cong fun y hy => h y (.inr (.inl hy)), opt_cong fun y hy => h y (.inr (.inr (.inl hy))), opt_cong fun y hy => h y (.inr (.inr (.inr hy)))]
  | slArr n e x lo hi mx =>
    simp only [POp.os, List.mem_cons, List.mem_append] at h
    simp only [POp.ev, h x (.inl rfl), opt_cong fun y hy => h y (.inr (.inl hy)), opt_cong fun y hy => h y (.inr (.inr (.inl hy))), opt_cong fun y hy => h y (.inr (.inr (.inr hy)))]
  | mm isMax xs =>
    simp only [POp.os] at h
    cases xs with
    | nil => rfl
    | cons x r => simp only [POp.ev, h x (by simp), map_cong fun y hy => h y (List.mem_cons_of_mem _ hy)]
  | lenK n => rfl
  | pick c a b => simp only [POp.os, List.mem_cons, List.not_mem_nil, or_false, forall_eq_or_imp, forall_eq] at h; simp only [POp.ev, h.1, h.2.1, h.2.2]
  | bin op x y => simp only [POp.os, List.mem_cons, List.not_mem_nil, or_false, forall_eq_or_imp, forall_eq] at h; simp only [POp.ev, h.1, h.2]
  | eqv n t x y => simp only [POp.os, List.mem_cons, List.not_mem_nil, or_false, forall_eq_or_imp, forall_eq] at h; simp only [POp.ev, h.1, h.2]
  | idxA n e x y => simp only [POp.os, List.mem_cons, List.not_mem_nil, or_false, forall_eq_or_imp, forall_eq] at h; simp only [POp.ev, h.1, h.2]
  | idxS e x y => simp only [POp.os, List.mem_cons, List.not_mem_nil, or_false, forall_eq_or_imp, forall_eq] at h; simp only [POp.ev, h.1, h.2]
  | idx n e s x y => simp only [POp.os, List.mem_cons, List.not_mem_nil, or_false, forall_eq_or_imp, forall_eq] at h; simp only [POp.ev, h.1, h.2]
  | idxStr x y => simp only [POp.os, List.mem_cons, List.not_mem_nil, or_false, forall_eq_or_imp, forall_eq] at h; simp only [POp.ev, h.1, h.2]
  | _ => simp only [POp.os, List.mem_singleton, forall_eq] at h; simp only [POp.ev, h]

theorem ROp.cong (q : ROp) (m : Heap) (h : ∀ x ∈ q.os, ρ x = ρ' x) : q.ev ρ m = q.ev ρ' m := by
  cases q <;> (simp only [ROp.os, List.mem_singleton, forall_eq] at h; simp only [ROp.ev, h])

theorem NOp.cong (q : NOp) (h : ∀ x ∈ q.os, ρ x = ρ' x) : q.ev ρ = q.ev ρ' := by
  cases q with
  | alloc zs => rfl
  | box x => simp only [NOp.os, List.mem_singleton, forall_eq] at h; simp only [NOp.ev, h]
  | bsl l e zs parts => simp only [NOp.ev, parts_cong h]
  | mksl e b zs l c => simp only [NOp.os, List.mem_cons, List.not_mem_nil, or_false, forall_eq_or_imp, forall_eq] at h; simp only [NOp.ev, h.1, h.2]
  | s2b x => simp only [NOp.os, List.mem_singleton, forall_eq] at h; simp only [NOp.ev, h]

theorem LOp.cong (q : LOp) (m : Heap) (h : ∀ x ∈ q.os, ρ x = ρ' x) : q.ev ρ m = q.ev ρ' m := by
  cases q with
  | mark x => simp only [LOp.os, List.mem_singleton, forall_eq] at h; simp only [LOp.ev, h]
  | _ => simp only [LOp.os, List.mem_cons, List.not_mem_nil, or_false, forall_eq_or_imp, forall_eq] at h; simp only [LOp.ev, h.1, h.2]

theorem callC_cong (r : Rec) (c : Cal) (args : List V) (m : Heap) (h : ∀ x ∈ c.os, ρ x = ρ' x) : callC r c ρ args m = callC r c ρ' args m := by
  cases c with
  | st f => rfl
  | dyn x => simp only [Cal.os, List.mem_singleton, forall_eq] at h; simp only [callC, h]

theorem dfrOf_cong (c : Cal) (args : List V) (h : ∀ x ∈ c.os, ρ x = ρ' x) : dfrOf c ρ args = dfrOf c ρ' args := by
  cases c with
  | st f => rfl
  | dyn x => simp only [Cal.os, List.mem_singleton, forall_eq] at h; simp only [dfrOf, h]
end

theorem opd_cong {t t' : Env} {x : Opd} (h : ∀ i ∈ x.tm, get t i = get t' i) : Opd.ev t x = Opd.ev t' x := by
  cases x with
  | t n => exact h n (by simp [Opd.tm])
  | _ => rfl

theorem os_cong {t t' : Env} {o : AOper} (h : ∀ i ∈ o.tms, get t i = get t' i) : ∀ x ∈ o.o.os, Opd.ev t x = Opd.ev t' x := by
  intro x hx
  refine opd_cong fun i hi => h i ?_
  unfold AOper.tms
  exact List.mem_append_left _ (List.mem_flatten.2 ⟨x.tm, List.mem_map.2 ⟨x, hx, rfl⟩, hi⟩)

theorem wanted_cong {t t' : Env} {o : AOper} (h : ∀ i ∈ o.tms, get t i = get t' i) : wanted t o.g = wanted t' o.g := by
  cases hg : o.g with
  | none => rfl
  | some jw =>
    obtain ⟨j, x⟩ := jw
    have := h j (by unfold AOper.tms; rw [hg]; simp)
    simp only [wanted, this]

/-- What a quiet operation gives. -/
def Quiet (o : AOper) (t : Env) (h : Heap) (v : V) (F : Heap) : Prop :=
  (wanted t o.g = some false ∧ v = .tup [] ∧ F = []) ∨
  (wanted t o.g = some true ∧ ((∃ q, o.o = .p q ∧ q.ev (Opd.ev t) = some v ∧ F = []) ∨ (∃ q, o.o = .r q ∧ q.ev (Opd.ev t) h = some v ∧ F = []) ∨
    (∃ q blk vf, o.o = .n q ∧ q.ev (Opd.ev t) = some (blk, vf) ∧ v = vf h.length ∧ F = [blk])))

theorem stepOp_quiet {r : Rec} {o : AOper} {fr fr' : Fr} {h h' : Heap} {e : Ex} (hq : o.o.loud = false) (hs : stepOp r o fr h = some (e, fr', h')) :
    ∃ v F, e = .norm ∧ fr' = { fr with t := put fr.t o.d v } ∧ h' = h ++ F ∧ Quiet o fr.t h v F := by
  simp only [stepOp, Option.bind_eq_some_iff] at hs
  obtain ⟨wnt, hw, hs⟩ := hs
  cases wnt with
  | false =>
    simp only [Bool.false_eq_true, if_false, Option.some.injEq, Prod.mk.injEq] at hs
    obtain ⟨rfl, rfl, rfl⟩ := hs
    exact ⟨.tup [], [], rfl, rfl, by simp, .inl ⟨hw, rfl, rfl⟩⟩
  | true =>
    simp only [if_true] at hs
    cases ho : o.o with
    | p q =>
      rw [ho] at hs
      simp only [Option.map_eq_some_iff, Prod.mk.injEq] at hs
      obtain ⟨v, hv, rfl, rfl, rfl⟩ := hs
      exact ⟨v, [], rfl, rfl, by simp, .inr ⟨hw, .inl ⟨q, ho, hv, rfl⟩⟩⟩
    | r q =>
      rw [ho] at hs
      simp only [Option.map_eq_some_iff, Prod.mk.injEq] at hs
      obtain ⟨v, hv, rfl, rfl, rfl⟩ := hs
      exact ⟨v, [], rfl, rfl, by simp, .inr ⟨hw, .inr (.inl ⟨q, ho, hv, rfl⟩)⟩⟩
    | n q =>
      rw [ho] at hs
      simp only [Option.map_eq_some_iff, Prod.mk.injEq] at hs
      obtain ⟨⟨blk, vf⟩, hv, rfl, rfl, rfl⟩ := hs
      exact ⟨_, [blk], rfl, rfl, rfl, .inr ⟨hw, .inr (.inr ⟨q, blk, vf, ho, hv, rfl, rfl⟩)⟩⟩
    | l q => rw [ho] at hq; cases hq
    | call c a => rw [ho] at hq; cases hq
    | dfr c a => rw [ho] at hq; cases hq
    | pan x => rw [ho] at hq; cases hq
    | rcv => rw [ho] at hq; cases hq

/-- Any operation, with other temporaries beside those that it looks at. -/
theorem stepOp_cong {r : Rec} {o : AOper} {fr fr' : Fr} {h h' : Heap} {e : Ex} {t : Env} (ht : ∀ i ∈ o.tms, get fr.t i = get t i) (hs : stepOp r o fr h = some (e, fr', h')) :
    (e = .norm ∧ ∃ v, fr'.t = put fr.t o.d v ∧ stepOp r o { fr with t := t } h = some (.norm, { fr' with t := put t o.d v }, h')) ∨
    (∃ p, e = .pan p ∧ fr'.t = fr.t ∧ stepOp r o { fr with t := t } h = some (e, { fr' with t := t }, h')) := by
  have hw := wanted_cong ht
  have hos := os_cong ht
  simp only [stepOp, Option.bind_eq_some_iff] at hs
  obtain ⟨wnt, hwn, hs⟩ := hs
  have hwt : wanted t o.g = some wnt := by rw [← hw]; exact hwn
  cases wnt with
  | false =>
    simp only [Bool.false_eq_true, if_false, Option.some.injEq, Prod.mk.injEq] at hs
    obtain ⟨rfl, rfl, rfl⟩ := hs
    exact .inl ⟨rfl, .tup [], rfl, by simp [stepOp, hwt]⟩
  | true =>
    simp only [if_true] at hs
    cases ho : o.o with
    | p q =>
      rw [ho] at hs hos
      simp only [Option.map_eq_some_iff, Prod.mk.injEq] at hs
      obtain ⟨v, hv, rfl, rfl, rfl⟩ := hs
      rw [POp.cong q hos] at hv
      exact .inl ⟨rfl, v, rfl, by simp [stepOp, hwt, ho, hv]⟩
    | r q =>
      rw [ho] at hs hos
      simp only [Option.map_eq_some_iff, Prod.mk.injEq] at hs
      obtain ⟨v, hv, rfl, rfl, rfl⟩ := hs
      rw [ROp.cong q h hos] at hv
      exact .inl ⟨rfl, v, rfl, by simp [stepOp, hwt, ho, hv]⟩
    | n q =>
      rw [ho] at hs hos
      simp only [Option.map_eq_some_iff, Prod.mk.injEq] at hs
      obtain ⟨⟨blk, vf⟩, hv, rfl, rfl, rfl⟩ := hs
      rw [NOp.cong q hos] at hv
      exact .inl ⟨rfl, _, rfl, by simp [stepOp, hwt, ho, hv]⟩
    | l q =>
      rw [ho] at hs hos
      simp only [Option.map_eq_some_iff, Prod.mk.injEq] at hs
      obtain ⟨⟨v, h1⟩, hv, rfl, rfl, rfl⟩ := hs
      rw [LOp.cong q h hos] at hv
      exact .inl ⟨rfl, v, rfl, by simp [stepOp, hwt, ho, hv]⟩
    | call c a =>
      rw [ho] at hs hos
      simp only [AOp.os, List.mem_append] at hos
      simp only [Option.map_eq_some_iff] at hs
      obtain ⟨⟨x, h1⟩, hv, hs⟩ := hs
      rw [map_cong fun x hx => hos x (.inr hx), callC_cong r c _ h fun x hx => hos x (.inl hx)] at hv
      cases x with
      | ret v =>
        simp only [Prod.mk.injEq] at hs
        obtain ⟨rfl, rfl, rfl⟩ := hs
        exact .inl ⟨rfl, v, rfl, by simp [stepOp, hwt, ho, hv]⟩
      | pan v =>
        simp only [Prod.mk.injEq] at hs
        obtain ⟨rfl, rfl, rfl⟩ := hs
        exact .inr ⟨v, rfl, rfl, by simp [stepOp, hwt, ho, hv]⟩
    | dfr c a =>
      rw [ho] at hs hos
      simp only [AOp.os, List.mem_append] at hos
      dsimp only at hs
      split at hs
      case isFalse => cases hs
      rename_i hu
      simp only [Option.map_eq_some_iff, Prod.mk.injEq] at hs
      obtain ⟨d, hv, rfl, rfl, rfl⟩ := hs
      rw [map_cong fun x hx => hos x (.inr hx), dfrOf_cong c _ fun x hx => hos x (.inl hx)] at hv
      exact .inl ⟨rfl, .undef, rfl, by simp [stepOp, hwt, ho, hv, hu]⟩
    | pan x =>
      rw [ho] at hs hos
      simp only [AOp.os, List.mem_singleton, forall_eq] at hos
      dsimp only at hs
      rw [hos] at hs
      split at hs
      case h_2 => cases hs
      rename_i ty v hx
      simp only [Option.some.injEq, Prod.mk.injEq] at hs
      obtain ⟨rfl, rfl, rfl⟩ := hs
      exact .inr ⟨_, rfl, rfl, by simp [stepOp, hwt, ho, hx]⟩
    | rcv =>
      rw [ho] at hs
      dsimp only at hs
      split at hs
      · rename_i v hu
        simp only [Option.some.injEq, Prod.mk.injEq] at hs
        obtain ⟨rfl, rfl, rfl⟩ := hs
        exact .inl ⟨rfl, v, rfl, by simp [stepOp, hwt, ho, hu]⟩
      · rename_i hu
        simp only [Option.some.injEq, Prod.mk.injEq] at hs
        obtain ⟨rfl, rfl, rfl⟩ := hs
        exact .inl ⟨rfl, _, rfl, by simp [stepOp, hwt, ho, hu]⟩
      · cases hs

end Go.A

/- Regions whose order is open: memory. -/
set_option linter.unusedVariables false
set_option linter.unusedSimpArgs false
set_option linter.unusedSectionVars false
namespace Go.A

variable {P : Program} {CR : Nat → Code → ACode → Prop} {β γ : Map} {h : Heap} {w w0 : World}

def cut (n : Nat) (γ : Map) : Map := fun b => if b < n then γ b else none

theorem cut_le (n : Nat) (γ : Map) : (cut n γ).le γ := by
  intro b bi e
  unfold cut at e
  split at e
  · exact e
  · cases e

theorem cut_some {n : Nat} {γ : Map} {b : Nat} {bi : BI} (e : cut n γ b = some bi) : b < n ∧ γ b = some bi := by
  unfold cut at e
  split at e
  · exact ⟨by assumption, e⟩
  · cases e

theorem cut_of {n : Nat} {γ : Map} {b : Nat} {bi : BI} (h : b < n) (e : γ b = some bi) : cut n γ b = some bi := by
  unfold cut; rw [if_pos h]; exact e

theorem cut_mono {n m : Nat} (h : n ≤ m) (γ : Map) : (cut n γ).le (cut m γ) := by
  intro b bi e
  obtain ⟨h1, h2⟩ := cut_some e
  exact cut_of (Nat.lt_of_lt_of_le h1 h) h2

/-- What a heap's cells name is in it. -/
structure Closed (h : Heap) : Prop where
  cells : ∀ (b : Nat) (m : Md) (cs : List V) (i : Nat) (v : V), h[b]? = some (.cells m cs) → cs[i]? = some v → v.bel h.length = true
  loop : ∀ (b st : Nat) (pend : Option Ex) (env : Env) (ps : List Nat) (asg body : ACode), h[b]? = some (.loop st pend env ps asg body) → ∀ i, (get env i).bel h.length = true

theorem VRel.bel {n : Nat} (hb : ∀ b bi, β b = some bi → b < n) {v : V} {v' : Value} (r : VRel β v v') : v.bel n = true := by
  have bl : ∀ (xs : List V), (∀ (i : Nat) (v : V), xs[i]? = some v → v.bel n = true) → belowL n xs = true := by
    intro xs
    induction xs with
    | nil => intro _; rfl
    | cons x xs ih =>
      intro h
      simp only [belowL, Bool.and_eq_true]
      exact ⟨h 0 x rfl, ih fun i v e => h (i + 1) v (by simpa using e)⟩
  have get' : ∀ {xs : List V} {ys : Array Value}, xs.length = ys.size → ∀ (i : Nat) (v : V), xs[i]? = some v → ∃ v', ys[i]? = some v' := by
    intro xs ys hl i v e
    have : i < ys.size := by have := (List.getElem?_eq_some_iff.1 e).1; omega
    exact ⟨ys[i], Array.getElem?_eq_getElem this⟩
  induction r with
  | undef | int | bool | str | nilp | nils | nilf | nili | nilm => rfl
  | ptr h => simp only [V.bel, decide_eq_true_eq]; exact hb _ _ h
  | sl h => simp only [V.bel, decide_eq_true_eq]; exact hb _ _ h
  | agg hl _ ih => simp only [V.bel]; exact bl _ fun i v e => let ⟨v', e'⟩ := get' hl i v e; ih i v v' e e'
  | tup hl _ ih => simp only [V.bel]; exact bl _ fun i v e => let ⟨v', e'⟩ := get' hl i v e; ih i v v' e e'
  | @fn f xs zs ys us hl _ kl _ hy ih ik =>
    simp only [V.bel, Bool.and_eq_true]
    refine ⟨?_, bl _ fun i v e => let ⟨v', e'⟩ := get' hl i v e; ih i v v' e e', bl _ fun i v e => let ⟨v', e'⟩ := get' kl i v e; ik i v v' e e'⟩
    cases f <;> first | rfl | cases hy
  | yld h => simp only [V.bel, yBel, belowL, Bool.and_self, Bool.and_true, decide_eq_true_eq]; exact hb _ _ h
  | ifc _ ih => simp only [V.bel]; exact ih

theorem HRel.closed (r : HRel P CR β h w) (hl : Tot β h) : Closed h := by
  have hd : ∀ b bi, β b = some bi → b < h.length := fun b bi e => (r.dom b bi e).1
  refine ⟨fun b m cs i v e ev => ?_, fun b st pend env ps asg body e i => ?_⟩
  · obtain ⟨bi, hbi⟩ := hl b _ e rfl
    obtain ⟨c, ty, fr, h1, h2, h3, h4, h5⟩ := r.cells hbi e
    obtain ⟨v', -, hv⟩ := h4.get ev
    exact hv.bel hd
  · obtain ⟨bi, hbi⟩ := hl b _ e rfl
    obtain ⟨L, -, -, -, -, -, -, h1, -⟩ := r.loopAt hbi e
    exact (h1 i).bel hd

theorem BRel.narrow {n : Nat} (hb : ∀ b bi, b < n → γ b = some bi → β b = some bi) {bi : BI} {blk : Blk} {o : Obj} (r : BRel P CR γ bi blk o)
    (hc : ∀ m cs, blk = .cells m cs → ∀ (i : Nat) v, cs[i]? = some v → v.bel n = true) (hl : ∀ st pend env ps asg body, blk = .loop st pend env ps asg body → ∀ i, (get env i).bel n = true) : BRel P CR β bi blk o := by
  cases blk with
  | dead => trivial
  | cells m cs =>
    obtain ⟨c, e, fr, h1, h2, h3, h4, h5⟩ := r
    exact ⟨c, e, fr, h1, h2, h3, fun i v v' a b => (h4 i v v' a b).narrow hb (hc m cs rfl i v a), h5⟩
  | dfl => exact r
  | loop st pend env ps asg body =>
    obtain ⟨L, h1, h2, h3, h4, h7, h8, h5, h6⟩ := r
    exact ⟨L, h1, h2, h3, h4, h7, h8, fun i => (h5 i).narrow hb (hl _ _ _ _ _ _ rfl i), h6⟩

theorem HRel.cut {F : Heap} (r : HRel P CR γ (h ++ F) w) (hc : Closed h) : HRel P CR (A.cut h.length γ) h w := by
  have hget : ∀ {b : Nat} {blk : Blk}, h[b]? = some blk → (h ++ F)[b]? = some blk := fun {b blk} e => by
    rw [List.getElem?_append_left (List.getElem?_eq_some_iff.1 e).1]; exact e
  refine ⟨fun b bi e => ⟨(cut_some e).1, (r.dom _ _ (cut_some e).2).2⟩, fun b bi blk e1 e2 hl => ?_, fun b b' bi bi' blk blk' hne e1 e2 e3 e4 hw hl => ?_⟩
  · obtain ⟨o, ho, hr⟩ := r.blk b bi blk (cut_some e1).2 (hget e2) hl
    exact ⟨o, ho, hr.narrow (n := h.length) (fun b bi hb e => cut_of hb e) (fun m cs e i v ev => hc.cells b m cs i v (by rw [e2, e]) ev) (fun st pend env ps asg body e => hc.loop b st pend env ps asg body (by rw [e2, e]))⟩
  · exact r.uniq b b' bi bi' blk blk' hne (cut_some e1).2 (cut_some e2).2 (hget e3) (hget e4) hw hl

/-- A block that lies in A's memory already. -/
theorem HRel.pushAt {V0 : Heap} (r : HRel P CR γ V0 w) {w' : World} {o : Obj} (hp : Pushed w w' o) {c : Nat} {blk : Blk} (hc : V0[c]? = some blk) (hn : γ c = none) {md : Md} {csz : Nat}
    (hb : BRel P CR (upd γ c ⟨w.heap.size, 0, md, csz⟩) ⟨w.heap.size, 0, md, csz⟩ blk o) : HRel P CR (upd γ c ⟨w.heap.size, 0, md, csz⟩) V0 w' := by
  have hle : γ.le (upd γ c ⟨w.heap.size, 0, md, csz⟩) := upd_le hn
  have hsz : w'.heap.size = w.heap.size + 1 := by rw [hp.heap]; simp
  have hlt : c < V0.length := (List.getElem?_eq_some_iff.1 hc).1
  have lookup : ∀ b bi, upd γ c ⟨w.heap.size, 0, md, csz⟩ b = some bi → (b = c ∧ bi = ⟨w.heap.size, 0, md, csz⟩) ∨ (b ≠ c ∧ γ b = some bi) := by
    intro b bi e
    unfold upd at e
    by_cases hbb : b = c
    · rw [if_pos hbb] at e; cases e; exact .inl ⟨hbb, rfl⟩
    · rw [if_neg hbb] at e; exact .inr ⟨hbb, e⟩
  refine ⟨?_, ?_, ?_⟩
  · intro b bi e
    rcases lookup b bi e with ⟨h1, h2⟩ | ⟨h1, h2⟩
    · subst h1 h2; exact ⟨hlt, by rw [hsz]; simp⟩
    · have := r.dom _ _ h2; exact ⟨this.1, by omega⟩
  · intro b bi bk e1 e2 hl
    rcases lookup b bi e1 with ⟨h1, h2⟩ | ⟨h1, h2⟩
    · subst h1 h2
      rw [hc] at e2
      cases e2
      exact ⟨o, by rw [hp.heap, push_get, if_pos rfl], hb⟩
    · obtain ⟨o', ho, hr⟩ := r.blk b bi bk h2 e2 hl
      have := (r.dom _ _ h2).2
      exact ⟨o', by rw [hp.heap, push_get, if_neg (by omega)]; exact ho, hr.mono hle⟩
  · intro b b' bi bi' bk bk' hne e1 e2 e3 e4 hw hl
    rcases lookup b bi e1 with ⟨h1, h2⟩ | ⟨h1, h2⟩ <;> rcases lookup b' bi' e2 with ⟨h3, h4⟩ | ⟨h3, h4⟩
    · omega
    · subst h2; have := (r.dom _ _ h4).2; simp; omega
    · subst h4; have := (r.dom _ _ h2).2; simp; omega
    · exact r.uniq b b' bi bi' bk bk' hne h2 h4 e3 e4 hw hl

theorem Stp0.pushAt {V0 : Heap} (s : Stp0 β h w0 γ V0 w) {w' : World} {o : Obj} (hp : Pushed w w' o) {c : Nat} (hc : h.length ≤ c) (hn : γ c = none) {md : Md} {csz : Nat} :
    Stp0 β h w0 (upd γ c ⟨w.heap.size, 0, md, csz⟩) V0 w' := by
  have hle : γ.le (upd γ c ⟨w.heap.size, 0, md, csz⟩) := upd_le hn
  have hsz : w'.heap.size = w.heap.size + 1 := by rw [hp.heap]; simp
  have lookup : ∀ b bi, upd γ c ⟨w.heap.size, 0, md, csz⟩ b = some bi → (b = c ∧ bi = ⟨w.heap.size, 0, md, csz⟩) ∨ (b ≠ c ∧ γ b = some bi) := by
    intro b bi e
    unfold upd at e
    by_cases hbb : b = c
    · rw [if_pos hbb] at e; cases e; exact .inl ⟨hbb, rfl⟩
    · rw [if_neg hbb] at e; exact .inr ⟨hbb, e⟩
  refine ⟨s.ext.trans hle, hp.os.trans s.os, hp.tape.trans s.tape, hp.output.trans s.output, by have := s.size; omega, s.hsize, ?_, ?_, ?_, ?_, s.alive⟩
  · intro b bi hb e
    rcases lookup b bi e with ⟨h1, h2⟩ | ⟨h1, h2⟩
    · omega
    · exact s.old b bi hb h2
  · intro B hB hnw
    have := s.size
    rw [hp.heap, push_get, if_neg (by omega)]
    exact s.keep B hB hnw
  · rintro B ⟨b, bi, bk, e1, e2, e3, rfl⟩
    rcases lookup b bi e1 with ⟨h1, h2⟩ | ⟨h1, h2⟩
    · subst h2; exact .inr s.size
    · exact s.img _ ⟨b, bi, bk, h2, e2, e3, rfl⟩
  · intro b bi e
    rcases lookup b bi e with ⟨h1, h2⟩ | ⟨h1, h2⟩
    · subst h2; exact .inr (.inr s.size)
    · exact s.fresh b bi h2

/-- What a loud operation does, beside blocks that are made ahead of their turn. -/
theorem HRel.join {hq F0 F h1 : Heap} (r : HRel P CR γ (hq ++ F0 ++ F) w) (hl : hq.length + F0.length = h1.length) (hn : ∀ c, hq.length ≤ c → c < h1.length → γ c = none) {β' : Map} {w' : World}
    (r' : HRel P CR β' h1 w') (s' : Stp (A.cut hq.length γ) hq w β' h1 w') :
    let γ' : Map := fun c => if c < h1.length then β' c else γ c
    HRel P CR γ' (h1 ++ F) w' ∧ γ.le γ' ∧ β'.le γ' ∧ (h.length ≤ hq.length → Stp0 β h w0 γ (hq ++ F0 ++ F) w → Stp0 β h w0 γ' (h1 ++ F) w') := by
  intro γ'
  have lo : ∀ {c bi}, γ' c = some bi → c < h1.length → β' c = some bi := fun {c bi} e hc => by simpa [γ', hc] using e
  have hi : ∀ {c bi}, γ' c = some bi → ¬ c < h1.length → γ c = some bi := fun {c bi} e hc => by simpa [γ', hc] using e
  have hle : γ.le γ' := by
    intro c bi e
    by_cases h1' : c < hq.length
    · have : c < h1.length := by omega
      simp only [γ', this, if_true]
      exact s'.ext _ _ (cut_of h1' e)
    · by_cases h2 : c < h1.length
      · rw [hn c (by omega) h2] at e; cases e
      · simp only [γ', h2, if_false]; exact e
  have hle' : β'.le γ' := by
    intro c bi e
    have := (r'.dom _ _ e).1
    simp only [γ', this, if_true]
    exact e
  have g1 : ∀ c, c < h1.length → (h1 ++ F)[c]? = h1[c]? := fun c hc => List.getElem?_append_left hc
  have g2 : ∀ c, ¬ c < h1.length → (h1 ++ F)[c]? = (hq ++ F0 ++ F)[c]? := fun c hc => by
    rw [List.getElem?_append_right (by omega), List.getElem?_append_right (by simp; omega)]
    simp only [List.length_append, hl]
  have gq : ∀ c, c < hq.length → (hq ++ F0 ++ F)[c]? = hq[c]? := fun c hc => by
    rw [List.append_assoc, List.getElem?_append_left hc]
  have wr_up : ∀ {B}, Wr (A.cut hq.length γ) hq B → Wr γ (hq ++ F0 ++ F) B := by
    rintro B ⟨c, ci, ck, e1, e2, e3, e4⟩
    obtain ⟨k1, k2⟩ := cut_some e1
    exact ⟨c, ci, ck, k2, by rw [gq c k1]; exact e2, e3, e4⟩
  have apart : ∀ {B c ci ck}, Wr (A.cut hq.length γ) hq B → ¬ c < h1.length → γ c = some ci → (hq ++ F0 ++ F)[c]? = some ck → ck.live = true → ci.blk ≠ B := by
    rintro B c ci ck ⟨d, di, dk, e1, e2, e3, e4⟩ hc f1 f2 f3 e
    obtain ⟨k1, k2⟩ := cut_some e1
    exact r.uniq d c di ci dk ck (by omega) k2 f1 (by rw [gq d k1]; exact e2) f2 e3 f3 (by rw [e4, e])
  refine ⟨⟨?_, ?_, ?_⟩, hle, hle', ?_⟩
  · intro c ci e
    by_cases hc : c < h1.length
    · have := r'.dom _ _ (lo e hc); exact ⟨by simp; omega, this.2⟩
    · have := r.dom _ _ (hi e hc)
      have := s'.size
      simp only [List.length_append] at *
      omega
  · intro c ci ck e1 e2 hlv
    by_cases hc : c < h1.length
    · rw [g1 c hc] at e2
      obtain ⟨o, ho, hr⟩ := r'.blk c ci ck (lo e1 hc) e2 hlv
      exact ⟨o, ho, hr.mono hle'⟩
    · rw [g2 c hc] at e2
      obtain ⟨o, ho, hr⟩ := r.blk c ci ck (hi e1 hc) e2 hlv
      refine ⟨o, ?_, hr.mono hle⟩
      rw [s'.keep _ (r.dom _ _ (hi e1 hc)).2 fun hw => apart hw hc (hi e1 hc) e2 hlv rfl]
      exact ho
  · intro c c' ci ci' ck ck' hne e1 e2 e3 e4 hw hlv
    by_cases hc : c < h1.length <;> by_cases hc' : c' < h1.length
    · rw [g1 c hc] at e3; rw [g1 c' hc'] at e4
      exact r'.uniq c c' ci ci' ck ck' hne (lo e1 hc) (lo e2 hc') e3 e4 hw hlv
    · rw [g1 c hc] at e3; rw [g2 c' hc'] at e4
      intro e
      rcases s'.img ci.blk ⟨c, ci, ck, lo e1 hc, e3, hw, rfl⟩ with k | k
      · exact apart k hc' (hi e2 hc') e4 hlv e.symm
      · have := (r.dom _ _ (hi e2 hc')).2; omega
    · rw [g2 c hc] at e3; rw [g1 c' hc'] at e4
      intro e
      rcases s'.fresh c' ci' (lo e2 hc') with k | k | k
      · obtain ⟨k1, k2⟩ := cut_some k
        obtain ⟨blk, k3, k4⟩ := s'.alive c' ck' k1 e4 hlv
        exact r.uniq c c' ci ci' ck blk hne (hi e1 hc) k2 e3 (by rw [gq c' k1]; exact k3) hw k4 e
      · exact apart k hc (hi e1 hc) e3 (Blk.wr_live hw) e
      · have := (r.dom _ _ (hi e1 hc)).2; omega
    · rw [g2 c hc] at e3; rw [g2 c' hc'] at e4
      exact r.uniq c c' ci ci' ck ck' hne (hi e1 hc) (hi e2 hc') e3 e4 hw hlv
  · intro hlen s
    refine ⟨s.ext.trans hle, s'.os.trans s.os, s'.tape.trans s.tape, s'.output.trans s.output, Nat.le_trans s.size s'.size, by simp; omega, ?_, ?_, ?_, ?_, ?_⟩
    · intro c ci hc e
      have h2 : c < hq.length := by omega
      exact s.old c ci hc (cut_some (s'.old c ci h2 (lo e (by omega)))).2
    · intro B hB hnw
      rw [s'.keep B (Nat.lt_of_lt_of_le hB s.size) fun hw => ?_]
      · exact s.keep B hB hnw
      · rcases s.img B (wr_up hw) with k | k
        · exact hnw k
        · omega
    · rintro B ⟨c, ci, ck, e1, e2, e3, rfl⟩
      by_cases hc : c < h1.length
      · rw [g1 c hc] at e2
        rcases s'.img ci.blk ⟨c, ci, ck, lo e1 hc, e2, e3, rfl⟩ with k | k
        · exact s.img _ (wr_up k)
        · exact .inr (Nat.le_trans s.size k)
      · rw [g2 c hc] at e2
        exact s.img _ ⟨c, ci, ck, hi e1 hc, e2, e3, rfl⟩
    · intro c ci e
      by_cases hc : c < h1.length
      · rcases s'.fresh c ci (lo e hc) with k | k | k
        · exact s.fresh c ci (cut_some k).2
        · exact .inr (s.img _ (wr_up k))
        · exact .inr (.inr (Nat.le_trans s.size k))
      · exact s.fresh c ci (hi e hc)
    · intro c ck hc e hlv
      have h2 : c < hq.length := by omega
      rw [g1 c (by omega)] at e
      obtain ⟨blk, k3, k4⟩ := s'.alive c ck h2 e hlv
      exact s.alive c blk hc (by rw [gq c h2]; exact k3) k4

end Go.A

/- Regions whose order is open: the run in one order. -/
set_option linter.unusedVariables false
set_option linter.unusedSimpArgs false
set_option linter.unusedSectionVars false
namespace Go.A

def opAt (l : List AOper) (order : List Nat) (q : Nat) : AOper := l.getD (order.getD q 0) default

def isAt (b : Array Nat) (l : List AOper) (order : List Nat) (k : Nat) : List Nat :=
  ((List.range k).filter (loudAt l order)).zipIdx.filterMap fun (y, c) => if pre b (order.getD k 0) (order.getD y 0) then none else some c

def pfAt (b : Array Nat) (order : List Nat) (k : Nat) : Bool := order.all fun j => j == order.getD k 0 || pre b (order.getD k 0) j || pre b j (order.getD k 0)

def tj (r : Rec) (l : List AOper) (order : List Nat) (fr : Fr) (h : Heap) : Nat → Fr × Heap
  | 0 => (fr, h)
  | q + 1 => match stepOp r (opAt l order q) (tj r l order fr h q).1 (tj r l order fr h q).2 with
    | some (_, f, g) => (f, g)
    | none => tj r l order fr h q

def snaps (l : List AOper) (order : List Nat) (hs : Nat → Heap) (q : Nat) : List Heap := ((List.range q).filter (loudAt l order)).map hs

theorem snaps_succ (l : List AOper) (order : List Nat) (hs : Nat → Heap) (q : Nat) : snaps l order hs (q + 1) = if (opAt l order q).o.loud = true then snaps l order hs q ++ [hs q] else snaps l order hs q := by
  unfold snaps
  rw [List.range_succ, List.filter_append, List.map_append]
  have : loudAt l order q = (opAt l order q).o.loud := rfl
  split
  · rename_i h; rw [List.filter_cons_of_pos (by rw [this]; exact h)]; simp
  · rename_i h; rw [List.filter_cons_of_neg (by rw [this]; exact h)]; simp

/-- What a run in one order is made of. -/
theorem traj {r : Rec} {b : Array Nat} {l : List AOper} {order : List Nat} {fr : Fr} {h : Heap} {e : Ex} {fr' : Fr} {h' : Heap} (he : execDrw r (drwOf b l order) [] fr h = some (e, fr', h')) :
    ∃ N, N ≤ order.length ∧ (∀ q, q < N → stepOp r (opAt l order q) (tj r l order fr h q).1 (tj r l order fr h q).2 = some (.norm, (tj r l order fr h (q + 1)).1, (tj r l order fr h (q + 1)).2) ∧
        sameOp (opAt l order q) (tj r l order fr h q).1 (tj r l order fr h q).2 (snaps l order (fun y => (tj r l order fr h y).2) q) (isAt b l order q) = true) ∧
      ((e = .norm ∧ N = order.length ∧ (tj r l order fr h N).1 = fr' ∧ (tj r l order fr h N).2 = h') ∨
        ∃ v, e = .pan v ∧ N < order.length ∧ pfAt b order N = true ∧ stepOp r (opAt l order N) (tj r l order fr h N).1 (tj r l order fr h N).2 = some (.pan v, fr', h')) := by
  have key : ∀ m q, q + m = order.length → execDrw r ((drwOf b l order).drop q) (snaps l order (fun y => (tj r l order fr h y).2) q) (tj r l order fr h q).1 (tj r l order fr h q).2 = some (e, fr', h') →
      ∃ N, q ≤ N ∧ N ≤ order.length ∧ (∀ y, q ≤ y → y < N → stepOp r (opAt l order y) (tj r l order fr h y).1 (tj r l order fr h y).2 = some (.norm, (tj r l order fr h (y + 1)).1, (tj r l order fr h (y + 1)).2) ∧
        sameOp (opAt l order y) (tj r l order fr h y).1 (tj r l order fr h y).2 (snaps l order (fun y => (tj r l order fr h y).2) y) (isAt b l order y) = true) ∧
      ((e = .norm ∧ N = order.length ∧ (tj r l order fr h N).1 = fr' ∧ (tj r l order fr h N).2 = h') ∨
        ∃ v, e = .pan v ∧ N < order.length ∧ pfAt b order N = true ∧ stepOp r (opAt l order N) (tj r l order fr h N).1 (tj r l order fr h N).2 = some (.pan v, fr', h')) := by
    intro m
    induction m with
    | zero =>
      intro q hq hx
      rw [List.drop_eq_nil_of_le (by simp [drwOf]; omega)] at hx
      simp only [execDrw, Option.some.injEq, Prod.mk.injEq] at hx
      obtain ⟨rfl, h1, h2⟩ := hx
      exact ⟨q, Nat.le_refl _, by omega, fun y h3 h4 => by omega, .inl ⟨rfl, by omega, h1, h2⟩⟩
    | succ m ih =>
      intro q hq hx
      have hlt : q < (drwOf b l order).length := by simp [drwOf]; omega
      have hd : (drwOf b l order).drop q = (opAt l order q, isAt b l order q, pfAt b order q) :: (drwOf b l order).drop (q + 1) := by
        rw [List.drop_eq_getElem_cons hlt]
        congr 1
        simp [drwOf, opAt, isAt, pfAt]
      rw [hd] at hx
      simp only [execDrw] at hx
      split at hx
      case isFalse => cases hx
      rename_i hsame
      simp only [Option.bind_eq_some_iff] at hx
      obtain ⟨⟨e1, fr1, h1⟩, hs, hx⟩ := hx
      have htj : tj r l order fr h (q + 1) = (fr1, h1) := by simp only [tj, hs]
      cases e1 with
      | norm =>
        dsimp only at hx
        have hx' : execDrw r ((drwOf b l order).drop (q + 1)) (snaps l order (fun y => (tj r l order fr h y).2) (q + 1)) (tj r l order fr h (q + 1)).1 (tj r l order fr h (q + 1)).2 = some (e, fr', h') := by
          rw [snaps_succ, htj]; exact hx
        obtain ⟨N, g1, g2, g3, g4⟩ := ih (q + 1) (by omega) hx'
        refine ⟨N, by omega, g2, fun y h3 h4 => ?_, g4⟩
        by_cases hy : y = q
        · subst hy; exact ⟨by rw [htj]; exact hs, hsame⟩
        · exact g3 y (by omega) h4
      | pan v =>
        dsimp only at hx
        split at hx
        case isFalse => cases hx
        rename_i hpf
        simp only [Option.some.injEq, Prod.mk.injEq] at hx
        obtain ⟨rfl, rfl, rfl⟩ := hx
        exact ⟨q, Nat.le_refl _, by omega, fun y h3 h4 => by omega, .inr ⟨v, rfl, by omega, hpf, hs⟩⟩
      | exit id => cases hx
      | ret => cases hx
  obtain ⟨N, -, g2, g3, g4⟩ := key order.length 0 (by omega) (by simpa [snaps, tj] using he)
  exact ⟨N, g2, fun q hq => g3 q (Nat.zero_le _) hq, g4⟩

/-- The run in one order, bare. -/
structure Trj (P : Program) (r : Rec) (ops : Array Oper) (b : Array Nat) (l : List AOper) (order : List Nat) (N : Nat) (fs : Nat → Fr) (hs : Nat → Heap) : Prop where
  chk : DrwChk b ops l order
  comp : ∀ i o, ops[i]? = some o → compOper P ops o = some (l.getD i default)
  le : N ≤ ops.size
  step : ∀ q < N, stepOp r (opAt l order q) (fs q) (hs q) = some (.norm, fs (q + 1), hs (q + 1))
  same : ∀ q < N, sameOp (opAt l order q) (fs q) (hs q) (snaps l order hs q) (isAt b l order q) = true
  bt : ∀ q ≤ N, ∀ i, (get (fs q).t i).bel (hs q).length = true
  bh : ∀ q ≤ N, Closed (hs q)
  mono : ∀ q < N, (hs q).length ≤ (hs (q + 1)).length

section
variable {P : Program} {T : Tbl} {β0 β : Map} {r : Rec} {h : Heap} {w : World} {ops : Array Oper} {bf : Array Nat} {l : List AOper} {order : List Nat} {N : Nat} {fs : Nat → Fr} {hs : Nat → Heap}

/-- The machine could run so. -/
theorem ghost (hr : RecOk P T β0 r) (chk : DrwChk bf ops l order) (comp : ∀ i o, ops[i]? = some o → compOper P ops o = some (l.getD i default)) (le : N ≤ ops.size)
    (step : ∀ q < N, stepOp r (opAt l order q) (fs q) (hs q) = some (.norm, fs (q + 1), hs (q + 1)))
    {b : Frame} {a : Act} {cs0 cs : List Frame} (hd : ∀ (i : Nat) (o : Oper) d, ops[i]? = some o → o.dst = some d → d < a.tmps.size) (hh : HRel P (CRel P) β (hs 0) w) (ht : Tab P T β0 β (hs 0) w) (hF : FRel β b cs0 (fs 0) a cs) :
    ∀ q, q ≤ N → ∃ β' w' a' cs', HRel P (CRel P) β' (hs q) w' ∧ Tab P T β0 β' (hs q) w' ∧ FRel β' b cs0 (fs q) a' cs' ∧ a'.tmps.size = a.tmps.size ∧ ∀ y, y < q → (hs y).length ≤ (hs (y + 1)).length := by
  intro q
  induction q with
  | zero => intro _; exact ⟨β, w, a, cs, hh, ht, hF, rfl, fun y hy => by omega⟩
  | succ q ih =>
    intro hq
    obtain ⟨β1, w1, a1, cs1, g1, g2, g3, g4, g5⟩ := ih (by omega)
    have hlow := chk.low q (by simp; omega)
    have ho : ops[order.getD q 0]? = some ops[order.getD q 0] := Array.getElem?_eq_getElem hlow
    obtain ⟨β', w', a', cs', k1, k2, k3, k4, -, -⟩ := step_op' hr ho (comp _ _ ho) (step q (by omega)) (rest := []) (k := []) (fun d hdst => by rw [g4]; exact hd _ _ d ho hdst) g1 g2 g3
    refine ⟨β', w', a', cs', k1, g2.step k2, k3, by rw [k4, g4], fun y hy => ?_⟩
    by_cases hyq : y = q
    · subst hyq; exact k2.hsize
    · exact g5 y (by omega)

theorem Trj.of (hr : RecOk P T β0 r) (chk : DrwChk bf ops l order) (comp : ∀ i o, ops[i]? = some o → compOper P ops o = some (l.getD i default)) (le : N ≤ ops.size)
    (step : ∀ q < N, stepOp r (opAt l order q) (fs q) (hs q) = some (.norm, fs (q + 1), hs (q + 1)))
    (same : ∀ q < N, sameOp (opAt l order q) (fs q) (hs q) (snaps l order hs q) (isAt bf l order q) = true)
    {b : Frame} {a : Act} {cs0 cs : List Frame} (hd : ∀ (i : Nat) (o : Oper) d, ops[i]? = some o → o.dst = some d → d < a.tmps.size) (hh : HRel P (CRel P) β (hs 0) w) (ht : Tab P T β0 β (hs 0) w) (hF : FRel β b cs0 (fs 0) a cs) :
    Trj P r ops bf l order N fs hs := by
  have g := ghost hr chk comp le step hd hh ht hF
  refine ⟨chk, comp, le, step, same, fun q hq i => ?_, fun q hq => ?_, fun q hq => ?_⟩
  · obtain ⟨β', w', a', cs', k1, k2, k3, k4, k5⟩ := g q hq
    exact (k3.t i).bel fun b bi e => (k1.dom b bi e).1
  · obtain ⟨β', w', a', cs', k1, k2, k3, k4, k5⟩ := g q hq
    exact k1.closed k2.tot
  · obtain ⟨β', w', a', cs', k1, k2, k3, k4, k5⟩ := g (q + 1) (by omega)
    exact k5 q (by omega)

/-- The blocks that are made from an operation on, but by loud ones. -/
def futA (l : List AOper) (order : List Nat) (hs : Nat → Heap) : Nat → Nat → Heap
  | 0, _ => []
  | m + 1, q => (if loudAt l order q = true then List.replicate ((hs (q + 1)).length - (hs q).length) .dead else (hs (q + 1)).drop (hs q).length) ++ futA l order hs m (q + 1)

/-- A's memory at an operation, with the blocks to come. -/
def vir (l : List AOper) (order : List Nat) (hs : Nat → Heap) (N x : Nat) : Heap := hs x ++ futA l order hs (N - x) x

variable (tr : Trj P r ops bf l order N fs hs)
include tr

theorem Trj.len_le : ∀ {x q : Nat}, x ≤ q → q ≤ N → (hs x).length ≤ (hs q).length := by
  intro x q hx
  induction hx with
  | refl => intro _; exact Nat.le_refl _
  | step h ih => intro hq; exact Nat.le_trans (ih (by omega)) (tr.mono _ (by omega))

theorem Trj.quiet {q : Nat} (hq : q < N) (hl : loudAt l order q = false) : ∃ v F, fs (q + 1) = { fs q with t := put (fs q).t (opAt l order q).d v } ∧ hs (q + 1) = hs q ++ F ∧ Quiet (opAt l order q) (fs q).t (hs q) v F := by
  obtain ⟨v, F, -, h1, h2, h3⟩ := stepOp_quiet hl (tr.step q hq)
  exact ⟨v, F, h1, h2, h3⟩

theorem Trj.put {q : Nat} (hq : q < N) : ∃ v, (fs (q + 1)).t = put (fs q).t (opAt l order q).d v := by
  rcases stepOp_cong (t := (fs q).t) (fun i _ => rfl) (tr.step q hq) with ⟨-, v, h1, -⟩ | ⟨p, h1, -⟩
  · exact ⟨v, h1⟩
  · cases h1

theorem Trj.vir_quiet {q : Nat} (hq : q < N) (hl : loudAt l order q = false) : vir l order hs N q = vir l order hs N (q + 1) := by
  obtain ⟨v, F, h1, h2, h3⟩ := tr.quiet hq hl
  unfold vir
  rw [show N - q = (N - (q + 1)) + 1 by omega]
  simp only [futA, hl, Bool.false_eq_true, if_false]
  rw [← List.append_assoc, h2]
  simp

theorem Trj.vir_eq {x q : Nat} (hx : x ≤ q) : q ≤ N → (∀ y, x ≤ y → y < q → loudAt l order y = false) → vir l order hs N x = vir l order hs N q := by
  induction hx with
  | refl => intro _ _; rfl
  | @step m h ih =>
    intro hq hl
    rw [ih (by omega) fun y h1 h2 => hl y h1 (by omega)]
    exact tr.vir_quiet (by omega) (hl m h (by omega))

theorem Trj.vir_loud {q : Nat} (hq : q < N) (hl : loudAt l order q = true) : vir l order hs N q = hs q ++ List.replicate ((hs (q + 1)).length - (hs q).length) .dead ++ futA l order hs (N - (q + 1)) (q + 1) := by
  unfold vir
  rw [show N - q = (N - (q + 1)) + 1 by omega]
  simp only [futA, hl, if_true, List.append_assoc]

/-- Blocks to come are the same from an earlier point. -/
theorem Trj.vir_drop {x q : Nat} (hx : x ≤ q) : q ≤ N → (vir l order hs N x).drop (hs q).length = futA l order hs (N - q) q := by
  induction hx with
  | refl => intro _; unfold vir; simp
  | @step m h ih =>
    intro hq
    have h1 := ih (by omega)
    have h2 := tr.mono m (by omega)
    have h3 : (vir l order hs N x).drop (hs (m + 1)).length = ((vir l order hs N x).drop (hs m).length).drop ((hs (m + 1)).length - (hs m).length) := by
      rw [List.drop_drop]; congr 1; omega
    rw [h3, h1, show N - m = (N - (m + 1)) + 1 by omega]
    simp only [futA]
    rw [List.drop_append_of_le_length]
    · split
      · rw [List.drop_eq_nil_of_le (by simp)]; rfl
      · rw [List.drop_eq_nil_of_le (by simp)]; rfl
    · split
      · simp
      · simp

theorem Trj.vir_get {x q : Nat} (hx : x ≤ q) (hq : q ≤ N) {c : Nat} (hc : (hs q).length ≤ c) : (vir l order hs N x)[c]? = (futA l order hs (N - q) q)[c - (hs q).length]? := by
  rw [← tr.vir_drop hx hq, List.getElem?_drop]
  congr 1; omega

/-- d, u, behind quiet operations. -/
theorem Trj.du {x q : Nat} (hx : x ≤ q) : q ≤ N → (∀ y, x ≤ y → y < q → loudAt l order y = false) → (fs q).d = (fs x).d ∧ (fs q).u = (fs x).u := by
  induction hx with
  | refl => intro _ _; exact ⟨rfl, rfl⟩
  | @step m h ih =>
    intro hq hl
    obtain ⟨h1, h2⟩ := ih (by omega) fun y h1 h2 => hl y h1 (by omega)
    obtain ⟨v, F, h3, -, -⟩ := tr.quiet (q := m) (by omega) (hl m h (by omega))
    rw [h3]; exact ⟨h1, h2⟩

theorem Trj.uniq {y q : Nat} (hy : y < ops.size) (hq : q < ops.size) (hne : y ≠ q) {d : Nat} (hd : (opAt l order q).d = some d) : (opAt l order y).d ≠ some d := by
  have h1 := (tr.chk.tmp _ (by simpa using tr.chk.low q (by simpa using hq)) d hd).2 _ (by simpa using tr.chk.low y (by simpa using hy))
  rcases h1 with h1 | h1
  · exact absurd (tr.chk.inj y (by simpa using hy) q (by simpa using hq) h1) hne
  · exact h1.1

/-- A temporary that is written holds what was written. -/
theorem Trj.held {y q d : Nat} (hyq : y < q) (hd : (opAt l order y).d = some d) : q ≤ N → get (fs q).t d = get (fs (y + 1)).t d := by
  induction hyq with
  | refl => intro _; rfl
  | @step m h ih =>
    intro hq
    have hm : y < m := h
    obtain ⟨v, hv⟩ := tr.put (q := m) (by omega)
    rw [hv]
    have hne := tr.uniq (y := m) (q := y) (by have := tr.le; omega) (by have := tr.le; omega) (by omega) hd
    have : get (A.put (fs m).t (opAt l order m).d v) d = get (fs m).t d := by
      unfold A.put
      cases hx : (opAt l order m).d with
      | none => rfl
      | some d' =>
        rw [hx] at hne
        rw [get_cons, if_neg (fun e => hne (by rw [e]))]
    rw [this]
    exact ih (by omega)

theorem Trj.old {q d : Nat} : q ≤ N → (∀ y, y < q → (opAt l order y).d ≠ some d) → get (fs q).t d = get (fs 0).t d := by
  induction q with
  | zero => intro _ _; rfl
  | succ q ih =>
    intro hq hn
    obtain ⟨v, hv⟩ := tr.put (q := q) (by omega)
    rw [hv]
    have hne := hn q (by omega)
    have : get (A.put (fs q).t (opAt l order q).d v) d = get (fs q).t d := by
      unfold A.put
      cases hx : (opAt l order q).d with
      | none => rfl
      | some d' =>
        rw [hx] at hne
        rw [get_cons, if_neg (fun e => hne (by rw [e]))]
    rw [this]
    exact ih (by omega) fun y hy => hn y (by omega)

end
end Go.A

/- Regions whose order is open: any order does what the one order does. -/
set_option linter.unusedVariables false
set_option linter.unusedSimpArgs false
set_option linter.unusedSectionVars false
namespace Go.A

def ex (order : List Nat) (listed : Array Bool) (q : Nat) : Prop := listed.getD (order.getD q 0) false = true

theorem cut_le_cut {n : Nat} {γ γ' : Map} (h : γ.le γ') : (cut n γ).le (cut n γ') := fun b bi e => cut_of (cut_some e).1 (h _ _ (cut_some e).2)

theorem mem_take_getD {order : List Nat} {y q : Nat} (hy : y < q) (hl : y < order.length) : order.getD y 0 ∈ order.take q := by
  rw [List.getD_eq_getElem?_getD, List.getElem?_eq_getElem hl]
  exact List.mem_take_iff_getElem.2 ⟨y, by omega, rfl⟩

theorem take_pos {order : List Nat} {q : Nat} {j : Nat} (h : j ∈ order.take q) : ∃ y, y < q ∧ y < order.length ∧ order.getD y 0 = j := by
  obtain ⟨y, hy, e⟩ := List.mem_take_iff_getElem.1 h
  refine ⟨y, by omega, by omega, ?_⟩
  rw [List.getD_eq_getElem?_getD, List.getElem?_eq_getElem (by omega)]
  exact e

theorem mem_pos {order : List Nat} {j : Nat} (h : j ∈ order) : ∃ y, y < order.length ∧ order.getD y 0 = j := by
  obtain ⟨y, hy, e⟩ := List.mem_iff_getElem.1 h
  refine ⟨y, hy, ?_⟩
  rw [List.getD_eq_getElem?_getD, List.getElem?_eq_getElem hy]
  exact e

theorem cellsAt_mono {h F : Heap} {b : Nat} {cs : List V} (e : cellsAt h b = some cs) : cellsAt (h ++ F) b = some cs := by
  unfold cellsAt at *
  split at e
  · rename_i m cs' hb
    cases e
    rw [List.getElem?_append_left (List.getElem?_eq_some_iff.1 hb).1, hb]
  · cases e

theorem readN_mono {h F : Heap} {b o n : Nat} {cs : List V} (e : readN h b o n = some cs) : readN (h ++ F) b o n = some cs := by
  unfold readN at *
  simp only [Option.bind_eq_some_iff] at *
  obtain ⟨x, h1, h2⟩ := e
  exact ⟨x, cellsAt_mono h1, h2⟩

theorem ROp.mono {ρ : Rho} {h F : Heap} (q : ROp) {v : V} (e : q.ev ρ h = some v) : q.ev ρ (h ++ F) = some v := by
  cases q with
  | ld x =>
    simp only [ROp.ev] at *
    split at e
    · simp only [Option.bind_eq_some_iff] at *
      obtain ⟨cs, h1, h2⟩ := e
      exact ⟨cs, cellsAt_mono h1, h2⟩
    · cases e
  | ldN n x =>
    simp only [ROp.ev] at *
    split at e
    · simp only [Option.map_eq_some_iff] at *
      obtain ⟨cs, h1, h2⟩ := e
      exact ⟨cs, readN_mono h1, h2⟩
    · cases e
  | b2s x =>
    simp only [ROp.ev] at *
    split at e
    · exact e
    · simp only [Option.map_eq_some_iff, Option.bind_eq_some_iff] at *
      obtain ⟨l, ⟨cs, h1, h2⟩, h3⟩ := e
      exact ⟨l, ⟨cs, readN_mono h1, h2⟩, h3⟩
    · cases e

theorem same_spec {ρ : Rho} {q : ROp} {v : V} {sn : List Heap} : ∀ {is : List Nat}, same ρ q v sn is = true → ∀ i ∈ is, ∃ h, sn[i]? = some h ∧ q.ev ρ h = some v
  | [], _, i, hi => by cases hi
  | j :: is, h, i, hi => by
    simp only [same, Bool.and_eq_true] at h
    obtain ⟨h1, h2⟩ := h
    rcases List.mem_cons.1 hi with rfl | hi
    · split at h1
      · rename_i m hm
        split at h1
        · rename_i v' hv
          have := veq_eq _ _ h1
          subst this
          exact ⟨m, hm, hv⟩
        · cases h1
      · cases h1
    · exact same_spec h2 i hi

theorem keep_mem (t : Env) {l : List Nat} {i : Nat} (h : i ∈ l) : get (l.map fun j => (j, get t j)) i = get t i := by
  induction l with
  | nil => cases h
  | cons j l ih =>
    rw [List.map_cons, get_cons]
    split
    · rename_i e; subst e; rfl
    · rename_i e
      rcases List.mem_cons.1 h with h | h
      · exact absurd h.symm e
      · exact ih h

theorem keep_get' (t : Env) (l : List Nat) (i : Nat) : (i ∈ l ∧ get (l.map fun j => (j, get t j)) i = get t i) ∨ get (l.map fun j => (j, get t j)) i = .undef := by
  by_cases h : i ∈ l
  · exact .inl ⟨h, keep_mem t h⟩
  · right
    induction l with
    | nil => rfl
    | cons j l ih =>
      rw [List.map_cons, get_cons, if_neg (fun e => h (by rw [e]; simp))]
      exact ih fun hh => h (List.mem_cons_of_mem _ hh)

theorem get_put_self {t : Env} {o : Option Nat} {v : V} {d : Nat} (h : o = some d) : get (A.put t o v) d = v := by
  subst h; simp [A.put, get_cons]

theorem get_put_other {t : Env} {o : Option Nat} {v : V} {d : Nat} (h : o ≠ some d) : get (A.put t o v) d = get t d := by
  cases o with
  | none => rfl
  | some i => simp only [A.put]; rw [get_cons, if_neg (fun e => h (by rw [e]))]

/-- How far a region has come, in some order. -/
structure DI (P : Program) (b : Frame) (cs0 : List Frame) (β : Map) (w0 : World) (ops : Array Oper) (bf : Array Nat) (l : List AOper) (order : List Nat) (N n : Nat) (fs : Nat → Fr) (hs : Nat → Heap)
    (listed : Array Bool) (x : Nat) (γ : Map) (w : World) (a : Act) (cs : List Frame) (t : Env) : Prop where
  lsz : listed.size = ops.size
  xle : x ≤ N
  lx : ∀ q, q < ops.size → loudAt l order q = true → (ex order listed q ↔ q < x)
  lo : ∀ q, q < x → ex order listed q
  hi : ∀ q, N ≤ q → q < ops.size → ¬ ex order listed q
  dc : ∀ i j, i < ops.size → j < ops.size → listed.getD i false = true → pre bf i j = true → listed.getD j false = true
  rel : HRel P (CRel P) γ (vir l order hs N x) w
  stp : Stp0 β (hs 0) w0 γ (vir l order hs N x) w
  tot : ∀ (c : Nat) (blk : Blk), (vir l order hs N x)[c]? = some blk → blk.live = true → (∃ bi, γ c = some bi) ∨ ∃ q, q < N ∧ ¬ ex order listed q ∧ (hs q).length ≤ c ∧ c < (hs (q + 1)).length
  non : ∀ q, q < N → ¬ ex order listed q → ∀ c, (hs q).length ≤ c → c < (hs (q + 1)).length → γ c = none
  env : ERel γ t a.tmps
  tS : ∀ q, q < N → ex order listed q → ∀ d, (opAt l order q).d = some d → get t d = get (fs (q + 1)).t d
  t0 : ∀ d, (∀ q, q < N → ex order listed q → (opAt l order q).d ≠ some d) → get t d = get (fs 0).t d
  dr : DRel (cut (hs x).length γ) (fs x).d a.defers
  ur : UR (cut (hs x).length γ) b.kind b.roundOf cs0 (fs x).u cs
  sz : a.tmps.size = n

section
variable {P : Program} {T : Tbl} {β0 β : Map} {r : Rec} {w0 : World} {ops : Array Oper} {bf : Array Nat} {l : List AOper} {order : List Nat} {N n : Nat} {fs : Nat → Fr} {hs : Nat → Heap} {b : Frame} {cs0 : List Frame}
  {listed : Array Bool} {x : Nat} {γ : Map} {w : World} {a : Act} {cs : List Frame} {t : Env}

theorem DI.pres (tr : Trj P r ops bf l order N fs hs) (di : DI P b cs0 β w0 ops bf l order N n fs hs listed x γ w a cs t) {q : Nat} (hq : q < ops.size)
    (hedge : ∀ o, ops[order.getD q 0]? = some o → ∀ e ∈ o.after.toList, Region.binds .any e = true → listed.getD e.on false = true) :
    ∀ j, j < ops.size → pre bf (order.getD q 0) j = true → listed.getD j false = true := by
  intro j hj hp
  have hlow := tr.chk.low q (by simpa using hq)
  obtain ⟨o, ho, e, he, hb, h1⟩ := tr.chk.sound _ (by simpa using hlow) j (by simpa using hj) hp
  have h2 := hedge o ho e he hb
  rcases h1 with h1 | h1
  · rw [← h1]; exact h2
  · exact di.dc e.on j (tr.chk.edge _ (by simpa using hlow) o ho e he hb).1 hj h2 h1

/-- What an operation looks at is as in the one order. -/
theorem DI.looks (tr : Trj P r ops bf l order N fs hs) (di : DI P b cs0 β w0 ops bf l order N n fs hs listed x γ w a cs t) {q : Nat} (hqN : q ≤ N) (hq : q < ops.size) (hun : ¬ ex order listed q)
    (hpre : ∀ j, j < ops.size → pre bf (order.getD q 0) j = true → listed.getD j false = true) : ∀ d ∈ (opAt l order q).tms, get (fs q).t d = get t d := by
  intro d hd
  have hlen := tr.chk.len
  have hN := tr.le
  by_cases hw : ∃ y, y < ops.size ∧ (opAt l order y).d = some d
  · obtain ⟨y, hy, hyd⟩ := hw
    have hly := tr.chk.low y (by simpa using hy)
    have hlq := tr.chk.low q (by simpa using hq)
    obtain ⟨h1, h2⟩ := tr.chk.tmp _ (by simpa using hly) d hyd
    have hne : y ≠ q := fun e => by subst e; exact h1 hd
    rcases h2 _ (by simpa using hlq) with h3 | ⟨-, h3 | h3 | h3⟩
    · exact absurd (tr.chk.inj q (by simpa using hq) y (by simpa using hy) h3) (fun e => hne e.symm)
    · exact absurd hd h3
    · have hey : ex order listed y := hpre _ hly h3
      obtain ⟨y', k1, k2, k3⟩ := take_pos (tr.chk.resp q (by simpa using hq) _ (by simpa using hly) h3)
      have : y' = y := tr.chk.inj y' (by simp; omega) y (by simpa using hy) k3
      subst this
      rw [tr.held k1 hyd hqN, di.tS y' (by omega) hey d hyd]
    · have hny : ¬ ex order listed y := fun e => hun (di.dc _ _ hly hlq e h3)
      obtain ⟨y', k1, k2, k3⟩ := take_pos (tr.chk.resp y (by simpa using hy) _ (by simpa using hlq) h3)
      have : y' = q := tr.chk.inj y' (by simp; omega) q (by simpa using hq) k3
      subst this
      rw [tr.old hqN fun z hz => tr.uniq (by omega) hy (by omega) hyd, di.t0 d fun z hz hez => ?_]
      by_cases hzy : z = y
      · subst hzy; exact absurd hez hny
      · exact tr.uniq (by omega) hy hzy hyd
  · have hno : ∀ z, z < ops.size → (opAt l order z).d ≠ some d := fun z hz e => hw ⟨z, hz, e⟩
    rw [tr.old hqN fun z hz => hno z (by omega), di.t0 d fun z hz _ => hno z (by omega)]

theorem ex_set (tr : Trj P r ops bf l order N fs hs) (hsz : listed.size = ops.size) {q y : Nat} (hq : q < ops.size) (hy : y < ops.size) : ex order (listed.setIfInBounds (order.getD q 0) true) y ↔ ex order listed y ∨ y = q := by
  unfold ex
  have hlq := tr.chk.low q (by simpa using hq)
  by_cases h : order.getD q 0 = order.getD y 0
  · have : q = y := tr.chk.inj q (by simpa using hq) y (by simpa using hy) h
    subst this
    simp only [Array.getD_eq_getD_getElem?]
    rw [Array.getElem?_setIfInBounds_self_of_lt (by omega)]
    simp
  · rw [getD_set_ne false h]
    constructor
    · exact .inl
    · rintro (k | k)
      · exact k
      · exact absurd (by rw [k]) h

theorem dc_set (tr : Trj P r ops bf l order N fs hs) (hsz : listed.size = ops.size) {i : Nat}
    (dc : ∀ i j, i < ops.size → j < ops.size → listed.getD i false = true → pre bf i j = true → listed.getD j false = true) (hpre : ∀ j, j < ops.size → pre bf i j = true → listed.getD j false = true) :
    ∀ k j, k < ops.size → j < ops.size → (listed.setIfInBounds i true).getD k false = true → pre bf k j = true → (listed.setIfInBounds i true).getD j false = true := by
  intro k j hk hj h1 h2
  by_cases hik : i = k
  · subst hik; exact getD_set_true (hpre j hj h2)
  · rw [getD_set_ne false hik] at h1
    exact getD_set_true (dc k j hk hj h1 h2)

/-- One more operation. -/
theorem DI.go (hr : RecOk P T β0 r) (tr : Trj P r ops bf l order N fs hs) (di : DI P b cs0 β w0 ops bf l order N n fs hs listed x γ w a cs t) (ht : Tab P T β0 β (hs 0) w0)
    (hdst : ∀ (i : Nat) (o : Oper) d, ops[i]? = some o → o.dst = some d → d < n) {q : Nat} (hqN : q < N) (hun : ¬ ex order listed q)
    (hedge : ∀ o, ops[order.getD q 0]? = some o → ∀ e ∈ o.after.toList, Region.binds .any e = true → listed.getD e.on false = true) (rest : List Nat) (k : List Item) :
    ∃ x' γ' w' a' cs' t', DI P b cs0 β w0 ops bf l order N n fs hs (listed.setIfInBounds (order.getD q 0) true) x' γ' w' a' cs' t' ∧
      Steps P (lone (fat b a (.inRegion ops (order.getD q 0 :: rest) :: k)) cs w) (lone (fat b a' (.inRegion ops rest :: k)) cs' w') := by
  have hN := tr.le
  have hq : q < ops.size := by omega
  have hlen := tr.chk.len
  have hlow := tr.chk.low q (by simpa using hq)
  have hpre := di.pres tr hq hedge
  have hlooks := di.looks tr (by omega) hq hun hpre
  have hqx : x ≤ q := by
    rcases Nat.lt_or_ge q x with h | h
    · exact absurd (di.lo q h) hun
    · exact h
  have ho : ops[order.getD q 0]? = some ops[order.getD q 0] := Array.getElem?_eq_getElem hlow
  generalize hO : ops[order.getD q 0] = O at ho
  have hcomp : compOper P ops O = some (opAt l order q) := tr.comp _ _ ho
  have hd : (opAt l order q).d = O.dst := by
    unfold compOper at hcomp
    simp only [Option.bind_eq_some_iff, Option.map_eq_some_iff] at hcomp
    obtain ⟨_, _, _, _, e⟩ := hcomp
    rw [← e]
  have hdn : ∀ d, O.dst = some d → d < a.tmps.size := fun d h => by rw [di.sz]; exact hdst _ _ d ho h
  have hexs : ∀ {y}, y < ops.size → (ex order (listed.setIfInBounds (order.getD q 0) true) y ↔ ex order listed y ∨ y = q) := fun hy => ex_set tr di.lsz hq hy
  have hdc := dc_set tr di.lsz di.dc hpre
  -- what is common
  have tS' : ∀ v, (fs (q + 1)).t = put (fs q).t (opAt l order q).d v → ∀ y, y < N → ex order (listed.setIfInBounds (order.getD q 0) true) y → ∀ d, (opAt l order y).d = some d → get (put t (opAt l order q).d v) d = get (fs (y + 1)).t d := by
    intro v hv y hy hey d hyd
    by_cases hyq : y = q
    · subst hyq; rw [hv, get_put_self hyd, get_put_self hyd]
    · rw [get_put_other (tr.uniq hq (by omega) (fun e => hyq e.symm) hyd)]
      exact di.tS y hy (((hexs (by omega)).1 hey).resolve_right hyq) d hyd
  have t0' : ∀ v, ∀ d, (∀ y, y < N → ex order (listed.setIfInBounds (order.getD q 0) true) y → (opAt l order y).d ≠ some d) → get (put t (opAt l order q).d v) d = get (fs 0).t d := by
    intro v d hn
    rw [get_put_other (hn q hqN ((hexs hq).2 (.inr rfl)))]
    exact di.t0 d fun y hy hey => hn y hy ((hexs (by omega)).2 (.inl hey))
  have hi' : ∀ y, N ≤ y → y < ops.size → ¬ ex order (listed.setIfInBounds (order.getD q 0) true) y := by
    intro y h1 h2 h3
    rcases (hexs h2).1 h3 with h4 | h4
    · exact di.hi y h1 h2 h4
    · omega
  have lsz' : (listed.setIfInBounds (order.getD q 0) true).size = ops.size := by simpa using di.lsz
  cases hl : loudAt l order q with
  | false =>
    obtain ⟨v, F, hfs, hhs, hQ⟩ := tr.quiet hqN hl
    have hfst : (fs (q + 1)).t = put (fs q).t (opAt l order q).d v := by rw [hfs]
    have lx' : ∀ y, y < ops.size → loudAt l order y = true → (ex order (listed.setIfInBounds (order.getD q 0) true) y ↔ y < x) := by
      intro y hy hly
      rw [hexs hy]
      constructor
      · rintro (h | h)
        · exact (di.lx y hy hly).1 h
        · subst h; rw [hl] at hly; cases hly
      · intro h; exact .inl (di.lo y h)
    have lo' : ∀ y, y < x → ex order (listed.setIfInBounds (order.getD q 0) true) y := fun y hy => (hexs (by have := di.xle; omega)).2 (.inl (di.lo y hy))
    have hρ : ∀ x y, opd x = some y → VRel γ (Opd.ev t y) (a.eval x) := fun x y e => opd_rel di.env e
    have hw := wanted_cong hlooks
    have hos := os_cong hlooks
    have plain : ∀ (v' : Value), VRel γ v v' → F = [] → DI P b cs0 β w0 ops bf l order N n fs hs (listed.setIfInBounds (order.getD q 0) true) x γ w (a.put O.dst v') cs (put t (opAt l order q).d v) := by
      intro v' hv hF
      have hsame : (hs (q + 1)).length = (hs q).length := by rw [hhs, hF]; simp
      refine ⟨lsz', di.xle, lx', lo', hi', hdc, di.rel, di.stp, fun c blk e1 e2 => ?_, fun y hy hey c h1 h2 => di.non y hy (fun h => hey ((hexs (by omega)).2 (.inl h))) c h1 h2, ?_, tS' v hfst, t0' v, ?_, di.ur, by rw [put_size]; exact di.sz⟩
      · rcases di.tot c blk e1 e2 with h | ⟨y, h1, h2, h3, h4⟩
        · exact .inl h
        · refine .inr ⟨y, h1, fun h => ?_, h3, h4⟩
          rcases (hexs (by omega)).1 h with h | h
          · exact h2 h
          · subst h; omega
      · rw [hd]; exact di.env.put' hv hdn
      · rw [put_defers]; exact di.dr
    rcases hQ with ⟨hwf, hv, hF⟩ | ⟨hwt, ⟨qo, hqo, hv, hF⟩ | ⟨qo, hqo, hv, hF⟩ | ⟨qo, blk, vf, hqo, hv, hvv, hF⟩⟩
    · -- not wanted
      rw [hw] at hwf
      obtain ⟨g, hg, hgd⟩ : ∃ g, compG ops O.guard = some g ∧ (opAt l order q).g = g := by
        unfold compOper at hcomp
        simp only [Option.bind_eq_some_iff, Option.map_eq_some_iff] at hcomp
        obtain ⟨_, _, g, hg, e⟩ := hcomp
        exact ⟨g, hg, by rw [← e]⟩
      rw [hgd] at hwf
      have hwant := wanted_ok di.env hg hwf
      have hstep := fstep_op_skip (P := P) (b := b) (a := a) (k := k) (cs := cs) (w := w) (ops := ops) (i := order.getD q 0) (rest := rest) (by rw [ho]; simpa using hwant)
      rw [ho] at hstep
      exact ⟨x, γ, w, a.put O.dst undef, cs, _, plain undef (by rw [hv]; exact skip_rel) hF, .one hstep⟩
    · -- operands alone
      obtain ⟨g, hg, hgd, hop⟩ : ∃ g, compG ops O.guard = some g ∧ (opAt l order q).g = g ∧ compOp P O.op = some (.p qo) := by
        unfold compOper at hcomp
        simp only [Option.bind_eq_some_iff, Option.map_eq_some_iff] at hcomp
        obtain ⟨y, hy, g, hg, e⟩ := hcomp
        exact ⟨g, hg, by rw [← e], by rw [hy, ← hqo, ← e]⟩
      rw [hw, hgd] at hwt
      have hwant := wanted_ok di.env hg hwt
      rw [hqo] at hos
      rw [POp.cong qo hos] at hv
      rcases compOp_inv hop with ⟨q', e', hc⟩ | ⟨q', e', hc⟩ | ⟨q', e', hc⟩ | ⟨q', e', hc⟩ | hc
      · cases e'
        have hnd := notDefer (.inl ⟨qo, hc⟩)
        have hgv : Gives P γ a.eval O.op v := by
          rcases hc with hc | hc
          · exact gives_P hρ hc hv
          · exact gives_S hρ hc hv
        obtain ⟨v', hrun, hvr⟩ := hgv O rfl w
        exact ⟨x, γ, w, _, cs, _, plain v' hvr hF, .one (fstep_value ho hwant (.inr hnd) hrun)⟩
      · cases e'
      · cases e'
      · cases e'
      · rcases compX_inv hc with ⟨_, _, _, _, _, _, _, _, e'⟩ | ⟨_, _, _, _, _, _, _, _, e'⟩ | ⟨_, _, _, _, e'⟩ | ⟨_, _, _, e'⟩ <;> cases e'
    · -- memory is read
      obtain ⟨g, hg, hgd, hop⟩ : ∃ g, compG ops O.guard = some g ∧ (opAt l order q).g = g ∧ compOp P O.op = some (.r qo) := by
        unfold compOper at hcomp
        simp only [Option.bind_eq_some_iff, Option.map_eq_some_iff] at hcomp
        obtain ⟨y, hy, g, hg, e⟩ := hcomp
        exact ⟨g, hg, by rw [← e], by rw [hy, ← hqo, ← e]⟩
      have hread : qo.ev (Opd.ev (fs q).t) (vir l order hs N x) = some v := by
        by_cases hno : ∀ y, x ≤ y → y < q → loudAt l order y = false
        · rw [tr.vir_eq hqx (by omega) hno]
          exact qo.mono hv
        · -- the first loud one that is still to come
          have hfirst : ∃ y, x ≤ y ∧ y < q ∧ loudAt l order y = true ∧ ∀ z, x ≤ z → z < y → loudAt l order z = false := by
            have : ∀ m y, y < x + m → x ≤ y → y < q → loudAt l order y = true → ∃ y, x ≤ y ∧ y < q ∧ loudAt l order y = true ∧ ∀ z, x ≤ z → z < y → loudAt l order z = false := by
              intro m
              induction m with
              | zero => intro y h1 h2; omega
              | succ m ih =>
                intro y h1 h2 h3 h4
                by_cases hz : ∃ z, x ≤ z ∧ z < y ∧ loudAt l order z = true
                · obtain ⟨z, z1, z2, z3⟩ := hz
                  exact ih z (by omega) z1 (by omega) z3
                · refine ⟨y, h2, h3, h4, fun z z1 z2 => ?_⟩
                  cases hzz : loudAt l order z with
                  | false => rfl
                  | true => exact absurd ⟨z, z1, z2, hzz⟩ hz
            have hex : ∃ y, x ≤ y ∧ y < q ∧ loudAt l order y = true := by
              apply Classical.byContradiction
              intro hcon
              exact hno fun y h1 h2 => by
                cases hyy : loudAt l order y with
                | false => rfl
                | true => exact absurd ⟨y, h1, h2, hyy⟩ hcon
            obtain ⟨y, y1, y2, y3⟩ := hex
            exact this (y + 1 - x) y (by omega) y1 y2 y3
          obtain ⟨y, y1, y2, y3, y4⟩ := hfirst
          rw [tr.vir_eq y1 (by omega) y4]
          refine qo.mono ?_
          have hny : ¬ ex order listed y := fun h => by have := (di.lx y (by omega) y3).1 h; omega
          have hnp : pre bf (order.getD q 0) (order.getD y 0) = false := by
            cases hp : pre bf (order.getD q 0) (order.getD y 0) with
            | false => rfl
            | true => exact absurd (hpre _ (tr.chk.low y (by simp; omega)) hp) hny
          have hsm := tr.same q hqN
          simp only [sameOp, hwt, hqo, hv] at hsm
          have hmem : y ∈ (List.range q).filter (loudAt l order) := List.mem_filter.2 ⟨by simpa using y2, y3⟩
          obtain ⟨c, hc, hce⟩ := List.mem_iff_getElem.1 hmem
          have hci : c ∈ isAt bf l order q := by
            unfold isAt
            refine List.mem_filterMap.2 ⟨(y, c), ?_, by simp only [hnp]; rfl⟩
            rw [List.mem_iff_getElem?]
            exact ⟨c, by rw [List.getElem?_zipIdx, List.getElem?_eq_getElem hc, hce]; simp⟩
          obtain ⟨m, h1, h2⟩ := same_spec hsm c hci
          have h3 : (snaps l order hs q)[c]? = some (hs y) := by
            unfold snaps
            rw [List.getElem?_map, List.getElem?_eq_getElem hc, hce]; rfl
          rw [h3] at h1
          cases h1
          exact h2
      rw [hw, hgd] at hwt
      have hwant := wanted_ok di.env hg hwt
      rw [hqo] at hos
      rw [ROp.cong qo _ hos] at hread
      rcases compOp_inv hop with ⟨q', e', hc⟩ | ⟨q', e', hc⟩ | ⟨q', e', hc⟩ | ⟨q', e', hc⟩ | hc
      · cases e'
      · cases e'
        have hnd := notDefer (P := P) (op := O.op) (.inr (.inl ⟨qo, hc⟩))
        obtain ⟨v', hrun, hvr⟩ := gives_R di.rel hρ hc hread O rfl
        exact ⟨x, γ, w, _, cs, _, plain v' hvr hF, .one (fstep_value ho hwant (.inr hnd) hrun)⟩
      · cases e'
      · cases e'
      · rcases compX_inv hc with ⟨_, _, _, _, _, _, _, _, e'⟩ | ⟨_, _, _, _, _, _, _, _, e'⟩ | ⟨_, _, _, _, e'⟩ | ⟨_, _, _, e'⟩ <;> cases e'
    · -- a block is made
      obtain ⟨g, hg, hgd, hop⟩ : ∃ g, compG ops O.guard = some g ∧ (opAt l order q).g = g ∧ compOp P O.op = some (.n qo) := by
        unfold compOper at hcomp
        simp only [Option.bind_eq_some_iff, Option.map_eq_some_iff] at hcomp
        obtain ⟨y, hy, g, hg, e⟩ := hcomp
        exact ⟨g, hg, by rw [← e], by rw [hy, ← hqo, ← e]⟩
      rw [hw, hgd] at hwt
      have hwant := wanted_ok di.env hg hwt
      rw [hqo] at hos
      rw [NOp.cong qo hos] at hv
      have hl1 : (hs (q + 1)).length = (hs q).length + 1 := by rw [hhs, hF]; simp
      have hnone : γ (hs q).length = none := di.non q hqN hun _ (Nat.le_refl _) (by omega)
      have hblk : (vir l order hs N x)[(hs q).length]? = some blk := by
        rw [tr.vir_get hqx (by omega) (Nat.le_refl _), Nat.sub_self, show N - q = (N - (q + 1)) + 1 by omega]
        simp only [futA, hl, Bool.false_eq_true, if_false]
        rw [hhs, hF]
        simp
      rcases compOp_inv hop with ⟨q', e', hc⟩ | ⟨q', e', hc⟩ | ⟨q', e', hc⟩ | ⟨q', e', hc⟩ | hc
      · cases e'
      · cases e'
      · cases e'
        have hnd := notDefer (P := P) (op := O.op) (.inr (.inr (.inl ⟨qo, hc⟩)))
        obtain ⟨v', w', obj, md, csz, hrun, hpush, hall⟩ := gives_N (CR := CRel P) hρ hc hv O rfl w
        obtain ⟨hb, hvr⟩ := hall (hs q).length hnone
        have hle : γ.le (upd γ (hs q).length ⟨w.heap.size, 0, md, csz⟩) := upd_le hnone
        refine ⟨x, _, w', a.put O.dst v', cs, put t (opAt l order q).d v, ⟨lsz', di.xle, lx', lo', hi', hdc, di.rel.pushAt hpush hblk hnone hb, di.stp.pushAt hpush (tr.len_le (Nat.zero_le q) (by omega)) hnone, ?_, ?_, ?_, tS' v hfst, t0' v, ?_, di.ur.mono (cut_le_cut hle), by rw [put_size]; exact di.sz⟩,
          .one (fstep_value ho hwant (.inr hnd) hrun)⟩
        · intro c blk' e1 e2
          by_cases hcc : c = (hs q).length
          · exact .inl ⟨_, by rw [hcc]; exact upd_self _ _⟩
          · rcases di.tot c blk' e1 e2 with ⟨bi, h⟩ | ⟨y, h1, h2, h3, h4⟩
            · exact .inl ⟨bi, hle _ _ h⟩
            · refine .inr ⟨y, h1, fun h => ?_, h3, h4⟩
              rcases (hexs (by omega)).1 h with h | h
              · exact h2 h
              · subst h; omega
        · intro y hy hey c h1 h2
          have hyq : y ≠ q := fun e => hey ((hexs (by omega)).2 (.inr e))
          have hcc : c ≠ (hs q).length := by
            rcases Nat.lt_or_gt_of_ne hyq with h | h
            · have := tr.len_le (x := y + 1) (q := q) (by omega) (by omega); omega
            · have := tr.len_le (x := q + 1) (q := y) (by omega) (by omega); omega
          unfold upd
          rw [if_neg hcc]
          exact di.non y hy (fun h => hey ((hexs (by omega)).2 (.inl h))) c h1 h2
        · rw [hd]
          exact (ERel.mono hle di.env).put' (by rw [hvv]; exact hvr) hdn
        · rw [put_defers]; exact di.dr.mono (cut_le_cut hle)
      · cases e'
      · rcases compX_inv hc with ⟨_, _, _, _, _, _, _, _, e'⟩ | ⟨_, _, _, _, _, _, _, _, e'⟩ | ⟨_, _, _, _, e'⟩ | ⟨_, _, _, e'⟩ <;> cases e'
  | true =>
    have hearly : ∀ y, y < q → ex order listed y := fun y hy => hpre _ (tr.chk.low y (by simp; omega)) (tr.chk.loud q (by simpa using hq) hl _ (mem_take_getD hy (by omega)))
    have hno : ∀ y, x ≤ y → y < q → loudAt l order y = false := by
      intro y h1 h2
      cases hyy : loudAt l order y with
      | false => rfl
      | true => have := (di.lx y (by omega) hyy).1 (hearly y h2); omega
    have hvir := tr.vir_eq hqx (by omega) hno
    obtain ⟨hdd, huu⟩ := tr.du hqx (by omega) hno
    have hvl := tr.vir_loud hqN hl
    have hrel := di.rel
    have hstp := di.stp
    have htot := di.tot
    rw [hvir] at hrel hstp htot
    have hxq := tr.len_le hqx (by omega)
    have h0q := tr.len_le (Nat.zero_le q) (by omega)
    have hcutR : HRel P (CRel P) (A.cut (hs q).length γ) (hs q) w := HRel.cut (F := futA l order hs (N - q) q) hrel (tr.bh q (by omega))
    have wr_up : ∀ {B}, Wr (A.cut (hs q).length γ) (hs q) B → Wr γ (vir l order hs N q) B := by
      rintro B ⟨c, ci, ck, e1, e2, e3, e4⟩
      obtain ⟨k1, k2⟩ := cut_some e1
      exact ⟨c, ci, ck, k2, by unfold vir; rw [List.getElem?_append_left k1]; exact e2, e3, e4⟩
    have htotc : Tot (A.cut (hs q).length γ) (hs q) := by
      intro c blk e1 e2
      have hc := (List.getElem?_eq_some_iff.1 e1).1
      rcases htot c blk (by unfold vir; rw [List.getElem?_append_left hc]; exact e1) e2 with ⟨bi, h⟩ | ⟨y, h1, h2, h3, h4⟩
      · exact ⟨bi, cut_of hc h⟩
      · rcases Nat.lt_or_ge y q with h | h
        · exact absurd (hearly y h) h2
        · have := tr.len_le h (by omega); omega
    have htab : Tab P T β0 (A.cut (hs q).length γ) (hs q) w := by
      refine ⟨ht.rel.still hstp.size fun b bi blk e1 _ _ => hstp.keep _ (ht.rel.dom _ _ e1).2 (ht.nowr _ _ e1), fun c bi e => ?_, fun c bi e hwr => ?_, Nat.le_trans ht.le h0q, fun c bi hc e => ?_, ht.ro, htotc, ht.tot0⟩
      · have := (ht.rel.dom _ _ e).1
        have := ht.le
        exact cut_of (by omega) (hstp.ext _ _ (ht.ext _ _ e))
      · rcases hstp.img _ (wr_up hwr) with h | h
        · exact ht.nowr _ _ e h
        · have := (ht.rel.dom _ _ e).2; omega
      · exact ht.same c bi hc (hstp.old c bi (Nat.lt_of_lt_of_le hc ht.le) (cut_some e).2)
    generalize ht2 : ((opAt l order q).tms.map fun i => (i, get (fs q).t i)) = t2
    have hFR : FRel (A.cut (hs q).length γ) b cs0 { fs q with t := t2 } a cs := by
      refine ⟨fun i => ?_, ?_, ?_⟩
      · rw [← ht2]
        rcases keep_get' (fs q).t (opAt l order q).tms i with ⟨h1, h2⟩ | h2
        · show VRel _ (get ((opAt l order q).tms.map fun i => (i, get (fs q).t i)) i) _
          rw [h2]
          have h3 := di.env i
          rw [← hlooks i h1] at h3
          exact h3.narrow (n := (hs q).length) (fun b bi hb e => cut_of hb e) (tr.bt q (by omega) i)
        · show VRel _ (get ((opAt l order q).tms.map fun i => (i, get (fs q).t i)) i) _
          rw [h2]; exact .undef _
      · show DRel _ (fs q).d _
        rw [hdd]; exact di.dr.mono (cut_mono hxq γ)
      · show UR _ _ _ _ (fs q).u _
        rw [huu]; exact di.ur.mono (cut_mono hxq γ)
    rcases stepOp_cong (t := t2) (fun i hi => by rw [← ht2]; exact (keep_mem _ hi).symm) (tr.step q hqN) with ⟨-, v, hfst, hs2⟩ | ⟨p, hp, -⟩
    case inr => cases hp
    obtain ⟨β', w', a', cs', k1, k2, k3, k4, k5, k6⟩ := step_op' hr ho hcomp hs2 (rest := rest) (k := k) hdn hcutR htab hFR
    rw [hvl] at hrel hstp
    obtain ⟨j1, j2, j3, j4⟩ := HRel.join (h := hs 0) (β := β) (w0 := w0) hrel (by simp; have := tr.mono q hqN; omega) (fun c h1 h2 => di.non q hqN hun c h1 h2) k1 k2
    have j4 := j4 h0q hstp
    generalize hγ : (fun c => if c < (hs (q + 1)).length then β' c else γ c : Map) = γ' at j1 j2 j3 j4
    have hbig : ∀ c, (hs (q + 1)).length ≤ c → γ' c = γ c := fun c hc => by rw [← hγ]; simp only [show ¬ c < (hs (q + 1)).length by omega, if_false]
    refine ⟨q + 1, γ', w', a', cs', put t (opAt l order q).d v, ⟨lsz', by omega, ?_, ?_, hi', hdc, j1, j4, ?_, ?_, ?_, tS' v hfst, t0' v, ?_, ?_, by rw [k4]; exact di.sz⟩, k5⟩
    · intro y hy hly
      rw [hexs hy]
      constructor
      · rintro (h | h)
        · have := (di.lx y hy hly).1 h; omega
        · omega
      · intro h
        by_cases hyq : y = q
        · exact .inr hyq
        · exact .inl (hearly y (by omega))
    · intro y hy
      refine (hexs (by omega)).2 ?_
      by_cases hyq : y = q
      · exact .inr hyq
      · exact .inl (hearly y (by omega))
    · intro c blk e1 e2
      by_cases hc : c < (hs (q + 1)).length
      · unfold vir at e1
        rw [List.getElem?_append_left hc] at e1
        obtain ⟨bi, h⟩ := k2.tot htotc c blk e1 e2
        exact .inl ⟨bi, j3 _ _ h⟩
      · have e3 : (vir l order hs N q)[c]? = some blk := by
          rw [tr.vir_get (x := q) (q := q + 1) (by omega) (by omega) (by omega), ← e1, tr.vir_get (x := q + 1) (q := q + 1) (by omega) (by omega) (by omega)]
        rcases htot c blk e3 e2 with ⟨bi, h⟩ | ⟨y, h1, h2, h3, h4⟩
        · exact .inl ⟨bi, j2 _ _ h⟩
        · refine .inr ⟨y, h1, fun h => ?_, h3, h4⟩
          rcases (hexs (by omega)).1 h with h | h
          · exact h2 h
          · subst h; omega
    · intro y hy hey c h1 h2
      have hny : ¬ ex order listed y := fun h => hey ((hexs (by omega)).2 (.inl h))
      have hyq : q < y := by
        rcases Nat.lt_trichotomy y q with h | h | h
        · exact absurd (hearly y h) hny
        · exact absurd ((hexs (by omega)).2 (.inr h)) hey
        · exact h
      have := tr.len_le (x := q + 1) (q := y) (by omega) (by omega)
      rw [hbig c (by omega)]
      exact di.non y hy hny c h1 h2
    · intro i
      by_cases hid : (opAt l order q).d = some i
      · rw [get_put_self hid]
        have := k3.t i
        rw [show ({ fs (q + 1) with t := put t2 (opAt l order q).d v } : Fr).t = put t2 (opAt l order q).d v from rfl, get_put_self hid] at this
        exact this.mono j3
      · rw [get_put_other hid, k6 i (by rw [← hd]; exact hid)]
        exact (di.env i).mono j2
    · exact k3.d.mono fun c bi e => cut_of (k1.dom _ _ e).1 (j3 _ _ e)
    · exact k3.u.mono fun c bi e => cut_of (k1.dom _ _ e).1 (j3 _ _ e)

end
end Go.A

/- Regions whose order is open, and the whole: what A computes is what the machine computes. -/
set_option linter.unusedVariables false
set_option linter.unusedSimpArgs false
set_option linter.unusedSectionVars false
namespace Go.A

theorem countP_lt {p p' : Nat → Bool} : ∀ {l : List Nat}, (∀ i ∈ l, p' i = true → p i = true) → (∃ i ∈ l, p i = true ∧ p' i = false) → l.countP p' < l.countP p
  | [], _, ⟨i, hi, _⟩ => by cases hi
  | j :: l, h, ⟨i, hi, h1, h2⟩ => by
    have hle : ∀ (m : List Nat), (∀ i ∈ m, p' i = true → p i = true) → m.countP p' ≤ m.countP p := by
      intro m
      induction m with
      | nil => intro _; exact Nat.le_refl _
      | cons x m ih =>
        intro hm
        have := ih fun i hi => hm i (List.mem_cons_of_mem _ hi)
        have hx := hm x (by simp)
        simp only [List.countP_cons]
        cases hp' : p' x <;> cases hp : p x <;> simp_all
        omega
    simp only [List.countP_cons]
    rcases List.mem_cons.1 hi with rfl | hi
    · have := hle l fun i hi => h i (List.mem_cons_of_mem _ hi)
      rw [h1, h2]
      simp
      omega
    · have := countP_lt (l := l) (fun i hi => h i (List.mem_cons_of_mem _ hi)) ⟨i, hi, h1, h2⟩
      have hx := h j (by simp)
      cases hp' : p' j <;> cases hp : p j <;> simp_all
      omega

def unl (n : Nat) (listed : Array Bool) : Nat := (List.range n).countP fun i => !listed.getD i true

theorem getD_flip {listed : Array Bool} {i : Nat} (h : listed.getD i true = false) : ¬ listed.getD i false = true := by
  rw [Array.getD_eq_getD_getElem?] at *
  cases hx : listed[i]? with
  | none => rw [hx] at h; cases h
  | some v => rw [hx] at h; simp at h; simp [h]

theorem getD_flip' {listed : Array Bool} {i : Nat} (hi : i < listed.size) (h : ¬ listed.getD i false = true) : listed.getD i true = false := by
  rw [Array.getD_eq_getD_getElem?] at *
  rw [Array.getElem?_eq_getElem hi] at *
  simpa using h

theorem unl_set {n : Nat} {listed : Array Bool} {i : Nat} (hi : i < n) (h : listed.getD i true = false) : unl n (listed.setIfInBounds i true) < unl n listed := by
  refine countP_lt (fun j hj h1 => ?_) ⟨i, by simpa using hi, by simp [h], ?_⟩
  · by_cases hij : i = j
    · subst hij; simp [h]
    · rw [getD_set_ne true hij] at h1; exact h1
  · have hlt : i < listed.size := by
      rcases Nat.lt_or_ge i listed.size with h' | h'
      · exact h'
      · rw [Array.getD_eq_getD_getElem?, Array.getElem?_eq_none h'] at h; cases h
    rw [Array.getD_eq_getD_getElem?, Array.getElem?_setIfInBounds_self_of_lt hlt]; rfl

section
variable {P : Program} {T : Tbl} {β0 β : Map} {r : Rec} {w0 : World} {ops : Array Oper} {bf : Array Nat} {l : List AOper} {order : List Nat} {N n : Nat} {fs : Nat → Fr} {hs : Nat → Heap} {b : Frame} {cs0 : List Frame}
  {listed : Array Bool} {x : Nat} {γ : Map} {w : World} {a : Act} {cs : List Frame} {t : Env}

theorem DI.atEnd (tr : Trj P r ops bf l order N fs hs) (di : DI P b cs0 β w0 ops bf l order N n fs hs listed x γ w a cs t) (hall : ∀ y, y < N → ex order listed y) :
    HRel P (CRel P) γ (hs N) w ∧ Stp β (hs 0) w0 γ (hs N) w ∧ FRel γ b cs0 (fs N) a cs := by
  have hN := tr.le
  have hno : ∀ y, x ≤ y → y < N → loudAt l order y = false := by
    intro y h1 h2
    cases hyy : loudAt l order y with
    | false => rfl
    | true => have := (di.lx y (by omega) hyy).1 (hall y h2); omega
  have hvir : vir l order hs N x = hs N := by
    rw [tr.vir_eq di.xle (Nat.le_refl _) hno]
    unfold vir
    rw [Nat.sub_self]
    simp [futA]
  obtain ⟨hd, hu⟩ := tr.du di.xle (Nat.le_refl _) hno
  have hrel := di.rel
  have hstp := di.stp
  have htot := di.tot
  rw [hvir] at hrel hstp htot
  refine ⟨hrel, ⟨hstp, fun _ c blk e1 e2 => ?_⟩, ⟨fun i => ?_, ?_, ?_⟩⟩
  · rcases htot c blk e1 e2 with h | ⟨y, h1, h2, -⟩
    · exact h
    · exact absurd (hall y h1) h2
  · have heq : get (fs N).t i = get t i := by
      by_cases hw : ∃ y, y < N ∧ (opAt l order y).d = some i
      · obtain ⟨y, hy, hyd⟩ := hw
        rw [tr.held hy hyd (Nat.le_refl _), di.tS y hy (hall y hy) i hyd]
      · rw [tr.old (Nat.le_refl _) fun y hy e => hw ⟨y, hy, e⟩, di.t0 i fun y hy _ e => hw ⟨y, hy, e⟩]
    rw [heq]
    exact di.env i
  · rw [hd]; exact di.dr.mono (cut_le _ _)
  · rw [hu]; exact di.ur.mono (cut_le _ _)

theorem DI.pan (hr : RecOk P T β0 r) (tr : Trj P r ops bf l order N fs hs) (di : DI P b cs0 β w0 ops bf l order N n fs hs listed x γ w a cs t) (ht : Tab P T β0 β (hs 0) w0)
    (hdst : ∀ (i : Nat) (o : Oper) d, ops[i]? = some o → o.dst = some d → d < n) (hNn : N < ops.size) {v : V} {fr' : Fr} {h' : Heap} (hst : stepOp r (opAt l order N) (fs N) (hs N) = some (.pan v, fr', h'))
    (hedge : ∀ o, ops[order.getD N 0]? = some o → ∀ e ∈ o.after.toList, Region.binds .any e = true → listed.getD e.on false = true) (rest : List Nat) (k : List Item) :
    Goes P β (hs 0) w0 b cs0 n (lone (fat b a (.inRegion ops (order.getD N 0 :: rest) :: k)) cs w) k (.pan v) fr' h' := by
  have hpre := di.pres tr hNn hedge
  have hlen := tr.chk.len
  have hl : loudAt l order N = true := by
    cases h : loudAt l order N with
    | true => rfl
    | false => obtain ⟨_, _, e, _⟩ := stepOp_quiet h hst; cases e
  have hearly : ∀ y, y < N → ex order listed y := fun y hy => hpre _ (tr.chk.low y (by simp; omega)) (tr.chk.loud N (by simpa using hNn) hl _ (mem_take_getD hy (by omega)))
  obtain ⟨h1, h2, h3⟩ := di.atEnd tr hearly
  have hlow := tr.chk.low N (by simpa using hNn)
  have ho : ops[order.getD N 0]? = some ops[order.getD N 0] := Array.getElem?_eq_getElem hlow
  have g := step_op hr ho (tr.comp _ _ ho) hst (rest := rest) (k := k) (fun d h => by rw [di.sz]; exact hdst _ _ d ho h) h1 (ht.step h2) h3
  rw [di.sz] at g
  obtain ⟨β', w', a', cs', g1, g2, g3, g4, g5⟩ := g
  exact Goes.pass ⟨β', w', a', cs', g1, h2.trans g2, g3, g4, g5⟩ (by simp) (fun id e => by cases e)

theorem DI.run (hr : RecOk P T β0 r) (tr : Trj P r ops bf l order N fs hs) (ht : Tab P T β0 β (hs 0) w0) (hdst : ∀ (i : Nat) (o : Oper) d, ops[i]? = some o → o.dst = some d → d < n) {e : Ex} {fr' : Fr} {h' : Heap}
    (hend : (e = .norm ∧ N = order.length ∧ fs N = fr' ∧ hs N = h') ∨ ∃ v, e = .pan v ∧ N < order.length ∧ pfAt bf order N = true ∧ stepOp r (opAt l order N) (fs N) (hs N) = some (.pan v, fr', h')) (k : List Item) :
    ∀ (fuel tt : Nat) (listed : Array Bool) (x : Nat) (γ : Map) (w : World) (a : Act) (cs : List Frame) (t : Env), DI P b cs0 β w0 ops bf l order N n fs hs listed x γ w a cs t → unl ops.size listed ≤ fuel →
      Goes P β (hs 0) w0 b cs0 n (lone (fat b a (.inRegion ops (Region.linearise.go .any ops fuel tt listed []) :: k)) cs w) k e fr' h' := by
  have hlen := tr.chk.len
  have hN := tr.le
  intro fuel
  -- what is to be shown where nothing is ready
  have fin : ∀ (listed : Array Bool) (x : Nat) (γ : Map) (w : World) (a : Act) (cs : List Frame) (t : Env), DI P b cs0 β w0 ops bf l order N n fs hs listed x γ w a cs t → (∀ y, y < ops.size → ex order listed y) →
      Goes P β (hs 0) w0 b cs0 n (lone (fat b a (.inRegion ops [] :: k)) cs w) k e fr' h' := by
    intro listed x γ w a cs t di hall
    rcases hend with ⟨rfl, hNe, rfl, rfl⟩ | ⟨v, rfl, hNn, -⟩
    · obtain ⟨h1, h2, h3⟩ := di.atEnd tr fun y hy => hall y (by omega)
      exact ⟨γ, w, a, cs, h1, h2, h3, di.sz, .one fstep_region_end⟩
    · exact absurd (hall N (by omega)) (di.hi N (Nat.le_refl _) (by omega))
  have allEx : ∀ (listed : Array Bool), listed.size = ops.size → (∀ i, i < ops.size → listed.getD i true = true) → ∀ y, y < ops.size → ex order listed y := by
    intro listed hsz h y hy
    apply Classical.byContradiction
    intro hn
    have hl := tr.chk.low y (by simpa using hy)
    have := getD_flip' (by omega) hn
    rw [h _ hl] at this
    cases this
  induction fuel with
  | zero =>
    intro tt listed x γ w a cs t di hu
    refine fin listed x γ w a cs t di (allEx listed di.lsz fun i hi => ?_)
    have h0 : unl ops.size listed = 0 := by omega
    unfold unl at h0
    have := List.countP_eq_zero.1 h0 i (by simpa using hi)
    simpa using this
  | succ fuel ih =>
    intro tt listed x γ w a cs t di hu
    have hunfold : Region.linearise.go .any ops (fuel + 1) tt listed [] = (match (Region.ready .any ops listed)[tt % (Region.ready .any ops listed).length]? with
      | some i => Region.linearise.go .any ops fuel (tt / (Region.ready .any ops listed).length) (listed.setIfInBounds i true) [i]
      | none => [].reverse) := rfl
    rw [hunfold]
    cases hi : (Region.ready .any ops listed)[tt % (Region.ready .any ops listed).length]? with
    | none =>
      have hnil : Region.ready .any ops listed = [] := by
        cases hr' : Region.ready .any ops listed with
        | nil => rfl
        | cons y ys =>
          rw [hr'] at hi
          have hlt : tt % (y :: ys).length < (y :: ys).length := Nat.mod_lt _ (by simp)
          rw [List.getElem?_eq_getElem hlt] at hi
          cases hi
      refine fin listed x γ w a cs t di fun y hy => ?_
      -- the first that is not done would be ready
      have key : ∀ m y, y < m → y < ops.size → ex order listed y := by
        intro m
        induction m with
        | zero => intro y h; omega
        | succ m ihm =>
          intro y hym hy
          apply Classical.byContradiction
          intro hn
          have hl := tr.chk.low y (by simpa using hy)
          have ho : ops[order.getD y 0]? = some ops[order.getD y 0] := Array.getElem?_eq_getElem hl
          have : order.getD y 0 ∈ Region.ready .any ops listed := by
            refine mem_ready.2 ⟨getD_flip' (by rw [di.lsz]; exact hl) hn, _, ho, fun ed he hb => ?_⟩
            obtain ⟨h1, h2⟩ := tr.chk.edge _ (by simpa using hl) _ ho ed (by simpa using he) hb
            obtain ⟨z, z1, z2, z3⟩ := take_pos (tr.chk.resp y (by simpa using hy) _ (by simpa using h1) h2)
            have := ihm z (by omega) (by omega)
            unfold ex at this
            rw [z3] at this
            exact this
          rw [hnil] at this
          cases this
      exact key (y + 1) y (by omega) hy
    | some i =>
      dsimp only
      rw [linearise_go_acc, List.reverse_singleton, List.singleton_append]
      obtain ⟨hun, o, ho, hedge⟩ := mem_ready.1 (List.mem_of_getElem? hi)
      have hin : i < ops.size := (Array.getElem?_eq_some_iff.1 ho).1
      obtain ⟨q, hq, rfl⟩ := mem_pos (tr.chk.all i (by simpa using hin))
      have hnex : ¬ ex order listed q := getD_flip hun
      have hedge' : ∀ o, ops[order.getD q 0]? = some o → ∀ e ∈ o.after.toList, Region.binds .any e = true → listed.getD e.on false = true := by
        intro o' ho' e he hb
        rw [ho] at ho'
        cases ho'
        exact hedge e (by simpa using he) hb
      have hless := unl_set hin hun
      rcases Nat.lt_trichotomy q N with hqN | hqN | hqN
      · obtain ⟨x', γ', w', a', cs', t', hdi, hsteps⟩ := di.go hr tr ht hdst hqN hnex hedge' (Region.linearise.go .any ops fuel (tt / (Region.ready .any ops listed).length) (listed.setIfInBounds (order.getD q 0) true) []) k
        obtain ⟨β', w2, a2, cs2, g1, g2, g3, g4, g5⟩ := ih (tt / (Region.ready .any ops listed).length) _ x' γ' w' a' cs' t' hdi (by omega)
        exact ⟨β', w2, a2, cs2, g1, g2, g3, g4, g5.of_steps hsteps⟩
      · subst hqN
        rcases hend with ⟨-, hNe, -, -⟩ | ⟨v, rfl, hNn, hpf, hst⟩
        · omega
        · exact di.pan hr tr ht hdst (by omega) hst hedge' _ k
      · rcases hend with ⟨-, hNe, -, -⟩ | ⟨v, rfl, hNn, hpf, hst⟩
        · omega
        · exfalso
          simp only [pfAt, List.all_eq_true, Bool.or_eq_true, beq_iff_eq] at hpf
          have hlN := tr.chk.low N (by simp; omega)
          rcases hpf _ (tr.chk.all _ (by simpa using hin)) with (h | h) | h
          · have := tr.chk.inj q (by simp; omega) N (by simp; omega) h; omega
          · obtain ⟨z, z1, z2, z3⟩ := take_pos (tr.chk.resp N (by simp; omega) _ (by simpa using hin) h)
            have := tr.chk.inj z (by simp; omega) q (by simp; omega) z3
            omega
          · exact di.hi N (Nat.le_refl _) (by omega) (di.pres tr (by omega) hedge' _ hlN h)

theorem find_range (tr : Trj P r ops bf l order N fs hs) {c : Nat} (h0 : (hs 0).length ≤ c) : ∀ m, m ≤ N → c < (hs m).length → ∃ q, q < N ∧ (hs q).length ≤ c ∧ c < (hs (q + 1)).length := by
  intro m
  induction m with
  | zero => intro _ h; omega
  | succ m ih =>
    intro hm hc
    rcases Nat.lt_or_ge c (hs m).length with h | h
    · exact ih (by omega) h
    · exact ⟨m, by omega, h, hc⟩

theorem DI.start (tr : Trj P r ops bf l order N fs hs) (ht : Tab P T β0 β (hs 0) w0) (hh : HRel P (CRel P) β (hs 0) w0) (hF : FRel β b cs0 (fs 0) a cs) (hsz : a.tmps.size = n) :
    DI P b cs0 β w0 ops bf l order N n fs hs (Array.replicate ops.size false) 0 β w0 a cs (fs 0).t := by
  have hnex : ∀ q, ¬ ex order (Array.replicate ops.size false) q := by
    intro q h
    unfold ex at h
    rw [Array.getD_eq_getD_getElem?, Array.getElem?_replicate] at h
    split at h <;> cases h
  have hd : ∀ c bi, β c = some bi → c < (hs 0).length := fun c bi e => (hh.dom c bi e).1
  have hcut : β.le (cut (hs 0).length β) := fun c bi e => cut_of (hd c bi e) e
  have hget : ∀ c, c < (hs 0).length → (vir l order hs N 0)[c]? = (hs 0)[c]? := fun c hc => by unfold vir; exact List.getElem?_append_left hc
  have hlen : (vir l order hs N 0).length ≤ (hs N).length := by
    have := tr.vir_drop (Nat.zero_le N) (Nat.le_refl N)
    rw [Nat.sub_self] at this
    simp only [futA] at this
    exact List.drop_eq_nil_iff.1 this
  refine ⟨by simp, Nat.zero_le _, fun q _ _ => ⟨fun h => absurd h (hnex q), fun h => by omega⟩, fun q h => by omega, fun q _ _ => hnex q, fun i j hi _ h => ?_, ?_, ?_, fun c blk e1 e2 => ?_, fun q hq _ c h1 h2 => ?_, hF.t, fun q _ h => absurd h (hnex q), fun d _ => rfl, hF.d.mono hcut, hF.u.mono hcut, hsz⟩
  · rw [Array.getD_eq_getD_getElem?, Array.getElem?_replicate] at h
    split at h <;> cases h
  · refine ⟨fun c bi e => ⟨by have := hd c bi e; unfold vir; simp; omega, (hh.dom c bi e).2⟩, fun c bi blk e1 e2 hl => ?_, fun c c' bi bi' blk blk' hne e1 e2 e3 e4 hw hl => ?_⟩
    · rw [hget c (hd c bi e1)] at e2
      exact hh.blk c bi blk e1 e2 hl
    · rw [hget c (hd c bi e1)] at e3
      rw [hget c' (hd c' bi' e2)] at e4
      exact hh.uniq c c' bi bi' blk blk' hne e1 e2 e3 e4 hw hl
  · refine ⟨Map.le.refl _, rfl, rfl, rfl, Nat.le_refl _, by unfold vir; simp, fun _ _ _ e => e, fun _ _ _ => rfl, ?_, fun _ _ e => .inl e, fun c blk hc e hl => ⟨blk, by rw [← hget c hc]; exact e, hl⟩⟩
    rintro B ⟨c, ci, ck, e1, e2, e3, rfl⟩
    rw [hget c (hd c ci e1)] at e2
    exact .inl ⟨c, ci, ck, e1, e2, e3, rfl⟩
  · rcases Nat.lt_or_ge c (hs 0).length with h | h
    · rw [hget c h] at e1
      exact .inl (ht.tot c blk e1 e2)
    · have hc := (List.getElem?_eq_some_iff.1 e1).1
      obtain ⟨q, h1, h2, h3⟩ := find_range tr h N (Nat.le_refl _) (by omega)
      exact .inr ⟨q, h1, hnex q, h2, h3⟩
  · cases hx : β c with
    | none => rfl
    | some bi =>
      have := hd c bi hx
      have := tr.len_le (Nat.zero_le q) (by omega)
      omega

end

/-- Regions whose order is open. -/
theorem drw_ok {P : Program} {T : Tbl} {β0 : Map} (hm : P.follows .mixedOrders = true) {r : Rec} (hr : RecOk P T β0 r) : DrwOk P T β0 r := by
  intro id ops ld n hcomp hdok fr h e fr' h' he β w b a k cs0 cs hsz hh ht hF
  simp only [compC, Option.bind_eq_some_iff, if_true] at hcomp
  obtain ⟨l, hl, hcomp⟩ := hcomp
  split at hcomp
  case isFalse => cases hcomp
  rename_i hok
  simp only [Option.some.injEq, ACode.drw.injEq] at hcomp
  subst hcomp
  have chk := drwOk_chk hok
  generalize hord : canon (Region.before ops) (l.map (·.o.loud)) = order at he chk
  obtain ⟨hlen, hget⟩ := compOpers_get hl
  have comp : ∀ i o, ops[i]? = some o → compOper P ops o = some (l.getD i default) := by
    intro i o ho
    obtain ⟨q, h1, h2⟩ := hget i o (by simpa using ho)
    rw [List.getD_eq_getElem?_getD, h1]
    exact h2
  have hdst : ∀ (i : Nat) (o : Oper) d, ops[i]? = some o → o.dst = some d → d < n := by
    intro i o d ho hd
    simp only [dstOk, List.all_eq_true] at hdok
    have := hdok o (by simpa using Array.mem_of_getElem? ho)
    rw [hd] at this
    simpa using this
  obtain ⟨N, hN, hst, hend⟩ := traj he
  have hal : Alike w { w with drawn := w.drawn + 1 } := ⟨rfl, rfl, rfl, rfl⟩
  obtain ⟨hh1, st1⟩ := hh.alike hal
  have ht1 := ht.step st1
  have tr := Trj.of (fs := fun q => (tj r l order fr h q).1) (hs := fun q => (tj r l order fr h q).2) hr chk comp (by rw [← chk.len]; exact hN) (fun q hq => (hst q hq).1) (fun q hq => (hst q hq).2)
    (b := b) (a := a) (cs0 := cs0) (cs := cs) (fun i o d ho hd => by rw [hsz]; exact hdst i o d ho hd) hh1 ht1 hF
  have di := DI.start (b := b) (cs0 := cs0) (a := a) (cs := cs) (n := n) tr ht1 hh1 hF hsz
  have hunl : unl ops.size (Array.replicate ops.size false) ≤ ops.size := by
    unfold unl
    exact Nat.le_trans List.countP_le_length (by simp)
  have g := DI.run (e := e) (fr' := fr') (h' := h') hr tr ht1 hdst hend k ops.size (w.tape w.drawn (.order b.fn id)) _ 0 β _ a cs _ di hunl
  have hsched : Region.schedule (P.follows .mixedOrders) ops (w.tape w.drawn (.order b.fn id)) = Region.linearise.go .any ops ops.size (w.tape w.drawn (.order b.fn id)) (Array.replicate ops.size false) [] := by
    rw [hm]; rfl
  rw [← hsched] at g
  have g' := g.head (fstep_region_draw (P := P) (b := b) (a := a) (k := k) (cs := cs) (w := w) (id := id))
  obtain ⟨β', w', a', cs', g1, g2, g3, g4, g5⟩ := g'
  exact ⟨β', w', a', cs', g1, st1.trans g2, g3, g4, g5⟩

/-- What A computes is what the machine computes. -/
theorem execK_sound {P : Program} {T : Tbl} {β0 : Map} (hm : P.follows .mixedOrders = true) (hT : TblOk P T) (k : Nat) : RecOk P T β0 (execK T k) :=
  execK_ok hT (fun _ hr => drw_ok hm hr) k

end Go.A

/- From a run of A to a call of the machine: old memory is read only. -/
set_option linter.unusedVariables false
set_option linter.unusedSimpArgs false
set_option linter.unusedSectionVars false
namespace Go.A
open Go.RowKit (Below)

/-- A value as A sees it where each block is known by its own number; ez: of how many cells are the elements of a slice. -/
def reV (n ez : Nat) : Value → V
  | .int k i => .int k i
  | .bool b => .bool b
  | .string s => .str s.data.toList
  | .pointer none => .nilp
  | .pointer (some ⟨b, o, none⟩) => if b < n then .ptr b o else .undef
  | .slice _ 0 0 => .nils
  | .slice (some ⟨b, o, none⟩) l c => if b < n ∧ l ≤ c then .sl ez b o l c else .undef
  | .nilFunc => .nilf
  | .nilIface => .nili
  | .map none => .nilm
  | _ => .undef

def idMap (w : World) : Map := fun b => if b < w.heap.size then some ⟨b, 0, .ro, (match w.heap[b]? with | some (.cells c _ _) => c.size | _ => 0)⟩ else none

def reO (n ez : Nat) : Obj → Blk
  | .cells c _ _ => .cells .ro (c.toList.map (reV n ez))
  | _ => .dead

/-- Memory as A sees it. -/
def reH (ez : Nat) (w : World) : Heap := w.heap.toList.map (reO w.heap.size ez)

theorem reV_rel {w : World} (ez : Nat) (v : Value) : VRel (idMap w) (reV w.heap.size ez v) v := by
  unfold reV
  split
  all_goals first
    | (constructor; done)
    | skip
  · rename_i b o
    split
    · rename_i h
      have := VRel.ptr (β := idMap w) (b := b) (o := o) (bi := ⟨b, 0, .ro, (match w.heap[b]? with | some (.cells c _ _) => c.size | _ => 0)⟩) (by simp [idMap, h])
      simpa using this
    · exact .undef _
  · rename_i b o l c _
    split
    · rename_i h
      exact VRel.sl (bi := ⟨b, 0, .ro, (match w.heap[b]? with | some (.cells c _ _) => c.size | _ => 0)⟩) (by simp [idMap, h.1]) h.2 (Nat.le_refl _) (fun _ => by simp) trivial
    · exact .undef _

theorem reH_get (ez : Nat) (w : World) (b : Nat) : (reH ez w)[b]? = (w.heap[b]?).map (reO w.heap.size ez) := by
  simp [reH]

theorem reH_ro (ez : Nat) (w : World) (b : Nat) (blk : Blk) (h : (reH ez w)[b]? = some blk) : blk.wr = false := by
  rw [reH_get] at h
  simp only [Option.map_eq_some_iff] at h
  obtain ⟨o, -, rfl⟩ := h
  cases o <;> rfl

theorem reH_rel {P : Program} {CR : Nat → Code → ACode → Prop} (ez : Nat) (w : World) : HRel P CR (idMap w) (reH ez w) w := by
  have hd : ∀ b bi, idMap w b = some bi → b < w.heap.size ∧ bi = ⟨b, 0, .ro, (match w.heap[b]? with | some (.cells c _ _) => c.size | _ => 0)⟩ := by
    intro b bi e
    unfold idMap at e
    split at e
    · rename_i h; cases e; exact ⟨h, rfl⟩
    · cases e
  refine ⟨fun b bi e => ?_, fun b bi blk e1 e2 hl => ?_, fun b b' bi bi' blk blk' hne e1 e2 e3 e4 hw hl => ?_⟩
  · obtain ⟨h1, rfl⟩ := hd b bi e
    exact ⟨by simp [reH]; exact h1, h1⟩
  · obtain ⟨h1, rfl⟩ := hd b bi e1
    rw [reH_get] at e2
    simp only [Option.map_eq_some_iff] at e2
    obtain ⟨o, ho, rfl⟩ := e2
    refine ⟨o, ho, ?_⟩
    cases o with
    | cells c ty fr =>
      refine ⟨c, ty, fr, rfl, by simp [ho], by simp, fun i v v' a b => ?_, fun h => absurd rfl h⟩
      rw [List.getElem?_map] at a
      simp only [Option.map_eq_some_iff] at a
      obtain ⟨x, h2, rfl⟩ := a
      have h3 : c[i]? = some x := by simpa using h2
      have h4 : c[i]? = some v' := by simpa using b
      have : x = v' := by rw [h3] at h4; exact Option.some.inj h4
      subst this
      exact reV_rel ez x
    | _ => exact absurd hl (by simp [reO, Blk.live])
  · rw [reH_ro ez w b blk e3] at hw
    cases hw

theorem reH_tot (ez : Nat) (w : World) : Tot (idMap w) (reH ez w) := by
  intro b blk e hl
  have : b < w.heap.size := by have := (List.getElem?_eq_some_iff.1 e).1; simpa [reH] using this
  exact ⟨_, by unfold idMap; rw [if_pos this]⟩

/-- From a run of A to a call of the machine. -/
theorem calls_of_run {P : Program} {T : Tbl} (hm : P.follows .mixedOrders = true) (hT : TblOk P T) (htab : T.tab = []) {w : World} (ez : Nat) {f : Nat} {args : List V} {args' : Array Value} (ha : LRel (idMap w) args args'.toList)
    {v : V} {u' : Option V} {h' : Heap} (he : (run T).call f args none (reH ez w) = some (.ret v, u', h')) :
    Calls P f args' w fun e w' => (∃ β v', e = .returned v' ∧ VRel β v v') ∧ Below w.heap.size w w' := by
  obtain ⟨k, hk⟩ := run_call_some he
  have hr := execK_sound (β0 := fun _ => none) hm hT k
  have hnw : ∀ B, ¬ Wr (idMap w) (reH ez w) B := by
    rintro B ⟨b, bi, blk, -, h2, h3, -⟩
    rw [reH_ro ez w b blk h2] at h3
    cases h3
  have ht : Tab P T (fun _ => none) (idMap w) (reH ez w) w :=
    ⟨by rw [htab]; exact ⟨fun b bi e => (by cases e), fun b bi blk e => (by cases e), fun b b' bi bi' blk blk' hne e => (by cases e)⟩, fun b bi e => (by cases e), fun b bi e => (by cases e), by rw [htab]; simp,
      fun b bi h => by rw [htab] at h; simp at h, fun b blk e => by rw [htab] at e; simp at e, reH_tot ez w, fun b blk e => by rw [htab] at e; simp at e⟩
  intro cs
  obtain ⟨β', w', fr', cs', h1, h2, h3, h4, h5, h6⟩ := hr.call hk (kind := .normal) (cs0 := cs) (cs := cs) (reH_rel ez w) ht ha ⟨rfl, .inl ⟨rfl, rfl, rfl⟩⟩
  obtain ⟨-, ⟨-, -, rfl⟩ | ⟨hx, -⟩⟩ := h2
  · obtain ⟨g1, g2, fn, v', g3, g4, g5⟩ := h4
    exact ⟨.returned v', w', fr', ⟨⟨β', v', rfl, g5⟩, ⟨h6.os, h6.tape, h6.output, h6.size, fun B hB => h6.keep B hB (hnw B)⟩⟩, h1, h3.2, g2, g1, h3.1, fn, g3, g4⟩
  · cases hx

/-- A law that is true. -/
theorem calls_true {P : Program} {T : Tbl} (hm : P.follows .mixedOrders = true) (hT : TblOk P T) (htab : T.tab = []) {w : World} (ez : Nat) {f : Nat} {args : List V} {args' : Array Value} (ha : LRel (idMap w) args args'.toList)
    {u' : Option V} {h' : Heap} (he : (run T).call f args none (reH ez w) = some (.ret (.bool true), u', h')) :
    Calls P f args' w fun e w' => e = .returned (.bool true) ∧ Below w.heap.size w w' :=
  (calls_of_run hm hT htab ez ha he).mono fun e w' ⟨⟨β, v', h1, h2⟩, h3⟩ => ⟨by rw [h1, h2.bool_inv], h3⟩

/-- A table of functions. -/
def lookF : List (Nat × AFunc) → Nat → Option AFunc
  | [], _ => none
  | (j, a) :: l, i => if Nat.beq j i = true then some a else lookF l i

/-- What one row of the table says of the program. -/
def EOk (P : Program) (f : Nat) (af : AFunc) : Prop :=
  ∃ fn c, P.funcs[f]? = some fn ∧ fn.body = some c ∧ fn.name ≠ "runtime.NumGoroutine" ∧ CRel P fn.ntmps c af.body ∧ compRes P fn.results.toList = some af.res

theorem EOk.of {P : Program} {f : Nat} {fn : Func} {r : List ARes} {a : ACode} {g : Nat} (hf : P.funcs[f]? = some fn) (hn : (fn.name == "runtime.NumGoroutine") = false) (h : compF P fn g = some ⟨r, erase a, g⟩) : EOk P f ⟨r, a, g⟩ := by
  unfold compF at h
  split at h
  · cases h
  · rename_i c hc
    split at h
    case isFalse => cases h
    rename_i hd
    simp only [Option.bind_eq_some_iff, Option.some.injEq, AFunc.mk.injEq] at h
    obtain ⟨a', ha, r', hr, rfl, rfl, -⟩ := h
    exact ⟨fn, c, hf, hc, by simpa using hn, CRel.of_comp a c ha hd, hr⟩

theorem lookF_ok {P : Program} {tbl : List (Nat × AFunc)} (h : ∀ x ∈ tbl, EOk P x.1 x.2) : TblOk P ⟨lookF tbl, []⟩ := by
  refine ⟨fun {f af} e => ?_⟩
  have : ∀ (l : List (Nat × AFunc)), (∀ x ∈ l, EOk P x.1 x.2) → lookF l f = some af → EOk P f af := by
    intro l
    induction l with
    | nil => intro _ e; cases e
    | cons x l ih =>
      obtain ⟨j, a⟩ := x
      intro hl e'
      simp only [lookF] at e'
      split at e'
      · rename_i hj
        have hj : j = f := by simpa using hj
        have ha : a = af := Option.some.inj e'
        rw [← hj, ← ha]
        exact hl (j, a) (by simp)
      · exact ih (fun x hx => hl x (List.mem_cons_of_mem _ hx)) e'
  exact this tbl h e

end Go.A

/- Runs of A on open values: what each operation gives, as equations. -/
set_option linter.unusedVariables false
set_option linter.unusedSimpArgs false
set_option linter.unusedSectionVars false
namespace Go.A

def i64 (n : Int) : V := .int .i64 n
/-- Into the range of int. -/
def wr (n : Int) : Int := IntKind.i64.wrap n

theorem wr_id {n : Int} (h1 : -9223372036854775808 ≤ n) (h2 : n < 9223372036854775808) : wr n = n := by
  unfold wr IntKind.wrap
  simp only [IntKind.bits, IntKind.signed, Bool.true_and, ge_iff_le, decide_eq_true_eq]
  split <;> omega

def u8 (x : BitVec 8) : V := .int .u8 (x.toNat : Int)

theorem u8_wrap (n : Int) : IntKind.u8.wrap n = ((BitVec.ofInt 8 n).toNat : Int) := by
  unfold IntKind.wrap
  simp only [IntKind.bits, IntKind.signed, Bool.false_and, Bool.false_eq_true, if_false, BitVec.toNat_ofInt]
  omega

theorem u8_bv (x : BitVec 8) : BitVec.ofInt 8 (x.toNat : Int) = x := by
  apply BitVec.eq_of_toNat_eq
  simp only [BitVec.toNat_ofInt]
  have := x.isLt
  omega

theorem add_u8 (x y : BitVec 8) : evBin .add (u8 x) (u8 y) = some (u8 (x + y)) := by
  simp only [evBin, u8, binI, if_true, u8_wrap, Option.some.injEq, V.int.injEq, true_and]
  refine congrArg (Nat.cast : Nat → Int) ?_
  rw [BitVec.toNat_ofInt, BitVec.toNat_add]
  all_goals omega

theorem sub_u8 (x y : BitVec 8) : evBin .sub (u8 x) (u8 y) = some (u8 (x - y)) := by
  simp only [evBin, u8, binI, if_true, u8_wrap, Option.some.injEq, V.int.injEq, true_and]
  refine congrArg (Nat.cast : Nat → Int) ?_
  rw [BitVec.toNat_ofInt, BitVec.toNat_sub]
  have := x.isLt
  have := y.isLt
  omega

theorem mul_u8 (x y : BitVec 8) : evBin .mul (u8 x) (u8 y) = some (u8 (x * y)) := by
  simp only [evBin, u8, binI, if_true, u8_wrap, Option.some.injEq, V.int.injEq, true_and]
  refine congrArg (Nat.cast : Nat → Int) ?_
  rw [BitVec.toNat_ofInt, BitVec.toNat_mul, ← Int.natCast_mul]
  all_goals omega

theorem and_u8 (x y : BitVec 8) : evBin .and (u8 x) (u8 y) = some (u8 (x &&& y)) := by
  simp only [evBin, u8, binI, if_true, u8_wrap, Option.some.injEq, V.int.injEq, true_and, IntKind.bits, u8_bv]
  rfl

theorem or_u8 (x y : BitVec 8) : evBin .or (u8 x) (u8 y) = some (u8 (x ||| y)) := by
  simp only [evBin, u8, binI, if_true, u8_wrap, Option.some.injEq, V.int.injEq, true_and, IntKind.bits, u8_bv]
  rfl

theorem xor_u8 (x y : BitVec 8) : evBin .xor (u8 x) (u8 y) = some (u8 (x ^^^ y)) := by
  simp only [evBin, u8, binI, if_true, u8_wrap, Option.some.injEq, V.int.injEq, true_and, IntKind.bits, u8_bv]
  rfl

theorem quo_u8 (x y : BitVec 8) (h : y ≠ 0) : evBin .quo (u8 x) (u8 y) = some (u8 (x / y)) := by
  have h0 : (y.toNat : Int) ≠ 0 := fun e => h (BitVec.eq_of_toNat_eq (by simpa using e))
  simp only [evBin, u8, binI, if_true, if_neg h0, u8_wrap, Option.some.injEq, V.int.injEq, true_and]
  refine congrArg (Nat.cast : Nat → Int) ?_
  rw [BitVec.toNat_ofInt, BitVec.toNat_udiv, Int.tdiv_eq_ediv_of_nonneg (by omega), ← Int.natCast_ediv]
  have h1 := Nat.div_le_self x.toNat y.toNat
  have h2 := x.isLt
  generalize x.toNat / y.toNat = z at *
  omega

theorem rem_u8 (x y : BitVec 8) (h : y ≠ 0) : evBin .rem (u8 x) (u8 y) = some (u8 (x % y)) := by
  have h0 : (y.toNat : Int) ≠ 0 := fun e => h (BitVec.eq_of_toNat_eq (by simpa using e))
  simp only [evBin, u8, binI, if_true, if_neg h0, Option.some.injEq, V.int.injEq, true_and]
  rw [BitVec.toNat_umod, Int.tmod_eq_emod_of_nonneg (by omega), Int.natCast_emod]

theorem lss_u8 (x y : BitVec 8) : evBin .lss (u8 x) (u8 y) = some (.bool (decide (x < y))) := by
  simp only [evBin, u8, binI, if_true, BitVec.lt_def, Int.ofNat_lt]
theorem leq_u8 (x y : BitVec 8) : evBin .leq (u8 x) (u8 y) = some (.bool (decide (x ≤ y))) := by
  simp only [evBin, u8, binI, if_true, BitVec.le_def, Int.ofNat_le]
theorem gtr_u8 (x y : BitVec 8) : evBin .gtr (u8 x) (u8 y) = some (.bool (decide (y < x))) := by
  simp only [evBin, u8, binI, if_true, BitVec.lt_def, gt_iff_lt, Int.ofNat_lt]
theorem geq_u8 (x y : BitVec 8) : evBin .geq (u8 x) (u8 y) = some (.bool (decide (y ≤ x))) := by
  simp only [evBin, u8, binI, if_true, BitVec.le_def, ge_iff_le, Int.ofNat_le]
theorem eql_u8 (x y : BitVec 8) : evBin .eql (u8 x) (u8 y) = some (.bool (x == y)) := by
  simp only [evBin, u8, binI, if_true, Option.some.injEq, V.bool.injEq]
  rw [Bool.eq_iff_iff]
  simp only [beq_iff_eq, Int.ofNat_inj]
  exact ⟨fun e => BitVec.eq_of_toNat_eq e, fun e => by rw [e]⟩
theorem neq_u8 (x y : BitVec 8) : evBin .neq (u8 x) (u8 y) = some (.bool (x != y)) := by
  simp only [evBin, u8, binI, if_true, Option.some.injEq, V.bool.injEq]
  rw [Bool.eq_iff_iff]
  simp only [bne_iff_ne, ne_eq, Int.ofNat_inj]
  exact ⟨fun h e => h (by rw [e]), fun h e => h (BitVec.eq_of_toNat_eq e)⟩

theorem not_u8 (x : BitVec 8) : evUn .xor (u8 x) = some (u8 (~~~x)) := by
  simp only [evUn, u8, u8_wrap, Option.some.injEq, V.int.injEq, true_and, IntKind.bits, u8_bv, IntKind.signed, Bool.false_eq_true, if_false, IntKind.max]
  congr 2

theorem shl_u8 (x : BitVec 8) (k : IntKind) (n : Int) (h : 0 ≤ n) : evBin .shl (u8 x) (.int k n) = some (u8 (x <<< n.toNat)) := by
  simp only [evBin, u8, if_neg (show ¬ n < 0 by omega), u8_wrap, Option.some.injEq, V.int.injEq, true_and, IntKind.bits]
  refine congrArg (Nat.cast : Nat → Int) ?_
  rw [BitVec.toNat_ofInt, BitVec.toNat_shiftLeft, Nat.shiftLeft_eq]
  rcases Nat.lt_or_ge n.toNat 8 with h1 | h1
  · rw [Nat.min_eq_left (by omega)]
    have : ((x.toNat : Int) * 2 ^ n.toNat) = ((x.toNat * 2 ^ n.toNat : Nat) : Int) := by simp
    rw [this]
    all_goals omega
  · rw [Nat.min_eq_right h1]
    obtain ⟨m, hm⟩ := Nat.le.dest h1
    rw [← hm, Nat.pow_add, ← Nat.mul_assoc, Nat.mul_right_comm, Nat.mul_mod_left]
    omega

theorem shr_u8 (x : BitVec 8) (k : IntKind) (n : Int) (h : 0 ≤ n) : evBin .shr (u8 x) (.int k n) = some (u8 (x >>> n.toNat)) := by
  simp only [evBin, u8, if_neg (show ¬ n < 0 by omega), Option.some.injEq, V.int.injEq, true_and, IntKind.bits]
  rw [BitVec.toNat_ushiftRight, Nat.shiftRight_eq_div_pow, Int.fdiv_eq_ediv_of_nonneg _ (by exact Int.pow_nonneg (by omega))]
  have hx := x.isLt
  rcases Nat.lt_or_ge n.toNat 8 with h1 | h1
  · rw [Nat.min_eq_left (by omega)]
    simp
  · rw [Nat.min_eq_right h1]
    have h2 : 2 ^ 8 ≤ 2 ^ n.toNat := Nat.pow_le_pow_right (by omega) h1
    rw [Nat.div_eq_of_lt (by omega)]
    omega

def u32 (x : BitVec 32) : V := .int .u32 (x.toNat : Int)

theorem u32_wrap (n : Int) : IntKind.u32.wrap n = ((BitVec.ofInt 32 n).toNat : Int) := by
  unfold IntKind.wrap
  simp only [IntKind.bits, IntKind.signed, Bool.false_and, Bool.false_eq_true, if_false, BitVec.toNat_ofInt]
  omega

theorem u32_bv (x : BitVec 32) : BitVec.ofInt 32 (x.toNat : Int) = x := by
  apply BitVec.eq_of_toNat_eq
  simp only [BitVec.toNat_ofInt]
  have := x.isLt
  omega

theorem add_u32 (x y : BitVec 32) : evBin .add (u32 x) (u32 y) = some (u32 (x + y)) := by
  simp only [evBin, u32, binI, if_true, u32_wrap, Option.some.injEq, V.int.injEq, true_and]
  refine congrArg (Nat.cast : Nat → Int) ?_
  rw [BitVec.toNat_ofInt, BitVec.toNat_add]
  all_goals omega

theorem sub_u32 (x y : BitVec 32) : evBin .sub (u32 x) (u32 y) = some (u32 (x - y)) := by
  simp only [evBin, u32, binI, if_true, u32_wrap, Option.some.injEq, V.int.injEq, true_and]
  refine congrArg (Nat.cast : Nat → Int) ?_
  rw [BitVec.toNat_ofInt, BitVec.toNat_sub]
  have := x.isLt
  have := y.isLt
  omega

theorem mul_u32 (x y : BitVec 32) : evBin .mul (u32 x) (u32 y) = some (u32 (x * y)) := by
  simp only [evBin, u32, binI, if_true, u32_wrap, Option.some.injEq, V.int.injEq, true_and]
  refine congrArg (Nat.cast : Nat → Int) ?_
  rw [BitVec.toNat_ofInt, BitVec.toNat_mul, ← Int.natCast_mul]
  all_goals omega

theorem and_u32 (x y : BitVec 32) : evBin .and (u32 x) (u32 y) = some (u32 (x &&& y)) := by
  simp only [evBin, u32, binI, if_true, u32_wrap, Option.some.injEq, V.int.injEq, true_and, IntKind.bits, u32_bv]
  rfl

theorem or_u32 (x y : BitVec 32) : evBin .or (u32 x) (u32 y) = some (u32 (x ||| y)) := by
  simp only [evBin, u32, binI, if_true, u32_wrap, Option.some.injEq, V.int.injEq, true_and, IntKind.bits, u32_bv]
  rfl

theorem xor_u32 (x y : BitVec 32) : evBin .xor (u32 x) (u32 y) = some (u32 (x ^^^ y)) := by
  simp only [evBin, u32, binI, if_true, u32_wrap, Option.some.injEq, V.int.injEq, true_and, IntKind.bits, u32_bv]
  rfl

theorem quo_u32 (x y : BitVec 32) (h : y ≠ 0) : evBin .quo (u32 x) (u32 y) = some (u32 (x / y)) := by
  have h0 : (y.toNat : Int) ≠ 0 := fun e => h (BitVec.eq_of_toNat_eq (by simpa using e))
  simp only [evBin, u32, binI, if_true, if_neg h0, u32_wrap, Option.some.injEq, V.int.injEq, true_and]
  refine congrArg (Nat.cast : Nat → Int) ?_
  rw [BitVec.toNat_ofInt, BitVec.toNat_udiv, Int.tdiv_eq_ediv_of_nonneg (by omega), ← Int.natCast_ediv]
  have h1 := Nat.div_le_self x.toNat y.toNat
  have h2 := x.isLt
  generalize x.toNat / y.toNat = z at *
  omega

theorem rem_u32 (x y : BitVec 32) (h : y ≠ 0) : evBin .rem (u32 x) (u32 y) = some (u32 (x % y)) := by
  have h0 : (y.toNat : Int) ≠ 0 := fun e => h (BitVec.eq_of_toNat_eq (by simpa using e))
  simp only [evBin, u32, binI, if_true, if_neg h0, Option.some.injEq, V.int.injEq, true_and]
  rw [BitVec.toNat_umod, Int.tmod_eq_emod_of_nonneg (by omega), Int.natCast_emod]

theorem lss_u32 (x y : BitVec 32) : evBin .lss (u32 x) (u32 y) = some (.bool (decide (x < y))) := by
  simp only [evBin, u32, binI, if_true, BitVec.lt_def, Int.ofNat_lt]
theorem leq_u32 (x y : BitVec 32) : evBin .leq (u32 x) (u32 y) = some (.bool (decide (x ≤ y))) := by
  simp only [evBin, u32, binI, if_true, BitVec.le_def, Int.ofNat_le]
theorem gtr_u32 (x y : BitVec 32) : evBin .gtr (u32 x) (u32 y) = some (.bool (decide (y < x))) := by
  simp only [evBin, u32, binI, if_true, BitVec.lt_def, gt_iff_lt, Int.ofNat_lt]
theorem geq_u32 (x y : BitVec 32) : evBin .geq (u32 x) (u32 y) = some (.bool (decide (y ≤ x))) := by
  simp only [evBin, u32, binI, if_true, BitVec.le_def, ge_iff_le, Int.ofNat_le]
theorem eql_u32 (x y : BitVec 32) : evBin .eql (u32 x) (u32 y) = some (.bool (x == y)) := by
  simp only [evBin, u32, binI, if_true, Option.some.injEq, V.bool.injEq]
  rw [Bool.eq_iff_iff]
  simp only [beq_iff_eq, Int.ofNat_inj]
  exact ⟨fun e => BitVec.eq_of_toNat_eq e, fun e => by rw [e]⟩
theorem neq_u32 (x y : BitVec 32) : evBin .neq (u32 x) (u32 y) = some (.bool (x != y)) := by
  simp only [evBin, u32, binI, if_true, Option.some.injEq, V.bool.injEq]
  rw [Bool.eq_iff_iff]
  simp only [bne_iff_ne, ne_eq, Int.ofNat_inj]
  exact ⟨fun h e => h (by rw [e]), fun h e => h (BitVec.eq_of_toNat_eq e)⟩

theorem not_u32 (x : BitVec 32) : evUn .xor (u32 x) = some (u32 (~~~x)) := by
  simp only [evUn, u32, u32_wrap, Option.some.injEq, V.int.injEq, true_and, IntKind.bits, u32_bv, IntKind.signed, Bool.false_eq_true, if_false, IntKind.max]
  congr 2

theorem shl_u32 (x : BitVec 32) (k : IntKind) (n : Int) (h : 0 ≤ n) : evBin .shl (u32 x) (.int k n) = some (u32 (x <<< n.toNat)) := by
  simp only [evBin, u32, if_neg (show ¬ n < 0 by omega), u32_wrap, Option.some.injEq, V.int.injEq, true_and, IntKind.bits]
  refine congrArg (Nat.cast : Nat → Int) ?_
  rw [BitVec.toNat_ofInt, BitVec.toNat_shiftLeft, Nat.shiftLeft_eq]
  rcases Nat.lt_or_ge n.toNat 32 with h1 | h1
  · rw [Nat.min_eq_left (by omega)]
    have : ((x.toNat : Int) * 2 ^ n.toNat) = ((x.toNat * 2 ^ n.toNat : Nat) : Int) := by simp
    rw [this]
    all_goals omega
  · rw [Nat.min_eq_right h1]
    obtain ⟨m, hm⟩ := Nat.le.dest h1
    rw [← hm, Nat.pow_add, ← Nat.mul_assoc, Nat.mul_right_comm, Nat.mul_mod_left]
    omega

theorem shr_u32 (x : BitVec 32) (k : IntKind) (n : Int) (h : 0 ≤ n) : evBin .shr (u32 x) (.int k n) = some (u32 (x >>> n.toNat)) := by
  simp only [evBin, u32, if_neg (show ¬ n < 0 by omega), Option.some.injEq, V.int.injEq, true_and, IntKind.bits]
  rw [BitVec.toNat_ushiftRight, Nat.shiftRight_eq_div_pow, Int.fdiv_eq_ediv_of_nonneg _ (by exact Int.pow_nonneg (by omega))]
  have hx := x.isLt
  rcases Nat.lt_or_ge n.toNat 32 with h1 | h1
  · rw [Nat.min_eq_left (by omega)]
    simp
  · rw [Nat.min_eq_right h1]
    have h2 : 2 ^ 32 ≤ 2 ^ n.toNat := Nat.pow_le_pow_right (by omega) h1
    rw [Nat.div_eq_of_lt (by omega)]
    omega

def u64 (x : BitVec 64) : V := .int .u64 (x.toNat : Int)

theorem u64_wrap (n : Int) : IntKind.u64.wrap n = ((BitVec.ofInt 64 n).toNat : Int) := by
  unfold IntKind.wrap
  simp only [IntKind.bits, IntKind.signed, Bool.false_and, Bool.false_eq_true, if_false, BitVec.toNat_ofInt]
  omega

theorem u64_bv (x : BitVec 64) : BitVec.ofInt 64 (x.toNat : Int) = x := by
  apply BitVec.eq_of_toNat_eq
  simp only [BitVec.toNat_ofInt]
  have := x.isLt
  omega

theorem add_u64 (x y : BitVec 64) : evBin .add (u64 x) (u64 y) = some (u64 (x + y)) := by
  simp only [evBin, u64, binI, if_true, u64_wrap, Option.some.injEq, V.int.injEq, true_and]
  refine congrArg (Nat.cast : Nat → Int) ?_
  rw [BitVec.toNat_ofInt, BitVec.toNat_add]
  all_goals omega

theorem sub_u64 (x y : BitVec 64) : evBin .sub (u64 x) (u64 y) = some (u64 (x - y)) := by
  simp only [evBin, u64, binI, if_true, u64_wrap, Option.some.injEq, V.int.injEq, true_and]
  refine congrArg (Nat.cast : Nat → Int) ?_
  rw [BitVec.toNat_ofInt, BitVec.toNat_sub]
  have := x.isLt
  have := y.isLt
  omega

theorem mul_u64 (x y : BitVec 64) : evBin .mul (u64 x) (u64 y) = some (u64 (x * y)) := by
  simp only [evBin, u64, binI, if_true, u64_wrap, Option.some.injEq, V.int.injEq, true_and]
  refine congrArg (Nat.cast : Nat → Int) ?_
  rw [BitVec.toNat_ofInt, BitVec.toNat_mul, ← Int.natCast_mul]
  all_goals omega

theorem and_u64 (x y : BitVec 64) : evBin .and (u64 x) (u64 y) = some (u64 (x &&& y)) := by
  simp only [evBin, u64, binI, if_true, u64_wrap, Option.some.injEq, V.int.injEq, true_and, IntKind.bits, u64_bv]
  rfl

theorem or_u64 (x y : BitVec 64) : evBin .or (u64 x) (u64 y) = some (u64 (x ||| y)) := by
  simp only [evBin, u64, binI, if_true, u64_wrap, Option.some.injEq, V.int.injEq, true_and, IntKind.bits, u64_bv]
  rfl

theorem xor_u64 (x y : BitVec 64) : evBin .xor (u64 x) (u64 y) = some (u64 (x ^^^ y)) := by
  simp only [evBin, u64, binI, if_true, u64_wrap, Option.some.injEq, V.int.injEq, true_and, IntKind.bits, u64_bv]
  rfl

theorem quo_u64 (x y : BitVec 64) (h : y ≠ 0) : evBin .quo (u64 x) (u64 y) = some (u64 (x / y)) := by
  have h0 : (y.toNat : Int) ≠ 0 := fun e => h (BitVec.eq_of_toNat_eq (by simpa using e))
  simp only [evBin, u64, binI, if_true, if_neg h0, u64_wrap, Option.some.injEq, V.int.injEq, true_and]
  refine congrArg (Nat.cast : Nat → Int) ?_
  rw [BitVec.toNat_ofInt, BitVec.toNat_udiv, Int.tdiv_eq_ediv_of_nonneg (by omega), ← Int.natCast_ediv]
  have h1 := Nat.div_le_self x.toNat y.toNat
  have h2 := x.isLt
  generalize x.toNat / y.toNat = z at *
  omega

theorem rem_u64 (x y : BitVec 64) (h : y ≠ 0) : evBin .rem (u64 x) (u64 y) = some (u64 (x % y)) := by
  have h0 : (y.toNat : Int) ≠ 0 := fun e => h (BitVec.eq_of_toNat_eq (by simpa using e))
  simp only [evBin, u64, binI, if_true, if_neg h0, Option.some.injEq, V.int.injEq, true_and]
  rw [BitVec.toNat_umod, Int.tmod_eq_emod_of_nonneg (by omega), Int.natCast_emod]

theorem lss_u64 (x y : BitVec 64) : evBin .lss (u64 x) (u64 y) = some (.bool (decide (x < y))) := by
  simp only [evBin, u64, binI, if_true, BitVec.lt_def, Int.ofNat_lt]
theorem leq_u64 (x y : BitVec 64) : evBin .leq (u64 x) (u64 y) = some (.bool (decide (x ≤ y))) := by
  simp only [evBin, u64, binI, if_true, BitVec.le_def, Int.ofNat_le]
theorem gtr_u64 (x y : BitVec 64) : evBin .gtr (u64 x) (u64 y) = some (.bool (decide (y < x))) := by
  simp only [evBin, u64, binI, if_true, BitVec.lt_def, gt_iff_lt, Int.ofNat_lt]
theorem geq_u64 (x y : BitVec 64) : evBin .geq (u64 x) (u64 y) = some (.bool (decide (y ≤ x))) := by
  simp only [evBin, u64, binI, if_true, BitVec.le_def, ge_iff_le, Int.ofNat_le]
theorem eql_u64 (x y : BitVec 64) : evBin .eql (u64 x) (u64 y) = some (.bool (x == y)) := by
  simp only [evBin, u64, binI, if_true, Option.some.injEq, V.bool.injEq]
  rw [Bool.eq_iff_iff]
  simp only [beq_iff_eq, Int.ofNat_inj]
  exact ⟨fun e => BitVec.eq_of_toNat_eq e, fun e => by rw [e]⟩
theorem neq_u64 (x y : BitVec 64) : evBin .neq (u64 x) (u64 y) = some (.bool (x != y)) := by
  simp only [evBin, u64, binI, if_true, Option.some.injEq, V.bool.injEq]
  rw [Bool.eq_iff_iff]
  simp only [bne_iff_ne, ne_eq, Int.ofNat_inj]
  exact ⟨fun h e => h (by rw [e]), fun h e => h (BitVec.eq_of_toNat_eq e)⟩

theorem not_u64 (x : BitVec 64) : evUn .xor (u64 x) = some (u64 (~~~x)) := by
  simp only [evUn, u64, u64_wrap, Option.some.injEq, V.int.injEq, true_and, IntKind.bits, u64_bv, IntKind.signed, Bool.false_eq_true, if_false, IntKind.max]
  congr 2

theorem shl_u64 (x : BitVec 64) (k : IntKind) (n : Int) (h : 0 ≤ n) : evBin .shl (u64 x) (.int k n) = some (u64 (x <<< n.toNat)) := by
  simp only [evBin, u64, if_neg (show ¬ n < 0 by omega), u64_wrap, Option.some.injEq, V.int.injEq, true_and, IntKind.bits]
  refine congrArg (Nat.cast : Nat → Int) ?_
  rw [BitVec.toNat_ofInt, BitVec.toNat_shiftLeft, Nat.shiftLeft_eq]
  rcases Nat.lt_or_ge n.toNat 64 with h1 | h1
  · rw [Nat.min_eq_left (by omega)]
    have : ((x.toNat : Int) * 2 ^ n.toNat) = ((x.toNat * 2 ^ n.toNat : Nat) : Int) := by simp
    rw [this]
    all_goals omega
  · rw [Nat.min_eq_right h1]
    obtain ⟨m, hm⟩ := Nat.le.dest h1
    rw [← hm, Nat.pow_add, ← Nat.mul_assoc, Nat.mul_right_comm, Nat.mul_mod_left]
    omega

theorem shr_u64 (x : BitVec 64) (k : IntKind) (n : Int) (h : 0 ≤ n) : evBin .shr (u64 x) (.int k n) = some (u64 (x >>> n.toNat)) := by
  simp only [evBin, u64, if_neg (show ¬ n < 0 by omega), Option.some.injEq, V.int.injEq, true_and, IntKind.bits]
  rw [BitVec.toNat_ushiftRight, Nat.shiftRight_eq_div_pow, Int.fdiv_eq_ediv_of_nonneg _ (by exact Int.pow_nonneg (by omega))]
  have hx := x.isLt
  rcases Nat.lt_or_ge n.toNat 64 with h1 | h1
  · rw [Nat.min_eq_left (by omega)]
    simp
  · rw [Nat.min_eq_right h1]
    have h2 : 2 ^ 64 ≤ 2 ^ n.toNat := Nat.pow_le_pow_right (by omega) h1
    rw [Nat.div_eq_of_lt (by omega)]
    omega

def u16 (x : BitVec 16) : V := .int .u16 (x.toNat : Int)

theorem u16_wrap (n : Int) : IntKind.u16.wrap n = ((BitVec.ofInt 16 n).toNat : Int) := by
  unfold IntKind.wrap
  simp only [IntKind.bits, IntKind.signed, Bool.false_and, Bool.false_eq_true, if_false, BitVec.toNat_ofInt]
  omega

theorem u16_bv (x : BitVec 16) : BitVec.ofInt 16 (x.toNat : Int) = x := by
  apply BitVec.eq_of_toNat_eq
  simp only [BitVec.toNat_ofInt]
  have := x.isLt
  omega

theorem add_u16 (x y : BitVec 16) : evBin .add (u16 x) (u16 y) = some (u16 (x + y)) := by
  simp only [evBin, u16, binI, if_true, u16_wrap, Option.some.injEq, V.int.injEq, true_and]
  refine congrArg (Nat.cast : Nat → Int) ?_
  rw [BitVec.toNat_ofInt, BitVec.toNat_add]
  all_goals omega

theorem sub_u16 (x y : BitVec 16) : evBin .sub (u16 x) (u16 y) = some (u16 (x - y)) := by
  simp only [evBin, u16, binI, if_true, u16_wrap, Option.some.injEq, V.int.injEq, true_and]
  refine congrArg (Nat.cast : Nat → Int) ?_
  rw [BitVec.toNat_ofInt, BitVec.toNat_sub]
  have := x.isLt
  have := y.isLt
  omega

theorem mul_u16 (x y : BitVec 16) : evBin .mul (u16 x) (u16 y) = some (u16 (x * y)) := by
  simp only [evBin, u16, binI, if_true, u16_wrap, Option.some.injEq, V.int.injEq, true_and]
  refine congrArg (Nat.cast : Nat → Int) ?_
  rw [BitVec.toNat_ofInt, BitVec.toNat_mul, ← Int.natCast_mul]
  all_goals omega

theorem and_u16 (x y : BitVec 16) : evBin .and (u16 x) (u16 y) = some (u16 (x &&& y)) := by
  simp only [evBin, u16, binI, if_true, u16_wrap, Option.some.injEq, V.int.injEq, true_and, IntKind.bits, u16_bv]
  rfl

theorem or_u16 (x y : BitVec 16) : evBin .or (u16 x) (u16 y) = some (u16 (x ||| y)) := by
  simp only [evBin, u16, binI, if_true, u16_wrap, Option.some.injEq, V.int.injEq, true_and, IntKind.bits, u16_bv]
  rfl

theorem xor_u16 (x y : BitVec 16) : evBin .xor (u16 x) (u16 y) = some (u16 (x ^^^ y)) := by
  simp only [evBin, u16, binI, if_true, u16_wrap, Option.some.injEq, V.int.injEq, true_and, IntKind.bits, u16_bv]
  rfl

theorem quo_u16 (x y : BitVec 16) (h : y ≠ 0) : evBin .quo (u16 x) (u16 y) = some (u16 (x / y)) := by
  have h0 : (y.toNat : Int) ≠ 0 := fun e => h (BitVec.eq_of_toNat_eq (by simpa using e))
  simp only [evBin, u16, binI, if_true, if_neg h0, u16_wrap, Option.some.injEq, V.int.injEq, true_and]
  refine congrArg (Nat.cast : Nat → Int) ?_
  rw [BitVec.toNat_ofInt, BitVec.toNat_udiv, Int.tdiv_eq_ediv_of_nonneg (by omega), ← Int.natCast_ediv]
  have h1 := Nat.div_le_self x.toNat y.toNat
  have h2 := x.isLt
  generalize x.toNat / y.toNat = z at *
  omega

theorem rem_u16 (x y : BitVec 16) (h : y ≠ 0) : evBin .rem (u16 x) (u16 y) = some (u16 (x % y)) := by
  have h0 : (y.toNat : Int) ≠ 0 := fun e => h (BitVec.eq_of_toNat_eq (by simpa using e))
  simp only [evBin, u16, binI, if_true, if_neg h0, Option.some.injEq, V.int.injEq, true_and]
  rw [BitVec.toNat_umod, Int.tmod_eq_emod_of_nonneg (by omega), Int.natCast_emod]

theorem lss_u16 (x y : BitVec 16) : evBin .lss (u16 x) (u16 y) = some (.bool (decide (x < y))) := by
  simp only [evBin, u16, binI, if_true, BitVec.lt_def, Int.ofNat_lt]
theorem leq_u16 (x y : BitVec 16) : evBin .leq (u16 x) (u16 y) = some (.bool (decide (x ≤ y))) := by
  simp only [evBin, u16, binI, if_true, BitVec.le_def, Int.ofNat_le]
theorem gtr_u16 (x y : BitVec 16) : evBin .gtr (u16 x) (u16 y) = some (.bool (decide (y < x))) := by
  simp only [evBin, u16, binI, if_true, BitVec.lt_def, gt_iff_lt, Int.ofNat_lt]
theorem geq_u16 (x y : BitVec 16) : evBin .geq (u16 x) (u16 y) = some (.bool (decide (y ≤ x))) := by
  simp only [evBin, u16, binI, if_true, BitVec.le_def, ge_iff_le, Int.ofNat_le]
theorem eql_u16 (x y : BitVec 16) : evBin .eql (u16 x) (u16 y) = some (.bool (x == y)) := by
  simp only [evBin, u16, binI, if_true, Option.some.injEq, V.bool.injEq]
  rw [Bool.eq_iff_iff]
  simp only [beq_iff_eq, Int.ofNat_inj]
  exact ⟨fun e => BitVec.eq_of_toNat_eq e, fun e => by rw [e]⟩
theorem neq_u16 (x y : BitVec 16) : evBin .neq (u16 x) (u16 y) = some (.bool (x != y)) := by
  simp only [evBin, u16, binI, if_true, Option.some.injEq, V.bool.injEq]
  rw [Bool.eq_iff_iff]
  simp only [bne_iff_ne, ne_eq, Int.ofNat_inj]
  exact ⟨fun h e => h (by rw [e]), fun h e => h (BitVec.eq_of_toNat_eq e)⟩

theorem not_u16 (x : BitVec 16) : evUn .xor (u16 x) = some (u16 (~~~x)) := by
  simp only [evUn, u16, u16_wrap, Option.some.injEq, V.int.injEq, true_and, IntKind.bits, u16_bv, IntKind.signed, Bool.false_eq_true, if_false, IntKind.max]
  congr 2

theorem shl_u16 (x : BitVec 16) (k : IntKind) (n : Int) (h : 0 ≤ n) : evBin .shl (u16 x) (.int k n) = some (u16 (x <<< n.toNat)) := by
  simp only [evBin, u16, if_neg (show ¬ n < 0 by omega), u16_wrap, Option.some.injEq, V.int.injEq, true_and, IntKind.bits]
  refine congrArg (Nat.cast : Nat → Int) ?_
  rw [BitVec.toNat_ofInt, BitVec.toNat_shiftLeft, Nat.shiftLeft_eq]
  rcases Nat.lt_or_ge n.toNat 16 with h1 | h1
  · rw [Nat.min_eq_left (by omega)]
    have : ((x.toNat : Int) * 2 ^ n.toNat) = ((x.toNat * 2 ^ n.toNat : Nat) : Int) := by simp
    rw [this]
    all_goals omega
  · rw [Nat.min_eq_right h1]
    obtain ⟨m, hm⟩ := Nat.le.dest h1
    rw [← hm, Nat.pow_add, ← Nat.mul_assoc, Nat.mul_right_comm, Nat.mul_mod_left]
    omega

theorem shr_u16 (x : BitVec 16) (k : IntKind) (n : Int) (h : 0 ≤ n) : evBin .shr (u16 x) (.int k n) = some (u16 (x >>> n.toNat)) := by
  simp only [evBin, u16, if_neg (show ¬ n < 0 by omega), Option.some.injEq, V.int.injEq, true_and, IntKind.bits]
  rw [BitVec.toNat_ushiftRight, Nat.shiftRight_eq_div_pow, Int.fdiv_eq_ediv_of_nonneg _ (by exact Int.pow_nonneg (by omega))]
  have hx := x.isLt
  rcases Nat.lt_or_ge n.toNat 16 with h1 | h1
  · rw [Nat.min_eq_left (by omega)]
    simp
  · rw [Nat.min_eq_right h1]
    have h2 : 2 ^ 16 ≤ 2 ^ n.toNat := Nat.pow_le_pow_right (by omega) h1
    rw [Nat.div_eq_of_lt (by omega)]
    omega

theorem conv_u8_u8 (x : BitVec 8) : (IntKind.u8.wrap (x.toNat : Int)) = ((x.setWidth 8).toNat : Int) := by
  rw [u8_wrap, BitVec.toNat_ofInt, BitVec.toNat_setWidth]
  omega
theorem conv_u8_u32 (x : BitVec 8) : (IntKind.u32.wrap (x.toNat : Int)) = ((x.setWidth 32).toNat : Int) := by
  rw [u32_wrap, BitVec.toNat_ofInt, BitVec.toNat_setWidth]
  omega
theorem conv_u8_u64 (x : BitVec 8) : (IntKind.u64.wrap (x.toNat : Int)) = ((x.setWidth 64).toNat : Int) := by
  rw [u64_wrap, BitVec.toNat_ofInt, BitVec.toNat_setWidth]
  omega
theorem conv_u8_u16 (x : BitVec 8) : (IntKind.u16.wrap (x.toNat : Int)) = ((x.setWidth 16).toNat : Int) := by
  rw [u16_wrap, BitVec.toNat_ofInt, BitVec.toNat_setWidth]
  omega
theorem conv_u32_u8 (x : BitVec 32) : (IntKind.u8.wrap (x.toNat : Int)) = ((x.setWidth 8).toNat : Int) := by
  rw [u8_wrap, BitVec.toNat_ofInt, BitVec.toNat_setWidth]
  omega
theorem conv_u32_u32 (x : BitVec 32) : (IntKind.u32.wrap (x.toNat : Int)) = ((x.setWidth 32).toNat : Int) := by
  rw [u32_wrap, BitVec.toNat_ofInt, BitVec.toNat_setWidth]
  omega
theorem conv_u32_u64 (x : BitVec 32) : (IntKind.u64.wrap (x.toNat : Int)) = ((x.setWidth 64).toNat : Int) := by
  rw [u64_wrap, BitVec.toNat_ofInt, BitVec.toNat_setWidth]
  omega
theorem conv_u32_u16 (x : BitVec 32) : (IntKind.u16.wrap (x.toNat : Int)) = ((x.setWidth 16).toNat : Int) := by
  rw [u16_wrap, BitVec.toNat_ofInt, BitVec.toNat_setWidth]
  omega
theorem conv_u64_u8 (x : BitVec 64) : (IntKind.u8.wrap (x.toNat : Int)) = ((x.setWidth 8).toNat : Int) := by
  rw [u8_wrap, BitVec.toNat_ofInt, BitVec.toNat_setWidth]
  omega
theorem conv_u64_u32 (x : BitVec 64) : (IntKind.u32.wrap (x.toNat : Int)) = ((x.setWidth 32).toNat : Int) := by
  rw [u32_wrap, BitVec.toNat_ofInt, BitVec.toNat_setWidth]
  omega
theorem conv_u64_u64 (x : BitVec 64) : (IntKind.u64.wrap (x.toNat : Int)) = ((x.setWidth 64).toNat : Int) := by
  rw [u64_wrap, BitVec.toNat_ofInt, BitVec.toNat_setWidth]
  omega
theorem conv_u64_u16 (x : BitVec 64) : (IntKind.u16.wrap (x.toNat : Int)) = ((x.setWidth 16).toNat : Int) := by
  rw [u16_wrap, BitVec.toNat_ofInt, BitVec.toNat_setWidth]
  omega
theorem conv_u16_u8 (x : BitVec 16) : (IntKind.u8.wrap (x.toNat : Int)) = ((x.setWidth 8).toNat : Int) := by
  rw [u8_wrap, BitVec.toNat_ofInt, BitVec.toNat_setWidth]
  omega
theorem conv_u16_u32 (x : BitVec 16) : (IntKind.u32.wrap (x.toNat : Int)) = ((x.setWidth 32).toNat : Int) := by
  rw [u32_wrap, BitVec.toNat_ofInt, BitVec.toNat_setWidth]
  omega
theorem conv_u16_u64 (x : BitVec 16) : (IntKind.u64.wrap (x.toNat : Int)) = ((x.setWidth 64).toNat : Int) := by
  rw [u64_wrap, BitVec.toNat_ofInt, BitVec.toNat_setWidth]
  omega
theorem conv_u16_u16 (x : BitVec 16) : (IntKind.u16.wrap (x.toNat : Int)) = ((x.setWidth 16).toNat : Int) := by
  rw [u16_wrap, BitVec.toNat_ofInt, BitVec.toNat_setWidth]
  omega
theorem shl_u8_u8 (x : BitVec 8) (y : BitVec 8) : evBin .shl (u8 x) (u8 y) = some (u8 (x <<< y.toNat)) := by
  rw [show (u8 y) = V.int .u8 (y.toNat : Int) from rfl, shl_u8 x _ _ (by omega)]; simp
theorem shr_u8_u8 (x : BitVec 8) (y : BitVec 8) : evBin .shr (u8 x) (u8 y) = some (u8 (x >>> y.toNat)) := by
  rw [show (u8 y) = V.int .u8 (y.toNat : Int) from rfl, shr_u8 x _ _ (by omega)]; simp
theorem shl_u8_u32 (x : BitVec 8) (y : BitVec 32) : evBin .shl (u8 x) (u32 y) = some (u8 (x <<< y.toNat)) := by
  rw [show (u32 y) = V.int .u32 (y.toNat : Int) from rfl, shl_u8 x _ _ (by omega)]; simp
theorem shr_u8_u32 (x : BitVec 8) (y : BitVec 32) : evBin .shr (u8 x) (u32 y) = some (u8 (x >>> y.toNat)) := by
  rw [show (u32 y) = V.int .u32 (y.toNat : Int) from rfl, shr_u8 x _ _ (by omega)]; simp
theorem shl_u8_u64 (x : BitVec 8) (y : BitVec 64) : evBin .shl (u8 x) (u64 y) = some (u8 (x <<< y.toNat)) := by
  rw [show (u64 y) = V.int .u64 (y.toNat : Int) from rfl, shl_u8 x _ _ (by omega)]; simp
theorem shr_u8_u64 (x : BitVec 8) (y : BitVec 64) : evBin .shr (u8 x) (u64 y) = some (u8 (x >>> y.toNat)) := by
  rw [show (u64 y) = V.int .u64 (y.toNat : Int) from rfl, shr_u8 x _ _ (by omega)]; simp
theorem shl_u8_u16 (x : BitVec 8) (y : BitVec 16) : evBin .shl (u8 x) (u16 y) = some (u8 (x <<< y.toNat)) := by
  rw [show (u16 y) = V.int .u16 (y.toNat : Int) from rfl, shl_u8 x _ _ (by omega)]; simp
theorem shr_u8_u16 (x : BitVec 8) (y : BitVec 16) : evBin .shr (u8 x) (u16 y) = some (u8 (x >>> y.toNat)) := by
  rw [show (u16 y) = V.int .u16 (y.toNat : Int) from rfl, shr_u8 x _ _ (by omega)]; simp
theorem shl_u8_i64 (x : BitVec 8) (n : Int) (h : 0 ≤ n) : evBin .shl (u8 x) (i64 n) = some (u8 (x <<< n.toNat)) := shl_u8 x _ _ h
theorem shr_u8_i64 (x : BitVec 8) (n : Int) (h : 0 ≤ n) : evBin .shr (u8 x) (i64 n) = some (u8 (x >>> n.toNat)) := shr_u8 x _ _ h
theorem shl_u32_u8 (x : BitVec 32) (y : BitVec 8) : evBin .shl (u32 x) (u8 y) = some (u32 (x <<< y.toNat)) := by
  rw [show (u8 y) = V.int .u8 (y.toNat : Int) from rfl, shl_u32 x _ _ (by omega)]; simp
theorem shr_u32_u8 (x : BitVec 32) (y : BitVec 8) : evBin .shr (u32 x) (u8 y) = some (u32 (x >>> y.toNat)) := by
  rw [show (u8 y) = V.int .u8 (y.toNat : Int) from rfl, shr_u32 x _ _ (by omega)]; simp
theorem shl_u32_u32 (x : BitVec 32) (y : BitVec 32) : evBin .shl (u32 x) (u32 y) = some (u32 (x <<< y.toNat)) := by
  rw [show (u32 y) = V.int .u32 (y.toNat : Int) from rfl, shl_u32 x _ _ (by omega)]; simp
theorem shr_u32_u32 (x : BitVec 32) (y : BitVec 32) : evBin .shr (u32 x) (u32 y) = some (u32 (x >>> y.toNat)) := by
  rw [show (u32 y) = V.int .u32 (y.toNat : Int) from rfl, shr_u32 x _ _ (by omega)]; simp
theorem shl_u32_u64 (x : BitVec 32) (y : BitVec 64) : evBin .shl (u32 x) (u64 y) = some (u32 (x <<< y.toNat)) := by
  rw [show (u64 y) = V.int .u64 (y.toNat : Int) from rfl, shl_u32 x _ _ (by omega)]; simp
theorem shr_u32_u64 (x : BitVec 32) (y : BitVec 64) : evBin .shr (u32 x) (u64 y) = some (u32 (x >>> y.toNat)) := by
  rw [show (u64 y) = V.int .u64 (y.toNat : Int) from rfl, shr_u32 x _ _ (by omega)]; simp
theorem shl_u32_u16 (x : BitVec 32) (y : BitVec 16) : evBin .shl (u32 x) (u16 y) = some (u32 (x <<< y.toNat)) := by
  rw [show (u16 y) = V.int .u16 (y.toNat : Int) from rfl, shl_u32 x _ _ (by omega)]; simp
theorem shr_u32_u16 (x : BitVec 32) (y : BitVec 16) : evBin .shr (u32 x) (u16 y) = some (u32 (x >>> y.toNat)) := by
  rw [show (u16 y) = V.int .u16 (y.toNat : Int) from rfl, shr_u32 x _ _ (by omega)]; simp
theorem shl_u32_i64 (x : BitVec 32) (n : Int) (h : 0 ≤ n) : evBin .shl (u32 x) (i64 n) = some (u32 (x <<< n.toNat)) := shl_u32 x _ _ h
theorem shr_u32_i64 (x : BitVec 32) (n : Int) (h : 0 ≤ n) : evBin .shr (u32 x) (i64 n) = some (u32 (x >>> n.toNat)) := shr_u32 x _ _ h
theorem shl_u64_u8 (x : BitVec 64) (y : BitVec 8) : evBin .shl (u64 x) (u8 y) = some (u64 (x <<< y.toNat)) := by
  rw [show (u8 y) = V.int .u8 (y.toNat : Int) from rfl, shl_u64 x _ _ (by omega)]; simp
theorem shr_u64_u8 (x : BitVec 64) (y : BitVec 8) : evBin .shr (u64 x) (u8 y) = some (u64 (x >>> y.toNat)) := by
  rw [show (u8 y) = V.int .u8 (y.toNat : Int) from rfl, shr_u64 x _ _ (by omega)]; simp
theorem shl_u64_u32 (x : BitVec 64) (y : BitVec 32) : evBin .shl (u64 x) (u32 y) = some (u64 (x <<< y.toNat)) := by
  rw [show (u32 y) = V.int .u32 (y.toNat : Int) from rfl, shl_u64 x _ _ (by omega)]; simp
theorem shr_u64_u32 (x : BitVec 64) (y : BitVec 32) : evBin .shr (u64 x) (u32 y) = some (u64 (x >>> y.toNat)) := by
  rw [show (u32 y) = V.int .u32 (y.toNat : Int) from rfl, shr_u64 x _ _ (by omega)]; simp
theorem shl_u64_u64 (x : BitVec 64) (y : BitVec 64) : evBin .shl (u64 x) (u64 y) = some (u64 (x <<< y.toNat)) := by
  rw [show (u64 y) = V.int .u64 (y.toNat : Int) from rfl, shl_u64 x _ _ (by omega)]; simp
theorem shr_u64_u64 (x : BitVec 64) (y : BitVec 64) : evBin .shr (u64 x) (u64 y) = some (u64 (x >>> y.toNat)) := by
  rw [show (u64 y) = V.int .u64 (y.toNat : Int) from rfl, shr_u64 x _ _ (by omega)]; simp
theorem shl_u64_u16 (x : BitVec 64) (y : BitVec 16) : evBin .shl (u64 x) (u16 y) = some (u64 (x <<< y.toNat)) := by
  rw [show (u16 y) = V.int .u16 (y.toNat : Int) from rfl, shl_u64 x _ _ (by omega)]; simp
theorem shr_u64_u16 (x : BitVec 64) (y : BitVec 16) : evBin .shr (u64 x) (u16 y) = some (u64 (x >>> y.toNat)) := by
  rw [show (u16 y) = V.int .u16 (y.toNat : Int) from rfl, shr_u64 x _ _ (by omega)]; simp
theorem shl_u64_i64 (x : BitVec 64) (n : Int) (h : 0 ≤ n) : evBin .shl (u64 x) (i64 n) = some (u64 (x <<< n.toNat)) := shl_u64 x _ _ h
theorem shr_u64_i64 (x : BitVec 64) (n : Int) (h : 0 ≤ n) : evBin .shr (u64 x) (i64 n) = some (u64 (x >>> n.toNat)) := shr_u64 x _ _ h
theorem shl_u16_u8 (x : BitVec 16) (y : BitVec 8) : evBin .shl (u16 x) (u8 y) = some (u16 (x <<< y.toNat)) := by
  rw [show (u8 y) = V.int .u8 (y.toNat : Int) from rfl, shl_u16 x _ _ (by omega)]; simp
theorem shr_u16_u8 (x : BitVec 16) (y : BitVec 8) : evBin .shr (u16 x) (u8 y) = some (u16 (x >>> y.toNat)) := by
  rw [show (u8 y) = V.int .u8 (y.toNat : Int) from rfl, shr_u16 x _ _ (by omega)]; simp
theorem shl_u16_u32 (x : BitVec 16) (y : BitVec 32) : evBin .shl (u16 x) (u32 y) = some (u16 (x <<< y.toNat)) := by
  rw [show (u32 y) = V.int .u32 (y.toNat : Int) from rfl, shl_u16 x _ _ (by omega)]; simp
theorem shr_u16_u32 (x : BitVec 16) (y : BitVec 32) : evBin .shr (u16 x) (u32 y) = some (u16 (x >>> y.toNat)) := by
  rw [show (u32 y) = V.int .u32 (y.toNat : Int) from rfl, shr_u16 x _ _ (by omega)]; simp
theorem shl_u16_u64 (x : BitVec 16) (y : BitVec 64) : evBin .shl (u16 x) (u64 y) = some (u16 (x <<< y.toNat)) := by
  rw [show (u64 y) = V.int .u64 (y.toNat : Int) from rfl, shl_u16 x _ _ (by omega)]; simp
theorem shr_u16_u64 (x : BitVec 16) (y : BitVec 64) : evBin .shr (u16 x) (u64 y) = some (u16 (x >>> y.toNat)) := by
  rw [show (u64 y) = V.int .u64 (y.toNat : Int) from rfl, shr_u16 x _ _ (by omega)]; simp
theorem shl_u16_u16 (x : BitVec 16) (y : BitVec 16) : evBin .shl (u16 x) (u16 y) = some (u16 (x <<< y.toNat)) := by
  rw [show (u16 y) = V.int .u16 (y.toNat : Int) from rfl, shl_u16 x _ _ (by omega)]; simp
theorem shr_u16_u16 (x : BitVec 16) (y : BitVec 16) : evBin .shr (u16 x) (u16 y) = some (u16 (x >>> y.toNat)) := by
  rw [show (u16 y) = V.int .u16 (y.toNat : Int) from rfl, shr_u16 x _ _ (by omega)]; simp
theorem shl_u16_i64 (x : BitVec 16) (n : Int) (h : 0 ≤ n) : evBin .shl (u16 x) (i64 n) = some (u16 (x <<< n.toNat)) := shl_u16 x _ _ h
theorem shr_u16_i64 (x : BitVec 16) (n : Int) (h : 0 ≤ n) : evBin .shr (u16 x) (i64 n) = some (u16 (x >>> n.toNat)) := shr_u16 x _ _ h

end Go.A

/- Runs of A on open values: control, as equations without binders. -/
set_option linter.unusedVariables false
set_option linter.unusedSimpArgs false
set_option linter.unusedSectionVars false
namespace Go.A

/-! ### int -/
theorem add_i64 (a b : Int) : evBin .add (i64 a) (i64 b) = some (i64 (wr (a + b))) := Eq.trans rfl rfl
theorem sub_i64 (a b : Int) : evBin .sub (i64 a) (i64 b) = some (i64 (wr (a - b))) := Eq.trans rfl rfl
theorem mul_i64 (a b : Int) : evBin .mul (i64 a) (i64 b) = some (i64 (wr (a * b))) := Eq.trans rfl rfl
theorem quo_i64 (a b : Int) (h : b ≠ 0) : evBin .quo (i64 a) (i64 b) = some (i64 (wr (a.tdiv b))) := by simp [evBin, i64, binI, h, wr]
theorem rem_i64 (a b : Int) (h : b ≠ 0) : evBin .rem (i64 a) (i64 b) = some (i64 (a.tmod b)) := by simp [evBin, i64, binI, h]
theorem lss_i64 (a b : Int) : evBin .lss (i64 a) (i64 b) = some (.bool (decide (a < b))) := Eq.trans rfl rfl
theorem leq_i64 (a b : Int) : evBin .leq (i64 a) (i64 b) = some (.bool (decide (a ≤ b))) := Eq.trans rfl rfl
theorem gtr_i64 (a b : Int) : evBin .gtr (i64 a) (i64 b) = some (.bool (decide (a > b))) := Eq.trans rfl rfl
theorem geq_i64 (a b : Int) : evBin .geq (i64 a) (i64 b) = some (.bool (decide (a ≥ b))) := Eq.trans rfl rfl
theorem eql_i64 (a b : Int) : evBin .eql (i64 a) (i64 b) = some (.bool (a == b)) := Eq.trans rfl rfl
theorem neq_i64 (a b : Int) : evBin .neq (i64 a) (i64 b) = some (.bool (a != b)) := Eq.trans rfl rfl
theorem shl_i64 (a : Int) (k : IntKind) (n : Int) (h : 0 ≤ n) : evBin .shl (i64 a) (.int k n) = some (i64 (wr (a * 2 ^ min n.toNat 64))) := by
  simp only [evBin, i64, if_neg (show ¬ n < 0 by omega)]; rfl
theorem shr_i64 (a : Int) (k : IntKind) (n : Int) (h : 0 ≤ n) : evBin .shr (i64 a) (.int k n) = some (i64 (a / 2 ^ min n.toNat 64)) := by
  simp only [evBin, i64, if_neg (show ¬ n < 0 by omega)]
  rw [Int.fdiv_eq_ediv_of_nonneg _ (Int.pow_nonneg (by omega))]; rfl
theorem and_i64 (a b : Int) : evBin .and (i64 a) (i64 b) = some (i64 (wr ((BitVec.ofInt 64 a &&& BitVec.ofInt 64 b).toNat : Int))) := Eq.trans rfl rfl
theorem neg_i64 (a : Int) : evUn .neg (i64 a) = some (i64 (wr (0 - a))) := Eq.trans rfl rfl
theorem not_bool (b : Bool) : evUn .not (.bool b) = some (.bool !b) := Eq.trans rfl rfl

/-- A conversion between integers. -/
def cv (k : IntKind) : V → Option V
  | .int _ n => some (.int k (k.wrap n))
  | _ => none
theorem ev_conv (ρ : Rho) (k : IntKind) (x : Opd) : (POp.conv k x).ev ρ = cv k (ρ x) := by
  simp only [POp.ev]
  cases ρ x <;> rfl
theorem cv_i64_i64 (n : Int) : cv .i64 (i64 n) = some (i64 (wr n)) := Eq.trans rfl rfl
theorem cv_u8_i64 (n : Int) : cv .u8 (i64 n) = some (u8 (BitVec.ofInt 8 n)) := by simp only [cv, i64, u8, u8_wrap]
theorem cv_u16_i64 (n : Int) : cv .u16 (i64 n) = some (u16 (BitVec.ofInt 16 n)) := by simp only [cv, i64, u16, u16_wrap]
theorem cv_u32_i64 (n : Int) : cv .u32 (i64 n) = some (u32 (BitVec.ofInt 32 n)) := by simp only [cv, i64, u32, u32_wrap]
theorem cv_u64_i64 (n : Int) : cv .u64 (i64 n) = some (u64 (BitVec.ofInt 64 n)) := by simp only [cv, i64, u64, u64_wrap]
theorem cv_i64_u8 (x : BitVec 8) : cv .i64 (u8 x) = some (i64 (x.toNat : Int)) := by
  have := x.isLt
  simp only [cv, u8, i64]
  rw [show IntKind.i64.wrap (x.toNat : Int) = (x.toNat : Int) from wr_id (by omega) (by omega)]
theorem cv_i64_u16 (x : BitVec 16) : cv .i64 (u16 x) = some (i64 (x.toNat : Int)) := by
  have := x.isLt
  simp only [cv, u16, i64]
  rw [show IntKind.i64.wrap (x.toNat : Int) = (x.toNat : Int) from wr_id (by omega) (by omega)]
theorem cv_i64_u32 (x : BitVec 32) : cv .i64 (u32 x) = some (i64 (x.toNat : Int)) := by
  have := x.isLt
  simp only [cv, u32, i64]
  rw [show IntKind.i64.wrap (x.toNat : Int) = (x.toNat : Int) from wr_id (by omega) (by omega)]
theorem cv_i64_u64 (x : BitVec 64) : cv .i64 (u64 x) = some (i64 (wr (x.toNat : Int))) := Eq.trans rfl rfl
theorem cv_u8_u8 (x : BitVec 8) : cv .u8 (u8 x) = some (u8 x) := by simp only [cv, u8, u8_wrap, u8_bv]
theorem cv_u32_u32 (x : BitVec 32) : cv .u32 (u32 x) = some (u32 x) := by simp only [cv, u32, u32_wrap, u32_bv]
theorem cv_u64_u64 (x : BitVec 64) : cv .u64 (u64 x) = some (u64 x) := by simp only [cv, u64, u64_wrap, u64_bv]
theorem cv_u8_u32 (x : BitVec 32) : cv .u8 (u32 x) = some (u8 (x.setWidth 8)) := by simp only [cv, u8, u32, conv_u32_u8]
theorem cv_u8_u64 (x : BitVec 64) : cv .u8 (u64 x) = some (u8 (x.setWidth 8)) := by simp only [cv, u8, u64, conv_u64_u8]
theorem cv_u32_u8 (x : BitVec 8) : cv .u32 (u8 x) = some (u32 (x.setWidth 32)) := by simp only [cv, u8, u32, conv_u8_u32]
theorem cv_u32_u64 (x : BitVec 64) : cv .u32 (u64 x) = some (u32 (x.setWidth 32)) := by simp only [cv, u64, u32, conv_u64_u32]
theorem cv_u64_u8 (x : BitVec 8) : cv .u64 (u8 x) = some (u64 (x.setWidth 64)) := by simp only [cv, u8, u64, conv_u8_u64]
theorem cv_u64_u32 (x : BitVec 32) : cv .u64 (u32 x) = some (u64 (x.setWidth 64)) := by simp only [cv, u32, u64, conv_u32_u64]

theorem nat_i64 (n : Int) (h : 0 ≤ n) : (i64 n).nat? = some n.toNat := by simp [i64, V.nat?, h]
theorem nat_i64' (n : Nat) : (i64 (n : Int)).nat? = some n := by simp [i64, V.nat?]
theorem nat_u8 (x : BitVec 8) : (u8 x).nat? = some x.toNat := by simp [u8, V.nat?]
theorem nat_u32 (x : BitVec 32) : (u32 x).nat? = some x.toNat := by simp [u32, V.nat?]
theorem nat_u64 (x : BitVec 64) : (u64 x).nat? = some x.toNat := by simp [u64, V.nat?]

/-! ### temporaries -/
theorem put_some (e : Env) (i : Nat) (v : V) : A.put e (some i) v = (i, v) :: e := Eq.trans rfl rfl
theorem put_none (e : Env) (v : V) : A.put e none v = e := Eq.trans rfl rfl
theorem ev_t (e : Env) (n : Nat) : Opd.ev e (.t n) = A.get e n := Eq.trans rfl rfl
theorem ev_c (e : Env) (v : V) : Opd.ev e (.c v) = v := Eq.trans rfl rfl
theorem ev_f (e : Env) (n : Nat) : Opd.ev e (.f n) = .fn (.func n) [] [] := Eq.trans rfl rfl
theorem get_hit (e : Env) (i : Nat) (v : V) : A.get ((i, v) :: e) i = v := by simp [get_cons]
theorem get_miss (e : Env) (i j : Nat) (v : V) (h : (i == j) = false) : A.get ((i, v) :: e) j = A.get e j := by
  rw [get_cons, if_neg (by simpa using h)]

/-! ### operations in a row -/
section
variable (r : Rec)

def kP (x : Option V) (dd : Option Nat) (os : List AOper) (t : Env) (d : List Dfr) (u : Option (Option V)) (h : Heap) : Option (Ex × Fr × Heap) := x.bind fun v => stepOps r os ⟨A.put t dd v, d, u⟩ h
def kN (x : Option (Blk × (Nat → V))) (dd : Option Nat) (os : List AOper) (t : Env) (d : List Dfr) (u : Option (Option V)) (h : Heap) : Option (Ex × Fr × Heap) := x.bind fun (b, v) => stepOps r os ⟨A.put t dd (v h.length), d, u⟩ (h ++ [b])
def kL (x : Option (V × Heap)) (dd : Option Nat) (os : List AOper) (t : Env) (d : List Dfr) (u : Option (Option V)) : Option (Ex × Fr × Heap) := x.bind fun (v, h) => stepOps r os ⟨A.put t dd v, d, u⟩ h
def kC (x : Option (Out × Heap)) (dd : Option Nat) (os : List AOper) (t : Env) (d : List Dfr) (u : Option (Option V)) : Option (Ex × Fr × Heap) :=
  x.bind fun (o, h) => match o with | .ret v => stepOps r os ⟨A.put t dd v, d, u⟩ h | .pan v => some (.pan v, ⟨t, d, u⟩, h)
def k3 (x : Option (Out × Option V × Heap)) : Option (Out × Heap) := x.map fun (o, _, h) => (o, h)

theorem ops_nil (fr : Fr) (h : Heap) : stepOps r [] fr h = some (.norm, fr, h) := Eq.trans rfl rfl
theorem ops_p (dd : Option Nat) (q : POp) (os : List AOper) (t : Env) (d : List Dfr) (u : Option (Option V)) (h : Heap) :
    stepOps r (⟨dd, .p q, none⟩ :: os) ⟨t, d, u⟩ h = kP r (q.ev (Opd.ev t)) dd os t d u h := by
  cases hx : q.ev (Opd.ev t) <;> simp [stepOps, stepOp, wanted, kP, hx]
theorem ops_r (dd : Option Nat) (q : ROp) (os : List AOper) (t : Env) (d : List Dfr) (u : Option (Option V)) (h : Heap) :
    stepOps r (⟨dd, .r q, none⟩ :: os) ⟨t, d, u⟩ h = kP r (q.ev (Opd.ev t) h) dd os t d u h := by
  cases hx : q.ev (Opd.ev t) h <;> simp [stepOps, stepOp, wanted, kP, hx]
theorem ops_n (dd : Option Nat) (q : NOp) (os : List AOper) (t : Env) (d : List Dfr) (u : Option (Option V)) (h : Heap) :
    stepOps r (⟨dd, .n q, none⟩ :: os) ⟨t, d, u⟩ h = kN r (q.ev (Opd.ev t)) dd os t d u h := by
  cases hx : q.ev (Opd.ev t) <;> simp [stepOps, stepOp, wanted, kN, hx]
theorem ops_l (dd : Option Nat) (q : LOp) (os : List AOper) (t : Env) (d : List Dfr) (u : Option (Option V)) (h : Heap) :
    stepOps r (⟨dd, .l q, none⟩ :: os) ⟨t, d, u⟩ h = kL r (q.ev (Opd.ev t) h) dd os t d u := by
  cases hx : q.ev (Opd.ev t) h <;> simp [stepOps, stepOp, wanted, kL, hx]
theorem ops_call (dd : Option Nat) (c : Cal) (args : List Opd) (os : List AOper) (t : Env) (d : List Dfr) (u : Option (Option V)) (h : Heap) :
    stepOps r (⟨dd, .call c args, none⟩ :: os) ⟨t, d, u⟩ h = kC r (callC r c (Opd.ev t) (args.map (Opd.ev t)) h) dd os t d u := by
  cases hx : callC r c (Opd.ev t) (args.map (Opd.ev t)) h with
  | none => simp [stepOps, stepOp, wanted, kC, hx]
  | some y => obtain ⟨o, h'⟩ := y; cases o <;> simp [stepOps, stepOp, wanted, kC, hx]
theorem ops_dfr (dd : Option Nat) (f : Nat) (args : List Opd) (os : List AOper) (t : Env) (d : List Dfr) (u : Option V) (h : Heap) :
    stepOps r (⟨dd, .dfr (.st f) args, none⟩ :: os) ⟨t, d, some u⟩ h = stepOps r os ⟨A.put t dd .undef, .call f (args.map (Opd.ev t)) :: d, some u⟩ h := by
  simp [stepOps, stepOp, wanted, dfrOf]
theorem ops_dfrv (dd : Option Nat) (x : Opd) (args : List Opd) (os : List AOper) (t : Env) (d : List Dfr) (u : Option V) (h : Heap) {f : Nat} {a b : List V} (hx : Opd.ev t x = .fn (.func f) a b) :
    stepOps r (⟨dd, .dfr (.dyn x) args, none⟩ :: os) ⟨t, d, some u⟩ h = stepOps r os ⟨A.put t dd .undef, .call f (a ++ args.map (Opd.ev t) ++ b) :: d, some u⟩ h := by
  simp [stepOps, stepOp, wanted, dfrOf, hx]
theorem ops_pan (dd : Option Nat) (x : Opd) (os : List AOper) (t : Env) (d : List Dfr) (u : Option (Option V)) (h : Heap) {ty : Nat} {v : V} (hx : Opd.ev t x = .ifc ty v) :
    stepOps r (⟨dd, .pan x, none⟩ :: os) ⟨t, d, u⟩ h = some (.pan (.ifc ty v), ⟨t, d, u⟩, h) := by
  simp [stepOps, stepOp, wanted, hx]
theorem ops_rcv1 (dd : Option Nat) (os : List AOper) (t : Env) (d : List Dfr) (v : V) (h : Heap) :
    stepOps r (⟨dd, .rcv, none⟩ :: os) ⟨t, d, some (some v)⟩ h = stepOps r os ⟨A.put t dd v, d, some none⟩ h := by
  simp [stepOps, stepOp, wanted]
theorem ops_rcv0 (dd : Option Nat) (os : List AOper) (t : Env) (d : List Dfr) (h : Heap) :
    stepOps r (⟨dd, .rcv, none⟩ :: os) ⟨t, d, some none⟩ h = stepOps r os ⟨A.put t dd .nili, d, some none⟩ h := by
  simp [stepOps, stepOp, wanted]
theorem ops_g1 (dd : Option Nat) (o : AOp) (i : Nat) (b : Bool) (os : List AOper) (t : Env) (d : List Dfr) (u : Option (Option V)) (h : Heap) (hg : A.get t i = .bool b) :
    stepOps r (⟨dd, o, some (i, b)⟩ :: os) ⟨t, d, u⟩ h = stepOps r (⟨dd, o, none⟩ :: os) ⟨t, d, u⟩ h := by
  simp [stepOps, stepOp, wanted, hg]
theorem ops_g0 (dd : Option Nat) (o : AOp) (i : Nat) (b : Bool) (os : List AOper) (t : Env) (d : List Dfr) (u : Option (Option V)) (h : Heap) (hg : A.get t i = .bool !b) :
    stepOps r (⟨dd, o, some (i, b)⟩ :: os) ⟨t, d, u⟩ h = stepOps r os ⟨A.put t dd (.tup []), d, u⟩ h := by
  cases b <;> simp [stepOps, stepOp, wanted, hg]
/-- A guard that is itself not wanted. -/
theorem ops_gu (dd : Option Nat) (o : AOp) (i : Nat) (b : Bool) (os : List AOper) (t : Env) (d : List Dfr) (u : Option (Option V)) (h : Heap) (hg : A.get t i = .tup []) :
    stepOps r (⟨dd, o, some (i, b)⟩ :: os) ⟨t, d, u⟩ h = stepOps r os ⟨A.put t dd (.tup []), d, u⟩ h := by
  simp [stepOps, stepOp, wanted, hg]

theorem kP_some (v : V) (dd : Option Nat) (os : List AOper) (t : Env) (d : List Dfr) (u : Option (Option V)) (h : Heap) : kP r (some v) dd os t d u h = stepOps r os ⟨A.put t dd v, d, u⟩ h := Eq.trans rfl rfl
theorem kN_some (b : Blk) (v : Nat → V) (dd : Option Nat) (os : List AOper) (t : Env) (d : List Dfr) (u : Option (Option V)) (h : Heap) : kN r (some (b, v)) dd os t d u h = stepOps r os ⟨A.put t dd (v h.length), d, u⟩ (h ++ [b]) := Eq.trans rfl rfl
theorem kL_some (v : V) (h : Heap) (dd : Option Nat) (os : List AOper) (t : Env) (d : List Dfr) (u : Option (Option V)) : kL r (some (v, h)) dd os t d u = stepOps r os ⟨A.put t dd v, d, u⟩ h := Eq.trans rfl rfl
theorem kC_ret (v : V) (h : Heap) (dd : Option Nat) (os : List AOper) (t : Env) (d : List Dfr) (u : Option (Option V)) : kC r (some (.ret v, h)) dd os t d u = stepOps r os ⟨A.put t dd v, d, u⟩ h := Eq.trans rfl rfl
theorem kC_pan (v : V) (h : Heap) (dd : Option Nat) (os : List AOper) (t : Env) (d : List Dfr) (u : Option (Option V)) : kC r (some (.pan v, h)) dd os t d u = some (.pan v, ⟨t, d, u⟩, h) := Eq.trans rfl rfl
theorem k3_some (o : Out) (u : Option V) (h : Heap) : k3 (some (o, u, h)) = some (o, h) := Eq.trans rfl rfl
theorem callC_st (f : Nat) (ρ : Rho) (args : List V) (h : Heap) : callC r (.st f) ρ args h = k3 (r.call f args none h) := Eq.trans rfl rfl
theorem callC_dyn (x : Opd) (ρ : Rho) (args : List V) (h : Heap) : callC r (.dyn x) ρ args h = callV r (ρ x) args h := Eq.trans rfl rfl
theorem callV_fn (f : Nat) (a b args : List V) (h : Heap) : callV r (.fn (.func f) a b) args h = k3 (r.call f (a ++ args ++ b) none h) := Eq.trans rfl rfl

/-! ### code -/
def kS (x : Option (Ex × Fr × Heap)) (b : ACode) : Option (Ex × Fr × Heap) := x.bind fun (e, fr, h) => match e with | .norm => execC r b fr h | e => some (e, fr, h)
def kQ (c : V) (a b : ACode) (fr : Fr) (h : Heap) : Option (Ex × Fr × Heap) := match c with | .bool true => execC r a fr h | .bool false => execC r b fr h | _ => none
def kB (x : Option (Ex × Fr × Heap)) (id : Nat) : Option (Ex × Fr × Heap) := x.bind fun (e, fr, h) => match e with
    | .exit i => if Nat.beq i id = true then some (.norm, fr, h) else some (.exit i, fr, h)
    | e => some (e, fr, h)

theorem c_skip (fr : Fr) (h : Heap) : execC r .skip fr h = some (.norm, fr, h) := Eq.trans rfl rfl
theorem c_reg (ops : List AOper) (fr : Fr) (h : Heap) : execC r (.reg ops) fr h = stepOps r ops fr h := Eq.trans rfl rfl
theorem c_drw (ops : List (AOper × List Nat × Bool)) (fr : Fr) (h : Heap) : execC r (.drw ops) fr h = execDrw r ops [] fr h := Eq.trans rfl rfl
theorem c_seq (a b : ACode) (fr : Fr) (h : Heap) : execC r (.seq a b) fr h = kS r (execC r a fr h) b := Eq.trans rfl rfl
theorem c_cond (c : Opd) (a b : ACode) (t : Env) (d : List Dfr) (u : Option (Option V)) (h : Heap) : execC r (.cond c a b) ⟨t, d, u⟩ h = kQ r (c.ev t) a b ⟨t, d, u⟩ h := Eq.trans rfl rfl
theorem c_blk (id : Nat) (c : ACode) (fr : Fr) (h : Heap) : execC r (.blk id c) fr h = kB (execC r c fr h) id := Eq.trans rfl rfl
theorem c_exit (id : Nat) (fr : Fr) (h : Heap) : execC r (.exit id) fr h = some (.exit id, fr, h) := Eq.trans rfl rfl
theorem c_ret (fr : Fr) (h : Heap) : execC r .ret fr h = some (.ret, fr, h) := Eq.trans rfl rfl
def kK (l : List Nat) (t : Env) : Env := l.map fun i => (i, A.get t i)
theorem kK_nil (t : Env) : kK [] t = [] := Eq.trans rfl rfl
theorem kK_cons (i : Nat) (l : List Nat) (t : Env) : kK (i :: l) t = (i, A.get t i) :: kK l t := Eq.trans rfl rfl
theorem c_keep (l : List Nat) (t : Env) (d : List Dfr) (u : Option (Option V)) (h : Heap) : execC r (.keep l) ⟨t, d, u⟩ h = some (.norm, ⟨kK l t, d, u⟩, h) := Eq.trans rfl rfl

theorem kS_norm (fr : Fr) (h : Heap) (b : ACode) : kS r (some (.norm, fr, h)) b = execC r b fr h := Eq.trans rfl rfl
theorem kS_exit (i : Nat) (fr : Fr) (h : Heap) (b : ACode) : kS r (some (.exit i, fr, h)) b = some (.exit i, fr, h) := Eq.trans rfl rfl
theorem kS_ret (fr : Fr) (h : Heap) (b : ACode) : kS r (some (.ret, fr, h)) b = some (.ret, fr, h) := Eq.trans rfl rfl
theorem kS_pan (v : V) (fr : Fr) (h : Heap) (b : ACode) : kS r (some (.pan v, fr, h)) b = some (.pan v, fr, h) := Eq.trans rfl rfl
theorem kS_ite (c : Prop) [Decidable c] (x y : Option (Ex × Fr × Heap)) (b : ACode) : kS r (if c then x else y) b = if c then kS r x b else kS r y b := by split <;> rfl
theorem kQ_true (a b : ACode) (fr : Fr) (h : Heap) : kQ r (.bool true) a b fr h = execC r a fr h := Eq.trans rfl rfl
theorem kQ_false (a b : ACode) (fr : Fr) (h : Heap) : kQ r (.bool false) a b fr h = execC r b fr h := Eq.trans rfl rfl
theorem kQ_ite (c : Bool) (a b : ACode) (fr : Fr) (h : Heap) : kQ r (.bool c) a b fr h = if c = true then execC r a fr h else execC r b fr h := by cases c <;> rfl
theorem kB_norm (fr : Fr) (h : Heap) (id : Nat) : kB (some (.norm, fr, h)) id = some (.norm, fr, h) := Eq.trans rfl rfl
theorem kB_hit (fr : Fr) (h : Heap) (id : Nat) : kB (some (.exit id, fr, h)) id = some (.norm, fr, h) := by simp [kB]
theorem kB_miss (i : Nat) (fr : Fr) (h : Heap) (id : Nat) (hi : (i == id) = false) : kB (some (.exit i, fr, h)) id = some (.exit i, fr, h) := by
  have : ¬ i = id := by simpa using hi
  simp [kB, this]
theorem kB_ret (fr : Fr) (h : Heap) (id : Nat) : kB (some (.ret, fr, h)) id = some (.ret, fr, h) := Eq.trans rfl rfl
theorem kB_pan (v : V) (fr : Fr) (h : Heap) (id : Nat) : kB (some (.pan v, fr, h)) id = some (.pan v, fr, h) := Eq.trans rfl rfl
theorem kB_ite (c : Prop) [Decidable c] (x y : Option (Ex × Fr × Heap)) (id : Nat) : kB (if c then x else y) id = if c then kB x id else kB y id := by split <;> rfl

/-! ### calls -/
def kF (rs : List ARes) (x : Option (Ex × Fr × Heap)) : Option (Out × Option V × Heap) :=
  x.bind fun (e, fr, h) => match e, fr.u with
    | .norm, some u => leave r rs fr.t u fr.d none h
    | .ret, some u => leave r rs fr.t u fr.d none h
    | .pan v, some u => leave r rs fr.t u fr.d (some v) h
    | _, _ => none
theorem callB_kF (af : AFunc) (args : List V) (u : Option V) (h : Heap) : callB r af args u h = kF r af.res (execC r af.body (frame0 args u) h) := Eq.trans rfl rfl
theorem kF_norm (rs : List ARes) (t : Env) (d : List Dfr) (u : Option V) (h : Heap) : kF r rs (some (.norm, ⟨t, d, some u⟩, h)) = leave r rs t u d none h := Eq.trans rfl rfl
theorem kF_ret (rs : List ARes) (t : Env) (d : List Dfr) (u : Option V) (h : Heap) : kF r rs (some (.ret, ⟨t, d, some u⟩, h)) = leave r rs t u d none h := Eq.trans rfl rfl
theorem kF_pan (rs : List ARes) (v : V) (t : Env) (d : List Dfr) (u : Option V) (h : Heap) : kF r rs (some (.pan v, ⟨t, d, some u⟩, h)) = leave r rs t u d (some v) h := Eq.trans rfl rfl
theorem kF_ite (rs : List ARes) (c : Prop) [Decidable c] (x y : Option (Ex × Fr × Heap)) : kF r rs (if c then x else y) = if c then kF r rs x else kF r rs y := by split <;> rfl
def kR (x : Option V) (u : Option V) (h : Heap) : Option (Out × Option V × Heap) := x.map fun v => (.ret v, u, h)
theorem kR_some (v : V) (u : Option V) (h : Heap) : kR (some v) u h = some (.ret v, u, h) := Eq.trans rfl rfl
theorem leave_nil (rs : List ARes) (t : Env) (u : Option V) (h : Heap) : leave r rs t u [] none h = kR (resV t h rs) u h := Eq.trans rfl rfl
theorem leave_pan (rs : List ARes) (t : Env) (u : Option V) (v : V) (h : Heap) : leave r rs t u [] (some v) h = some (.pan v, u, h) := Eq.trans rfl rfl
end

theorem res_one (t : Env) (h : Heap) (n : Nat) : resV t h [.t n] = some (A.get t n) := Eq.trans rfl rfl
theorem res_two (t : Env) (h : Heap) (n m : Nat) : resV t h [.t n, .t m] = some (.tup [A.get t n, A.get t m]) := Eq.trans rfl rfl
theorem res_three (t : Env) (h : Heap) (n m k : Nat) : resV t h [.t n, .t m, .t k] = some (.tup [A.get t n, A.get t m, A.get t k]) := Eq.trans rfl rfl
theorem res_none (t : Env) (h : Heap) : resV t h [] = some (.tup []) := Eq.trans rfl rfl

theorem call_gc0 {T : Tbl} {f : Nat} {rs : List ARes} {c : ACode} (hf : T.fn f = some ⟨rs, c, 0⟩) (args : List V) (u : Option V) (h : Heap) : (run T).call f args u h = kF (run T) rs (execC (run T) c (frame0 args u) h) := by
  rw [run_call]; simp only [callG, hf]; rfl
theorem call_gc1 {T : Tbl} {f : Nat} {rs : List ARes} {c : ACode} (hf : T.fn f = some ⟨rs, c, 1⟩) (args : List V) (h : Heap) {v : V} {h' : Heap} (he : kF (run T) rs (execC (run T) c (frame0 args none) (roH h)) = some (.ret v, none, h')) (hv : v.bel h.length = true) :
    (run T).call f args none h = some (.ret v, none, h) := by
  rw [run_call]
  simp only [callG, hf]
  show ((kF (run T) rs (execC (run T) c (frame0 args none) (roH h))).bind fun (o, u', _) => if (o.bel h.length && belO h.length u') = true then some (o, u', h) else none) = _
  rw [he]
  simp [Out.bel, hv, belO]

theorem frame0_eq (args : List V) (u : Option V) : frame0 args u = ⟨args.zipIdx.map fun (v, i) => (i, v), [], some u⟩ := Eq.trans rfl rfl

/-- A loop whose round begins by forgetting all but some temporaries. -/
def Nxt (o : Option (Ex × Fr × Heap)) (L : List Nat) (vs : List V) (d : List Dfr) (u : Option (Option V)) (h' : Heap) : Prop :=
  ∃ t, o = some (.norm, ⟨t, d, u⟩, h') ∧ kK L t = L.zip vs

theorem loop_keep {T : Tbl} {L : List Nat} {c : ACode} {d : List Dfr} {u : Option (Option V)} (vs : Nat → List V) (hp : Nat → Heap) {e : Ex} {fr' : Fr} {h' : Heap} (hne : e ≠ .norm) (n : Nat)
    (hstep : ∀ i, i < n → Nxt (execC (run T) c ⟨L.zip (vs i), d, u⟩ (hp i)) L (vs (i + 1)) d u (hp (i + 1)))
    (hend : execC (run T) c ⟨L.zip (vs n), d, u⟩ (hp n) = some (e, fr', h')) :
    ∀ t, kK L t = L.zip (vs 0) → execC (run T) (.loop (.seq (.keep L) c)) ⟨t, d, u⟩ (hp 0) = some (e, fr', h') := by
  have key : ∀ m i, i + m = n → ∀ t, kK L t = L.zip (vs i) → execC (run T) (.loop (.seq (.keep L) c)) ⟨t, d, u⟩ (hp i) = some (e, fr', h') := by
    intro m
    induction m with
    | zero =>
      intro i hi t ht
      have : i = n := by omega
      subst this
      simp only [execC, Option.bind_some]
      rw [show (L.map fun i => (i, A.get t i)) = L.zip (vs i) from ht, hend]
      cases e <;> first | rfl | exact absurd rfl hne
    | succ m ih =>
      intro i hi t ht
      obtain ⟨t', h1, h2⟩ := hstep i (by omega)
      simp only [execC, Option.bind_some]
      rw [show (L.map fun i => (i, A.get t i)) = L.zip (vs i) from ht, h1]
      simp only [Option.bind_some]
      rw [run_code]
      exact ih (i + 1) (by omega) t' h2
  exact key n 0 (by omega)

/-! ### what each operation gives -/
section
variable (ρ : Rho)
theorem ev_mv (x : Opd) : (POp.mv x).ev ρ = some (ρ x) := Eq.trans rfl rfl
theorem ev_pick (c a b : Opd) : (POp.pick c a b).ev ρ = match ρ c with | .bool true => some (ρ a) | .bool false => some (ρ b) | _ => none := Eq.trans rfl rfl
theorem ev_build (zs : List V) (parts : List (Nat × Nat × Opd)) : (POp.build zs parts).ev ρ = (fill zs (parts.map fun (o, s, x) => (o, s, ρ x))).map .agg := Eq.trans rfl rfl
theorem ev_bin (op : BinOp) (x y : Opd) : (POp.bin op x y).ev ρ = evBin op (ρ x) (ρ y) := Eq.trans rfl rfl
def eqR (neg : Bool) : Option Bool → Option V
  | some r => some (.bool (if neg then !r else r))
  | none => none
theorem ev_eqv (neg : Bool) (t : ETy) (x y : Opd) : (POp.eqv neg t x y).ev ρ = eqR neg (evEq t (ρ x) (ρ y)) := by
  simp only [POp.ev]; cases evEq t (ρ x) (ρ y) <;> rfl
theorem eqR_f (r : Bool) : eqR false (some r) = some (.bool r) := Eq.trans rfl rfl
theorem eqR_t (r : Bool) : eqR true (some r) = some (.bool !r) := Eq.trans rfl rfl
theorem ev_un (op : UnOp) (x : Opd) : (POp.un op x).ev ρ = evUn op (ρ x) := Eq.trans rfl rfl
theorem ev_mkif (t : Nat) (x : Opd) : (POp.mkif t x).ev ρ = some (.ifc t (ρ x)) := Eq.trans rfl rfl
theorem ev_mkfn (f : Fn) (a b : List Opd) : (POp.mkfn f a b).ev ρ = some (.fn f (a.map ρ) (b.map ρ)) := Eq.trans rfl rfl
def vSl (esz : Nat) (v : V) (lo hi mx : Option V) : Option V := match v with
    | .sl e b o n c => if e = esz then (bounds n c lo hi mx).map fun (l, h, m) => .sl esz b (if m = l then o else o + l * esz) (h - l) (m - l) else none
    | .nils => (bounds 0 0 lo hi mx).map fun _ => .nils
    | _ => none
theorem ev_slSl (esz : Nat) (x : Opd) (lo hi mx : Option Opd) : (POp.slSl esz x lo hi mx).ev ρ = vSl esz (ρ x) (lo.map ρ) (hi.map ρ) (mx.map ρ) := by
  simp only [POp.ev, vSl]; cases ρ x <;> rfl
def vArr (n esz : Nat) (v : V) (lo hi mx : Option V) : Option V := match v with
    | .ptr b o => (bounds n n lo hi mx).map fun (l, h, m) => .sl esz b (if m = l then o else o + l * esz) (h - l) (m - l)
    | _ => none
theorem ev_slArr (n esz : Nat) (x : Opd) (lo hi mx : Option Opd) : (POp.slArr n esz x lo hi mx).ev ρ = vArr n esz (ρ x) (lo.map ρ) (hi.map ρ) (mx.map ρ) := by
  simp only [POp.ev, vArr]; cases ρ x <;> rfl
def vFA (off : Nat) : V → Option V
  | .ptr b o => some (.ptr b (o + off))
  | _ => none
theorem ev_fieldA (off : Nat) (x : Opd) : (POp.fieldA off x).ev ρ = vFA off (ρ x) := by simp only [POp.ev, vFA]; cases ρ x <;> rfl
theorem vFA_ptr (off b o : Nat) : vFA off (.ptr b o) = some (.ptr b (o + off)) := Eq.trans rfl rfl
def vF (off : Nat) (sz : Option Nat) : V → Option V
  | .agg cs => part cs off sz
  | _ => none
theorem ev_field (off : Nat) (sz : Option Nat) (x : Opd) : (POp.field off sz x).ev ρ = vF off sz (ρ x) := by simp only [POp.ev, vF]; cases ρ x <;> rfl
theorem vF_agg (off : Nat) (sz : Option Nat) (cs : List V) : vF off sz (.agg cs) = part cs off sz := Eq.trans rfl rfl
def vIA (n esz : Nat) (v : V) (j : Option Nat) : Option V := match v, j with
    | .ptr b o, some j => if j < n then some (.ptr b (o + j * esz)) else none
    | _, _ => none
theorem ev_idxA (n esz : Nat) (x i : Opd) : (POp.idxA n esz x i).ev ρ = vIA n esz (ρ x) (ρ i).nat? := by simp only [POp.ev, vIA]; cases ρ x <;> cases (ρ i).nat? <;> rfl
theorem vIA_ptr (n esz b o j : Nat) (h : j < n) : vIA n esz (.ptr b o) (some j) = some (.ptr b (o + j * esz)) := by simp [vIA, h]
def vIS (esz : Nat) (v : V) (j : Option Nat) : Option V := match v, j with
    | .sl _ b o n _, some j => if j < n then some (.ptr b (o + j * esz)) else none
    | _, _ => none
theorem ev_idxS (esz : Nat) (x i : Opd) : (POp.idxS esz x i).ev ρ = vIS esz (ρ x) (ρ i).nat? := by simp only [POp.ev, vIS]; cases ρ x <;> cases (ρ i).nat? <;> rfl
theorem vIS_sl (esz e b o n c j : Nat) (h : j < n) : vIS esz (.sl e b o n c) (some j) = some (.ptr b (o + j * esz)) := by simp [vIS, h]
def vI (n esz : Nat) (sz : Option Nat) (v : V) (j : Option Nat) : Option V := match v, j with
    | .agg cs, some j => if j < n then part cs (j * esz) sz else none
    | _, _ => none
theorem ev_idx (n esz : Nat) (sz : Option Nat) (x i : Opd) : (POp.idx n esz sz x i).ev ρ = vI n esz sz (ρ x) (ρ i).nat? := by simp only [POp.ev, vI]; cases ρ x <;> cases (ρ i).nat? <;> rfl
def vX (i : Nat) : V → Option V
  | .tup vs => vs[i]?
  | _ => none
theorem ev_ext (x : Opd) (i : Nat) : (POp.ext x i).ev ρ = vX i (ρ x) := by simp only [POp.ev, vX]; cases ρ x <;> rfl
theorem vX_tup (i : Nat) (vs : List V) : vX i (.tup vs) = vs[i]? := Eq.trans rfl rfl
def vLen : V → Option V
  | .sl _ _ _ n _ => some (i64 n)
  | .nils => some (i64 0)
  | _ => none
theorem ev_lenS (x : Opd) : (POp.lenS x).ev ρ = vLen (ρ x) := by simp only [POp.ev, vLen]; cases ρ x <;> rfl
theorem vLen_sl (e b o n c : Nat) : vLen (.sl e b o n c) = some (i64 n) := Eq.trans rfl rfl
theorem vLen_nils : vLen .nils = some (i64 0) := Eq.trans rfl rfl
theorem ev_lenK (n : Nat) : (POp.lenK n).ev ρ = some (i64 n) := Eq.trans rfl rfl
def vNil : V → Option V
    | .ptr b o => some (.ptr b o)
    | .ifc t v => some (.ifc t v)
    | .fn (.func f) a b => some (.fn (.func f) a b)
    | .fn (.yield f) a b => some (.fn (.yield f) a b)
    | _ => none
theorem ev_nilck (x : Opd) : (POp.nilck x).ev ρ = vNil (ρ x) := by
  simp only [POp.ev, vNil]
  cases ρ x with
  | fn f a b => cases f <;> rfl
  | _ => rfl
theorem vNil_ptr (b o : Nat) : vNil (.ptr b o) = some (.ptr b o) := Eq.trans rfl rfl
theorem vNil_fn (f : Nat) (a b : List V) : vNil (.fn (.func f) a b) = some (.fn (.func f) a b) := Eq.trans rfl rfl
theorem vNil_y (f : Nat) (a b : List V) : vNil (.fn (.yield f) a b) = some (.fn (.yield f) a b) := Eq.trans rfl rfl
def vAs (t : Nat) (zero : V) (ok : Bool) : V → Option V
    | .ifc t' v => if t' = t then some (if ok then .tup [v, .bool true] else v) else if ok then some (.tup [zero, .bool false]) else none
    | .nili => if ok then some (.tup [zero, .bool false]) else none
    | _ => none
theorem ev_asrt (t : Nat) (z : V) (ok : Bool) (x : Opd) : (POp.asrt t z ok x).ev ρ = vAs t z ok (ρ x) := by simp only [POp.ev, vAs]; cases ρ x <;> rfl
def vS2a (n : Nat) : V → Option V
    | .sl _ b o l _ => if n ≤ l then some (.ptr b o) else none
    | _ => none
theorem ev_s2a (n : Nat) (x : Opd) : (POp.s2a n x).ev ρ = vS2a n (ρ x) := by simp only [POp.ev, vS2a]; cases ρ x <;> rfl
theorem vS2a_sl (n e b o l c : Nat) (h : n ≤ l) : vS2a n (.sl e b o l c) = some (.ptr b o) := by simp [vS2a, h]
def vLd (h : Heap) : V → Option V
  | .ptr b o => (cellsAt h b).bind fun cs => cs[o]?
  | _ => none
theorem ev_ld (h : Heap) (x : Opd) : (ROp.ld x).ev ρ h = vLd h (ρ x) := by simp only [ROp.ev, vLd]; cases ρ x <;> rfl
def vLdN (h : Heap) (n : Nat) : V → Option V
  | .ptr b o => (readN h b o n).map .agg
  | _ => none
theorem ev_ldN (h : Heap) (n : Nat) (x : Opd) : (ROp.ldN n x).ev ρ h = vLdN h n (ρ x) := by simp only [ROp.ev, vLdN]; cases ρ x <;> rfl
def vStr (h : Heap) : V → Option V
    | .nils => some (.str [])
    | .sl _ b o n _ => ((readN h b o n).bind bytesOf).map .str
    | _ => none
theorem ev_b2s (h : Heap) (x : Opd) : (ROp.b2s x).ev ρ h = vStr h (ρ x) := by simp only [ROp.ev, vStr]; cases ρ x <;> rfl
theorem ev_alloc (zs : List V) : (NOp.alloc zs).ev ρ = some (.cells .ex zs, fun b => .ptr b 0) := Eq.trans rfl rfl
theorem ev_box (x : Opd) (h : (ρ x).ok = true) : (NOp.box x).ev ρ = some (.cells .ex (ρ x).cells, fun b => .ptr b 0) := by simp [NOp.ev, h]
end

theorem ok_u8 (x : BitVec 8) : (u8 x).ok = true := Eq.trans rfl rfl
theorem ok_u32 (x : BitVec 32) : (u32 x).ok = true := Eq.trans rfl rfl
theorem ok_u64 (x : BitVec 64) : (u64 x).ok = true := Eq.trans rfl rfl
theorem ok_i64 (n : Int) : (i64 n).ok = true := Eq.trans rfl rfl
theorem ok_agg (cs : List V) : (V.agg cs).ok = true := Eq.trans rfl rfl
theorem ok_sl (e b o n c : Nat) : (V.sl e b o n c).ok = true := Eq.trans rfl rfl
theorem ok_ptr (b o : Nat) : (V.ptr b o).ok = true := Eq.trans rfl rfl
theorem ok_bool (b : Bool) : (V.bool b).ok = true := Eq.trans rfl rfl
theorem ok_nils : V.nils.ok = true := Eq.trans rfl rfl
theorem ok_fn (f : Fn) (a b : List V) : (V.fn f a b).ok = true := Eq.trans rfl rfl
theorem cells_u8 (x : BitVec 8) : (u8 x).cells = [u8 x] := Eq.trans rfl rfl
theorem cells_u32 (x : BitVec 32) : (u32 x).cells = [u32 x] := Eq.trans rfl rfl
theorem cells_u64 (x : BitVec 64) : (u64 x).cells = [u64 x] := Eq.trans rfl rfl
theorem cells_i64 (n : Int) : (i64 n).cells = [i64 n] := Eq.trans rfl rfl
theorem cells_agg (cs : List V) : (V.agg cs).cells = cs := Eq.trans rfl rfl
theorem cells_sl (e b o n c : Nat) : (V.sl e b o n c).cells = [.sl e b o n c] := Eq.trans rfl rfl
theorem cells_ptr (b o : Nat) : (V.ptr b o).cells = [.ptr b o] := Eq.trans rfl rfl
theorem cells_bool (b : Bool) : (V.bool b).cells = [.bool b] := Eq.trans rfl rfl
theorem cells_nils : V.nils.cells = [.nils] := Eq.trans rfl rfl
theorem cells_fn (f : Fn) (a b : List V) : (V.fn f a b).cells = [.fn f a b] := Eq.trans rfl rfl

/-! ### memory: what was there, then what was made -/
theorem at_new (h : Heap) (l : Heap) (k : Nat) : (h ++ l)[h.length + k]? = l[k]? := by rw [List.getElem?_append_right (by omega)]; congr 1; omega
theorem cells_new (h l : Heap) (k : Nat) {m : Md} {cs : List V} (e : l[k]? = some (.cells m cs)) : cellsAt (h ++ l) (h.length + k) = some cs := by simp [cellsAt, at_new, e]
theorem cells_new0 (h l : Heap) {m : Md} {cs : List V} : cellsAt (h ++ .cells m cs :: l) h.length = some cs := cells_new h _ 0 rfl
theorem len_roH (h : Heap) : (roH h).length = h.length := by simp [roH]
theorem set_new (h l : Heap) (k : Nat) (b : Blk) : (h ++ l).set (h.length + k) b = h ++ l.set k b := by rw [List.set_append_right _ _ (by omega)]; congr 2; omega
theorem writeN_new (h l : Heap) (k o : Nat) (xs : List V) {m : Md} {cs : List V} (e : l[k]? = some (.cells m cs)) (hm : m ≠ .ro) (hle : o + xs.length ≤ cs.length) (hx : xs.all V.one = true) :
    writeN (h ++ l) (h.length + k) o xs = some (h ++ l.set k (.cells m (cs.take o ++ xs ++ cs.drop (o + xs.length)))) := by
  simp only [writeN, at_new, e]
  rw [if_pos ⟨hm, hle, hx⟩, set_new]

end Go.A

/- Runs of A on open values: regions whose order is open; loops that are unrolled; memory. -/
set_option linter.unusedVariables false
set_option linter.unusedSimpArgs false
set_option linter.unusedSectionVars false
namespace Go.A

mutual
theorem veq_self : ∀ (a : V), veq a a = true := by
  intro a
  cases a <;> simp only [veq, Bool.and_eq_true, decide_eq_true_eq, Nat.beq_eq, beq_iff_eq, and_self]
  case agg x => exact veqL_self x
  case tup x => exact veqL_self x
  case fn f x y => exact ⟨⟨trivial, veqL_self x⟩, veqL_self y⟩
  case ifc t v => exact ⟨trivial, veq_self v⟩
theorem veqL_self : ∀ (a : List V), veqL a a = true := by
  intro a
  cases a with
  | nil => rfl
  | cons x xs => simp only [veqL, Bool.and_eq_true]; exact ⟨veq_self x, veqL_self xs⟩
end

section
variable (r : Rec)

def kDP (x : Option V) (dd : Option Nat) (os : List (AOper × List Nat × Bool)) (sn : List Heap) (t : Env) (d : List Dfr) (u : Option (Option V)) (h : Heap) : Option (Ex × Fr × Heap) := x.bind fun v => execDrw r os sn ⟨A.put t dd v, d, u⟩ h
def kDN (x : Option (Blk × (Nat → V))) (dd : Option Nat) (os : List (AOper × List Nat × Bool)) (sn : List Heap) (t : Env) (d : List Dfr) (u : Option (Option V)) (h : Heap) : Option (Ex × Fr × Heap) := x.bind fun (b, v) => execDrw r os sn ⟨A.put t dd (v h.length), d, u⟩ (h ++ [b])
def kDL (x : Option (V × Heap)) (dd : Option Nat) (os : List (AOper × List Nat × Bool)) (sn : List Heap) (t : Env) (d : List Dfr) (u : Option (Option V)) : Option (Ex × Fr × Heap) := x.bind fun (v, h) => execDrw r os sn ⟨A.put t dd v, d, u⟩ h
def kDC (x : Option (Out × Heap)) (dd : Option Nat) (os : List (AOper × List Nat × Bool)) (sn : List Heap) (t : Env) (d : List Dfr) (u : Option (Option V)) (pf : Bool) : Option (Ex × Fr × Heap) :=
  x.bind fun (o, h) => match o with | .ret v => execDrw r os sn ⟨A.put t dd v, d, u⟩ h | .pan v => if pf = true then some (.pan v, ⟨t, d, u⟩, h) else none
def kD2 (c : Bool) (v : V) (dd : Option Nat) (os : List (AOper × List Nat × Bool)) (sn : List Heap) (t : Env) (d : List Dfr) (u : Option (Option V)) (h : Heap) : Option (Ex × Fr × Heap) := if c = true then execDrw r os sn ⟨A.put t dd v, d, u⟩ h else none
def kDR (x : Option V) (q : ROp) (is : List Nat) (dd : Option Nat) (os : List (AOper × List Nat × Bool)) (sn : List Heap) (t : Env) (d : List Dfr) (u : Option (Option V)) (h : Heap) : Option (Ex × Fr × Heap) :=
  x.bind fun v => kD2 r (same (Opd.ev t) q v sn is) v dd os sn t d u h

theorem drw_nil (sn : List Heap) (fr : Fr) (h : Heap) : execDrw r [] sn fr h = some (.norm, fr, h) := Eq.trans rfl rfl
theorem drw_p (dd : Option Nat) (q : POp) (is : List Nat) (pf : Bool) (os : List (AOper × List Nat × Bool)) (sn : List Heap) (t : Env) (d : List Dfr) (u : Option (Option V)) (h : Heap) :
    execDrw r ((⟨dd, .p q, none⟩, is, pf) :: os) sn ⟨t, d, u⟩ h = kDP r (q.ev (Opd.ev t)) dd os sn t d u h := by
  cases hx : q.ev (Opd.ev t) <;> simp [execDrw, sameOp, stepOp, wanted, kDP, hx, AOp.loud]
theorem drw_r0 (dd : Option Nat) (q : ROp) (pf : Bool) (os : List (AOper × List Nat × Bool)) (sn : List Heap) (t : Env) (d : List Dfr) (u : Option (Option V)) (h : Heap) :
    execDrw r ((⟨dd, .r q, none⟩, [], pf) :: os) sn ⟨t, d, u⟩ h = kDP r (q.ev (Opd.ev t) h) dd os sn t d u h := by
  cases hx : q.ev (Opd.ev t) h <;> simp [execDrw, sameOp, stepOp, wanted, kDP, hx, AOp.loud, same]
theorem drw_r (dd : Option Nat) (q : ROp) (i : Nat) (is : List Nat) (pf : Bool) (os : List (AOper × List Nat × Bool)) (sn : List Heap) (t : Env) (d : List Dfr) (u : Option (Option V)) (h : Heap) :
    execDrw r ((⟨dd, .r q, none⟩, i :: is, pf) :: os) sn ⟨t, d, u⟩ h = kDR r (q.ev (Opd.ev t) h) q (i :: is) dd os sn t d u h := by
  cases hx : q.ev (Opd.ev t) h with
  | none => simp [execDrw, sameOp, stepOp, wanted, kDR, hx, AOp.loud]
  | some v => cases hs : same (Opd.ev t) q v sn (i :: is) <;> simp [execDrw, sameOp, stepOp, wanted, kDR, kD2, hx, AOp.loud, hs]
theorem drw_n (dd : Option Nat) (q : NOp) (is : List Nat) (pf : Bool) (os : List (AOper × List Nat × Bool)) (sn : List Heap) (t : Env) (d : List Dfr) (u : Option (Option V)) (h : Heap) :
    execDrw r ((⟨dd, .n q, none⟩, is, pf) :: os) sn ⟨t, d, u⟩ h = kDN r (q.ev (Opd.ev t)) dd os sn t d u h := by
  cases hx : q.ev (Opd.ev t) <;> simp [execDrw, sameOp, stepOp, wanted, kDN, hx, AOp.loud]
theorem drw_l (dd : Option Nat) (q : LOp) (is : List Nat) (pf : Bool) (os : List (AOper × List Nat × Bool)) (sn : List Heap) (t : Env) (d : List Dfr) (u : Option (Option V)) (h : Heap) :
    execDrw r ((⟨dd, .l q, none⟩, is, pf) :: os) sn ⟨t, d, u⟩ h = kDL r (q.ev (Opd.ev t) h) dd os (sn ++ [h]) t d u := by
  cases hx : q.ev (Opd.ev t) h <;> simp [execDrw, sameOp, stepOp, wanted, kDL, hx, AOp.loud]
theorem drw_call (dd : Option Nat) (c : Cal) (args : List Opd) (is : List Nat) (pf : Bool) (os : List (AOper × List Nat × Bool)) (sn : List Heap) (t : Env) (d : List Dfr) (u : Option (Option V)) (h : Heap) :
    execDrw r ((⟨dd, .call c args, none⟩, is, pf) :: os) sn ⟨t, d, u⟩ h = kDC r (callC r c (Opd.ev t) (args.map (Opd.ev t)) h) dd os (sn ++ [h]) t d u pf := by
  cases hx : callC r c (Opd.ev t) (args.map (Opd.ev t)) h with
  | none => simp [execDrw, sameOp, stepOp, wanted, kDC, hx, AOp.loud]
  | some y => obtain ⟨o, h'⟩ := y; cases o <;> simp [execDrw, sameOp, stepOp, wanted, kDC, hx, AOp.loud]
theorem drw_g1 (dd : Option Nat) (o : AOp) (i : Nat) (b : Bool) (is : List Nat) (pf : Bool) (os : List (AOper × List Nat × Bool)) (sn : List Heap) (t : Env) (d : List Dfr) (u : Option (Option V)) (h : Heap) (hg : A.get t i = .bool b) :
    execDrw r ((⟨dd, o, some (i, b)⟩, is, pf) :: os) sn ⟨t, d, u⟩ h = execDrw r ((⟨dd, o, none⟩, is, pf) :: os) sn ⟨t, d, u⟩ h := by
  simp [execDrw, sameOp, stepOp, wanted, hg]
theorem drw_g0 (dd : Option Nat) (o : AOp) (i : Nat) (b : Bool) (is : List Nat) (pf : Bool) (os : List (AOper × List Nat × Bool)) (sn : List Heap) (t : Env) (d : List Dfr) (u : Option (Option V)) (h : Heap) (hg : A.get t i = .bool !b) :
    execDrw r ((⟨dd, o, some (i, b)⟩, is, pf) :: os) sn ⟨t, d, u⟩ h = execDrw r os (if o.loud = true then sn ++ [h] else sn) ⟨A.put t dd (.tup []), d, u⟩ h := by
  cases b <;> simp [execDrw, sameOp, stepOp, wanted, hg]
theorem drw_gu (dd : Option Nat) (o : AOp) (i : Nat) (b : Bool) (is : List Nat) (pf : Bool) (os : List (AOper × List Nat × Bool)) (sn : List Heap) (t : Env) (d : List Dfr) (u : Option (Option V)) (h : Heap) (hg : A.get t i = .tup []) :
    execDrw r ((⟨dd, o, some (i, b)⟩, is, pf) :: os) sn ⟨t, d, u⟩ h = execDrw r os (if o.loud = true then sn ++ [h] else sn) ⟨A.put t dd (.tup []), d, u⟩ h := by
  simp [execDrw, sameOp, stepOp, wanted, hg]

theorem kDP_some (v : V) (dd : Option Nat) (os : List (AOper × List Nat × Bool)) (sn : List Heap) (t : Env) (d : List Dfr) (u : Option (Option V)) (h : Heap) : kDP r (some v) dd os sn t d u h = execDrw r os sn ⟨A.put t dd v, d, u⟩ h := Eq.trans rfl rfl
theorem kDN_some (b : Blk) (v : Nat → V) (dd : Option Nat) (os : List (AOper × List Nat × Bool)) (sn : List Heap) (t : Env) (d : List Dfr) (u : Option (Option V)) (h : Heap) : kDN r (some (b, v)) dd os sn t d u h = execDrw r os sn ⟨A.put t dd (v h.length), d, u⟩ (h ++ [b]) := Eq.trans rfl rfl
theorem kDL_some (v : V) (h : Heap) (dd : Option Nat) (os : List (AOper × List Nat × Bool)) (sn : List Heap) (t : Env) (d : List Dfr) (u : Option (Option V)) : kDL r (some (v, h)) dd os sn t d u = execDrw r os sn ⟨A.put t dd v, d, u⟩ h := Eq.trans rfl rfl
theorem kDC_ret (v : V) (h : Heap) (dd : Option Nat) (os : List (AOper × List Nat × Bool)) (sn : List Heap) (t : Env) (d : List Dfr) (u : Option (Option V)) (pf : Bool) : kDC r (some (.ret v, h)) dd os sn t d u pf = execDrw r os sn ⟨A.put t dd v, d, u⟩ h := Eq.trans rfl rfl
theorem kDC_pan (v : V) (h : Heap) (dd : Option Nat) (os : List (AOper × List Nat × Bool)) (sn : List Heap) (t : Env) (d : List Dfr) (u : Option (Option V)) : kDC r (some (.pan v, h)) dd os sn t d u true = some (.pan v, ⟨t, d, u⟩, h) := Eq.trans rfl rfl
theorem kDR_some (v : V) (q : ROp) (is : List Nat) (dd : Option Nat) (os : List (AOper × List Nat × Bool)) (sn : List Heap) (t : Env) (d : List Dfr) (u : Option (Option V)) (h : Heap) :
    kDR r (some v) q is dd os sn t d u h = kD2 r (same (Opd.ev t) q v sn is) v dd os sn t d u h := rfl
theorem kD2_true (v : V) (dd : Option Nat) (os : List (AOper × List Nat × Bool)) (sn : List Heap) (t : Env) (d : List Dfr) (u : Option (Option V)) (h : Heap) : kD2 r true v dd os sn t d u h = execDrw r os sn ⟨A.put t dd v, d, u⟩ h := Eq.trans rfl rfl
end

def sm2 (v : V) : Option V → Bool
  | some v' => veq v' v
  | none => false
def sm1 (ρ : Rho) (q : ROp) (v : V) : Option Heap → Bool
  | some h => sm2 v (q.ev ρ h)
  | none => false
theorem same_nil (ρ : Rho) (q : ROp) (v : V) (sn : List Heap) : same ρ q v sn [] = true := Eq.trans rfl rfl
theorem same_cons (ρ : Rho) (q : ROp) (v : V) (sn : List Heap) (i : Nat) (is : List Nat) : same ρ q v sn (i :: is) = (sm1 ρ q v sn[i]? && same ρ q v sn is) := by
  simp only [same, sm1]
  cases sn[i]? with
  | none => rfl
  | some h => simp only [sm2]; cases q.ev ρ h <;> rfl
theorem sm1_some (ρ : Rho) (q : ROp) (v : V) (h : Heap) : sm1 ρ q v (some h) = sm2 v (q.ev ρ h) := Eq.trans rfl rfl
theorem sm2_some (v : V) : sm2 v (some v) = true := veq_self v

/-- A loop, one round. -/
noncomputable def kLp (T : Tbl) (x : Option (Ex × Fr × Heap)) (c : ACode) : Option (Ex × Fr × Heap) := x.bind fun (e, fr, h) => match e with | .norm => execC (run T) (.loop c) fr h | e => some (e, fr, h)
theorem c_loop (T : Tbl) (c : ACode) (fr : Fr) (h : Heap) : execC (run T) (.loop c) fr h = kLp T (execC (run T) c fr h) c := by
  show (execC (run T) c fr h).bind (fun (e, fr, h) => match e with | .norm => (run T).code (.loop c) fr h | e => some (e, fr, h)) = _
  unfold kLp
  congr 1
  funext ⟨e, fr, h⟩
  cases e with
  | norm => exact run_code _ _ _
  | _ => rfl
theorem kLp_norm (T : Tbl) (fr : Fr) (h : Heap) (c : ACode) : kLp T (some (.norm, fr, h)) c = execC (run T) (.loop c) fr h := Eq.trans rfl rfl
theorem kLp_exit (T : Tbl) (i : Nat) (fr : Fr) (h : Heap) (c : ACode) : kLp T (some (.exit i, fr, h)) c = some (.exit i, fr, h) := Eq.trans rfl rfl
theorem kLp_ret (T : Tbl) (fr : Fr) (h : Heap) (c : ACode) : kLp T (some (.ret, fr, h)) c = some (.ret, fr, h) := Eq.trans rfl rfl
theorem kLp_pan (T : Tbl) (v : V) (fr : Fr) (h : Heap) (c : ACode) : kLp T (some (.pan v, fr, h)) c = some (.pan v, fr, h) := Eq.trans rfl rfl

/-! ### stores and reads of what was made -/
def vSt (h : Heap) (x : V) : V → Option (V × Heap)
  | .ptr b o => (writeN h b o [x]).map fun h => (.undef, h)
  | _ => none
theorem ev_st (ρ : Rho) (h : Heap) (a x : Opd) : (LOp.st a x).ev ρ h = vSt h (ρ x) (ρ a) := by simp only [LOp.ev, vSt]; cases ρ a <;> rfl
def vStN (h : Heap) (n : Nat) (x : V) (a : V) : Option (V × Heap) := match a, x with
  | .ptr b o, .agg cs => if cs.length = n then (writeN h b o cs).map fun h => (.undef, h) else none
  | _, _ => none
theorem ev_stN (ρ : Rho) (h : Heap) (n : Nat) (a x : Opd) : (LOp.stN n a x).ev ρ h = vStN h n (ρ x) (ρ a) := by
  simp only [LOp.ev, vStN]
  cases ρ a <;> cases ρ x <;> rfl
theorem ev_app (ρ : Rho) (h : Heap) (e b : Nat) (s x : Opd) : (LOp.app e b s x).ev ρ h = evApp e b h (ρ s) (ρ x) := Eq.trans rfl rfl
theorem ev_cpy (ρ : Rho) (h : Heap) (e : Nat) (d s : Opd) : (LOp.cpy e d s).ev ρ h = evCpy e h (ρ d) (ρ s) := Eq.trans rfl rfl

theorem one_u8 (x : BitVec 8) : (u8 x).one = true := Eq.trans rfl rfl
theorem one_u32 (x : BitVec 32) : (u32 x).one = true := Eq.trans rfl rfl
theorem one_u64 (x : BitVec 64) : (u64 x).one = true := Eq.trans rfl rfl
theorem one_i64 (n : Int) : (i64 n).one = true := Eq.trans rfl rfl

theorem nxt_some (t : Env) (h1 : Heap) (L : List Nat) (vs : List V) (d : List Dfr) (u : Option (Option V)) (h' : Heap) (hk : kK L t = L.zip vs) (hh : h1 = h') : Nxt (some (.norm, ⟨t, d, u⟩, h1)) L vs d u h' := ⟨t, by rw [hh], hk⟩

def kApp (H : Heap) : Option Heap → Option Heap
  | some l => some (H ++ l)
  | none => none
def kCons (b : Blk) : Option Heap → Option Heap
  | some l => some (b :: l)
  | none => none
theorem kApp_some (H l : Heap) : kApp H (some l) = some (H ++ l) := Eq.trans rfl rfl
theorem kCons_some (b : Blk) (l : Heap) : kCons b (some l) = some (b :: l) := Eq.trans rfl rfl
theorem wr_app (H l : Heap) (k o : Nat) (xs : List V) : writeN (H ++ l) (H.length + k) o xs = kApp H (writeN l k o xs) := by
  simp only [writeN, at_new]
  split
  · split
    · rw [set_new]; rfl
    · rfl
  · rfl
theorem wr_app0 (H l : Heap) (o : Nat) (xs : List V) : writeN (H ++ l) H.length o xs = kApp H (writeN l 0 o xs) := wr_app H l 0 o xs
theorem wr_succ (b : Blk) (l : Heap) (k o : Nat) (xs : List V) : writeN (b :: l) (k + 1) o xs = kCons b (writeN l k o xs) := by
  simp only [writeN, List.getElem?_cons_succ, List.set_cons_succ]
  cases hx : l[k]? with
  | none => rfl
  | some y =>
    cases y with
    | cells m cs =>
      by_cases hc : m ≠ .ro ∧ o + xs.length ≤ cs.length ∧ xs.all V.one = true
      · simp only [if_pos hc]; rfl
      · simp only [if_neg hc]; rfl
    | _ => rfl
theorem wr_one (cs : List V) (l : Heap) (o : Nat) (x : V) (ho : o < cs.length) (hx : x.one = true) : writeN (.cells .ex cs :: l) 0 o [x] = some (.cells .ex (cs.set o x) :: l) := by
  simp only [writeN, List.getElem?_cons_zero, List.set_cons_zero]
  rw [if_pos ⟨by simp, by simp only [List.length_singleton]; omega, by simpa using hx⟩]
  simp only [List.length_singleton]
  congr 3
  rw [List.set_eq_take_append_cons_drop, if_pos ho]
  simp
theorem wr_all (cs xs : List V) (l : Heap) (hl : xs.length = cs.length) (hx : xs.all V.one = true) : writeN (.cells .ex cs :: l) 0 0 xs = some (.cells .ex xs :: l) := by
  simp only [writeN, List.getElem?_cons_zero, List.set_cons_zero]
  rw [if_pos ⟨by simp, by omega, hx⟩]
  simp [hl]
theorem at_app (H l : Heap) (k : Nat) : cellsAt (H ++ l) (H.length + k) = cellsAt l k := by simp only [cellsAt, at_new]
theorem at_app0 (H l : Heap) : cellsAt (H ++ l) H.length = cellsAt l 0 := at_app H l 0
theorem at_succ (b : Blk) (l : Heap) (k : Nat) : cellsAt (b :: l) (k + 1) = cellsAt l k := by simp only [cellsAt, List.getElem?_cons_succ]
theorem at_zero (m : Md) (cs : List V) (l : Heap) : cellsAt (.cells m cs :: l) 0 = some cs := Eq.trans rfl rfl
theorem vLd_at (h : Heap) (b o : Nat) {cs : List V} (e : cellsAt h b = some cs) : vLd h (.ptr b o) = cs[o]? := by simp [vLd, e]
def kAt (o : Nat) : Option (List V) → Option V
  | some cs => cs[o]?
  | none => none
theorem vLd_ptr (h : Heap) (b o : Nat) : vLd h (.ptr b o) = kAt o (cellsAt h b) := by simp only [vLd, kAt]; cases cellsAt h b <;> rfl
theorem kAt_some (o : Nat) (cs : List V) : kAt o (some cs) = cs[o]? := Eq.trans rfl rfl
def kAg (o n : Nat) : Option (List V) → Option V
  | some cs => if o + n ≤ cs.length then some (.agg ((cs.drop o).take n)) else none
  | none => none
theorem vLdN_ptr (h : Heap) (n b o : Nat) : vLdN h n (.ptr b o) = kAg o n (cellsAt h b) := by
  simp only [vLdN, kAg, readN]
  cases cellsAt h b with
  | none => rfl
  | some cs => simp only [Option.bind_some]; split <;> rfl
theorem kAg_some (o n : Nat) (cs : List V) (h : o + n ≤ cs.length) : kAg o n (some cs) = some (.agg ((cs.drop o).take n)) := by simp [kAg, h]
theorem kAg_all (cs : List V) : kAg 0 cs.length (some cs) = some (.agg cs) := by simp [kAg]
def kW : Option Heap → Option (V × Heap)
  | some h => some (.undef, h)
  | none => none
theorem kW_some (h : Heap) : kW (some h) = some (.undef, h) := Eq.trans rfl rfl
theorem vSt_ptr (h : Heap) (x : V) (b o : Nat) : vSt h x (.ptr b o) = kW (writeN h b o [x]) := by simp only [vSt, kW]; cases writeN h b o [x] <;> rfl
theorem vStN_ptr (h : Heap) (n : Nat) (cs : List V) (b o : Nat) (hl : cs.length = n) : vStN h n (.agg cs) (.ptr b o) = kW (writeN h b o cs) := by
  simp only [vStN, hl, if_true, kW]; cases writeN h b o cs <;> rfl

end Go.A

/- Runs of A on open values: slices, copies, appends. -/
set_option linter.unusedVariables false
set_option linter.unusedSimpArgs false
set_option linter.unusedSectionVars false
namespace Go.A

def on (d : Nat) : Option V → Option Nat
  | some v => v.nat?
  | none => some d
def bd (c : Nat) (ok : Bool) : Option Nat → Option Nat → Option Nat → Option (Nat × Nat × Nat)
  | some l, some h, some m => if l ≤ h ∧ h ≤ m ∧ m ≤ c ∧ ok = true then some (l, h, m) else none
  | _, _, _ => none
theorem bounds_eq (n c : Nat) (lo hi mx : Option V) : bounds n c lo hi mx = bd c (!mx.isSome || hi.isSome) (on 0 lo) (on n hi) (on c mx) := by
  show (match on 0 lo, on n hi, on c mx with
    | some l, some h, some m => if l ≤ h ∧ h ≤ m ∧ m ≤ c ∧ (mx.isSome = true → hi.isSome = true) then some (l, h, m) else none
    | _, _, _ => none) = _
  generalize on 0 lo = x
  generalize on n hi = y
  generalize on c mx = z
  cases x <;> cases y <;> cases z <;> first | rfl | skip
  simp only [bd]
  congr 1
  cases mx <;> cases hi <;> simp
theorem on_some (d : Nat) (v : V) : on d (some v) = v.nat? := Eq.trans rfl rfl
theorem on_none (d : Nat) : on d none = some d := Eq.trans rfl rfl
theorem bd_some (c l h m : Nat) (h1 : l ≤ h) (h2 : h ≤ m) (h3 : m ≤ c) : bd c true (some l) (some h) (some m) = some (l, h, m) := by simp [bd, h1, h2, h3]
def kSl (esz b o : Nat) : Option (Nat × Nat × Nat) → Option V
  | some (l, h, m) => some (.sl esz b (if m = l then o else o + l * esz) (h - l) (m - l))
  | none => none
theorem vArr_eq (n esz b o : Nat) (lo hi mx : Option V) : vArr n esz (.ptr b o) lo hi mx = kSl esz b o (bounds n n lo hi mx) := by
  simp only [vArr, kSl]; cases bounds n n lo hi mx <;> rfl
theorem vSl_eq (e b o n c : Nat) (lo hi mx : Option V) : vSl e (.sl e b o n c) lo hi mx = kSl e b o (bounds n c lo hi mx) := by
  simp only [vSl, if_true, kSl]; cases bounds n c lo hi mx <;> rfl
theorem kSl_some (esz b o l h m : Nat) (hne : (m == l) = false) : kSl esz b o (some (l, h, m)) = some (.sl esz b (o + l * esz) (h - l) (m - l)) := by
  have : ¬ m = l := by simpa using hne
  simp [kSl, this]
theorem kSl_end (esz b o h m : Nat) : kSl esz b o (some (m, h, m)) = some (.sl esz b o (h - m) (m - m)) := by simp [kSl]
theorem kSl_zero (esz b o h m : Nat) : kSl esz b o (some (0, h, m)) = some (.sl esz b o h m) := by simp [kSl]

def kRd (o n : Nat) : Option (List V) → Option (List V)
  | some cs => if o + n ≤ cs.length then some ((cs.drop o).take n) else none
  | none => none
theorem readN_eq (h : Heap) (b o n : Nat) : readN h b o n = kRd o n (cellsAt h b) := by simp only [readN, kRd]; cases cellsAt h b <;> rfl
theorem kRd_some (o n : Nat) (cs : List V) (h : o + n ≤ cs.length) : kRd o n (some cs) = some ((cs.drop o).take n) := by simp [kRd, h]

def kCp2 (k : Nat) : Option Heap → Option (V × Heap)
  | some h => some (i64 k, h)
  | none => none
def kCp (h : Heap) (b o k : Nat) : Option (List V) → Option (V × Heap)
  | some cs => kCp2 k (writeN h b o cs)
  | none => none
theorem cpy_sl (esz e b o n c e' b' o' n' c' : Nat) (h : Heap) (hk : (min n' n == 0) = false) : evCpy esz h (.sl e b o n c) (.sl e' b' o' n' c') = kCp h b o (min n' n) (readN h b' o' (min n' n * esz)) := by
  have : ¬ min n' n = 0 := by simpa using hk
  simp only [evCpy, lenD, lenV, Option.bind_some, if_neg this, cpyCells]
  cases readN h b' o' (min n' n * esz) with
  | none => rfl
  | some cs => simp only [Option.bind_some, kCp]; cases writeN h b o cs <;> rfl
theorem kCp_some (h : Heap) (b o k : Nat) (cs : List V) : kCp h b o k (some cs) = kCp2 k (writeN h b o cs) := Eq.trans rfl rfl
theorem kCp2_some (k : Nat) (h : Heap) : kCp2 k (some h) = some (i64 k, h) := Eq.trans rfl rfl
theorem wr_many (cs xs : List V) (l : Heap) (o : Nat) (ho : o + xs.length ≤ cs.length) (hx : xs.all V.one = true) : writeN (.cells .ex cs :: l) 0 o xs = some (.cells .ex (cs.take o ++ xs ++ cs.drop (o + xs.length)) :: l) := by
  simp only [writeN, List.getElem?_cons_zero, List.set_cons_zero]
  rw [if_pos ⟨by simp, ho, hx⟩]

end Go.A

