import Derived.Test.YtcgajpdhbanhaaaGreatEvQ
import Derived.Recover
namespace Go.Ev
set_option linter.unusedVariables false
set_option linter.unusedSimpArgs false
section
variable {P : Program} {T : TTab}
structure RecOk (P : Program) (gd : FuncId) (fd : Func) (id : Nat) (ops : Array Oper) (o0 o1 : Oper) (rest : Code) (t3 t2 : Tmp) : Prop where
  fn : P.funcs[gd]? = some fd
  isFn : IsFn P gd
  body : fd.body = some (.seq (.region id ops false) rest)
  res : fd.results = #[]
  ops : ops.toList = [o0, o1]
  d0 : o0.dst = some t3
  g0 : o0.guard = none
  p0 : o0.op = .call ⟨.builtin .recover, #[], #[]⟩
  d1 : o1.dst = some t2
  g1 : o1.guard = none
  p1 : o1.op = .assign (.tmp t3)
  ne : gd ≠ markF
def recSt (nt : Nat) (cap : List AVal) (σ : Mem) (t3 t2 : Tmp) (r : AVal) : St :=
  let tm := setD (initSt nt cap σ).tm (some t3) r
  ⟨setD tm (some t2) (tm.getD t3 (.tup [])), [], σ⟩
theorem srel_init {w0 : W0} {ρ : Nat → Loc} {σ : Mem} {w : World} (hr : Rel w0 ρ σ w) {args : List AVal} (hs : scL σ.next args = true) (nt : Nat) :
    SRel w0 ρ (initSt nt args σ) { tmps := (γL ρ args).toArray ++ Array.replicate (nt - (γL ρ args).toArray.size) undef, defers := [] } w := by
  refine ⟨hr, ?_, ?_, rfl, by simp [initSt]⟩
  · apply Array.ext'
    simp [initSt, γL_append, γL_replicate, undef_γ ρ]
  · simp only [initSt, scL_append]
    refine ⟨hs, ?_⟩
    rw [scL_iff]
    intro v hv
    rw [(List.mem_replicate.1 hv).2]
    simp [sc, scL]
theorem recover_run {o : Oper} (h : o.op = .call ⟨.builtin .recover, #[], #[]⟩) (ρ : Operand → Value) (w : World) : (execOp ρ o).run P w = .ok .recover w := by
  obtain ⟨dst, op, type, pos, after, guard⟩ := o
  subst h
  rfl
theorem callsD_rec {gd : FuncId} {fd : Func} {id : Nat} {ops : Array Oper} {o0 o1 : Oper} {rest : Code} {t3 t2 : Tmp} (hk : RecOk P gd fd id ops o0 o1 rest t3 t2)
    {w0 : W0} {ρ : Nat → Loc} {σ : Mem} {w : World} {cap : List AVal} {r : AVal} {u u2 : FrameMode} (hr : Rel w0 ρ σ w) (hc : scL σ.next cap = true) (hs : sc σ.next r = true)
    (hu : ∀ (c₀ : Frame) (cs : List Frame), c₀.mode = u → (recoverD (c₀ :: cs) = none ∧ γ ρ r = .nilIface ∧ u2 = u) ∨ recoverD (c₀ :: cs) = some (γ ρ r, { c₀ with mode := u2 } :: cs))
    {Q : Mem → (Nat → Loc) → World → Prop}
    (hrest : AWP P rest (recSt fd.ntmps cap σ t3 t2 r) fun o s => (o = .normal ∨ o = .ret) ∧ s.df = [] ∧ ∀ ρ' w', Rel w0 ρ' s.mem w' → (∀ i, i < σ.next → ρ' i = ρ i) → σ.next ≤ s.mem.next → Q s.mem ρ' w') :
    CallsD P gd (γL ρ cap).toArray u w fun e u' w' => (∃ v, e = .returned v) ∧ u' = u2 ∧ ∃ σ' ρ', Q σ' ρ' w' := by
  refine callsD_of_wpS hk.fn hk.body fun c₀ cs hm => ?_
  have h0 := srel_init hr hc fd.ntmps
  refine wpS_seq (wpS_region ?_)
  have hsz : ops.size = 2 := by rw [← Array.length_toList, hk.ops]; rfl
  have hi0 : ops[0]? = some o0 := by rw [← Array.getElem?_toList, hk.ops]; rfl
  have hi1 : ops[1]? = some o1 := by rw [← Array.getElem?_toList, hk.ops]; rfl
  rw [hsz]
  show wpOpsS P ops _ [0, 1] _ _ _
  have w0' : ∀ y, Region.wanted o0 y = true := by intro y; simp [Region.wanted, hk.g0]
  have w1' : ∀ y, Region.wanted o1 y = true := by intro y; simp [Region.wanted, hk.g1]
  have key : ∀ cs', cs' = { c₀ with mode := u2 } :: cs →
      wpOpsS P ops (Exit.thenS (rest.wpS P (bodyPostS P fd c₀ cs fun e u' w' => (∃ v, e = .returned v) ∧ u' = u2 ∧ ∃ σ' ρ', Q σ' ρ' w')) (bodyPostS P fd c₀ cs fun e u' w' => (∃ v, e = .returned v) ∧ u' = u2 ∧ ∃ σ' ρ', Q σ' ρ' w'))
        [1] (Act.put { tmps := (γL ρ cap).toArray ++ Array.replicate (fd.ntmps - (γL ρ cap).toArray.size) undef, defers := [] } o0.dst (γ ρ r)) cs' w := by
    rintro cs' rfl
    have h1 := h0.put (v := r) hs o0.dst
    simp only [wpOpsS, hi1, w1', if_true]
    have hev : ev (setD (initSt fd.ntmps cap σ).tm o0.dst r) (.tmp t3) = some ((setD (initSt fd.ntmps cap σ).tm o0.dst r).getD t3 (.tup [])) := rfl
    obtain ⟨e1, e2⟩ := ev_γ h1.tm h1.sct hev
    have hrun : (execOp (Act.put { tmps := (γL ρ cap).toArray ++ Array.replicate (fd.ntmps - (γL ρ cap).toArray.size) undef, defers := [] } o0.dst (γ ρ r)).eval o1).run P w =
        .ok (.value (γ ρ ((setD (initSt fd.ntmps cap σ).tm o0.dst r).getD t3 (.tup [])))) w := by
      obtain ⟨dst, op, type, pos, after, guard⟩ := o1
      have := hk.p1
      simp only at this
      subst this
      simp only [execOp, e1, Sem.run_pure]
    rw [hrun]
    show Code.wpS P rest (bodyPostS P fd c₀ cs fun e u' w' => (∃ v, e = .returned v) ∧ u' = u2 ∧ ∃ σ' ρ', Q σ' ρ' w') _ _ _
    refine wpS_of_wp ?_
    have h2 := h1.put (v := (setD (initSt fd.ntmps cap σ).tm o0.dst r).getD t3 (.tup [])) e2 o1.dst
    rw [hk.d0, hk.d1] at h2
    rw [hk.d0, hk.d1]
    refine wp_mono (hrest w0 ρ _ w h2) ?_
    rintro e a' w' ⟨o, s, ⟨ho, hd, hq⟩, ⟨ρ', rfl, k1, k2, k3, _⟩⟩
    have hdf : a'.defers = [] := by rw [k1.df, hd]; rfl
    have hres : ∃ v, (results fd a'.tmps).run P w' = .ok v w' := by
      refine ⟨.tuple #[], ?_⟩
      rw [results_eq, Array.mapM_eq_mapM_toList, hk.res]
      simp [Sem.run_bind, Sem.run_pure]
    obtain ⟨v, hv⟩ := hres
    rcases ho with rfl | rfl
    · exact ⟨hdf, u2, rfl, v, hv, ⟨v, rfl⟩, rfl, s.mem, ρ', hq ρ' w' k1.rel k2 k3⟩
    · exact ⟨hdf, u2, rfl, v, hv, ⟨v, rfl⟩, rfl, s.mem, ρ', hq ρ' w' k1.rel k2 k3⟩
  rw [wpOpsS]
  simp only [hi0, w0', if_true, recover_run hk.p0]
  rcases hu c₀ cs hm with ⟨q1, q2, q3⟩ | q
  · rw [q1]
    simp only
    rw [← q2]
    exact key (c₀ :: cs) (by subst q3; subst hm; rfl)
  · rw [q]
    exact key _ rfl
theorem call_of_body_defer' (hT : TabOk P T) {g : FuncId} {fn : Func} {c : Code} {args : List AVal} {σ : Mem} (hf : P.funcs[g]? = some fn) (hb : fn.body = some c)
    {R : AVal → Mem → Prop}
    (h : AWP P c (initSt fn.ntmps args σ) fun o s => (s.df = [] ∧ (o = .normal ∨ o = .ret) ∧ ∃ v, resA T s fn.results.toList = some v ∧ R v s.mem) ∨ ∃ (gd : FuncId) (fd : Func) (id : Nat) (ops : Array Oper) (o0 o1 : Oper) (rest : Code) (t3 t2 : Tmp) (cap : List AVal) (r : AVal), RecOk P gd fd id ops o0 o1 rest t3 t2 ∧ s.df = [⟨gd, cap, []⟩] ∧ (((o = .normal ∨ o = .ret) ∧ r = .nili) ∨ o = .pan r) ∧
      AWP P rest (recSt fd.ntmps cap s.mem t3 t2 r) fun o' s2 => (o' = .normal ∨ o' = .ret) ∧ s2.df = [] ∧ ∃ v, resA T ⟨s.tm, [], s2.mem⟩ fn.results.toList = some v ∧ R v s2.mem) :
    ∀ w0 ρ w, Rel w0 ρ σ w → scL σ.next args = true →
      Calls P g (γL ρ args).toArray w fun e w' => ∃ v σ' ρ', R v σ' ∧ e = .returned (γ ρ' v) ∧ Post w0 ρ σ.next ρ' σ' w' ∧ sc σ'.next v = true := by
  intro w0 ρ w hr hs
  refine calls_of_wp_defers hf hb ?_
  refine wp_mono (h w0 ρ _ w (srel_init hr hs fn.ntmps)) ?_
  rintro e a' w' ⟨o, s, ⟨hdf, ho, v, hres, hR⟩ | ⟨gd, fd, id, ops, o0, o1, rest, t3, t2, cap, r, hk, hdf, ho, hrest⟩, ⟨ρ', rfl, k1, k2, k3, k4⟩⟩
  · have hd : a'.defers = [] := by rw [k1.df, hdf]; rfl
    obtain ⟨r1, r2⟩ := resA_run (P := P) hT k1 hres
    have hret : Leaves P fn a'.tmps (fun e w' => ∃ v σ' ρ', R v σ' ∧ e = .returned (γ ρ' v) ∧ Post w0 ρ σ.next ρ' σ' w' ∧ sc σ'.next v = true) a'.defers .returning w' := by
      rw [hd]
      exact ⟨_, r1, v, s.mem, ρ', hR, rfl, ⟨k1.rel, k2, k3⟩, r2⟩
    rcases ho with rfl | rfl
    · exact hret
    · exact hret
  have hdef : a'.defers = [{ target := .fn (.func gd) (γL ρ' cap).toArray, args := (γL ρ' []).toArray }] := by
    rw [k1.df, hdf]
    simp only [List.map_cons, List.map_nil, γD, dOf, if_neg hk.ne]
  have hcap : scL s.mem.next cap = true := (k1.scd ⟨gd, cap, []⟩ (by rw [hdf]; simp)).1
  have after : ∀ (u u2 : FrameMode), u ≠ .run → settle u2 = .returning → sc s.mem.next r = true →
      (∀ (c₀ : Frame) (cs : List Frame), c₀.mode = u → (recoverD (c₀ :: cs) = none ∧ γ ρ' r = .nilIface ∧ u2 = u) ∨ recoverD (c₀ :: cs) = some (γ ρ' r, { c₀ with mode := u2 } :: cs)) →
      Leaves P fn a'.tmps (fun e w' => ∃ v σ' ρ', R v σ' ∧ e = .returned (γ ρ' v) ∧ Post w0 ρ σ.next ρ' σ' w' ∧ sc σ'.next v = true) a'.defers u w' := by
    intro u u2 hu hset hsr hrec
    rw [hdef]
    refine leaves_cons hu (f := gd) (args := (γL ρ' cap).toArray) ?_ ?_
    · have e0 : (γL ρ' ([] : List AVal)).toArray ++ (γL ρ' cap).toArray = (γL ρ' cap).toArray := by simp [γL]
      simp only [invoke, e0, callFunc_enter hk.isFn]
    · refine (callsD_rec (w0 := w0) hk k1.rel hcap hsr hrec (Q := fun σ2 ρ2 w2 => Leaves P fn a'.tmps (fun e w' => ∃ v σ' ρ', R v σ' ∧ e = .returned (γ ρ' v) ∧ Post w0 ρ σ.next ρ' σ' w' ∧ sc σ'.next v = true) [] .returning w2) ?_).mono ?_
      · refine hrest.mono ?_
        rintro o' s2 ⟨q1, q2, v, q3, q4⟩
        refine ⟨q1, q2, fun ρ2 w2 hr2 hx hle => ?_⟩
        have hS : SRel w0 ρ2 ⟨s.tm, [], s2.mem⟩ { tmps := a'.tmps, defers := [] } w2 :=
          ⟨hr2, by rw [k1.tm, γL_congr hx _ k1.sct], scL_mono hle _ k1.sct, rfl, by simp⟩
        obtain ⟨r1, r2⟩ := resA_run (P := P) hT hS q3
        exact ⟨_, r1, v, s2.mem, ρ2, q4, rfl, ⟨hr2, fun i hi => (hx i (Nat.lt_of_lt_of_le hi k3)).trans (k2 i hi), Nat.le_trans k3 hle⟩, r2⟩
      · rintro e u' w2 ⟨⟨v, rfl⟩, rfl, σ', ρ2, hq⟩
        show Leaves P fn a'.tmps _ [] (settle u') w2
        rw [hset]
        exact hq
  rcases ho with ⟨ho, rfl⟩ | rfl
  · have hret : Leaves P fn a'.tmps (fun e w' => ∃ v σ' ρ', R v σ' ∧ e = .returned (γ ρ' v) ∧ Post w0 ρ σ.next ρ' σ' w' ∧ sc σ'.next v = true) a'.defers .returning w' := by
      refine after .returning .returning (by simp) rfl rfl fun c₀ cs hm => .inl ⟨?_, rfl, rfl⟩
      simp [recoverD, hm]
    rcases ho with rfl | rfl
    · exact hret
    · exact hret
  · refine after (.panicking [{ v := γ ρ' r, recovered := false }]) (.panicking [{ v := γ ρ' r, recovered := true }]) (by simp) rfl (k4 r rfl) fun c₀ cs hm => .inr ?_
    simp [recoverD, hm]
theorem call_of_body_defer (hT : TabOk P T) {g : FuncId} {fn : Func} {c : Code} {args : List AVal} {σ : Mem} (hf : P.funcs[g]? = some fn) (hb : fn.body = some c)
    {gd : FuncId} {fd : Func} {id : Nat} {ops : Array Oper} {o0 o1 : Oper} {rest : Code} {t3 t2 : Tmp} (hk : RecOk P gd fd id ops o0 o1 rest t3 t2) {R : AVal → Mem → Prop}
    (h : AWP P c (initSt fn.ntmps args σ) fun o s => (s.df = [] ∧ (o = .normal ∨ o = .ret) ∧ ∃ v, resA T s fn.results.toList = some v ∧ R v s.mem) ∨ ∃ cap r, s.df = [⟨gd, cap, []⟩] ∧ (((o = .normal ∨ o = .ret) ∧ r = .nili) ∨ o = .pan r) ∧
      AWP P rest (recSt fd.ntmps cap s.mem t3 t2 r) fun o' s2 => (o' = .normal ∨ o' = .ret) ∧ s2.df = [] ∧ ∃ v, resA T ⟨s.tm, [], s2.mem⟩ fn.results.toList = some v ∧ R v s2.mem) :
    ∀ w0 ρ w, Rel w0 ρ σ w → scL σ.next args = true →
      Calls P g (γL ρ args).toArray w fun e w' => ∃ v σ' ρ', R v σ' ∧ e = .returned (γ ρ' v) ∧ Post w0 ρ σ.next ρ' σ' w' ∧ sc σ'.next v = true :=
  call_of_body_defer' hT hf hb (h.mono fun o s q => q.imp (fun q => q) fun ⟨cap, r, q⟩ => ⟨gd, fd, id, ops, o0, o1, rest, t3, t2, cap, r, hk, q⟩)
end
end Go.Ev

