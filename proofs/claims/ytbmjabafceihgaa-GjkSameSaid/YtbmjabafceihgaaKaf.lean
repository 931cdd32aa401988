import Derived.Recover
import Derived.Test.YtbmjabafceihgaaKae
import Derived.Laws.Externs
set_option linter.unusedVariables false
set_option linter.unusedSimpArgs false
set_option maxRecDepth 100000
noncomputable section
namespace Go.Ev
section
variable {P : Program} {T : ar}
structure wh (P : Program) (gd : FuncId) (fd : Func) (id : Nat) (ops : Array Oper) (o0 o1 : Oper) (rest : Code) (t3 t2 : Tmp) : Prop where
 fn : P.funcs[gd]? = some fd
 Uf : mZ P gd
 body : fd.body = some (.seq (.region id ops false) rest)
 res : fd.results = #[]
 ops : ops.toList = [o0, o1]
 d0 : o0.dst = some t3
 g0 : o0.guard = none
 p0 : o0.op = .call ⟨.builtin .recover, #[], #[]⟩
 d1 : o1.dst = some t2
 g1 : o1.guard = none
 p1 : o1.op = .assign (.tmp t3)
 ne : gd ≠ wG
def zX (nt : Nat) (cap : LA_) (σ : Mem) (t3 t2 : Tmp) (r : ab) : St :=
 let tm := bJ (bG nt cap σ).tm (some t3) r
 ⟨bJ tm (some t2) (tm.getD t3 (.tup [])), [], σ⟩
theorem wN {w0 : W0} {ρ : Nat → Loc} {σ : Mem} {w : World} (hr : Rel w0 ρ σ w) {args : LA_} (hs : scL σ.next args = true) (nt : Nat) :
  bF w0 ρ (bG nt args σ) { tmps := (γL ρ args).toArray ++ Array.replicate (nt - (γL ρ args).toArray.size) undef, defers := [] } w := by
 refine ⟨hr, ?_, ?_, rfl, by simp [bG]⟩
 ·apply Array.ext'
  simp [bG, cz, AJ, lJ ρ]
 ·simp only [bG, jU]
  refine ⟨hs, ?_⟩
  rw [gA]
  intro v hv
  rw [(List.mem_replicate.1 hv).2]
  simp [sc, scL]
theorem Lq {o : Oper} (h : o.op = .call ⟨.builtin .recover, #[], #[]⟩) (ρ : Operand → Value) (w : World) : (execOp ρ o).run P w = .ok .recover w := by
 obtain ⟨dst, op, type, pos, after, guard⟩ := o
 subst h
 rfl
theorem MO {gd : FuncId} {fd : Func} {id : Nat} {ops : Array Oper} {o0 o1 : Oper} {rest : Code} {t3 t2 : Tmp} (hk : wh P gd fd id ops o0 o1 rest t3 t2)
  {w0 : W0} {ρ : Nat → Loc} {σ : Mem} {w : World} {cap : LA_} {r : ab} {u u2 : FrameMode} (hr : Rel w0 ρ σ w) (hc : scL σ.next cap = true) (hs : sc σ.next r = true)
  (hu : ∀ (c₀ : Frame) (cs : List Frame), c₀.mode = u → (recoverD (c₀ :: cs) = none ∧ γ ρ r = .nilIface ∧ u2 = u) ∨ recoverD (c₀ :: cs) = some (γ ρ r, { c₀ with mode := u2 } :: cs))
  {Q : Mem → (Nat → Loc) → World → Prop}
  (hrest : AWP P rest (zX fd.ntmps cap σ t3 t2 r) fun o s => (o = .normal ∨ o = .ret) ∧ s.df = [] ∧ ∀ ρ' w', Rel w0 ρ' s.mem w' → (∀ i, i < σ.next → ρ' i = ρ i) → σ.next ≤ s.mem.next → Q s.mem ρ' w') :
  CallsD P gd (γL ρ cap).toArray u w fun e u' w' => (∃ v, e = .returned v) ∧ u' = u2 ∧ ∃ σ' ρ', Q σ' ρ' w' := by
 refine callsD_of_wpS hk.fn hk.body fun c₀ cs hm => ?_
 have h0 := wN hr hc fd.ntmps
 refine wpS_seq (wpS_region ?_)
 have hsz : ops.size = 2 := by rw [← Array.length_toList, hk.ops]; rfl
 have hi0 : ops[0]? = some o0 := by rw [← UX, hk.ops]; rfl
 have hi1 : ops[1]? = some o1 := by rw [← UX, hk.ops]; rfl
 rw [hsz]
 show wpOpsS P ops _ [0, 1] _ _ _
 have w0' : ∀ y, Region.wanted o0 y = true := by intro y; simp [Region.wanted, hk.g0]
 have w1' : ∀ y, Region.wanted o1 y = true := by intro y; simp [Region.wanted, hk.g1]
 have key : ∀ cs', cs' = { c₀ with mode := u2 } :: cs →
   wpOpsS P ops (Exit.thenS (rest.wpS P (bodyPostS P fd c₀ cs fun e u' w' => (∃ v, e = .returned v) ∧ u' = u2 ∧ ∃ σ' ρ', Q σ' ρ' w')) (bodyPostS P fd c₀ cs fun e u' w' => (∃ v, e = .returned v) ∧ u' = u2 ∧ ∃ σ' ρ', Q σ' ρ' w'))
    [1] (Act.put { tmps := (γL ρ cap).toArray ++ Array.replicate (fd.ntmps - (γL ρ cap).toArray.size) undef, defers := [] } o0.dst (γ ρ r)) cs' w := by
  rintro cs' rfl
  have h1 := h0.put (v := r) hs o0.dst
  simp only [wpOpsS, hi1, w1', if_true]
  have hev : ev (bJ (bG fd.ntmps cap σ).tm o0.dst r) (.tmp t3) = some ((bJ (bG fd.ntmps cap σ).tm o0.dst r).getD t3 (.tup [])) := rfl
  obtain ⟨e1, e2⟩ := qf h1.tm h1.sct hev
  have hrun : (execOp (Act.put { tmps := (γL ρ cap).toArray ++ Array.replicate (fd.ntmps - (γL ρ cap).toArray.size) undef, defers := [] } o0.dst (γ ρ r)).eval o1).run P w =
    .ok (.value (γ ρ ((bJ (bG fd.ntmps cap σ).tm o0.dst r).getD t3 (.tup [])))) w := by
   obtain ⟨dst, op, type, pos, after, guard⟩ := o1
   have := hk.p1
   simp only at this
   subst this
   simp only [execOp, e1, UP]
  rw [hrun]
  show Code.wpS P rest (bodyPostS P fd c₀ cs fun e u' w' => (∃ v, e = .returned v) ∧ u' = u2 ∧ ∃ σ' ρ', Q σ' ρ' w') _ _ _
  refine wpS_of_wp ?_
  have h2 := h1.put (v := (bJ (bG fd.ntmps cap σ).tm o0.dst r).getD t3 (.tup [])) e2 o1.dst
  rw [hk.d0, hk.d1] at h2
  rw [hk.d0, hk.d1]
  refine wp_mono (hrest w0 ρ _ w h2) ?_
  rintro e a' w' ⟨o, s, ⟨ho, hd, hq⟩, ⟨ρ', rfl, k1, k2, k3, _⟩⟩
  have hdf : a'.defers = [] := by rw [k1.df, hd]; rfl
  have hres : ∃ v, (results fd a'.tmps).run P w' = .ok v w' := by
   refine ⟨.tuple #[], ?_⟩
   rw [Gu, Array.mapM_eq_mapM_toList, hk.res]
   simp [UO, UP]
  obtain ⟨v, hv⟩ := hres
  rcases ho with rfl | rfl
  ·exact ⟨hdf, u2, rfl, v, hv, ⟨v, rfl⟩, rfl, s.mem, ρ', hq ρ' w' k1.rel k2 k3⟩
  ·exact ⟨hdf, u2, rfl, v, hv, ⟨v, rfl⟩, rfl, s.mem, ρ', hq ρ' w' k1.rel k2 k3⟩
 rw [wpOpsS]
 simp only [hi0, w0', if_true, Lq hk.p0]
 rcases hu c₀ cs hm with ⟨q1, q2, q3⟩ | q
 ·rw [q1]
  simp only
  rw [← q2]
  exact key (c₀ :: cs) (by subst q3; subst hm; rfl)
 ·rw [q]
  exact key _ rfl
theorem Bk (hT : aZ P T) {g : FuncId} {fn : Func} {c : Code} {args : LA_} {σ : Mem} (hf : P.funcs[g]? = some fn) (hb : fn.body = some c)
  {R : ab → Mem → Prop}
  (h : AWP P c (bG fn.ntmps args σ) fun o s => (s.df = [] ∧ (o = .normal ∨ o = .ret) ∧ ∃ v, gk T s fn.results.toList = some v ∧ R v s.mem) ∨ ∃ (gd : FuncId) (fd : Func) (id : Nat) (ops : Array Oper) (o0 o1 : Oper) (rest : Code) (t3 t2 : Tmp) (cap : LA_) (r : ab), wh P gd fd id ops o0 o1 rest t3 t2 ∧ s.df = [⟨gd, cap, []⟩] ∧ (((o = .normal ∨ o = .ret) ∧ r = .dr) ∨ o = .pan r) ∧
   AWP P rest (zX fd.ntmps cap s.mem t3 t2 r) fun o' s2 => (o' = .normal ∨ o' = .ret) ∧ s2.df = [] ∧ ∃ v, gk T ⟨s.tm, [], s2.mem⟩ fn.results.toList = some v ∧ R v s2.mem) :
  ∀ w0 ρ w, Rel w0 ρ σ w → scL σ.next args = true →
   Calls P g (γL ρ args).toArray w fun e w' => ∃ v σ' ρ', R v σ' ∧ e = .returned (γ ρ' v) ∧ bO w0 ρ σ.next ρ' σ' w' ∧ sc σ'.next v = true := by
 intro w0 ρ w hr hs
 refine calls_of_wp_defers hf hb ?_
 refine wp_mono (h w0 ρ _ w (wN hr hs fn.ntmps)) ?_
 rintro e a' w' ⟨o, s, ⟨hdf, ho, v, hres, hR⟩ | ⟨gd, fd, id, ops, o0, o1, rest, t3, t2, cap, r, hk, hdf, ho, hrest⟩, ⟨ρ', rfl, k1, k2, k3, k4⟩⟩
 ·have hd : a'.defers = [] := by rw [k1.df, hdf]; rfl
  obtain ⟨r1, r2⟩ := rC (P := P) hT k1 hres
  have hret : Leaves P fn a'.tmps (fun e w' => ∃ v σ' ρ', R v σ' ∧ e = .returned (γ ρ' v) ∧ bO w0 ρ σ.next ρ' σ' w' ∧ sc σ'.next v = true) a'.defers .returning w' := by
   rw [hd]
   exact ⟨_, r1, v, s.mem, ρ', hR, rfl, ⟨k1.rel, k2, k3⟩, r2⟩
  rcases ho with rfl | rfl
  ·exact hret
  ·exact hret
 have hdef : a'.defers = [{ target := .fn (.func gd) (γL ρ' cap).toArray, args := (γL ρ' []).toArray }] := by
  rw [k1.df, hdf]
  simp only [List.map_cons, List.map_nil, γD, dOf, if_neg hk.ne]
 have hcap : scL s.mem.next cap = true := (k1.scd ⟨gd, cap, []⟩ (by rw [hdf]; simp)).1
 have after : ∀ (u u2 : FrameMode), u ≠ .run → settle u2 = .returning → sc s.mem.next r = true →
   (∀ (c₀ : Frame) (cs : List Frame), c₀.mode = u → (recoverD (c₀ :: cs) = none ∧ γ ρ' r = .nilIface ∧ u2 = u) ∨ recoverD (c₀ :: cs) = some (γ ρ' r, { c₀ with mode := u2 } :: cs)) →
   Leaves P fn a'.tmps (fun e w' => ∃ v σ' ρ', R v σ' ∧ e = .returned (γ ρ' v) ∧ bO w0 ρ σ.next ρ' σ' w' ∧ sc σ'.next v = true) a'.defers u w' := by
  intro u u2 hu hset hsr hrec
  rw [hdef]
  refine leaves_cons hu (f := gd) (args := (γL ρ' cap).toArray) ?_ ?_
  ·have e0 : (γL ρ' ([] : LA_)).toArray ++ (γL ρ' cap).toArray = (γL ρ' cap).toArray := by simp [γL]
   simp only [invoke, e0, jp hk.Uf]
  ·refine (MO (w0 := w0) hk k1.rel hcap hsr hrec (Q := fun σ2 ρ2 w2 => Leaves P fn a'.tmps (fun e w' => ∃ v σ' ρ', R v σ' ∧ e = .returned (γ ρ' v) ∧ bO w0 ρ σ.next ρ' σ' w' ∧ sc σ'.next v = true) [] .returning w2) ?_).mono ?_
   ·refine hrest.mono ?_
    rintro o' s2 ⟨q1, q2, v, q3, q4⟩
    refine ⟨q1, q2, fun ρ2 w2 hr2 hx hle => ?_⟩
    have hS : bF w0 ρ2 ⟨s.tm, [], s2.mem⟩ { tmps := a'.tmps, defers := [] } w2 :=
     ⟨hr2, by rw [k1.tm, cI hx _ k1.sct], cf hle _ k1.sct, rfl, by simp⟩
    obtain ⟨r1, r2⟩ := rC (P := P) hT hS q3
    exact ⟨_, r1, v, s2.mem, ρ2, q4, rfl, ⟨hr2, fun i hi => (hx i (Nat.lt_of_lt_of_le hi k3)).trans (k2 i hi), Nat.le_trans k3 hle⟩, r2⟩
   ·rintro e u' w2 ⟨⟨v, rfl⟩, rfl, σ', ρ2, hq⟩
    show Leaves P fn a'.tmps _ [] (settle u') w2
    rw [hset]
    exact hq
 rcases ho with ⟨ho, rfl⟩ | rfl
 ·have hret : Leaves P fn a'.tmps (fun e w' => ∃ v σ' ρ', R v σ' ∧ e = .returned (γ ρ' v) ∧ bO w0 ρ σ.next ρ' σ' w' ∧ sc σ'.next v = true) a'.defers .returning w' := by
   refine after .returning .returning (by simp) rfl rfl fun c₀ cs hm => .inl ⟨?_, rfl, rfl⟩
   simp [recoverD, hm]
  rcases ho with rfl | rfl
  ·exact hret
  ·exact hret
 ·refine after (.panicking [{ v := γ ρ' r, recovered := false }]) (.panicking [{ v := γ ρ' r, recovered := true }]) (by simp) rfl (k4 r rfl) fun c₀ cs hm => .inr ?_
  simp [recoverD, hm]
theorem iz (hT : aZ P T) {g : FuncId} {fn : Func} {c : Code} {args : LA_} {σ : Mem} (hf : P.funcs[g]? = some fn) (hb : fn.body = some c)
  {gd : FuncId} {fd : Func} {id : Nat} {ops : Array Oper} {o0 o1 : Oper} {rest : Code} {t3 t2 : Tmp} (hk : wh P gd fd id ops o0 o1 rest t3 t2) {R : ab → Mem → Prop}
  (h : AWP P c (bG fn.ntmps args σ) fun o s => (s.df = [] ∧ (o = .normal ∨ o = .ret) ∧ ∃ v, gk T s fn.results.toList = some v ∧ R v s.mem) ∨ ∃ cap r, s.df = [⟨gd, cap, []⟩] ∧ (((o = .normal ∨ o = .ret) ∧ r = .dr) ∨ o = .pan r) ∧
   AWP P rest (zX fd.ntmps cap s.mem t3 t2 r) fun o' s2 => (o' = .normal ∨ o' = .ret) ∧ s2.df = [] ∧ ∃ v, gk T ⟨s.tm, [], s2.mem⟩ fn.results.toList = some v ∧ R v s2.mem) :
  ∀ w0 ρ w, Rel w0 ρ σ w → scL σ.next args = true →
   Calls P g (γL ρ args).toArray w fun e w' => ∃ v σ' ρ', R v σ' ∧ e = .returned (γ ρ' v) ∧ bO w0 ρ σ.next ρ' σ' w' ∧ sc σ'.next v = true :=
 Bk hT hf hb (h.mono fun o s q => q.imp (fun q => q) fun ⟨cap, r, q⟩ => ⟨gd, fd, id, ops, o0, o1, rest, t3, t2, cap, r, hk, q⟩)
end
end Go.Ev
namespace Go.Ev
structure HK where
 call : {R : Type} → LA_ → Mem → (fc → Mem → Option R) → Option R
 nat : ∀ {R : Type} (args : LA_) (σ : Mem) (k : fc → Mem → Option R), call args σ k = (call args σ fun r σ' => some (r, σ')).bind fun x => k x.1 x.2
 pure : Bool
 pok : pure = true → ∀ args σ r σ', (call args σ fun r σ' => some (r, σ')) = some (r, σ') → σ' = σ ∧ (∃ v, r = .ret v) ∧ ∀ σ2, (call args σ2 fun r σ' => some (r, σ')) = some (r, σ2)
def aX (P : Program) (g : FuncId) (h : HK) : Prop :=
 ∀ args σ r σ', (h.call args σ fun r σ' => some (r, σ')) = some (r, σ') → Gj P g args σ r σ' ∧ Ext σ σ'
def CH.none : CH := ⟨fun _ _ _ _ => Option.none, fun _ _ _ _ => rfl, fun _ => false, fun _ => 2⟩
def CH.add (g : FuncId) (h : HK) (c : CH) : CH where
 call := fun f args σ k => if f = g then h.call args σ fun r σ' => k r σ' .nil else c.call f args σ k
 nat := fun f args σ k => by
  split
  ·conv => lhs; rw [h.nat]
   conv => rhs; rw [h.nat, UA]
   rfl
  ·exact c.nat f args σ k
 ext := fun f => if f = g then true else c.ext f
 pf := fun f => if f = g then (cond h.pure 0 2) else c.pf f
section
variable {P : Program} {T : ar}
theorem CH.aF : aG P CH.none := by
 refine ⟨?_, ?_, ?_⟩
 ·intro f args σ r σ' h
  simp [CH.H, CH.none] at h
 ·intro f args σ r σ' _ h
  simp [CH.H, CH.none] at h
 ·exact ⟨fun f args σ r σ' _ h => by simp [CH.H, CH.none] at h, fun f args σ r σ' _ h => by simp [CH.H, CH.none] at h⟩
theorem CH.ak {g : FuncId} {h : HK} {c : CH} (hh : aX P g h) (hc : aG P c) : aG P (CH.add g h c) := by
 have key : ∀ f args σ r σ', (CH.add g h c).H f args σ = some (r, σ') → (f = g ∧ Gj P g args σ r σ' ∧ Ext σ σ') ∨ (f ≠ g ∧ c.H f args σ = some (r, σ')) := by
  intro f args σ r σ' hr
  by_cases e : f = g
  ·subst e
   refine .inl ⟨rfl, hh args σ r σ' ?_⟩
   simp only [CH.H, CH.add, if_true] at hr
   rw [h.nat] at hr
   cases hx : (h.call args σ fun r σ' => some (r, σ')) with
   | none => rw [hx] at hr; simp at hr
   | some q =>
    rw [hx] at hr
    obtain ⟨q1, q2⟩ := q
    simp only [Uy] at hr
    rw [if_pos Ow.Ct] at hr
    exact hr
  ·refine .inr ⟨e, ?_⟩
   simpa only [CH.H, CH.add, if_neg e] using hr
 refine ⟨?_, ?_, ?_⟩
 ·intro f args σ r σ' hr
  rcases key f args σ r σ' hr with ⟨rfl, h1, _⟩ | ⟨_, h1⟩
  ·exact h1
  ·exact hc.1 f args σ r σ' h1
 ·intro f args σ r σ' he hr
  rcases key f args σ r σ' hr with ⟨rfl, _, h2⟩ | ⟨h1, h2⟩
  ·exact h2
  ·refine hc.2.1 f args σ r σ' ?_ h2
   simpa only [CH.add, if_neg h1] using he
 ·refine ⟨fun f args σ r σ' he hr => ?_, fun f args σ r σ' he hr => ?_⟩
  ·by_cases e : f = g
   ·subst e
    have hp : h.pure = true := by
     have he' : cond h.pure 0 2 = 0 := by simpa only [CH.add, if_true] using he
     cases hh : h.pure with
     | true => rfl
     | false => rw [hh] at he'; cases he'
    have hx : (h.call args σ fun r σ' => some (r, σ')) = some (r, σ') := by
     simp only [CH.H, CH.add, if_true] at hr
     rw [h.nat] at hr
     cases hx : (h.call args σ fun r σ' => some (r, σ')) with
     | none => rw [hx] at hr; simp at hr
     | some q =>
      rw [hx] at hr
      obtain ⟨q1, q2⟩ := q
      simp only [Uy] at hr
      rw [if_pos Ow.Ct] at hr
      exact hr
    obtain ⟨h1, h2, h3⟩ := h.pok hp args σ r σ' hx
    refine ⟨h1, h2, fun σ2 => ?_⟩
    simp only [CH.H, CH.add, if_true]
    rw [h.nat, h3 σ2]
    simp only [Uy]
    rw [if_pos Ow.Ct]
   ·have hr' : c.H f args σ = some (r, σ') := by simpa only [CH.H, CH.add, if_neg e] using hr
    obtain ⟨h1, h2, h3⟩ := hc.2.2.1 f args σ r σ' (by simpa only [CH.add, if_neg e] using he) hr'
    exact ⟨h1, h2, fun σ2 => by simpa only [CH.H, CH.add, if_neg e] using h3 σ2⟩
  ·by_cases e : f = g
   ·subst e
    have he' : cond h.pure 0 2 = 1 := by simpa only [CH.add, if_true] using he
    cases hh : h.pure with
    | true => rw [hh] at he'; cases he'
    | false => rw [hh] at he'; cases he'
   ·exact hc.2.2.2 f args σ r σ' (by simpa only [CH.add, if_neg e] using he) (by simpa only [CH.H, CH.add, if_neg e] using hr)
def Fl (ch : CH) (o : Oper) : Bool :=
 match o.op with
 | .alloc _ | .box .. | .buildSlice .. => true
 | .makeMap _ none => true
 | .panic _ => true
 | .call { callee := .value (.func g), .. } => ch.ext g
 | .call { callee := .value _, .. } => false
 | _ => !ck ch.pf o
theorem L2 {ch : CH} {o : Oper} (h : Fl ch o = true) (tm : LA_) : C2 ch o tm = true := by
 unfold Fl at h
 unfold C2
 split at h
 ·rename_i e; simp only [e]
 ·rename_i e; simp only [e]
 ·rename_i e; simp only [e]
 ·rename_i e; simp only [e]
 ·rename_i e; simp only [e]
 ·rename_i g args ats e
  simp only [e, ev]
  exact h
 ·cases h
 ·rename_i h1 h2 h3 h4 h7 h5 h6
  split
  ·rename_i e; exact absurd e (h1 _)
  ·rename_i e; exact absurd e (h2 _ _)
  ·rename_i e; exact absurd e (h3 _ _ _)
  ·rename_i e; exact absurd e (h4 _)
  ·rename_i e; exact absurd e (h7 _)
  ·rename_i e; exact absurd e (h6 _ _ _)
  ·exact h
def tu (ch : CH) : Code → Bool
 | .skip | .label _ | .exit _ | .goto _ | .ret => true
 | .region _ ops _ => ops.toList.all (Fl ch)
 | .seq a b | .cond _ a b => tu ch a && tu ch b
 | .block _ b | .loop b | .scope b => tu ch b
 | _ => false
section
variable {T : ar} {ch : CH}
def Aa.mem : Aa → Mem
 | .go s => s.mem
 | .pan _ s => s.mem
theorem Ar {P : Program} (hH : aG P ch) {all : List Oper} {o : Oper} {s : St} {x : Aa} (h : et T ch.H all o s = some x) (he : Fl ch o = true) : Ext s.mem x.mem := by
 have hx : ∀ r σ, aM T ch.H o.op s.tm s.mem = some (r, σ) → Ext s.mem σ := fun r σ hr => Cv hH hr (L2 he _)
 unfold et at h
 split at h
 ·cases h
 ·split at h
  ·split at h
   ·rename_i hr; cases h; exact hx _ _ hr
   ·rename_i hr; cases h; exact hx _ _ hr
   ·rename_i hr; cases h; exact hx _ _ hr
   ·rename_i hr; cases h; exact hx _ _ hr
   ·cases h
  ·cases h; exact .refl _
theorem As {P : Program} (hH : aG P ch) {all : List Oper} : ∀ {l : List Oper} {s : St} {x : Aa}, dX T ch.H all l s = some x → l.all (Fl ch) = true → Ext s.mem x.mem
 | [], s, x, h, _ => by simp only [dX, UB] at h; subst h; exact .refl _
 | o :: l, s, x, h, he => by
  simp only [List.all_cons, UC] at he
  simp only [dX] at h
  split at h
  ·rename_i s' hs
   exact (Ar hH hs he.1).trans (As (s := s') hH h he.2)
  ·rename_i y hy
   exact Ar hH h he.1
theorem Cz {P : Program} (hH : aG P ch) {all : List Oper} : ∀ {l : List Oper} {s : St} {tr : List (St × ab)} {e : St}, trace T ch.H all l s = some (tr, e) → l.all (Fl ch) = true → Ext s.mem e.mem
 | [], s, tr, e, h, _ => by simp only [trace, UB, UD] at h; obtain ⟨_, rfl⟩ := h; exact .refl _
 | o :: l, s, tr, e, h, he => by
  simp only [List.all_cons, UC] at he
  simp only [trace] at h
  split at h
  ·rename_i v σ hv
   split at h
   ·rename_i tr1 e1 hl
    simp only [UB, UD] at h
    obtain ⟨_, rfl⟩ := h
    exact (IB hH hv (by rw [L2 he.1]; simp)).trans (Cz hH (s := ⟨bJ s.tm o.dst v, s.df, σ⟩) hl he.2)
   ·cases h
  ·cases h
theorem Ox {P : Program} (hH : aG P ch) : ∀ (n : Nat) {R : Type} (c : Code) (s : St) (ow : Ow) (K : an → St → Ow → Option R) (r : R), tu ch c = true → bh T ch bD n c s ow K = some r →
  ∃ o s' ow', K o s' ow' = some r ∧ ow.le ow' ∧ (ow'.ok → Ext s.mem s'.mem) := by
 intro n
 induction n with
 | zero => intro R c s ow K r _ h; simp [bh] at h
 | succ n ih =>
  intro R c s ow K r he h
  cases c with
  | skip => exact ⟨_, _, _, by simpa only [bh] using h, .refl _, fun _ => .refl _⟩
  | label l => exact ⟨_, _, _, by simpa only [bh] using h, .refl _, fun _ => .refl _⟩
  | exit l => exact ⟨_, _, _, by simpa only [bh] using h, .refl _, fun _ => .refl _⟩
  | goto l => exact ⟨_, _, _, by simpa only [bh] using h, .refl _, fun _ => .refl _⟩
  | ret => exact ⟨_, _, _, by simpa only [bh] using h, .refl _, fun _ => .refl _⟩
  | region id ops d =>
   simp only [tu] at he
   cases d with
   | false =>
    simp only [bh] at h
    rcases iC h with ⟨s', ow', h1, h2, h3⟩ | ⟨v, s', ow', h1, h2, h3⟩
    ·exact ⟨_, _, _, h1, h2, fun ho => As hH (h3 ho) he⟩
    ·exact ⟨_, _, _, h1, h2, fun ho => As hH (h3 ho) he⟩
   | true =>
    simp only [bh] at h
    unfold um at h
    rcases Fk h with ⟨tr, e, ow', h0, h2, h3⟩ | ⟨tr, e, v, σ, ow', h0, h2, oo, h3, h4⟩
    ·obtain ⟨_, h1⟩ := aH h0
     exact ⟨_, _, _, h1, h2.trans (Ow.f7 _ _), fun ho => Ext.trans (b := (qj ch.pf ops.toList s).mem) ⟨by simp [qj, nO], fun _ _ => rfl⟩ (Cz hH (h3 ((Ow.f7 _ _).ok ho)) he)⟩
    ·obtain ⟨_, h1⟩ := aH h0
     refine ⟨_, _, _, h1, h2.trans (Ow.f7 _ _), fun ho => ?_⟩
     obtain ⟨q1, q2⟩ := h4 ((Ow.f7 _ _).ok ho)
     have e1 : (ops.toList.take tr.length).all (Fl ch) = true := by
      rw [List.all_eq_true] at he ⊢
      exact fun x hx => he x (List.mem_of_mem_take hx)
     exact Ext.trans (b := (qj ch.pf ops.toList s).mem) ⟨by simp [qj, nO], fun _ _ => rfl⟩ ((Cz hH q1 e1).trans (Ar hH q2 ((List.all_eq_true.1 he) oo (List.mem_of_getElem? h3))))
  | seq a b =>
   simp only [bh] at h
   simp only [tu, UC] at he
   obtain ⟨o, s1, ow1, h1, h2, h3⟩ := ih a s ow _ r he.1 h
   cases o with
   | normal =>
    obtain ⟨o2, s2, ow2, k1, k2, k3⟩ := ih b s1 ow1 K r he.2 h1
    exact ⟨o2, s2, ow2, k1, h2.trans k2, fun ho => (h3 (k2.ok ho)).trans (k3 ho)⟩
   | exit i => exact ⟨_, _, _, h1, h2, h3⟩
   | goto i => exact ⟨_, _, _, h1, h2, h3⟩
   | ret => exact ⟨_, _, _, h1, h2, h3⟩
   | pan v => exact ⟨_, _, _, h1, h2, h3⟩
  | cond c a b =>
   simp only [bh] at h
   simp only [tu, UC] at he
   split at h
   ·exact ih a s ow _ r he.1 h
   ·exact ih b s ow _ r he.2 h
   ·cases h
  | block id b =>
   simp only [bh] at h
   simp only [tu] at he
   obtain ⟨o, s1, ow1, h1, h2, h3⟩ := ih b s ow _ r he h
   cases o with
   | exit i =>
    simp only at h1
    split at h1
    ·exact ⟨_, _, _, h1, h2, h3⟩
    ·exact ⟨_, _, _, h1, h2, h3⟩
   | normal => exact ⟨_, _, _, h1, h2, h3⟩
   | goto i => exact ⟨_, _, _, h1, h2, h3⟩
   | ret => exact ⟨_, _, _, h1, h2, h3⟩
   | pan v => exact ⟨_, _, _, h1, h2, h3⟩
  | loop b =>
   simp only [tu] at he
   simp only [bh, bD] at h
   obtain ⟨o, s1, ow1, h1, h2, h3⟩ := ih b s ow _ r he h
   cases o with
   | normal =>
    obtain ⟨o2, s2, ow2, k1, k2, k3⟩ := ih (.loop b) s1 ow1 K r (by simpa only [tu] using he) h1
    exact ⟨o2, s2, ow2, k1, h2.trans k2, fun ho => (h3 (k2.ok ho)).trans (k3 ho)⟩
   | exit i => exact ⟨_, _, _, h1, h2, h3⟩
   | goto i => exact ⟨_, _, _, h1, h2, h3⟩
   | ret => exact ⟨_, _, _, h1, h2, h3⟩
   | pan v => exact ⟨_, _, _, h1, h2, h3⟩
  | scope b =>
   simp only [bh] at h
   simp only [tu] at he
   obtain ⟨o, s1, ow1, h1, h2, h3⟩ := ih b s ow _ r he h
   cases o with
   | goto i => cases h1
   | normal => exact ⟨_, _, _, h1, h2, h3⟩
   | exit i => exact ⟨_, _, _, h1, h2, h3⟩
   | ret => exact ⟨_, _, _, h1, h2, h3⟩
   | pan v => exact ⟨_, _, _, h1, h2, h3⟩
  | rangeFunc f ps a b => simp [bh] at h
  | refuse w => simp [bh] at h
end
def CH.inl (P : Program) (T : ar) (gs : List FuncId) (fuel : Nat) (lo : CH) (c : CH) : CH where
 call := fun g args σ k => if gs.contains g then (match P.funcs[g]? with
  | some fn => match fn.body with
   | some b => bh T lo bD fuel b (bG fn.ntmps args σ) .nil fun o s ow => match Ah T fn.results.toList o s with
    | some (r, σ') => k r σ' ow
    | .none => .none
   | .none => .none
  | .none => .none) else c.call g args σ k
 nat := fun g args σ k => by
  split
  ·split
   ·split
    ·conv => lhs; rw [jv]
     conv => rhs; rw [jv, UA]
     congr 1
     funext q
     obtain ⟨o, s, w⟩ := q
     simp only
     split <;> rfl
    ·rfl
   ·rfl
  ·exact c.nat g args σ k
 ext := fun g => if gs.contains g then (match P.funcs[g]? with
  | some fn => match fn.body with
   | some b => tu lo b
   | .none => false
  | .none => false) else c.ext g
 pf := fun g => if gs.contains g then 2 else c.pf g
theorem CH.Td (hT : aZ P T) (hm : P.follows .mixedOrders = true) (hN : nN P) {gs : List FuncId} {fuel : Nat} {lo c : CH} (hl : aG P lo) (hc : aG P c) : aG P (CH.inl P T gs fuel lo c) := by
 refine ⟨?_, fun g args σ r σ' he hr => ?_, ?_⟩
 rotate_left
 rotate_left
 ·refine ⟨fun g args σ r σ' he hr => ?_, fun g args σ r σ' he hr => ?_⟩
  ·by_cases e : gs.contains g = true
   ·simp only [CH.inl, e, if_true] at he; cases he
   ·obtain ⟨h1, h2, h3⟩ := hc.2.2.1 g args σ r σ' (by simpa only [CH.inl, if_neg e] using he) (by simpa only [CH.H, CH.inl, if_neg e] using hr)
    exact ⟨h1, h2, fun σ2 => by simpa only [CH.H, CH.inl, if_neg e] using h3 σ2⟩
  ·by_cases e : gs.contains g = true
   ·simp only [CH.inl, e, if_true] at he; cases he
   ·exact hc.2.2.2 g args σ r σ' (by simpa only [CH.inl, if_neg e] using he) (by simpa only [CH.H, CH.inl, if_neg e] using hr)
 rotate_left
 ·by_cases e : gs.contains g = true
  ·simp only [CH.inl, e, if_true] at he
   simp only [CH.H, CH.inl, e, if_true] at hr
   cases hf : P.funcs[g]? with
   | none => rw [hf] at he; cases he
   | some fn =>
    rw [hf] at he hr
    simp only at he hr
    cases hb : fn.body with
    | none => rw [hb] at he; cases he
    | some b =>
     rw [hb] at he hr
     simp only at he hr
     split at hr
     ·rename_i r1 σ1 ow hx
      split at hr
      ·rename_i hok
       simp only [UB, UD] at hr
       obtain ⟨rfl, rfl⟩ := hr
       obtain ⟨o, s, w, h1, h2, h3⟩ := Ox hl fuel b _ _ _ _ he hx
       split at h1
       ·rename_i r2 σ2 hend
        simp only [UB, UD] at h1
        obtain ⟨rfl, rfl, rfl⟩ := h1
        have h4 := h3 hok
        unfold Ah at hend
        split at hend
        ·split at hend
         ·obtain ⟨v, _, hv⟩ := UM.1 hend
          cases hv; exact h4
         ·cases hend
        ·split at hend
         ·obtain ⟨v, _, hv⟩ := UM.1 hend
          cases hv; exact h4
         ·cases hend
        ·split at hend
         ·cases hend; exact h4
         ·cases hend
        ·cases hend
       ·cases h1
      ·cases hr
     ·cases hr
  ·refine hc.2.1 g args σ r σ' (by simpa only [CH.inl, if_neg e] using he) ?_
   simpa only [CH.H, CH.inl, if_neg e] using hr
 intro g args σ r σ' hr
 by_cases e : gs.contains g = true
 ·simp only [CH.H, CH.inl, e, if_true] at hr
  cases hf : P.funcs[g]? with
  | none => rw [hf] at hr; simp at hr
  | some fn =>
   rw [hf] at hr
   simp only at hr
   cases hb : fn.body with
   | none => rw [hb] at hr; simp at hr
   | some b =>
    rw [hb] at hr
    simp only at hr
    split at hr
    ·rename_i r1 σ1 ow hx
     split at hr
     ·rename_i hok
      simp only [UB, UD] at hr
      obtain ⟨rfl, rfl⟩ := hr
      obtain ⟨o, s, w, h1, h2, h3⟩ := iN (k := σ.next) hT hl hm fuel b _ _ _ _ (fun _ _ la h => by simp [bD] at h) hx
      split at h1
      ·rename_i r2 σ2 he
       simp only [UB, UD] at h1
       obtain ⟨rfl, rfl, rfl⟩ := h1
       refine .inl ⟨⟨fn, hf, hN g fn hf, by rw [hb]; rfl⟩, ?_⟩
       intro w0 ρ w hrr hs
       have key : AWP P b (bG fn.ntmps args σ) fun o' s' => o' = o ∧ s' = s := dk.sG (s := bG fn.ntmps args σ) (h3 hok)
       have := Cm (R := fun r3 σ3 => r3 = r2 ∧ σ3 = σ2) hT hf hb (key.mono fun o1 s1 hh => by
        obtain ⟨rfl, rfl⟩ := hh
        exact ⟨r2, σ2, he, rfl, rfl⟩) w0 ρ w hrr hs
       refine this.mono ?_
       rintro e w' ⟨r3, σ3, ρ', ⟨rfl, rfl⟩, k1, k2, k3⟩
       exact ⟨ρ', k1, k2, k3⟩
      ·cases h1
     ·cases hr
    ·cases hr
 ·refine hc.1 g args σ r σ' ?_
  simpa only [CH.H, CH.inl, if_neg e] using hr
end
def cS : Nat → List am → List (Nat × am)
 | _, [] => []
 | k, b :: r => (k, b) :: cS (k + 1) r
def dV : Nat → List jZ → List (Nat × jZ)
 | _, [] => []
 | k, b :: r => (k, b) :: dV (k + 1) r
def iBl : List jZ → List ah → List am
 | [], _ => []
 | p :: B, r => (iBk p r).1 :: iBl B (iBk p r).2
theorem KB : ∀ {k : Nat} {B : List jZ} {r : List ah}, (iB (dV k B) r).1 = cS k (iBl B r)
 | k, [], r => rfl
 | k, p :: B, r => by simp only [dV, iB, iBl, cS, KB]
theorem Ao : ∀ {B : List jZ} {r : List ah}, (iBl B r).length = B.length
 | [], r => rfl
 | p :: B, r => by simp [iBl, Ao]
structure FD where
 X : Type
 k : Nat
 pre : List (Tmp × Nat)
 F : St → List Nat
 M : Pat
 B : List jZ
 toL : X → List ah
 ofL : List ah → Option X
 au : ∀ ls x, ofL ls = some x → ls = toL x
def FD.val (d : FD) (x : d.X) : ab := (ip d.M (d.toL x)).1
def FD.aN (d : FD) (x : d.X) : List am := iBl d.B (ip d.M (d.toL x)).2
def zZ (T : ar) (rs : List ResultVar) (pre : List (Tmp × Nat)) (o : an) (s : St) : Option St :=
 match o with
 | .normal | .ret => match (cb pre s).df with
  | [] => (gk T (cb pre s) rs).map fun v => ⟨[v], [], (cb pre s).mem⟩
  | _ => none
 | _ => none
def GP {R : Type} (T : ar) (s : St) : List ResultVar → (LA_ → Option R) → Option R
 | [], k => k []
 | .tmp t :: r, k => GP T s r fun vs => k (s.tm.getD t (.tup []) :: vs)
 | .cell a t :: r, k => wO T s.mem t (s.tm.getD a (.tup [])) fun v => GP T s r fun vs => k (v :: vs)
theorem At {R : Type} {T : ar} {s : St} : ∀ {rs : List ResultVar} {k : LA_ → Option R} {x : R}, GP T s rs k = some x → ∃ vs, tq T s rs = some vs ∧ k vs = some x
 | [], k, x, h => ⟨[], rfl, h⟩
 | .tmp t :: r, k, x, h => by
  obtain ⟨vs, h1, h2⟩ := At (rs := r) (show GP T s r _ = some x from h)
  exact ⟨_, by simp only [tq, h1, US], h2⟩
 | .cell a t :: r, k, x, h => by
  obtain ⟨v, q1, q2⟩ := GB (show wO T s.mem t (s.tm.getD a (.tup [])) _ = some x from h)
  obtain ⟨vs, h1, h2⟩ := At (rs := r) q2
  exact ⟨_, by simp only [tq, q1, h1], h2⟩
def Pz {R : Type} (T : ar) (s : St) (rs : List ResultVar) (k : ab → Option R) : Option R :=
 GP T s rs fun vs => match vs with
  | [v] => k v
  | vs => k (.tup vs)
theorem Cj {R : Type} {T : ar} {s : St} {rs : List ResultVar} {k : ab → Option R} {x : R} (h : Pz T s rs k = some x) : ∃ v, gk T s rs = some v ∧ k v = some x := by
 obtain ⟨vs, h1, h2⟩ := At h
 unfold gk
 rw [h1]
 split at h2
 ·exact ⟨_, rfl, h2⟩
 ·rename_i hn
  refine ⟨_, ?_, h2⟩
  split
  ·rename_i e; cases e; exact absurd rfl (hn _)
  ·rename_i e; cases e; rfl
  ·rename_i e; cases e
def zY {R : Type} (T : ar) (rs : List ResultVar) (pre : List (Tmp × Nat)) (o : an) (s : St) (k : St → Option R) : Option R :=
 match o with
 | .normal | .ret => match (cb pre s).df with
  | [] => Pz T (cb pre s) rs fun v => k ⟨[v], [], (cb pre s).mem⟩
  | _ => none
 | _ => none
theorem lD {R : Type} {T : ar} {rs : List ResultVar} {pre : List (Tmp × Nat)} {o : an} {s : St} {k : St → Option R} {x : R} (h : zY T rs pre o s k = some x) : ∃ s2, zZ T rs pre o s = some s2 ∧ k s2 = some x := by
 unfold zY at h
 split at h <;> first | (cases h; done) | skip
 all_goals
  split at h
  ·rename_i hd
   obtain ⟨v, h1, h2⟩ := Cj h
   exact ⟨_, by simp only [zZ, hd, h1, US], h2⟩
  ·cases h
def FD.leaf (d : FD) (T : ar) (rs : List ResultVar) (o : an) (s : St) (w : Ow) : Option d.X :=
 match owB w with
 | true => zY T rs d.pre o s fun s2 => (mSt d.k (d.k + d.B.length) (d.F s2) [some d.M] (dV d.k d.B) [] s2).bind d.ofL
 | false => none
def Jo : an → Option ab
 | .normal | .ret => some .dr
 | .pan v => some v
 | _ => none
def FD.QT (d : FD) (T : ar) (rs : List ResultVar) (ch : CH) (fuel : Nat) (gd nt : Nat) (rest : Code) (t3 t2 : Tmp) (o : an) (s : St) (w : Ow) : Option d.X :=
 match owB w with
 | true => match s.df with
  | [⟨g, cap, []⟩] => if g = gd then (match Jo o with
   | some r => bh T ch bD fuel rest (zX nt cap s.mem t3 t2 r) .nil fun o' s2 w' => match owB w' with
    | true => match o', s2.df with
     | .normal, [] => zY T rs [] .ret ⟨s.tm, [], s2.mem⟩ fun s3 => (mSt d.k (d.k + d.B.length) (d.F s3) [some d.M] (dV d.k d.B) [] s3).bind d.ofL
     | .ret, [] => zY T rs [] .ret ⟨s.tm, [], s2.mem⟩ fun s3 => (mSt d.k (d.k + d.B.length) (d.F s3) [some d.M] (dV d.k d.B) [] s3).bind d.ofL
     | _, _ => none
    | false => none
   | none => none) else none
  | [] => zY T rs [] o s fun s3 => (mSt d.k (d.k + d.B.length) (d.F s3) [some d.M] (dV d.k d.B) [] s3).bind d.ofL
  | _ => none
 | false => none
theorem KC {n m : Nat} {b : am} (h : scB m b = true) (hx : scX n b = true) : scB n b = true := by
 cases b <;> first | exact hx | exact h
theorem Fh : ∀ {k : Nat} {bs : List am}, ∀ x ∈ cS k bs, k ≤ x.1 ∧ x.1 < k + bs.length ∧ bs[x.1 - k]? = some x.2
 | _, [], x, h => by simp [cS] at h
 | k, b :: r, x, h => by
  simp only [cS, List.mem_cons] at h
  rcases h with rfl | h
  ·simp
  ·obtain ⟨h1, h2, h3⟩ := Fh x h
   refine ⟨by omega, by simp; omega, ?_⟩
   rw [show x.1 - k = (x.1 - (k + 1)) + 1 by omega]; simpa using h3
theorem IM : ∀ {k : Nat} {bs : List am} {j : Nat} {b : am}, bs[j]? = some b → look (cS k bs) (k + j) = some b
 | k, [], j, b, h => by simp at h
 | k, c :: r, 0, b, h => by simp only [List.getElem?_cons_zero, UB] at h; subst h; simp [cS, look]
 | k, c :: r, j + 1, b, h => by
  simp only [List.getElem?_cons_succ] at h
  have := IM (k := k + 1) h
  simp only [cS, look]
  rw [if_neg (by simp)]
  rw [show k + (j + 1) = k + 1 + j by omega]; exact this
section
variable {P : Program} {T : ar} {ch : CH} {A : qh}
theorem FD.fin (d : FD) {g : FuncId} {cargs : LA_} {B0 : List (Nat × am)} {x : d.X} {v : ab} {σ2 : Mem} (hg : mZ P g)
  (hS : shP (d.k + d.B.length) [some d.M] (dV d.k d.B) = true)
  (q2 : (mSt d.k (d.k + d.B.length) (d.F ⟨[v], [], σ2⟩) [some d.M] (dV d.k d.B) [] ⟨[v], [], σ2⟩).bind d.ofL = some x)
  (hc : cE P g cargs ⟨d.k, B0⟩ (.ret v) σ2) :
  mZ P g ∧ cE P g cargs ⟨d.k, B0⟩ (.ret (d.val x)) ⟨d.k + (d.aN x).length, cS d.k (d.aN x)⟩ := by
 refine ⟨hg, ?_⟩
 obtain ⟨ls, q3, q4⟩ := bE_ q2
 have hls := d.au _ _ q4
 subst hls
 have hcov := uo hS q3
 intro w0 ρ w hr hs
 refine (hc w0 ρ w hr hs).mono ?_
 rintro e w' ⟨ρ', k3, k4, k5⟩
 have hSR : bF w0 ρ' ⟨[v], [], σ2⟩ { tmps := (γL ρ' [v]).toArray, defers := [] } w' :=
  ⟨k4.rel, rfl, by simp only [scL, Bool.and_true]; exact k5, rfl, by simp⟩
 obtain ⟨ρ2, c1, c2⟩ := hcov.2 w0 ρ' _ w' hSR
 have eB : (iB (dV d.k d.B) (iM [some d.M] (d.toL x)).2).1 = cS d.k (d.aN x) := KB
 have eM : (iM [some d.M] (d.toL x)).1 = [some (d.val x)] := rfl
 rw [iSt, eB, eM] at c1
 have hlen : (d.aN x).length = d.B.length := Ao
 have e1 : γ ρ2 (d.val x) = γ ρ' v := by
  have := c1.tm
  simp only [bo, qn, γL, List.toArray_inj] at this
  have h2 := congrArg Array.toList this
  simp at h2
  exact h2.symm
 unfold mSt at q3
 split at q3
 ·rename_i hf0
  simp only [fOk, UC, beq_iff_eq] at hf0
  split at q3
  ·rename_i a b ha hb'
   simp only [shP, UC] at hS
   obtain ⟨M0, m1, m2⟩ := yB (n := d.k + d.B.length) _ _ a ha hS.1
   obtain ⟨B1, b1, b2⟩ := CX (n := d.k + d.B.length) _ b hb' hS.2
   simp only [UB] at q3
   have f1 : iM [some d.M] (a ++ b) = (M0, b) := m1 b
   have f2 : (iB (dV d.k d.B) b).1 = B1 := by have := b1 []; rw [List.append_nil] at this; rw [this]
   rw [q3] at f1
   have f3 : M0 = [some (d.val x)] := by rw [← eM, f1]
   have f4 : B1 = cS d.k (d.aN x) := by rw [← eB, f1, ← f2]
   subst f3 f4
   have hsv : sc (d.k + d.B.length) (d.val x) = true := m2.2.1
   have hget : ∀ i b, (⟨d.k + (d.aN x).length, cS d.k (d.aN x)⟩ : Mem).get i = some b → (bo (d.k + d.B.length) [some (d.val x)] (cS d.k (d.aN x)) []).mem.get i = some b := fun i b h => h
   have R := c1.rel
   refine ⟨ρ2, by rw [k3]; simp only [rR, e1], ⟨R.weaken (fun i b hb _ => hget i b hb) ?_ ?_, fun i hi => (c2 i hi).trans (k4.ext i hi), by simp⟩, ?_⟩
   ·intro i b hb
    show i < d.k + (d.aN x).length
    rw [hlen]
    exact (b2 _ (lN hb)).1
   ·intro i b hb
    show scB (d.k + (d.aN x).length) b = true
    rw [hlen]
    exact KC (R.sco i b (hget i b hb)) (b2 _ (lN hb)).2.2
   ·show sc (d.k + (d.aN x).length) (d.val x) = true
    rw [hlen]; exact hsv
  ·cases q3
 ·cases q3
theorem FD.sem (hT : aZ P T) (hH : aG P ch) (hm : P.follows .mixedOrders = true) (hN : nN P) (d : FD) {g : FuncId} {fn : Func} {c : Code} {fuel : Nat} {cargs : LA_} {B0 : List (Nat × am)} {x : d.X}
  (hf : P.funcs[g]? = some fn) (hb : fn.body = some c) (hA : ∀ b ∈ bm c, ∀ la, A (dK b) = some la → cX P d.k la b)
  (hS : shP (d.k + d.B.length) [some d.M] (dV d.k d.B) = true)
  (hx : bh T ch A fuel c (bG fn.ntmps cargs ⟨d.k, B0⟩) .nil (d.leaf T fn.results.toList) = some x) :
  mZ P g ∧ cE P g cargs ⟨d.k, B0⟩ (.ret (d.val x)) ⟨d.k + (d.aN x).length, cS d.k (d.aN x)⟩ := by
 rw [jv] at hx
 obtain ⟨⟨o, s, w1⟩, k1, k2⟩ := bE_ hx
 obtain ⟨o2, s2, w2, j1, j2, j3⟩ := iN (k := d.k) hT hH hm fuel c _ _ _ _ hA k1
 simp only [UB, UD] at j1
 obtain ⟨rfl, rfl, rfl⟩ := j1
 simp only [FD.leaf] at k2
 split at k2
 ·rename_i how
  have hAW := j3 (eW how)
  obtain ⟨s3, q1, q2⟩ := lD k2
  have hfin : (o2 = .normal ∨ o2 = .ret) ∧ (cb d.pre s2).df = [] ∧ ∃ v, gk T (cb d.pre s2) fn.results.toList = some v ∧ s3 = ⟨[v], [], (cb d.pre s2).mem⟩ := by
   unfold zZ at q1
   cases o2 with
   | normal =>
    simp only at q1
    split at q1
    ·rename_i hd
     obtain ⟨v, hv, rfl⟩ := UM.1 q1
     exact ⟨.inl rfl, hd, v, hv, rfl⟩
    ·cases q1
   | ret =>
    simp only at q1
    split at q1
    ·rename_i hd
     obtain ⟨v, hv, rfl⟩ := UM.1 q1
     exact ⟨.inr rfl, hd, v, hv, rfl⟩
    ·cases q1
   | exit i => cases q1
   | goto i => cases q1
   | pan v => cases q1
  obtain ⟨ho, hdf, v, hres, rfl⟩ := hfin
  refine d.fin ⟨fn, hf, hN g fn hf, by rw [hb]; rfl⟩ hS q2 ?_
  intro w0 ρ w hr hs
  have key : AWP P c (bG fn.ntmps cargs ⟨d.k, B0⟩) fun o' s' => o' = o2 ∧ s' = cb d.pre s2 := by
   refine dk.sG (s := bG fn.ntmps cargs ⟨d.k, B0⟩) (oM ?_)
   intro hn w0 ρ a w hr
   refine wp_mono (hAW hn w0 ρ a w hr) ?_
   rintro e' a' w' ⟨o3, s3, ⟨h1, h2⟩, hq⟩
   subst h1 h2
   obtain ⟨ρ', r1, r2, r3, r4, r5⟩ := hq
   refine ⟨_, _, ⟨?_, _, jV r4, rfl, rfl⟩, ⟨ρ', r1, r2, r3, r4, r5⟩⟩
   rintro v rfl
   rcases ho with h | h <;> cases h
  have := Cm (R := fun r3 σ3 => r3 = .ret v ∧ σ3 = (cb d.pre s2).mem) hT hf hb (key.mono fun o1 s1 hh => by
   obtain ⟨rfl, rfl⟩ := hh
   refine ⟨.ret v, (cb d.pre s2).mem, ?_, rfl, rfl⟩
   rcases ho with rfl | rfl <;> simp [Ah, hdf, hres]) w0 ρ w hr hs
  refine this.mono ?_
  rintro e w' ⟨r3, σ3, ρ', ⟨rfl, rfl⟩, k3, k4, k5⟩
  exact ⟨ρ', k3, k4, k5⟩
 ·cases k2
theorem FD.Su (hT : aZ P T) (hH : aG P ch) (hm : P.follows .mixedOrders = true) (hN : nN P) (d : FD) {g : FuncId} {fn : Func} {c : Code} {fuel : Nat} {cargs : LA_} {B0 : List (Nat × am)} {x : d.X}
  (hf : P.funcs[g]? = some fn) (hb : fn.body = some c) (hA : ∀ b ∈ bm c, ∀ la, A (dK b) = some la → cX P d.k la b)
  (hS : shP (d.k + d.B.length) [some d.M] (dV d.k d.B) = true)
  {gd : FuncId} {fd : Func} {id : Nat} {ops : Array Oper} {o0 o1 : Oper} {rest : Code} {t3 t2 : Tmp} (hk : wh P gd fd id ops o0 o1 rest t3 t2) (hl : bm rest = [])
  (hx : bh T ch A fuel c (bG fn.ntmps cargs ⟨d.k, B0⟩) .nil (d.QT T fn.results.toList ch fuel gd fd.ntmps rest t3 t2) = some x) :
  mZ P g ∧ cE P g cargs ⟨d.k, B0⟩ (.ret (d.val x)) ⟨d.k + (d.aN x).length, cS d.k (d.aN x)⟩ := by
 rw [jv] at hx
 obtain ⟨⟨o, s, w1⟩, k1, k2⟩ := bE_ hx
 obtain ⟨o2, s2, w2, j1, j2, j3⟩ := iN (k := d.k) hT hH hm fuel c _ _ _ _ hA k1
 simp only [UB, UD] at j1
 obtain ⟨rfl, rfl, rfl⟩ := j1
 simp only [FD.QT] at k2
 split at k2
 rotate_left
 ·cases k2
 rename_i how
 have hAW := j3 (eW how)
 split at k2
 rotate_left
 ·rename_i hdf
  obtain ⟨s4, q1, q2⟩ := lD k2
  have hend : (o2 = .normal ∨ o2 = .ret) ∧ ∃ v, gk T s2 fn.results.toList = some v ∧ (mSt d.k (d.k + d.B.length) (d.F ⟨[v], [], s2.mem⟩) [some d.M] (dV d.k d.B) [] ⟨[v], [], s2.mem⟩).bind d.ofL = some x := by
   unfold zZ at q1
   split at q1
   ·simp only [cb, hdf] at q1
    obtain ⟨v, hv, rfl⟩ := UM.1 q1
    exact ⟨.inl rfl, v, hv, q2⟩
   ·simp only [cb, hdf] at q1
    obtain ⟨v, hv, rfl⟩ := UM.1 q1
    exact ⟨.inr rfl, v, hv, q2⟩
   ·cases q1
  obtain ⟨ho, v, hres, q2⟩ := hend
  refine d.fin ⟨fn, hf, hN g fn hf, by rw [hb]; rfl⟩ hS q2 ?_
  intro w0 ρ w hr hs
  have key : AWP P c (bG fn.ntmps cargs ⟨d.k, B0⟩) fun o1 s1 => o1 = o2 ∧ s1 = s2 := dk.sG (s := bG fn.ntmps cargs ⟨d.k, B0⟩) hAW
  have := iz (R := fun v3 σ3 => v3 = v ∧ σ3 = s2.mem) hT hf hb hk (key.mono fun o1 s1 hh => by
   obtain ⟨rfl, rfl⟩ := hh
   exact .inl ⟨hdf, ho, v, hres, rfl, rfl⟩) w0 ρ w hr hs
  refine this.mono ?_
  rintro e w' ⟨v3, σ3, ρ', ⟨rfl, rfl⟩, k3, k4, k5⟩
  exact ⟨ρ', k3, k4, k5⟩
 ·cases k2
 rename_i g' cap hdf
 split at k2
 rotate_left
 ·cases k2
 rename_i hgd
 subst hgd
 split at k2
 rotate_left
 ·cases k2
 rename_i r hrec
 rw [jv] at k2
 obtain ⟨⟨o', s', w'⟩, k3, k4⟩ := bE_ k2
 obtain ⟨o3, s3, w3, j4, j5, j6⟩ := iN (k := (zX fd.ntmps cap s2.mem t3 t2 r).mem.next) hT hH hm fuel rest _ _ _ _ (fun b hb => by rw [hl] at hb; cases hb) k3
 simp only [UB, UD] at j4
 obtain ⟨rfl, rfl, rfl⟩ := j4
 simp only at k4
 split at k4
 rotate_left
 ·cases k4
 rename_i how3
 have hAR := j6 (eW how3)
 have hend : (o3 = .normal ∨ o3 = .ret) ∧ s3.df = [] ∧ ∃ v, gk T ⟨s2.tm, [], s3.mem⟩ fn.results.toList = some v ∧ (mSt d.k (d.k + d.B.length) (d.F ⟨[v], [], s3.mem⟩) [some d.M] (dV d.k d.B) [] ⟨[v], [], s3.mem⟩).bind d.ofL = some x := by
  split at k4
  ·rename_i hd
   obtain ⟨s4, q1, q2⟩ := lD k4
   simp only [zZ, cb] at q1
   obtain ⟨v, hv, rfl⟩ := UM.1 q1
   exact ⟨.inl rfl, hd, v, hv, q2⟩
  ·rename_i hd
   obtain ⟨s4, q1, q2⟩ := lD k4
   simp only [zZ, cb] at q1
   obtain ⟨v, hv, rfl⟩ := UM.1 q1
   exact ⟨.inr rfl, hd, v, hv, q2⟩
  ·cases k4
 obtain ⟨ho3, hd3, v, hres, q2⟩ := hend
 refine d.fin ⟨fn, hf, hN g fn hf, by rw [hb]; rfl⟩ hS q2 ?_
 intro w0 ρ w hr hs
 have key : AWP P c (bG fn.ntmps cargs ⟨d.k, B0⟩) fun o1 s1 => o1 = o2 ∧ s1 = s2 := dk.sG (s := bG fn.ntmps cargs ⟨d.k, B0⟩) hAW
 have := iz (R := fun v3 σ3 => v3 = v ∧ σ3 = s3.mem) hT hf hb hk (key.mono fun o1 s1 hh => by
  obtain ⟨rfl, rfl⟩ := hh
  refine .inr ⟨cap, r, hdf, ?_, (dk.sG hAR).mono fun o5 s5 h5 => ?_⟩
  ·cases o1 <;> simp only [Jo, UB, reduceCtorEq] at hrec
   ·exact .inl ⟨.inl rfl, hrec.symm⟩
   ·exact .inl ⟨.inr rfl, hrec.symm⟩
   ·exact .inr (by rw [hrec])
  ·obtain ⟨rfl, rfl⟩ := h5
   exact ⟨ho3, hd3, v, hres, rfl, rfl⟩) w0 ρ w hr hs
 refine this.mono ?_
 rintro e w' ⟨v3, σ3, ρ', ⟨rfl, rfl⟩, k3, k4, k5⟩
 exact ⟨ρ', k3, k4, k5⟩
mutual
def gp (ks : List Bool) : ab → Bool
 | .vec i => ks[i]? == some true
 | .ptr i _ => ks[i]? == some false
 | .slice .. | .emp _ | .map _ | .dm _ => false
 | .func _ fs cs => ki ks fs && ki ks cs
 | .iface _ v => gp ks v
 | .agg cs => vJ ks cs
 | .tup vs => ki ks vs
 | _ => true
def ki (ks : List Bool) : LA_ → Bool
 | [] => true
 | v :: vs => gp ks v && ki ks vs
def vJ (ks : List Bool) : LA_ → Bool
 | [] => true
 | v :: vs => v.eV && gp ks v && vJ ks vs
end
mutual
def sub (xs : LA_) : ab → ab
 | .vec i => xs.getD i .aL
 | .ptr i o => match xs.getD i .aL with
  | .ptr b o' => .ptr b (o' + o)
  | _ => .dR
 | .func f fs cs => .func f (re xs fs) (re xs cs)
 | .iface t v => .iface t (sub xs v)
 | .agg cs => .agg (re xs cs)
 | .tup vs => .tup (re xs vs)
 | v => v
def re (xs : LA_) : LA_ → LA_
 | [] => []
 | v :: vs => sub xs v :: re xs vs
end
mutual
theorem Fm {ks : List Bool} : ∀ v, gp ks v = true → sc ks.length v = true
 | .vec i, h => by
  simp only [gp, beq_iff_eq] at h; simp only [sc, UI]; exact (UL.1 h).1
 | .ptr i o, h => by
  simp only [gp, beq_iff_eq] at h; simp only [sc, UI]; exact (UL.1 h).1
 | .func f a b, h => by simp only [gp, UC] at h; simp only [sc, sM a h.1, sM b h.2, UF]
 | .iface t v, h => by simp only [gp] at h; simp only [sc, Fm v h]
 | .agg cs, h => by simp only [gp] at h; simp only [sc, CA cs h]
 | .tup vs, h => by simp only [gp] at h; simp only [sc, sM vs h]
 | .slice _ _ _ _ _, h | .emp _, h | .map _, h | .dm _, h => by simp [gp] at h
 | .bool _, _ | .int _ _, _ | .str _, _ | .dR, _ | .aL, _ | .eR, _ | .cN, _ | .dr, _ => rfl
theorem sM {ks : List Bool} : ∀ l, ki ks l = true → scL ks.length l = true
 | [], _ => rfl
 | v :: vs, h => by simp only [ki, UC] at h; simp only [scL, Fm v h.1, sM vs h.2, UF]
theorem CA {ks : List Bool} : ∀ l, vJ ks l = true → scC ks.length l = true
 | [], _ => rfl
 | v :: vs, h => by simp only [vJ, UC] at h; simp only [scC, h.1.1, Fm v h.1.2, CA vs h.2, UF]
end
theorem Fo {ks : List Bool} : ∀ {l : LA_}, vJ ks l = true → ki ks l = true
 | [], _ => rfl
 | v :: vs, h => by simp only [vJ, UC] at h; simp only [ki, h.1.2, Fo h.2, UF]
mutual
def fr (k : Nat) : ab → Bool
 | .ptr i _ | .slice i _ _ _ _ | .emp i | .map i | .dm i | .vec i => decide (k ≤ i)
 | .func _ fs cs => frL k fs && frL k cs
 | .iface _ v => fr k v
 | .agg cs => frL k cs
 | .tup vs => frL k vs
 | _ => true
def frL (k : Nat) : LA_ → Bool
 | [] => true
 | v :: vs => fr k v && frL k vs
end
def frB (k : Nat) : am → Bool
 | .cells cs own _ => own && frL k cs
 | .vec _ _ _ own => own
 | .map _ _ => true
 | .iter _ _ _ _ => false
 | .jm => false
 | .bM _ _ => false
 | .dead => true
mutual
theorem M4 {k : Nat} {ρ ρ' : Nat → Loc} (h : ∀ i, k ≤ i → ρ' i = ρ i) : ∀ v, fr k v = true → γ ρ' v = γ ρ v
 | .ptr i o, hv | .slice i o l e c, hv | .emp i, hv | .map i, hv | .dm i, hv | .vec i, hv => by simp only [fr, UI] at hv; simp only [γ, h i hv]
 | .func f a b, hv => by simp only [fr, UC] at hv; simp only [γ, yI h a hv.1, yI h b hv.2]
 | .iface t v, hv => by simp only [fr] at hv; simp only [γ, M4 h v hv]
 | .agg cs, hv => by simp only [fr] at hv; simp only [γ, yI h cs hv]
 | .tup vs, hv => by simp only [fr] at hv; simp only [γ, yI h vs hv]
 | .bool _, _ | .int _ _, _ | .str _, _ | .dR, _ | .aL, _ | .eR, _ | .cN, _ | .dr, _ => by simp only [γ]
theorem yI {k : Nat} {ρ ρ' : Nat → Loc} (h : ∀ i, k ≤ i → ρ' i = ρ i) : ∀ l, frL k l = true → γL ρ' l = γL ρ l
 | [], _ => rfl
 | v :: vs, hv => by simp only [frL, UC] at hv; simp only [γL, M4 h v hv.1, yI h vs hv.2]
end
mutual
theorem Ju {k m N : Nat} {f : Nat → Nat} (h : ∀ i, k ≤ i → i < m → f i < N) : ∀ v, fr k v = true → sc m v = true → sc N (rn f v) = true
 | .ptr i o, hv, hs | .slice i o l e c, hv, hs | .emp i, hv, hs | .map i, hv, hs | .dm i, hv, hs | .vec i, hv, hs => by
  simp only [fr, sc, UI] at hv hs; simp only [rn, sc, UI]; exact h i hv hs
 | .func g a b, hv, hs => by simp only [fr, sc, UC] at hv hs; simp only [rn, sc, UC]; exact ⟨GQ h a hv.1 hs.1, GQ h b hv.2 hs.2⟩
 | .iface t v, hv, hs => by simp only [fr, sc] at hv hs; simp only [rn, sc]; exact Ju h v hv hs
 | .agg cs, hv, hs => by simp only [fr, sc] at hv hs; simp only [rn, sc]; exact KQ h cs hv hs
 | .tup vs, hv, hs => by simp only [fr, sc] at hv hs; simp only [rn, sc]; exact GQ h vs hv hs
 | .bool _, _, _ | .int _ _, _, _ | .str _, _, _ | .dR, _, _ | .aL, _, _ | .eR, _, _ | .cN, _, _ | .dr, _, _ => rfl
theorem GQ {k m N : Nat} {f : Nat → Nat} (h : ∀ i, k ≤ i → i < m → f i < N) : ∀ l, frL k l = true → scL m l = true → scL N (rnL f l) = true
 | [], _, _ => rfl
 | v :: vs, hv, hs => by simp only [frL, scL, UC] at hv hs; simp only [rnL, scL, UC]; exact ⟨Ju h v hv.1 hs.1, GQ h vs hv.2 hs.2⟩
theorem KQ {k m N : Nat} {f : Nat → Nat} (h : ∀ i, k ≤ i → i < m → f i < N) : ∀ l, frL k l = true → scC m l = true → scC N (rnL f l) = true
 | [], _, _ => rfl
 | v :: vs, hv, hs => by
  simp only [frL, scC, UC] at hv hs; simp only [rnL, scC, UC]
  refine ⟨⟨?_, Ju h v hv.1 hs.1.2⟩, KQ h vs hv.2 hs.2⟩
  have := hs.1.1
  cases v <;> first | exact this | rfl
end
def qx (σ : Mem) (xs : LA_) (ks : List Bool) (x : ab) : am → Prop
 | .vec cs n sz own => own = false ∧ bN σ sz x = some (cs, n) ∧ wF σ sz x = true ∧ sz ≠ 0
 | .cells cs own gr => own = false ∧ gr = none ∧ cs ≠ [] ∧ vJ ks cs = true ∧ ∃ b o, x = .ptr b o ∧ cC σ b o cs.length = some (re xs cs)
 | _ => False
def lP : am → Bool
 | .vec .. => true
 | _ => false
structure bC (σ : Mem) (xs : LA_) (bs : List am) : Prop where
 len : xs.length = bs.length
 at_ : ∀ (i : Nat) (x : ab) (b : am), xs[i]? = some x → bs[i]? = some b → qx σ xs (bs.map lP) x b
structure Jv (ρ ρs : Nat → Loc) (xs : LA_) (ks : List Bool) : Prop where
 v : ∀ i, ks[i]? = some true → γ ρ (xs.getD i .aL) = .slice (ρs i).sp (ρs i).sl (ρs i).sk
 p : ∀ i, ks[i]? = some false → ∃ b o, xs.getD i .aL = .ptr b o ∧ (ρs i).blk = (ρ b).blk ∧ (ρs i).base = (ρ b).base + o
mutual
theorem Oy {ρ ρs : Nat → Loc} {xs : LA_} {ks : List Bool} (h : Jv ρ ρs xs ks) : ∀ v, gp ks v = true → γ ρ (sub xs v) = γ ρs v
 | .vec i, hv => by simp only [gp, beq_iff_eq] at hv; simp only [sub, γ, h.v i hv]
 | .ptr i o, hv => by
  simp only [gp, beq_iff_eq] at hv
  obtain ⟨b, o', h1, h2, h3⟩ := h.p i hv
  simp only [sub, h1, γ, h2, h3, Nat.add_assoc]
 | .func f a b, hv => by simp only [gp, UC] at hv; simp only [sub, γ, rF h a hv.1, rF h b hv.2]
 | .iface t v, hv => by simp only [gp] at hv; simp only [sub, γ, Oy h v hv]
 | .agg cs, hv => by simp only [gp] at hv; simp only [sub, γ, rF h cs (Fo hv)]
 | .tup vs, hv => by simp only [gp] at hv; simp only [sub, γ, rF h vs hv]
 | .slice _ _ _ _ _, hv | .emp _, hv | .map _, hv | .dm _, hv => by simp [gp] at hv
 | .bool _, _ | .int _ _, _ | .str _, _ | .dR, _ | .aL, _ | .eR, _ | .cN, _ | .dr, _ => by simp only [sub, γ]
theorem rF {ρ ρs : Nat → Loc} {xs : LA_} {ks : List Bool} (h : Jv ρ ρs xs ks) : ∀ l, ki ks l = true → γL ρ (re xs l) = γL ρs l
 | [], _ => rfl
 | v :: vs, hv => by simp only [ki, UC] at hv; simp only [re, γL, Oy h v hv.1, rF h vs hv.2]
end
theorem bC.rel {w0 : W0} {ρ : Nat → Loc} {σ : Mem} {w : World} (hr : Rel w0 ρ σ w) {xs : LA_} {ls : List am} (hL : bC σ xs ls) :
  Jv ρ (fun i => jY ρ (xs.getD i .aL)) xs (ls.map lP) ∧ Rel (W0.all w) (fun i => jY ρ (xs.getD i .aL)) ⟨ls.length, cS 0 ls⟩ w := by
 have hget : ∀ {i : Nat} {b : am}, ls[i]? = some b → ∃ x, xs[i]? = some x ∧ xs.getD i .aL = x ∧ qx σ xs (ls.map lP) x b := by
  intro i b hb
  have hi : i < xs.length := by rw [hL.len]; exact (UL.1 hb).1
  have hx : xs[i]? = some xs[i] := UJ hi
  exact ⟨_, hx, by simp only [UK, hx, Option.getD_some], hL.at_ i _ b hx hb⟩
 have hbk : ∀ i b, (⟨ls.length, cS 0 ls⟩ : Mem).get i = some b → i < ls.length ∧ ls[i]? = some b := by
  intro i b hi
  obtain ⟨_, h2, h3⟩ := Fh _ (lN hi)
  simp only [Nat.zero_add, Nat.sub_zero] at h2 h3
  exact ⟨h2, h3⟩
 have hks : ∀ {i : Nat} {q : Bool}, (ls.map lP)[i]? = some q → ∃ b, ls[i]? = some b ∧ lP b = q := by
  intro i q hq
  rw [List.getElem?_map, UM] at hq
  exact hq
 have hS : Jv ρ (fun i => jY ρ (xs.getD i .aL)) xs (ls.map lP) := by
  constructor
  ·intro i hi
   obtain ⟨b, hb, hq⟩ := hks hi
   obtain ⟨x, h1, h2, h3⟩ := hget hb
   rw [h2]
   cases b <;> simp only [lP, UE, reduceCtorEq] at hq
   obtain ⟨_, q1, q2, q3⟩ := h3
   exact (qw hr q1 q2 q3 ρ).1
  ·intro i hi
   obtain ⟨b, hb, hq⟩ := hks hi
   obtain ⟨x, h1, h2, h3⟩ := hget hb
   rw [h2]
   cases b <;> simp only [qx, lP, Bool.true_eq_false, reduceCtorEq] at hq h3
   obtain ⟨_, _, _, _, bb, o, rfl, _⟩ := h3
   exact ⟨bb, o, rfl, rfl, rfl⟩
 have hown : ∀ i b, (⟨ls.length, cS 0 ls⟩ : Mem).get i = some b → b.owned = true → False := by
  intro i b hi ho
  obtain ⟨x, h1, h2, h3⟩ := hget (hbk i b hi).2
  cases b <;> simp only [qx] at h3
  ·obtain ⟨rfl, _⟩ := h3; simp [am.owned] at ho
  ·obtain ⟨rfl, _⟩ := h3; simp [am.owned] at ho
 refine ⟨hS, fun i b hi => (hbk i b hi).1, ?_, ?_, ?_, fun i j bi bj hi hj hij hoi haj => (hown i bi hi hoi).elim, fun i b hi ho => (hown i b hi ho).elim, rfl, rfl, rfl, Nat.le_refl _, fun _ _ => rfl⟩
 ·intro i b hi
  obtain ⟨x, h1, h2, h3⟩ := hget (hbk i b hi).2
  cases b <;> simp only [qx] at h3
  ·obtain ⟨_, _, _, q, _⟩ := h3
   have := CA _ q
   rw [List.length_map] at this
   exact this
  ·obtain ⟨_, q1, q2, q3⟩ := h3
   exact (qw hr q1 q2 q3 ρ).2.2.2
 ·intro i b hi
  obtain ⟨x, h1, h2, h3⟩ := hget (hbk i b hi).2
  rw [h2]
  cases b <;> simp only [qx] at h3
  ·rename_i cs own gr
   obtain ⟨rfl, rfl, hne, q, bb, o, rfl, hc⟩ := h3
   obtain ⟨bs, bk, hg, hbk, hl, he⟩ := fH hc
   obtain ⟨cc, e, fz, r1, pre, post, r2, r3⟩ := hr.row hg hbk (by rintro rfl; simp at hl; exact hne hl.2)
   refine ⟨cc, e, fz, r1, ⟨pre ++ γL ρ (bs.take o), γL ρ (bs.drop (o + cs.length)) ++ post, ?_, ?_⟩, by simp, by simp⟩
   ·rw [r2, ← rF hS cs (Fo q), he]
    have e1 : bs = bs.take o ++ ((bs.drop o).take cs.length ++ bs.drop (o + cs.length)) := by
     rw [← List.drop_drop, List.take_append_drop, List.take_append_drop]
    conv => lhs; rw [e1]
    simp only [cz, UV]
   ·simp only [UQ, aU, List.length_take, r3, jY]; omega
  ·obtain ⟨rfl, q1, q2, q3⟩ := h3
   exact (qw hr q1 q2 q3 _).2.1
 ·intro i b hi ha
  obtain ⟨x, h1, h2, h3⟩ := hget (hbk i b hi).2
  rw [h2]
  cases b <;> simp only [qx] at h3
  ·rename_i cs own gr
   obtain ⟨rfl, rfl, hne, q, bb, o, rfl, hc⟩ := h3
   obtain ⟨bs, bk, hg, hbk, hl, he⟩ := fH hc
   obtain ⟨cc, e, fz, r1, _⟩ := hr.row hg hbk (by rintro rfl; simp at hl; exact hne hl.2)
   exact (Array.getElem?_eq_some_iff.1 r1).1
  ·obtain ⟨rfl, q1, q2, q3⟩ := h3
   exact (qw hr q1 q2 q3 ρ).2.2.1 (by rintro rfl; simp [am.alive] at ha)
def jq : Mem → List am → Mem
 | σ, [] => σ
 | σ, b :: r => jq (σ.push b) r
theorem CB : ∀ {σ : Mem} {bs : List am}, (jq σ bs).next = σ.next + bs.length
 | σ, [] => rfl
 | σ, b :: r => by simp only [jq, CB, dJ, UW]; omega
theorem Ed : ∀ {σ : Mem} {bs : List am}, Ext σ (jq σ bs)
 | σ, [] => .refl σ
 | σ, b :: r => (Ext.push σ b).trans Ed
theorem Ee : ∀ {σ : Mem} {bs : List am} {i : Nat} {b : am}, (jq σ bs).get i = some b → (∃ j, i = σ.next + j ∧ bs[j]? = some b) ∨ ((∀ j, j < bs.length → i ≠ σ.next + j) ∧ σ.get i = some b)
 | σ, [], i, b, h => .inr ⟨fun j hj => by simp at hj, h⟩
 | σ, c :: r, i, b, h => by
  simp only [jq] at h
  rcases Ee h with ⟨j, h1, h2⟩ | ⟨h1, h2⟩
  ·exact .inl ⟨j + 1, by simp only [dJ] at h1; omega, by simpa using h2⟩
  ·rw [bU] at h2
   split at h2
   ·rename_i e; exact .inl ⟨0, e.symm, by simpa using h2⟩
   ·rename_i e
    refine .inr ⟨fun j hj => ?_, h2⟩
    cases j with
    | zero => exact fun q => e q.symm
    | succ j => have := h1 j (by simpa using hj); simp only [dJ] at this; omega
theorem cE.lift {g : FuncId} {cargs xs : LA_} {ls bs : List am} {v : ab} {σ : Mem} (hL : bC σ xs ls) (h : cE P g cargs ⟨ls.length, cS 0 ls⟩ (.ret v) ⟨ls.length + bs.length, cS ls.length bs⟩)
  (ho : ki (ls.map lP) cargs = true) (hv : fr ls.length v = true) (hb : bs.all (frB ls.length) = true) :
  cE P g (re xs cargs) σ (.ret (rn (fun i => σ.next + (i - ls.length)) v)) (jq σ (bs.map (rnB fun i => σ.next + (i - ls.length)))) := by
 have hs : scL ls.length cargs = true := by have := sM _ ho; simpa only [List.length_map] using this
 intro w0 ρ w hr _
 obtain ⟨hS, Rs⟩ := hL.rel hr
 generalize (fun i => jY ρ (xs.getD i .aL)) = ρs at hS Rs
 have hargs : γL ρ (re xs cargs) = γL ρs cargs := rF hS cargs ho
 have := h (W0.all w) ρs w Rs hs
 rw [hargs]
 refine this.mono ?_
 rintro e w' ⟨ρ', k1, k2, k3⟩
 have R := k2.rel
 have hsz : w.heap.size ≤ w'.heap.size := R.size
 have hold : ∀ q, q < w.heap.size → w'.heap[q]? = w.heap[q]? := fun q hq => R.old q hq
 let ρn : Nat → Loc := fun i => if i < σ.next then ρ i else ρ' (ls.length + (i - σ.next))
 have n1 : ∀ i, i < σ.next → ρn i = ρ i := fun i hi => by simp only [ρn, if_pos hi]
 have n2 : ∀ j, ρn (σ.next + j) = ρ' (ls.length + j) := fun j => by simp only [ρn, if_neg (show ¬ σ.next + j < σ.next by omega), Nat.add_sub_cancel_left]
 have n3 : ∀ i, ls.length ≤ i → ρn (σ.next + (i - ls.length)) = ρ' i := fun i hi => by rw [n2, show ls.length + (i - ls.length) = i by omega]
 have fresh : ∀ j b, bs[j]? = some b → (⟨ls.length + bs.length, cS ls.length bs⟩ : Mem).get (ls.length + j) = some b := fun j b hj => IM hj
 have hfr : ∀ j b, bs[j]? = some b → frB ls.length b = true := fun j b hj => (List.all_eq_true.1 hb) b (List.mem_of_getElem? hj)
 have hown : ∀ b, frB ls.length b = true → b.alive = true → b.owned = true := by
  intro b h1 h2
  cases b <;> simp_all [frB, am.alive, am.owned]
 have al : ∀ b, (rnB (fun i => σ.next + (i - ls.length)) b).alive = b.alive := fun b => sJ _ b
 have ow : ∀ b, (rnB (fun i => σ.next + (i - ls.length)) b).owned = b.owned := fun b => sK _ b
 have cases' : ∀ i b, (jq σ (bs.map (rnB fun i => σ.next + (i - ls.length)))).get i = some b →
   (∃ j c, i = σ.next + j ∧ bs[j]? = some c ∧ b = rnB (fun i => σ.next + (i - ls.length)) c) ∨ (i < σ.next ∧ σ.get i = some b) := by
  intro i b hi
  rcases Ee hi with ⟨j, h1, h2⟩ | ⟨_, h2⟩
  ·rw [List.getElem?_map, UM] at h2
   obtain ⟨c, h3, h4⟩ := h2
   exact .inl ⟨j, c, h1, h3, h4.symm⟩
  ·exact .inr ⟨hr.lt i b h2, h2⟩
 have hnext : (jq σ (bs.map (rnB fun i => σ.next + (i - ls.length)))).next = σ.next + bs.length := by rw [CB, List.length_map]
 have hbnd : ∀ i, ls.length ≤ i → i < ls.length + bs.length → σ.next + (i - ls.length) < σ.next + bs.length := fun i h1 h2 => by omega
 have jlt : ∀ {j : Nat} {c : am}, bs[j]? = some c → j < bs.length := fun hj => (UL.1 hj).1
 refine ⟨ρn, ?_, ⟨⟨?_, ?_, ?_, ?_, ?_, ?_, R.os.trans hr.os, R.tape.trans hr.tape, R.output.trans hr.output, Nat.le_trans hr.size hsz, fun q hq => (hold q (by have := w0.lt q hq; have := hr.size; omega)).trans (hr.old q hq)⟩, fun i hi => n1 i hi, by rw [hnext]; omega⟩, ?_⟩
 ·rw [k1]
  simp only [rR, Js]
  rw [M4 (k := ls.length) (ρ := ρ') (fun i hi => n3 i hi) v hv]
 ·intro i b hi
  rw [hnext]
  rcases cases' i b hi with ⟨j, c, rfl, h2, _⟩ | ⟨h1, _⟩
  ·have := jlt h2; omega
  ·omega
 ·intro i b hi
  rw [hnext]
  rcases cases' i b hi with ⟨j, c, rfl, h2, rfl⟩ | ⟨_, h1⟩
  ·have hsc := R.sco _ _ (fresh j c h2)
   have hf := hfr j c h2
   cases c with
   | cells cs own gr =>
    simp only [frB, UC] at hf
    exact KQ hbnd cs hf.2 hsc
   | vec cs n sz own => exact hsc
   | map es c => exact hsc
   | iter m a b d => simp [frB] at hf
   | jm => simp [frB] at hf
   | bM a b => simp [frB] at hf
   | dead => rfl
  ·exact fU (by omega) b (hr.sco i b h1)
 ·intro i b hi
  rcases cases' i b hi with ⟨j, c, rfl, h2, rfl⟩ | ⟨h0, h1⟩
  ·have hok := R.ok _ _ (fresh j c h2)
   have hsc := R.sco _ _ (fresh j c h2)
   have hf := hfr j c h2
   rw [n2]
   cases c with
   | cells cs own gr =>
    simp only [frB, UC] at hf
    obtain ⟨cc, e, fz, q1, ⟨pre, post, q2, q3⟩, q4, q5⟩ := hok
    refine ⟨cc, e, fz, q1, ⟨pre, post, ?_, q3⟩, q4, ?_⟩
    ·rw [sL, yI (k := ls.length) (ρ := ρ') (fun i hi => n3 i hi) cs hf.2]; exact q2
    ·rw [An]; exact q5
   | vec cs n sz own => exact cr (n := 0) (fun i hi => by omega) rfl (.vec cs n sz own) hsc hok
   | map es c => exact cr (n := 0) (fun i hi => by omega) rfl (.map es c) hsc hok
   | iter m a b d => simp [frB] at hf
   | jm => simp [frB] at hf
   | bM a b => simp [frB] at hf
   | dead => trivial
  ·rw [n1 i h0]
   by_cases ha : b.alive = true
   ·exact cr n1 (hold _ (hr.inb i b h1 ha)) b (hr.sco i b h1) (hr.ok i b h1)
   ·exact lB ha (hr.ok i b h1)
 ·intro i b hi ha
  rcases cases' i b hi with ⟨j, c, rfl, h2, rfl⟩ | ⟨h0, h1⟩
  ·rw [n2]; exact R.inb _ _ (fresh j c h2) (by rw [← al c]; exact ha)
  ·rw [n1 i h0]; have := hr.inb i b h1 ha; omega
 ·intro i j bi bj hi hj hij hoi haj
  rcases cases' i bi hi with ⟨a, c, rfl, h2, rfl⟩ | ⟨h0, h1⟩ <;> rcases cases' j bj hj with ⟨a', c', rfl, h2', rfl⟩ | ⟨h0', h1'⟩
  ·rw [n2, n2]
   exact R.ap _ _ _ _ (fresh a c h2) (fresh a' c' h2') (by omega) (by rw [← ow c]; exact hoi) (by rw [← al c']; exact haj)
  ·rw [n2, n1 j h0']
   have h3 := R.own _ _ (fresh a c h2) (by rw [← ow c]; exact hoi)
   have h4 := hr.inb j bj h1' haj
   intro q
   exact h3 (by rw [q]; exact h4)
  ·rw [n2, n1 i h0]
   have hal : c'.alive = true := by rw [← al c']; exact haj
   have h3 := R.own _ _ (fresh a' c' h2') (hown c' (hfr a' c' h2') hal)
   have h4 := hr.inb i bi h1 (am.dT hoi)
   intro q
   exact h3 (by rw [← q]; exact h4)
  ·rw [n1 i h0, n1 j h0']; exact hr.ap i j bi bj h1 h1' hij hoi haj
 ·intro i b hi hob
  rcases cases' i b hi with ⟨j, c, rfl, h2, rfl⟩ | ⟨h0, h1⟩
  ·rw [n2]
   have h3 := R.own _ _ (fresh j c h2) (by rw [← ow c]; exact hob)
   intro q
   exact h3 (Nat.lt_of_lt_of_le (w0.lt _ q) hr.size)
  ·rw [n1 i h0]; exact hr.own i b h1 hob
 ·rw [hnext]
  simp only [fc.value] at k3 ⊢
  exact Ju hbnd v hv k3
theorem Q2 {σ : Mem} {b : Nat} {cs : LA_} {n sz : Nat} {own : Bool} {ks : List TK} (hb : σ.get b = some (.vec cs n sz own)) (hq : (aq ks cs 0 && Nat.beq (List.length cs) ks.length) = true) (hk : ks ≠ []) : cC σ b 0 ks.length = some (tt cs 0 ks 0) := by
 rw [UC] at hq
 have hl := UR hq.2
 rcases yC (o := 0) (j := 0) (ks := ks) hq.1 with ⟨q1, q2⟩ | q
 ·simp only [cC, hb]
  rw [if_pos (by omega)]
  exact congrArg some q1
 ·exact absurd q hk
def cW {R : Type} (σ : Mem) (sz : Nat) (x : ab) (k : LA_ → Nat → Option R) : Option R :=
 match bN σ sz x with
 | some (cs, n) => if wF σ sz x then k cs n else none
 | none => none
theorem bE {R : Type} {σ : Mem} {sz : Nat} {x : ab} {k : LA_ → Nat → Option R} {r : R} (h : cW σ sz x k = some r) : ∃ cs n, bN σ sz x = some (cs, n) ∧ wF σ sz x = true ∧ k cs n = some r := by
 unfold cW at h
 split at h
 ·rename_i cs n he
  split at h
  ·rename_i hf; exact ⟨cs, n, he, hf, h⟩
  ·cases h
 ·cases h
theorem av {R : Type} {σ : Mem} {sz : Nat} {x : ab} {S : Type} (k : LA_ → Nat → Option S) (f : S → Option R) : (cW σ sz x k).bind f = cW σ sz x fun a b => (k a b).bind f := by
 unfold cW
 split
 ·split <;> rfl
 ·rfl
end
end Go.Ev
namespace Go.Ev
inductive M5 where
 | c (i : Nat)
 | d (o : Nat)
 | k (i : Nat)
def follow (σ : Mem) : ab → List M5 → ab
 | v, [] => v
 | v, .c i :: p => match v with
  | .agg cs => follow σ (cs.getD i (.tup [])) p
  | .tup cs => follow σ (cs.getD i (.tup [])) p
  | _ => .tup []
 | v, .d o :: p => match v with
  | .ptr b _ => match σ.get b with
   | some (.cells cs _ _) => follow σ (cs.getD o (.tup [])) p
   | _ => .tup []
  | _ => .tup []
 | v, .k i :: p => match v with
  | .func _ _ cs => follow σ (cs.getD i (.tup [])) p
  | _ => .tup []
def TV (s : St) (t : Nat) (p : List M5) : ab := follow s.mem (s.tm.getD t (.tup [])) p
def nameOf : ab → Nat
 | .vec i | .ptr i _ | .map i | .slice i _ _ _ _ => i
 | _ => 0
def nameAt (s : St) (t : Nat) (p : List M5) : Nat := nameOf (TV s t p)
def uY (k : IntKind) (a b : Int) : Int := k.wrap (BitVec.ofInt k.bits a &&& BitVec.ofInt k.bits b).toNat
def ior (k : IntKind) (a b : Int) : Int := k.wrap (BitVec.ofInt k.bits a ||| BitVec.ofInt k.bits b).toNat
def xw (k : IntKind) (a b : Int) : Int := k.wrap (BitVec.ofInt k.bits a ^^^ BitVec.ofInt k.bits b).toNat
def gV (k : IntKind) (a b : Int) : Int := k.wrap (a * 2 ^ (min b.toNat k.bits))
def aD (k : IntKind) (a b : Int) : Int := a.fdiv (2 ^ (min b.toNat k.bits))
def shf (σ : Mem) (k : Nat) (i : Nat) : Nat := σ.next + (i - k)
def aC {R : Type} (σ : Mem) (kk : Nat) (v : ab) (bs : List am) (k : fc → Mem → Option R) : Option R :=
 k (.ret (rn (shf σ kk) v)) (jq σ (bs.map (rnB (shf σ kk))))
theorem bq {X : Type} {o : Option X} {kk : Nat} {val : X → ab} {bl : X → List am} {σ σ' : Mem} {r : fc} (h : (Option.bind o fun y => aC σ kk (val y) (bl y) fun r σ' => some (r, σ')) = some (r, σ'))
  (hb : ∀ y, bl y = []) (hv : ∀ y f, rn f (val y) = val y) : σ' = σ ∧ (∃ v, r = .ret v) ∧ ∀ σ2, (Option.bind o fun y => aC σ2 kk (val y) (bl y) fun r σ' => some (r, σ')) = some (r, σ2) := by
 cases o with
 | none => cases h
 | some y =>
  simp only [Uy, aC, hb, List.map_nil, jq, hv, UB, UD] at h ⊢
  obtain ⟨rfl, rfl⟩ := h
  exact ⟨rfl, ⟨_, rfl⟩, by simp⟩
def GR (σ : Mem) (xs : LA_) (ks : List Bool) : LA_ → List am → Prop
 | [], [] => True
 | x :: r, b :: s => qx σ xs ks x b ∧ GR σ xs ks r s
 | _, _ => False
theorem GR.spec {σ : Mem} {xs : LA_} {ks : List Bool} : ∀ {ys : LA_} {bs : List am}, GR σ xs ks ys bs → ys.length = bs.length ∧ ∀ (i : Nat) (x : ab) (b : am), ys[i]? = some x → bs[i]? = some b → qx σ xs ks x b
 | [], [], _ => ⟨rfl, fun i x b h => by simp at h⟩
 | [], _ :: _, h => h.elim
 | _ :: _, [], h => h.elim
 | x :: r, b :: s, h => by
  obtain ⟨h1, h2⟩ := h
  obtain ⟨q1, q2⟩ := GR.spec h2
  refine ⟨by simp [q1], fun i y c hy hc => ?_⟩
  cases i with
  | zero => simp only [List.getElem?_cons_zero, UB] at hy hc; subst hy hc; exact h1
  | succ i => simp only [List.getElem?_cons_succ] at hy hc; exact q2 i y c hy hc
theorem bC.of {σ : Mem} {xs : LA_} {bs : List am} (h : GR σ xs (bs.map lP) xs bs) : bC σ xs bs := ⟨h.spec.1, h.spec.2⟩
theorem lifted {P : Program} {g : FuncId} {cargs xs args : LA_} {ls bs : List am} {kk : Nat} {v : ab} {σ σ' : Mem} {r : fc} (hL : bC σ xs ls) (hk : ls.length = kk)
  (h : mZ P g ∧ cE P g cargs ⟨kk, cS 0 ls⟩ (.ret v) ⟨kk + bs.length, cS kk bs⟩)
  (ho : ki (ls.map lP) cargs = true) (hv : fr kk v = true) (hb : bs.all (frB kk) = true) (ha : re xs cargs = args) (hr : aC σ kk v bs (fun r σ' => some (r, σ')) = some (r, σ')) :
  Gj P g args σ r σ' ∧ Ext σ σ' := by
 subst hk ha
 simp only [aC, UB, UD] at hr
 obtain ⟨rfl, rfl⟩ := hr
 exact ⟨.inl ⟨h.1, cE.lift hL h.2 ho hv hb⟩, Ed⟩
theorem bX {R S : Type} (c : Bool) (a b : Option S) (f : S → Option R) : (cond c a b).bind f = cond c (a.bind f) (b.bind f) := by cases c <;> rfl
theorem cu {A B R S : Type} (f : A → Option S) (g : B → Option S) (e : A ⊕ B) (k : S → Option R) : (Sum.elim f g e).bind k = Sum.elim (fun a => (f a).bind k) (fun b => (g b).bind k) e := by cases e <;> rfl
def QU {A R : Type} (x : Option (Option A)) (f : A → Option R) (g : Option R) : Option R :=
 match x with
 | some q => match q with
  | some p => f p
  | none => g
 | none => none
theorem bS {A R S : Type} (x : Option (Option A)) (f : A → Option S) (g : Option S) (k : S → Option R) : (QU x f g).bind k = QU x (fun p => (f p).bind k) (g.bind k) := by
 cases x with
 | none => rfl
 | some q => cases q <;> rfl
theorem ci {P : Program} {n : Nat} {b : Code} {x : Option LA} {la0 : LA} (e : x = some la0) (h : cX P n la0 b) : ∀ la, x = some la → cX P n la b := by
 intro la hla
 rw [e] at hla
 cases hla
 exact h
theorem eh {P : Program} {n : Nat} {b : Code} {x : Option LA} (e : x = none) : ∀ la, x = some la → cX P n la b := by
 intro la hla
 rw [e] at hla
 cases hla
def Te (P : Program) (n : Nat) (A : qh) : List Code → Prop
 | [] => True
 | b :: r => (∀ la, A (dK b) = some la → cX P n la b) ∧ Te P n A r
theorem aK {P : Program} {n : Nat} {A : qh} {c : Code} {l : List Code} (e : bm c = l) (h : Te P n A l) : ∀ b ∈ bm c, ∀ la, A (dK b) = some la → cX P n la b := by
 rw [e]
 clear e
 induction l with
 | nil => intro b hb; cases hb
 | cons x l ih =>
  intro b hb
  cases hb with
  | head => exact h.1
  | tail _ hb => exact ih h.2 b hb
def eT (l : List (Nat × LA)) : qh := fun r => match r with
 | some id => (l.find? fun x => x.1 == id).map (·.2)
 | none => none
def bu (fn : Func) : Code := fn.body.getD .skip
def Mq : Code → Code
 | .seq a _ => a
 | c => c
def O7 : Code → Code
 | .seq _ b => b
 | c => c
def Mp : Code → Array Oper
 | .region _ ops _ => ops
 | _ => #[]
def Hk (c : Code) (i : Nat) : Oper := (Mp (Mq c)).toList.getD i default
def gR (x y c : Int) : Option (Int × Int) :=
 af (decide (0 ≤ x) && decide (0 ≤ y) && decide (0 ≤ c) && decide (c ≤ 1)) (some ((x + y + c) % 18446744073709551616, (x + y + c) / 18446744073709551616))
def F3 : HK where
 call := fun args σ k => match args with
  | [.int .u64 x, .int .u64 y, .int .u64 c] => Option.bind (gR x y c) fun r => k (.ret (.tup [.int .u64 r.1, .int .u64 r.2])) σ
  | _ => none
 nat := fun args σ k => by
  repeat' split
  all_goals simp only [UA, Uz, Uy]
 pure := true
 pok := fun _ args σ r σ' h => by
  simp only at h
  split at h
  ·obtain ⟨q, h1, h2⟩ := bE_ h
   simp only [UB, UD] at h2
   obtain ⟨rfl, rfl⟩ := h2
   exact ⟨rfl, ⟨_, rfl⟩, fun σ2 => by simp only [h1, Uy]⟩
  ·cases h
theorem In {P : Program} {g : FuncId} {fn : Func} (hf : P.funcs[g]? = some fn) (hn : (fn.name == "runtime.NumGoroutine") = false) (hb : fn.body.isNone = true) (hx : Extern.findNext fn = none)
  (he : Extern.find fn = some add64Entry) : aX P g F3 := by
 intro args σ r σ' h
 simp only [F3] at h
 split at h
 ·rename_i x y c
  obtain ⟨⟨s, t⟩, h1, h2⟩ := bE_ h
  simp only [UB, UD] at h2
  obtain ⟨rfl, rfl⟩ := h2
  unfold gR at h1
  obtain ⟨h3, h4⟩ := aH h1
  simp only [UC, UI] at h3
  simp only [UB, UD] at h4
  obtain ⟨rfl, rfl⟩ := h4
  refine ⟨.inr ⟨_, rfl, rfl, by simp [sc, scL], fun ρ w => ?_⟩, Ext.refl _⟩
  rw [run_callFunc_extern hf hn hb hx he]
  simp only [γL, γ]
  rw [run_add64 x y c h3.1.1.1 h3.1.1.2 h3.1.2 h3.2]
  rfl
 ·cases h
abbrev kK : List TK := [.int .i64, .int .i64, .int .i64]
abbrev fL : List TK := [.int .u64, .int .u64, .int .u64, .int .u64, .int .u64, .int .u64, .int .u64, .int .u64]
abbrev Uw : List TK := [.int .u64, .int .u64, .int .u64, .int .u64, .int .u64, .int .u64, .int .u64, .int .u64, .int .u64, .int .u64, .int .u64, .int .u64, .int .u64, .int .u64, .int .u64, .int .u64, .int .u64, .int .u64, .int .u64, .int .u64, .int .u64, .int .u64, .int .u64, .int .u64]
abbrev I8 (R : Type) : Type := Int × Int × Int × Int × Int × Int × Int × Int × R
def dv : Nat → Int → Int
 | 0, z => z
 | n + 1, z => dv n z / 18446744073709551616
def aa (z : Int) (n : Nat) : Int := dv n z % 18446744073709551616
theorem cq (z : Int) (n : Nat) : 0 ≤ aa z n ∧ aa z n < 18446744073709551616 := by unfold aa; omega
def fit (z : Int) : Prop := -6703903964971298549787012499102923063739682910296196688861780721860882015036773488400937149083451713845015929093243025426876941405973284973216824503042048 ≤ z ∧ z < 6703903964971298549787012499102923063739682910296196688861780721860882015036773488400937149083451713845015929093243025426876941405973284973216824503042048
def fh (z : Int) : Bool := decide (-6703903964971298549787012499102923063739682910296196688861780721860882015036773488400937149083451713845015929093243025426876941405973284973216824503042048 ≤ z) && decide (z < 6703903964971298549787012499102923063739682910296196688861780721860882015036773488400937149083451713845015929093243025426876941405973284973216824503042048)
theorem bY {z : Int} : fh z = true ↔ fit z := by simp [fh, fit]
theorem qz {z : Int} : fh z = false ↔ ¬ fit z := by rw [← bY]; simp
def rng (a : Int) : Bool := decide (0 ≤ a) && decide (a < 18446744073709551616)
theorem Qh (z : Int) (n : Nat) : rng (aa z n) = true := by
 have := cq z n
 simp [rng, this]
def ok8 (a b c d e f g h : Int) : Bool := rng a && rng b && rng c && rng d && rng e && rng f && rng g && rng h
theorem bA (z : Int) : ok8 (aa z 0) (aa z 1) (aa z 2) (aa z 3) (aa z 4) (aa z 5) (aa z 6) (aa z 7) = true := by simp [ok8, Qh]
theorem K7 {a b c d e f g h : Int} (k : ok8 a b c d e f g h = true) : (0 ≤ a ∧ a < 18446744073709551616) ∧ (0 ≤ b ∧ b < 18446744073709551616) ∧ (0 ≤ c ∧ c < 18446744073709551616) ∧ (0 ≤ d ∧ d < 18446744073709551616) ∧
  (0 ≤ e ∧ e < 18446744073709551616) ∧ (0 ≤ f ∧ f < 18446744073709551616) ∧ (0 ≤ g ∧ g < 18446744073709551616) ∧ (0 ≤ h ∧ h < 18446744073709551616) := by
 simpa [ok8, rng, and_assoc] using k
def oz (a b c d e f g h : Int) : Int := a + 18446744073709551616 * (b + 18446744073709551616 * (c + 18446744073709551616 * (d + 18446744073709551616 * (e + 18446744073709551616 * (f + 18446744073709551616 * (g + 18446744073709551616 * h))))))
def num (a b c d e f g h : Int) : Int := cond (decide (h < 9223372036854775808)) (oz a b c d e f g h) (oz a b c d e f g h - 13407807929942597099574024998205846127479365820592393377723561443721764030073546976801874298166903427690031858186486050853753882811946569946433649006084096)
theorem rV (n : Nat) (z : Int) : dv n z = aa z n + 18446744073709551616 * dv (n + 1) z := by
 show dv n z = dv n z % 18446744073709551616 + 18446744073709551616 * (dv n z / 18446744073709551616)
 omega
theorem CF (z : Int) : z = oz (aa z 0) (aa z 1) (aa z 2) (aa z 3) (aa z 4) (aa z 5) (aa z 6) (aa z 7) + 13407807929942597099574024998205846127479365820592393377723561443721764030073546976801874298166903427690031858186486050853753882811946569946433649006084096 * dv 8 z := by
 have h0 := rV 0 z
 have h1 := rV 1 z
 have h2 := rV 2 z
 have h3 := rV 3 z
 have h4 := rV 4 z
 have h5 := rV 5 z
 have h6 := rV 6 z
 have h7 := rV 7 z
 simp only [Nat.zero_add, Nat.reduceAdd] at *
 unfold oz
 have : dv 0 z = z := rfl
 omega
theorem fj {a b c d e f g h : Int} (k : ok8 a b c d e f g h = true) : fit (num a b c d e f g h) := by
 have := K7 k
 unfold num
 by_cases q : h < 9223372036854775808
 ·rw [UH q]; unfold fit oz; simp only [cond_true]; omega
 ·rw [UG q]; unfold fit oz; simp only [cond_false]; omega
theorem aI {z : Int} (h : fit z) : num (aa z 0) (aa z 1) (aa z 2) (aa z 3) (aa z 4) (aa z 5) (aa z 6) (aa z 7) = z := by
 have e := CF z
 have r0 := cq z 0
 have r1 := cq z 1
 have r2 := cq z 2
 have r3 := cq z 3
 have r4 := cq z 4
 have r5 := cq z 5
 have r6 := cq z 6
 have r7 := cq z 7
 unfold fit at h
 unfold num
 by_cases q : aa z 7 < 9223372036854775808
 ·rw [UH q]; simp only [cond_true]
  unfold oz at *
  omega
 ·rw [UG q]; simp only [cond_false]
  unfold oz at *
  omega
theorem wT {a b c d e f g h k : Int} (q : ok8 a b c d e f g h = true) (z : Int) (hz : z = oz a b c d e f g h + 13407807929942597099574024998205846127479365820592393377723561443721764030073546976801874298166903427690031858186486050853753882811946569946433649006084096 * k) :
  aa z 0 = a ∧ aa z 1 = b ∧ aa z 2 = c ∧ aa z 3 = d ∧ aa z 4 = e ∧ aa z 5 = f ∧ aa z 6 = g ∧ aa z 7 = h ∧ dv 8 z = k := by
 have := K7 q
 unfold oz at hz
 have d0 : dv 0 z = z := rfl
 have l0 : aa z 0 = a := by unfold aa; rw [d0]; omega
 have d1 : dv 1 z = b + 18446744073709551616 * (c + 18446744073709551616 * (d + 18446744073709551616 * (e + 18446744073709551616 * (f + 18446744073709551616 * (g + 18446744073709551616 * (h + 18446744073709551616 * k)))))) := by
  show dv 0 z / 18446744073709551616 = _; rw [d0]; omega
 have l1 : aa z 1 = b := by unfold aa; rw [d1]; omega
 have d2 : dv 2 z = c + 18446744073709551616 * (d + 18446744073709551616 * (e + 18446744073709551616 * (f + 18446744073709551616 * (g + 18446744073709551616 * (h + 18446744073709551616 * k))))) := by
  show dv 1 z / 18446744073709551616 = _; rw [d1]; omega
 have l2 : aa z 2 = c := by unfold aa; rw [d2]; omega
 have d3 : dv 3 z = d + 18446744073709551616 * (e + 18446744073709551616 * (f + 18446744073709551616 * (g + 18446744073709551616 * (h + 18446744073709551616 * k)))) := by
  show dv 2 z / 18446744073709551616 = _; rw [d2]; omega
 have l3 : aa z 3 = d := by unfold aa; rw [d3]; omega
 have d4 : dv 4 z = e + 18446744073709551616 * (f + 18446744073709551616 * (g + 18446744073709551616 * (h + 18446744073709551616 * k))) := by
  show dv 3 z / 18446744073709551616 = _; rw [d3]; omega
 have l4 : aa z 4 = e := by unfold aa; rw [d4]; omega
 have d5 : dv 5 z = f + 18446744073709551616 * (g + 18446744073709551616 * (h + 18446744073709551616 * k)) := by
  show dv 4 z / 18446744073709551616 = _; rw [d4]; omega
 have l5 : aa z 5 = f := by unfold aa; rw [d5]; omega
 have d6 : dv 6 z = g + 18446744073709551616 * (h + 18446744073709551616 * k) := by
  show dv 5 z / 18446744073709551616 = _; rw [d5]; omega
 have l6 : aa z 6 = g := by unfold aa; rw [d6]; omega
 have d7 : dv 7 z = h + 18446744073709551616 * k := by
  show dv 6 z / 18446744073709551616 = _; rw [d6]; omega
 have l7 : aa z 7 = h := by unfold aa; rw [d7]; omega
 have d8 : dv 8 z = k := by show dv 7 z / 18446744073709551616 = _; rw [d7]; omega
 exact ⟨l0, l1, l2, l3, l4, l5, l6, l7, d8⟩
theorem aQ {a b c d e f g h : Int} (q : ok8 a b c d e f g h = true) :
  aa (num a b c d e f g h) 0 = a ∧ aa (num a b c d e f g h) 1 = b ∧ aa (num a b c d e f g h) 2 = c ∧ aa (num a b c d e f g h) 3 = d ∧ aa (num a b c d e f g h) 4 = e ∧ aa (num a b c d e f g h) 5 = f ∧ aa (num a b c d e f g h) 6 = g ∧ aa (num a b c d e f g h) 7 = h := by
 unfold num
 by_cases r : h < 9223372036854775808
 ·rw [UH r]; simp only [cond_true]
  have := wT (k := 0) q (oz a b c d e f g h) (by omega)
  exact ⟨this.1, this.2.1, this.2.2.1, this.2.2.2.1, this.2.2.2.2.1, this.2.2.2.2.2.1, this.2.2.2.2.2.2.1, this.2.2.2.2.2.2.2.1⟩
 ·rw [UG r]; simp only [cond_false]
  have := wT (k := -1) q (oz a b c d e f g h - 13407807929942597099574024998205846127479365820592393377723561443721764030073546976801874298166903427690031858186486050853753882811946569946433649006084096) (by omega)
  exact ⟨this.1, this.2.1, this.2.2.1, this.2.2.2.1, this.2.2.2.2.1, this.2.2.2.2.2.1, this.2.2.2.2.2.2.1, this.2.2.2.2.2.2.2.1⟩
def LL (l : List Int) : LA_ := l.map (.int .u64)
theorem jt (l : List Int) (i : Nat) : ac (LL l) i = l.getD i 0 := by
 unfold ac LL
 rw [List.getElem?_map, UK]
 cases l[i]? <;> rfl
theorem OR (l : List Int) (i : Nat) : isK (.int .u64) ((LL l)[i]?) = decide (i < l.length) := by
 unfold LL
 rw [List.getElem?_map]
 by_cases h : i < l.length
 ·rw [UJ h]; simp [isK, h]
 ·rw [List.getElem?_eq_none (by omega)]; simp [isK, h]
theorem rI (l : List Int) (i : Nat) : aq [.int .u64] (LL l) i = decide (i < l.length) := by
 simp only [aq, OR, Bool.and_true]
theorem yP {l : List Int} (h : l.length = 8) : aq fL (LL l) 0 = true := by
 simp [aq, OR, h]
theorem vN (l : List Int) : List.length (LL l) = l.length := by simp [LL]
theorem uz {l : List Int} {i : Nat} (h : i < l.length) (v : Int) : spliced (LL l) i [.int .u64 v] = LL (l.set i v) := by
 unfold spliced LL
 rw [List.map_set, List.set_eq_take_append_cons_drop]
 simp [h]
theorem Az (a b c d e f g h : Int) : ([.int .u64 a, .int .u64 b, .int .u64 c, .int .u64 d, .int .u64 e, .int .u64 f, .int .u64 g, .int .u64 h] : LA_) = LL [a, b, c, d, e, f, g, h] := rfl
theorem TC {l : List Int} (h : l.length = 8) : l = [l.getD 0 0, l.getD 1 0, l.getD 2 0, l.getD 3 0, l.getD 4 0, l.getD 5 0, l.getD 6 0, l.getD 7 0] := by
 match l, h with
 | [a, b, c, d, e, f, g, k], _ => rfl
def rL (l : List Int) : Prop := ∀ x ∈ l, 0 ≤ x ∧ x < 18446744073709551616
theorem rL.get {l : List Int} (h : rL l) (i : Nat) : 0 ≤ l.getD i 0 ∧ l.getD i 0 < 18446744073709551616 := by
 by_cases hi : i < l.length
 ·rw [UK, UJ hi]
  exact h _ (List.getElem_mem hi)
 ·rw [UK, List.getElem?_eq_none (by omega)]
  simp
theorem rL.set {l : List Int} (h : rL l) {v : Int} (hv : 0 ≤ v ∧ v < 18446744073709551616) (i : Nat) : rL (l.set i v) := by
 intro x hx
 rcases List.mem_or_eq_of_mem_set hx with h1 | h1
 ·exact h x h1
 ·rw [h1]; exact hv
def lv : List Int → Int
 | [] => 0
 | a :: r => a + 18446744073709551616 * lv r
theorem lv8 (a b c d e f g h : Int) : lv [a, b, c, d, e, f, g, h] = oz a b c d e f g h := by simp [lv, oz]
theorem K8 : ∀ {l : List Int} {i : Nat} (v : Int), i < l.length → lv (l.set i v) = lv l + (v - l.getD i 0) * 18446744073709551616 ^ i
 | a :: r, 0, v, _ => by simp [lv]; omega
 | a :: r, i + 1, v, h => by
  have ih := K8 (l := r) (i := i) v (by simpa using h)
  have e : (a :: r).set (i + 1) v = a :: r.set i v := rfl
  rw [e]
  simp only [lv, ih, List.getD_cons_succ, Int.pow_succ, Int.mul_add]
  generalize (18446744073709551616 : Int) ^ i = p
  have : (v - r.getD i 0) * (p * 18446744073709551616) = 18446744073709551616 * ((v - r.getD i 0) * p) := by
   rw [← Int.mul_assoc, Int.mul_comm]
  omega
theorem oA : ∀ {l : List Int}, rL l → 0 ≤ lv l ∧ lv l < 18446744073709551616 ^ l.length
 | [], _ => by simp [lv]
 | a :: r, h => by
  have h1 := h a (by simp)
  have h2 := oA (l := r) (fun x hx => h x (by simp [hx]))
  simp only [lv, UW, Int.pow_succ]
  omega
theorem IO {V E : Type} {step : V → Option (V ⊕ E)} (I : V → Prop) (m : V → Nat) (Q : E → Prop)
  (hs : ∀ v, I v → (∃ v', step v = some (.inl v') ∧ I v' ∧ m v' < m v) ∨ (∃ e, step v = some (.inr e) ∧ Q e)) :
  ∀ (n : Nat) (v : V), m v < n → I v → ∃ e, iter step n v = some e ∧ Q e
 | 0, v, h, _ => by omega
 | n + 1, v, h, hI => by
  rcases hs v hI with ⟨v', h1, h2, h3⟩ | ⟨e, h1, h2⟩
  ·obtain ⟨e, h4, h5⟩ := IO I m Q hs n v' (by omega) h2
   exact ⟨e, dL h1 h4, h5⟩
  ·exact ⟨e, gK n h1, h2⟩
theorem gv {V E : Type} {step : V → Option (V ⊕ E)} (I : V → Prop) (m : V → Nat) (Q : E → Prop)
  (hs : ∀ v, I v → (∃ v', step v = some (.inl v') ∧ I v' ∧ m v' < m v) ∨ (∃ e, step v = some (.inr e) ∧ Q e)) {v : V} (hm : m v < 18446744073709551616) (hI : I v) : ∃ e, dZ step v = some e ∧ Q e :=
 IO I m Q hs vI v hm hI
def fV (z : Int) : Int × Bool := cond (fh z) (z, true) (0, false)
def sgn (z : Int) : Int := cond (decide (z < 0)) (-1) (cond (decide (z = 0)) 0 1)
def eJ (n : Nat) : Int := cond (Nat.beq n 0) 0 ((Nat.log2 n + 1 : Nat) : Int)
def ba (x : Int) : Bool := decide (-9223372036854775808 ≤ x) && decide (x < 9223372036854775808)
def Nl (a b : Int) : Int × Int × Bool := cond (decide (b = 0)) (0, 0, false) (cond (fh (a.fdiv b)) (a.fdiv b, a.fmod b, true) (0, 0, false))
def cOf (x : Int) : Option Int := af (ba x) (some x)
def pu (a b c d e f g h : Int) : Option Int := af (ok8 a b c d e f g h) (some (sgn (num a b c d e f g h)))
def Ez (a b c d e f g h i j k l m n o p : Int) : Option Int := af (ok8 a b c d e f g h && ok8 i j k l m n o p) (some (sgn (num a b c d e f g h - num i j k l m n o p)))
def K9 (a b c d e f g h : Int) : Option (Int × Bool) := af (ok8 a b c d e f g h) (some (fV (0 - num a b c d e f g h)))
def uW (a b c d e f g h i j k l m n o p : Int) : Option (Int × Bool) := af (ok8 a b c d e f g h && ok8 i j k l m n o p) (some (fV (num a b c d e f g h + num i j k l m n o p)))
def Bw (a b c d e f g h i j k l m n o p : Int) : Option (Int × Bool) := af (ok8 a b c d e f g h && ok8 i j k l m n o p) (some (fV (num a b c d e f g h - num i j k l m n o p)))
def uV (a b c d e f g h i j k l m n o p : Int) : Option (Int × Bool) := af (ok8 a b c d e f g h && ok8 i j k l m n o p) (some (fV (num a b c d e f g h * num i j k l m n o p)))
def La (a b c d e f g h i j k l m n o p : Int) : Option (Int × Int × Bool) := af (ok8 a b c d e f g h && ok8 i j k l m n o p && (decide (num i j k l m n o p = 0) || fh ((num a b c d e f g h).fdiv (num i j k l m n o p)))) (some (Nl (num a b c d e f g h) (num i j k l m n o p)))
abbrev T8 := Int × Int × Int × Int × Int × Int × Int × Int
def t8 (z : Int) : T8 := (aa z 0, aa z 1, aa z 2, aa z 3, aa z 4, aa z 5, aa z 6, aa z 7)
def t9 (z : Int) (b : Bool) : (I8 Bool) := (aa z 0, aa z 1, aa z 2, aa z 3, aa z 4, aa z 5, aa z 6, aa z 7, b)
theorem fy (n : Nat) : aa 0 n = 0 := by
 have h : dv n 0 = 0 := by
  induction n with
  | zero => rfl
  | succ n ih => show dv n 0 / _ = 0; rw [ih]; rfl
 unfold aa; rw [h]; rfl
abbrev Told := ab × Mem
def oP {X : Type} (eq : X → X → Bool) : List (Option X) → Option X
 | [] => none
 | [x] => x
 | some x :: r => match oP eq r with
  | some y => cond (eq x y) (some x) none
  | none => none
 | none :: _ => none
theorem DX {X : Type} {eq : X → X → Bool} (he : ∀ {x y}, eq x y = true → x = y) : ∀ {l : List (Option X)} {x : X}, oP eq l = some x → ∀ y ∈ l, y = some x
 | [], _, h, _, _ => by simp [oP] at h
 | [a], x, h, y, hy => by
  simp only [oP] at h
  simp only [List.mem_singleton] at hy
  rw [hy, h]
 | none :: _ :: _, _, h, _, _ => by simp [oP] at h
 | some a :: b :: r, x, h, y, hy => by
  simp only [oP] at h
  split at h
  ·rename_i z hz
   cases e : eq a z with
   | false => rw [e] at h; cases h
   | true =>
    rw [e] at h
    obtain rfl : a = x := by simpa using h
    obtain rfl := he e
    rcases List.mem_cons.1 hy with rfl | hy
    ·rfl
    ·exact DX he hz y hy
  ·cases h
def yA : List Oper → Option (Operand × Oper × List Oper)
 | o :: l => match o.op, o.guard with
  | .next x false, none => some (x, o, l)
  | _, _ => none
 | [] => none
theorem Oc {l : List Oper} {x : Operand} {o : Oper} {r : List Oper} (h : yA l = some (x, o, r)) : l = o :: r ∧ o.op = .next x false ∧ o.guard = none := by
 cases l with
 | nil => cases h
 | cons a l =>
  simp only [yA] at h
  split at h
  ·rename_i h1 h2
   simp only [UB, UD] at h
   obtain ⟨rfl, rfl, rfl⟩ := h
   exact ⟨rfl, h1, h2⟩
  ·cases h
theorem bQ {R : Type} {c : Bool} {x : Option R} {r : R} (h : cond c x none = some r) : c = true ∧ x = some r := by
 cases c with
 | true => exact ⟨rfl, h⟩
 | false => cases h
section
variable {P : Program} {T : ar} {ch : CH} {k : Nat} {X : Type} {eq : X → X → Bool}
theorem LT {ops : Array Oper} {l pre : List Oper} {K : an → St → Option X} {x : X} {s : St} (hT : aZ P T) (hH : aG P ch) (he : ops.toList = pre ++ l)
  (h : runK T ch ops.toList l s .nil (fun s' w => cond (owB w) (K .normal s') none) (fun v s' w => cond (owB w) (K (.pan v) s') none) = some x)
  {w0 : W0} {ρ : Nat → Loc} {a : Act} {w : World} (hr : bF w0 ρ s a w) (hk : k ≤ s.mem.next) :
  wpOps P ops (fun e a' w' => ∃ o s', K o s' = some x ∧ db w0 ρ k o s' e a' w') (List.range' pre.length l.length) a w := by
 rcases iC h with ⟨s', ow', h1, h2, h3⟩ | ⟨v, s', ow', h1, h2, h3⟩
 ·obtain ⟨q1, q2⟩ := bQ h1
  exact wK hT hH.1 l pre ρ s a w _ he hr (h3 (eW q1)) fun ρ' a' w' h' e' l' => ⟨.normal, s', q2, ⟨ρ', rfl, h', fun i hi => e' i (by omega), by omega, by simp⟩⟩
 ·obtain ⟨q1, q2⟩ := bQ h1
  exact wK hT hH.1 l pre ρ s a w _ he hr (h3 (eW q1)) fun ρ' a' w' h' e' l' hv => ⟨.pan v, s', q2, ⟨ρ', rfl, h', fun i hi => e' i (by omega), by omega, by simpa using hv⟩⟩
end
def upto : Nat → Nat → List Nat
 | 0, _ => []
 | n + 1, i => i :: upto n (i + 1)
section
variable {P : Program}
def SA (σ σ' : Mem) : Bool := Nat.ble σ.next σ'.next && (upto σ.next 0).all fun i => match σ.get i, σ'.get i with
 | some a, some b => eqB a b
 | none, none => true
 | _, _ => false
theorem Fd : ∀ {n i j : Nat}, i ≤ j → j < i + n → j ∈ upto n i
 | 0, i, j, h1, h2 => by omega
 | n + 1, i, j, h1, h2 => by
  simp only [upto, List.mem_cons]
  by_cases e : j = i
  ·exact .inl e
  ·exact .inr (Fd (by omega) (by omega))
end
end Go.Ev
namespace Go.Ev
structure MF where
 args : LA_
 mem : Mem
 told : Told
abbrev Ud := FuncId → List MF
def Qx (args : LA_) (σ : Mem) : List MF → Option Told
 | [] => none
 | x :: r => cond (mY x.args args && wH x.mem σ) (some x.told) (Qx args σ r)
def CH.fm (t : Ud) (c : CH) : CH where
 call := fun g args σ k => cond (Nat.blt (c.pf g) 2) (c.call g args σ k) (match Qx args σ (t g) with
  | some x => af (!c.ext g || SA σ x.2) (k (.ret x.1) x.2 .nil)
  | .none => c.call g args σ k)
 nat := fun g args σ k => by
  cases Nat.blt (c.pf g) 2 with
  | true => exact c.nat g args σ k
  | false =>
   simp only [cond_false]
   split
   ·rw [ai]; rfl
   ·exact c.nat g args σ k
 ext := c.ext
 pf := c.pf
end Go.Ev
