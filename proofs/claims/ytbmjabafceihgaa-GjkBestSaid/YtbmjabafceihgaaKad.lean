import Derived.Test.YtbmjabafceihgaaKac
import Derived.Laws.StructEq
import Derived.ChangeKeysEq
import Derived.LoopN
import Derived.Scope
set_option linter.unusedVariables false
set_option linter.unusedSimpArgs false
set_option maxRecDepth 100000
noncomputable section
namespace Go.Ev
def t0 (T : av) (s : St) : List ResultVar → Option (LA_)
 | [] => some []
 | .tmp t :: r => (t0 T s r).map fun vs => s.tm.getD t (.tup []) :: vs
 | .cell a t :: r => match qE T s.mem t (s.tm.getD a (.tup [])), t0 T s r with
  | some v, some vs => some (v :: vs)
  | _, _ => none
def gF (T : av) (s : St) (rs : List ResultVar) : Option ab :=
 match t0 T s rs with
 | some [v] => some v
 | some vs => some (.tup vs)
 | none => none
def bC (ntmps : Nat) (args : LA_) (σ : Mem) : St := ⟨args ++ List.replicate (ntmps - args.length) (.tup []), [], σ⟩
def AN (T : av) (rs : List ResultVar) : an → St → Option (fR × Mem)
 | .normal, s | .ret, s => match s.df with
  | [] => (gF T s rs).map fun v => (.ret v, s.mem)
  | _ => none
 | .pan v, s => match s.df with
  | [] => some (.pan v, s.mem)
  | _ => none
 | _, _ => none
def ou (P : Program) : Prop := ∀ (g : FuncId) (fn : Func), P.funcs[g]? = some fn → (fn.name == "runtime.NumGoroutine") = false
section
variable {P : Program} {T : av} {H : bO}
def KZ (tmps : Array Value) : ResultVar → Sem Value
 | .tmp t => pure (tmps.getD t undef)
 | .cell ad t => do loadVar t (← asAddr (tmps.getD ad undef))
theorem GY (fn : Func) (tmps : Array Value) : results fn tmps = (do let vs ← fn.results.mapM (KZ tmps); pure (if h : vs.size = 1 then vs[0] else .tuple vs)) := by
 have e : (fun x : ResultVar => (match x with
   | .tmp t => pure (tmps.getD t undef)
   | .cell ad t => do loadVar t (← asAddr (tmps.getD ad undef)) : Sem Value)) = KZ tmps := by
  funext r; cases r <;> rfl
 rw [← e]
 rfl
theorem FK (hT : aY P T) {w0 : W0} {ρ : Nat → Loc} {s : St} {a : Act} {w : World} (h : bJ w0 ρ s a w) : ∀ {rs : List ResultVar} {vs : LA_}, t0 T s rs = some vs →
  (rs.mapM (KZ a.tmps)).run P w = .ok (γL ρ vs) w ∧ scL s.mem.next vs = true
 | [], vs, hr => by simp only [t0, Option.some.injEq] at hr; subst hr; exact ⟨rfl, rfl⟩
 | .tmp t :: r, vs, hr => by
  simp only [t0] at hr
  cases hq : t0 T s r with
  | none => rw [hq] at hr; cases hr
  | some us =>
   rw [hq] at hr; cases hr
   obtain ⟨i1, i2⟩ := FK hT h hq
   obtain ⟨e1, e2⟩ := qI (x := .tmp t) h.tm h.sct rfl
   simp only [Act.eval] at e1
   refine ⟨?_, by simp only [scL, e2, i2, Bool.and_self]⟩
   simp only [List.mapM_cons, KZ, Sem.run_bind, Sem.run_pure, Result.andThen_ok, i1, e1, γL]
 | .cell ad t :: r, vs, hr => by
  simp only [t0] at hr
  split at hr
  ·rename_i v us hv hq
   cases hr
   obtain ⟨i1, i2⟩ := FK hT h hq
   obtain ⟨b, o, hx, r1, r2⟩ := h.rel.EA (P := P) hT hv
   obtain ⟨e1, e2⟩ := qI (x := .tmp ad) h.tm h.sct rfl
   simp only [Act.eval, hx, γ] at e1
   refine ⟨?_, by simp only [scL, r2, i2, Bool.and_self]⟩
   have e3 : (asAddr (a.tmps.getD ad undef)).run P w = .ok ⟨(ρ b).blk, (ρ b).base + o, none⟩ w := by rw [e1]; rfl
   simp only [List.mapM_cons, KZ, Sem.run_bind, Sem.run_pure, Result.andThen_ok, e3, r1, i1, γL]
  ·cases hr
theorem sb (hT : aY P T) {w0 : W0} {ρ : Nat → Loc} {s : St} {a : Act} {w : World} (h : bJ w0 ρ s a w) {fn : Func} {v : ab} (hr : gF T s fn.results.toList = some v) :
  (results fn a.tmps).run P w = .ok (γ ρ v) w ∧ sc s.mem.next v = true := by
 unfold gF at hr
 have key : ∀ vs, t0 T s fn.results.toList = some vs → (results fn a.tmps).run P w = .ok (if hh : vs.length = 1 then γ ρ (vs[0]'(by omega)) else .tuple (γL ρ vs).toArray) w ∧ scL s.mem.next vs = true := by
  intro vs hvs
  obtain ⟨r1, r2⟩ := FK (P := P) hT h hvs
  refine ⟨?_, r2⟩
  rw [GY, Array.mapM_eq_mapM_toList]
  simp only [Sem.run_bind, Sem.run_map, r1]
  simp only [Result.andThen_ok, Sem.run_pure]
  congr 1
  by_cases hl : vs.length = 1
  ·simp [hl, io]
  ·simp [hl]
 split at hr
 ·rename_i u hu
  cases hr
  obtain ⟨k1, k2⟩ := key _ hu
  simp only [scL, Bool.and_true] at k2
  exact ⟨by simpa using k1, k2⟩
 ·rename_i us hne hu
  cases hr
  obtain ⟨k1, k2⟩ := key _ hu
  refine ⟨?_, by simpa only [sc] using k2⟩
  have hl : ¬ us.length = 1 := by
   intro hl
   match us, hl with
   | [x], _ => exact hne x rfl
  rw [dif_neg hl] at k1
  simpa only [γ] using k1
 ·cases hr
theorem CR (hT : aY P T) {f : FuncId} {fn : Func} {c : Code} {args : LA_} {σ : Mem} (hf : P.funcs[f]? = some fn) (hb : fn.body = some c) {R : fR → Mem → Prop}
  (h : AWP P c (bC fn.ntmps args σ) fun o s' => ∃ r σ', AN T fn.results.toList o s' = some (r, σ') ∧ R r σ') :
  ∀ w0 ρ w, Rel w0 ρ σ w → scL σ.next args = true →
   Calls P f (γL ρ args).toArray w fun e w' => ∃ r σ' ρ', R r σ' ∧ e = sA ρ' r ∧ bN w0 ρ σ.next ρ' σ' w' ∧ sc σ'.next r.value = true := by
 intro w0 ρ w hr hs
 refine calls_of_wp hf hb ?_
 have hsr : bJ w0 ρ (bC fn.ntmps args σ) { tmps := (γL ρ args).toArray ++ Array.replicate (fn.ntmps - (γL ρ args).toArray.size) undef, defers := [] } w := by
  refine ⟨hr, ?_, ?_, rfl, by simp [bC]⟩
  ·apply Array.ext'
   simp [bC, cu, Bc, mg ρ]
  ·simp only [bC, kB]
   refine ⟨hs, ?_⟩
   rw [iq]
   intro v hv
   rw [(List.mem_replicate.1 hv).2]
   simp [sc, scL]
 refine wp_mono (h w0 ρ _ w hsr) ?_
 rintro e a' w' ⟨o, s', ⟨r, σ', h1, h2⟩, ⟨ρ', rfl, k1, k2, k3, k4⟩⟩
 have hdf : s'.df = [] → a'.defers = [] := fun q => by rw [k1.df, q]; rfl
 have hpost : ∀ {σ'}, s'.mem = σ' → bN w0 ρ σ.next ρ' σ' w' := fun q => q ▸ ⟨k1.rel, k2, k3⟩
 cases o with
 | normal =>
  simp only [AN] at h1
  split at h1
  ·rename_i hd
   cases hra : gF T s' fn.results.toList with
   | none => rw [hra] at h1; cases h1
   | some v =>
    rw [hra] at h1
    simp only [Option.map_some, Option.some.injEq, Prod.mk.injEq] at h1
    obtain ⟨rfl, rfl⟩ := h1
    obtain ⟨q1, q2⟩ := sb hT k1 hra
    exact ⟨hdf hd, _, q1, _, _, ρ', h2, rfl, hpost rfl, q2⟩
  ·cases h1
 | ret =>
  simp only [AN] at h1
  split at h1
  ·rename_i hd
   cases hra : gF T s' fn.results.toList with
   | none => rw [hra] at h1; cases h1
   | some v =>
    rw [hra] at h1
    simp only [Option.map_some, Option.some.injEq, Prod.mk.injEq] at h1
    obtain ⟨rfl, rfl⟩ := h1
    obtain ⟨q1, q2⟩ := sb hT k1 hra
    exact ⟨hdf hd, _, q1, _, _, ρ', h2, rfl, hpost rfl, q2⟩
  ·cases h1
 | pan v =>
  simp only [AN] at h1
  split at h1
  ·rename_i hd
   simp only [Option.some.injEq, Prod.mk.injEq] at h1
   obtain ⟨rfl, rfl⟩ := h1
   exact ⟨hdf hd, _, _, ρ', h2, rfl, hpost rfl, k4 _ rfl⟩
  ·cases h1
 | exit id => simp [AN] at h1
 | goto id => simp [AN] at h1
def Do : bO := fun _ _ _ => none
end
end Go.Ev
namespace Go.Ev
def tj (pf : FuncId → Nat) (all : List Oper) : List (List Nat) :=
 let ms := ag all []
 all.zipIdx.map fun (o, i) => if bM pf o.op == 1 then (wa pf all).filter fun c => !kE pf all ms i c else []
def tk (pf : FuncId → Nat) (T : av) (H : bO) (all : List Oper) (mems : List Mem) : List Oper → List (List Nat) → List (St × ab) → Bool
 | o :: r, cs :: ps, (s, v) :: tr => (!(bo all o s.tm) || cs.all fun c => match mems[c]? with
   | some σ => match aN T H o.op s.tm σ with
    | some (.val u, _) => aeq u v
    | _ => false
   | none => false) && tk pf T H all mems r ps tr
 | _, _, _ => true
theorem Jf {pf : FuncId → Nat} {T : av} {H : bO} {all : List Oper} {mems : List Mem} : ∀ (l pre : List Oper) (tr : List (St × ab)), all = pre ++ l →
  tk pf T H all mems l ((l.zipIdx pre.length).map fun (o, i) => if bM pf o.op == 1 then (wa pf all).filter fun c => !kE pf all (ag all []) i c else []) tr = true →
   pp pf T H all (ag all []) mems l pre.length tr = true
 | [], pre, tr, _, _ => by cases tr <;> rfl
 | o :: r, pre, [], _, _ => rfl
 | o :: r, pre, (s, v) :: tr, he, h => by
  simp only [List.zipIdx_cons, List.map_cons, tk, Bool.and_eq_true] at h
  obtain ⟨h1, h2⟩ := h
  simp only [pp, Bool.and_eq_true]
  refine ⟨?_, ?_⟩
  ·unfold GR
   cases hk : bM pf o.op == 1 with
   | false => rfl
   | true =>
    simp only [hk, if_true] at h1
    cases hw : bo all o s.tm with
    | false => rfl
    | true =>
     simp only [hw, Bool.not_true, Bool.false_or, List.all_eq_true] at h1 ⊢
     intro c hc
     cases hx : kE pf all (ag all []) pre.length c with
     | true => rfl
     | false =>
      have := h1 c (List.mem_filter.2 ⟨hc, by rw [hx]; rfl⟩)
      simp only [Bool.false_or]
      exact this
  ·have := Jf (pf := pf) (T := T) (H := H) (all := all) (mems := mems) r (pre ++ [o]) tr (by rw [he]; simp) (by simpa using h2)
   simpa using this
def IB (pf : FuncId → Nat) (T : av) (H : bO) (all : List Oper) (pl : List (List Nat)) (s : St) : Option St :=
 match trace T H all all s with
 | some (tr, e) => if tk pf T H all (tr.map (·.1.mem) ++ [e.mem]) all pl tr && qM pf all (ag all []) (am pf all (ag all [])) tr then some e else none
 | none => none
theorem Ha {pf : FuncId → Nat} {T : av} {H : bO} {all : List Oper} {pl : List (List Nat)} {s s' : St} (hp : tj pf all = pl) (h : IB pf T H all pl s = some s') : jO pf T H all s = some s' := by
 unfold IB at h
 unfold jO
 split at h
 ·rename_i tr e htr
  split at h
  ·rename_i hr
   cases h
   rw [Bool.and_eq_true] at hr
   obtain ⟨hr, hg⟩ := hr
   rw [← hp] at hr
   rw [htr]
   have q : pp pf T H all (ag all []) (tr.map (·.1.mem) ++ [s'.mem]) all 0 tr = true := Jf (all := all) all [] tr rfl (by simpa [tj] using hr)
   show (if (pp pf T H all (ag all []) (tr.map (·.1.mem) ++ [s'.mem]) all 0 tr && qM pf all (ag all []) (am pf all (ag all [])) tr) = true then some s' else none) = some s'
   rw [if_pos (by rw [q, hg]; rfl)]
  ·cases h
 ·cases h
def AO (pf : FuncId → Nat) (T : av) (H : bO) (all : List Oper) (mems : List Mem) : List Oper → List (List Nat) → List (St × ab) → List (Option ab × Option ab)
 | o :: r, cs :: ps, (s, v) :: tr => (if bo all o s.tm then cs.map fun c => ((mems[c]?).bind fun σ => (aN T H o.op s.tm σ).bind fun x => match x.1 with
   | .val u => some u
   | _ => none, some v) else []) ++ AO pf T H all mems r ps tr
 | _, _, _ => []
theorem K0 {pf : FuncId → Nat} {T : av} {H : bO} {all : List Oper} {mems : List Mem} : ∀ (l : List Oper) (pl : List (List Nat)) (tr : List (St × ab)),
  (∀ p ∈ AO pf T H all mems l pl tr, p.1 = p.2) → tk pf T H all mems l pl tr = true
 | [], pl, tr, _ => by cases pl <;> cases tr <;> rfl
 | o :: r, [], tr, _ => by cases tr <;> rfl
 | o :: r, cs :: ps, [], _ => rfl
 | o :: r, cs :: ps, (s, v) :: tr, h => by
  simp only [AO, List.mem_append] at h
  simp only [tk, Bool.and_eq_true]
  refine ⟨?_, K0 r ps tr fun p hp => h p (.inr hp)⟩
  cases hw : bo all o s.tm with
  | false => rfl
  | true =>
   simp only [hw, if_true, List.mem_map] at h
   simp only [Bool.not_true, Bool.false_or, List.all_eq_true]
   intro c hc
   have := h _ (.inl ⟨c, hc, rfl⟩)
   simp only at this
   cases hm : mems[c]? with
   | none => rw [hm] at this; cases this
   | some σ =>
    rw [hm] at this
    simp only [Option.bind_some] at this ⊢
    cases hx : aN T H o.op s.tm σ with
    | none => rw [hx] at this; cases this
    | some x =>
     obtain ⟨x, σ'⟩ := x
     rw [hx] at this
     simp only [Option.bind_some] at this ⊢
     cases x with
     | val u => simp only [Option.some.injEq] at this; subst this; exact FB u
     | skip => cases this
     | pan u => cases this
     | dfr u => cases this
def bm : Code → List Code
 | .loop b => b :: bm b
 | .seq a b => bm a ++ bm b
 | .cond _ a b => bm a ++ bm b
 | .block _ b => bm b
 | .scope b => bm b
 | .rangeFunc _ _ a b => bm a ++ bm b
 | _ => []
def aK (fn : Func) (i : Nat) : Code := (bm (fn.body.getD .skip)).getD i .skip
def tl (pf : FuncId → Nat) (T : av) (H : bO) (all : List Oper) (mems : List Mem) : List Oper → List (List Nat) → List (St × ab) → List (Option ab × Option ab)
 | o :: r, cs :: ps, (s, _) :: tr => (if bo all o s.tm then cs.map fun c => ((mems[c]?).bind fun σ => (aN T H o.op s.tm σ).bind fun x => match x.1 with
   | .val u => some u
   | _ => none, sF (aN T H o.op s.tm s.mem)) else []) ++ tl pf T H all mems r ps tr
 | _, _, _ => []
section
variable {T : av} {H : bO} {pf : FuncId → Nat}
theorem Jg {all : List Oper} {mems : List Mem} : ∀ (l : List Oper) (pl : List (List Nat)) (s : St) (tr : List (St × ab)) (e : St), trace T H all l s = some (tr, e) →
  (∀ p ∈ tl pf T H all mems l pl tr, p.1 = p.2) → ∀ p ∈ AO pf T H all mems l pl tr, p.1 = p.2
 | [], pl, s, tr, e, _, _ => by cases pl <;> cases tr <;> (intro p hp; simp [AO] at hp)
 | o :: r, [], s, tr, e, _, _ => by cases tr <;> (intro p hp; simp [AO] at hp)
 | o :: r, cs :: ps, s, tr, e, ht, h => by
  simp only [trace] at ht
  split at ht
  ·rename_i v σ hv
   split at ht
   ·rename_i l e1 hl
    simp only [Option.some.injEq, Prod.mk.injEq] at ht
    obtain ⟨rfl, rfl⟩ := ht
    simp only [tl, List.mem_append] at h
    intro p hp
    simp only [AO, List.mem_append] at hp
    rcases hp with hp | hp
    ·cases hw : bo all o s.tm with
     | false => rw [hw] at hp; simp at hp
     | true =>
      rw [hw] at hp h
      simp only [if_true, List.mem_map] at hp h
      obtain ⟨c, hc, rfl⟩ := hp
      have := h _ (.inl ⟨c, hc, rfl⟩)
      refine Eq.trans this ?_
      simp only
      unfold cr at hv
      split at hv
      ·cases hv
      split at hv
      ·rename_i u σ1 hx
       simp only [Option.some.injEq, Prod.mk.injEq] at hv
       rw [hx, ← hv.1]; rfl
      ·rename_i σ1 hx
       simp only [Option.some.injEq, Prod.mk.injEq] at hv
       rw [hx, ← hv.1]; rfl
      ·cases hv
    ·exact Jg r ps _ l e1 hl (fun q hq => h q (.inr hq)) p hp
   ·cases ht
  ·cases ht
end
end Go.Ev
namespace Go.Ev
def GZ (ks : List TK) : Nat → List TK
 | 0 => []
 | n + 1 => ks ++ GZ ks n
def CS (P : Program) (F : TypeId → Option (List TK)) : List Field → Nat → Option (List TK)
 | [], _ => some []
 | f :: fs, off =>
  if f.name = "_" ∨ f.offset ≠ off then none else
  match F f.type with
  | some ks => if ks.length = P.cellsOf f.type then (CS P F fs (off + ks.length)).map (ks ++ ·) else none
  | none => none
def fT (P : Program) : Nat → TypeId → Option (List TK)
 | 0, _ => none
 | d + 1, t =>
  match P.underlying t with
  | some (.int k) => some [.int k]
  | some .bool => some [.bool]
  | some (.struct fs) => if P.stoodInHeld t then none else CS P (fT P d) fs.toList 0
  | some (.array n e) => match fT P d e with
   | some ks => if ks.length = P.cellsOf e then some (GZ ks n) else none
   | none => none
  | _ => none
def mkV (P : Program) (t : TypeId) (cs : List Value) : Value :=
 match P.underlying t with
 | some (.struct _) | some (.array _ _) => .agg cs.toArray
 | _ => cs.headD undef
theorem k6 : ∀ {ks : List TK} {xs ys : LA_} {r : Bool}, cA ks xs ys = some r → xs.length = ks.length ∧ ys.length = ks.length
 | [], [], [], _, _ => ⟨rfl, rfl⟩
 | .int k :: ks, .int a x :: xs, .int b y :: ys, r, h => by
  simp only [cA] at h
  split at h
  ·obtain ⟨r', h1, _⟩ := Option.map_eq_some_iff.1 h
   have := k6 h1
   simp [this.1, this.2]
  ·cases h
 | .bool :: ks, .bool x :: xs, .bool y :: ys, r, h => by
  simp only [cA] at h
  obtain ⟨r', h1, _⟩ := Option.map_eq_some_iff.1 h
  have := k6 h1
  simp [this.1, this.2]
theorem mT : ∀ {k1 k2 : List TK} {xs ys : LA_} {r : Bool}, cA (k1 ++ k2) xs ys = some r →
  ∃ r1 r2, cA k1 (xs.take k1.length) (ys.take k1.length) = some r1 ∧ cA k2 (xs.drop k1.length) (ys.drop k1.length) = some r2 ∧ r = (r1 && r2)
 | [], k2, xs, ys, r, h => ⟨true, r, by simp [cA], by simpa using h, by simp⟩
 | .int k :: ks, k2, .int a x :: xs, .int b y :: ys, r, h => by
  simp only [List.cons_append, cA] at h
  split at h
  ·rename_i hk
   obtain ⟨r', h1, h2⟩ := Option.map_eq_some_iff.1 h
   obtain ⟨r1, r2, q1, q2, q3⟩ := mT h1
   refine ⟨x == y && r1, r2, ?_, by simpa using q2, by rw [← h2, q3, Bool.and_assoc]⟩
   simp only [List.length_cons, List.take_succ_cons, cA, if_pos hk, q1, Option.map_some]
  ·cases h
 | .bool :: ks, k2, .bool x :: xs, .bool y :: ys, r, h => by
  simp only [List.cons_append, cA] at h
  obtain ⟨r', h1, h2⟩ := Option.map_eq_some_iff.1 h
  obtain ⟨r1, r2, q1, q2, q3⟩ := mT h1
  refine ⟨x == y && r1, r2, ?_, by simpa using q2, by rw [← h2, q3, Bool.and_assoc]⟩
  simp only [List.length_cons, List.take_succ_cons, cA, q1, Option.map_some]
section
variable {P : Program} {ρ : Nat → Loc}
theorem ED {d : Nat} {t : TypeId} {ks : List TK} (h : fT P d t = some ks) : ∃ i, P.info? t = some i := by
 cases d with
 | zero => simp [fT] at h
 | succ d =>
  unfold fT at h
  cases hu : P.underlying t with
  | none => rw [hu] at h; cases h
  | some k => exact info_of_underlying hu
theorem sG {d : Nat} {t : TypeId} {ks : List TK} (hf : fT P d t = some ks) (hl : ks.length = P.cellsOf t) {pre x post : List Value} {cs : Array Value}
  (hc : cs.toList = pre ++ x ++ post) (hx : x.length = ks.length) (w : World) : (part t cs pre.length).run P w = .ok (mkV P t x) w := by
 obtain ⟨i, hi⟩ := ED hf
 have hagg : ∀ b, (match P.underlying t with | some (.struct _) | some (.array _ _) => true | _ => false) = b → (isAgg t).run P w = .ok b w := by
  intro b hb
  cases d with
  | zero => simp [fT] at hf
  | succ d =>
   unfold fT at hf
   cases hu : P.underlying t with
   | none => rw [hu] at hf; cases hf
   | some k =>
    rw [hu] at hb
    cases k <;> simp_all [isAgg, run_underlying hu]
 have ext : cs.extract pre.length (pre.length + P.cellsOf t) = x.toArray := by
  apply Array.ext'
  rw [Array.toList_extract, List.extract_eq_take_drop, hc, ← hl, ← hx, Nat.add_sub_cancel_left]
  simp [List.append_assoc]
 have one : ∀ v, x = [v] → cs[pre.length]? = some v := by
  rintro v rfl
  rw [← Array.getElem?_toList, hc]
  simp [List.append_assoc]
 cases d with
 | zero => simp [fT] at hf
 | succ d =>
  unfold fT at hf
  unfold mkV
  cases hu : P.underlying t with
  | none => rw [hu] at hf; cases hf
  | some k =>
   rw [hu] at hf
   cases k <;> simp only [] at hf <;> try (cases hf; done)
   case bool =>
    cases hf
    obtain ⟨v, rfl⟩ : ∃ v, x = [v] := List.length_eq_one_iff.1 (by simpa using hx)
    simp [part, hagg false (by rw [hu]), one v rfl]
   case int k =>
    cases hf
    obtain ⟨v, rfl⟩ : ∃ v, x = [v] := List.length_eq_one_iff.1 (by simpa using hx)
    simp [part, hagg false (by rw [hu]), one v rfl]
   case array n e =>
    simp only [part, Sem.run_bind, hagg true (by rw [hu]), Result.andThen_ok, if_true, run_sizeOf w hi, Sem.run_pure, ext]
   case struct fs =>
    simp only [part, Sem.run_bind, hagg true (by rw [hu]), Result.andThen_ok, if_true, run_sizeOf w hi, Sem.run_pure, ext]
theorem gK (a b : LA_) (n : Nat) : γL ρ a = γL ρ (a.take n) ++ γL ρ (a.drop n) := by rw [← cu, List.take_append_drop]
def EqF (P : Program) (ρ : Nat → Loc) (D : Nat) (t : TypeId) (ks : List TK) : Prop :=
 ∀ (w : World) (xs ys : LA_) (r : Bool), cA ks xs ys = some r →
  (Op.equalIn D t (mkV P t (γL ρ xs)) (mkV P t (γL ρ ys))).run P w = .ok r w ∧ ∀ b, (Instr.checkKey b D t (mkV P t (γL ρ xs))).run P w = .ok () w
theorem Bd {d D : Nat} (IH : ∀ t ks, fT P d t = some ks → EqF P ρ D t ks) : ∀ (fs : List Field) (off : Nat) (ks : List TK), CS P (fT P d) fs off = some ks →
  ∀ (w : World) (cx cy : Array Value) (px py : List Value) (xs ys : LA_) (r : Bool), cx.toList = px ++ γL ρ xs → cy.toList = py ++ γL ρ ys → px.length = off → py.length = off →
   cA ks xs ys = some r → (Op.eqFields D cx cy fs).run P w = .ok r w ∧
    ∀ b, (forIn fs PUnit.unit fun (f : Field) _ => (if f.name ≠ "_" then do
     Instr.checkKey b D f.type (← part f.type cx f.offset)
     pure (ForInStep.yield PUnit.unit) else pure (ForInStep.yield PUnit.unit) : Sem (ForInStep PUnit))).run P w = .ok PUnit.unit w
 | [], off, ks, hf, w, cx, cy, px, py, xs, ys, r, _, _, _, _, he => by
  simp only [CS, Option.some.injEq] at hf
  subst hf
  cases xs <;> cases ys <;> simp [cA] at he
  subst he
  exact ⟨rfl, fun _ => rfl⟩
 | f :: fs, off, ks, hf, w, cx, cy, px, py, xs, ys, r, hx, hy, hpx, hpy, he => by
  simp only [CS] at hf
  split at hf
  ·cases hf
  ·rename_i hno
   have hn1 : f.name ≠ "_" := fun q => hno (.inl q)
   have hn2 : f.offset = off := Classical.byContradiction fun q => hno (.inr q)
   split at hf
   ·rename_i k1 hk1
    split at hf
    ·rename_i hlen
     obtain ⟨k2, hk2, rfl⟩ := Option.map_eq_some_iff.1 hf
     obtain ⟨r1, r2, e1, e2, rfl⟩ := mT he
     obtain ⟨l1, l2⟩ := k6 e1
     have px1 : (part f.type cx f.offset).run P w = .ok (mkV P f.type (γL ρ (xs.take k1.length))) w := by
      rw [hn2, ← hpx]
      exact sG hk1 hlen (by rw [hx, gK xs xs k1.length, List.append_assoc]) (by simpa using l1) w
     have py1 : (part f.type cy f.offset).run P w = .ok (mkV P f.type (γL ρ (ys.take k1.length))) w := by
      rw [hn2, ← hpy]
      exact sG hk1 hlen (by rw [hy, gK ys ys k1.length, List.append_assoc]) (by simpa using l2) w
     obtain ⟨i1, i2⟩ := IH f.type k1 hk1 w _ _ r1 e1
     obtain ⟨j1, j2⟩ := Bd IH fs (off + k1.length) k2 hk2 w cx cy (px ++ γL ρ (xs.take k1.length)) (py ++ γL ρ (ys.take k1.length)) (xs.drop k1.length) (ys.drop k1.length) r2
      (by rw [hx, gK xs xs k1.length, List.append_assoc]) (by rw [hy, gK ys ys k1.length, List.append_assoc])
      (by rw [List.length_append, aT, l1, hpx]) (by rw [List.length_append, aT, l2, hpy]) e2
     refine ⟨?_, fun b => ?_⟩
     ·simp only [Op.eqFields, hn1, ne_eq, not_false_eq_true, if_true, Sem.run_bind, px1, py1, i1, Result.andThen_ok]
      cases r1
      ·simp
      ·simpa using j1
     ·have := j2 b
      simp only [List.forIn_cons, Sem.run_bind, Sem.run_ite, hn1, ne_eq, not_false_eq_true, if_true, px1, i2 b, Result.andThen_ok, Sem.run_pure]
      exact this
    ·cases hf
   ·cases hf
theorem CT {d D : Nat} {e : TypeId} {k1 : List TK} (hk1 : fT P d e = some k1) (hlen : k1.length = P.cellsOf e) (IH : EqF P ρ D e k1) {inf : TypeInfo} (hi : P.info? e = some inf) :
  ∀ (n j : Nat) (w : World) (cx cy : Array Value) (px py : List Value) (xs ys : LA_) (r : Bool), cx.toList = px ++ γL ρ xs → cy.toList = py ++ γL ρ ys → px.length = j * k1.length →
   py.length = j * k1.length → cA (GZ k1 n) xs ys = some r → (Op.eqItems D e (P.cellsOf e) cx cy (List.range' j n)).run P w = .ok r w ∧
    ∀ b, (forIn (List.range' j n) PUnit.unit fun (i : Nat) _ => (do
     Instr.checkKey b D e (← part e cx (i * (← sizeOf e)))
     pure (ForInStep.yield PUnit.unit) : Sem (ForInStep PUnit))).run P w = .ok PUnit.unit w
 | 0, j, w, cx, cy, px, py, xs, ys, r, _, _, _, _, he => by
  cases xs <;> cases ys <;> simp [GZ, cA] at he
  subst he
  exact ⟨rfl, fun _ => rfl⟩
 | n + 1, j, w, cx, cy, px, py, xs, ys, r, hx, hy, hpx, hpy, he => by
  simp only [GZ] at he
  obtain ⟨r1, r2, e1, e2, rfl⟩ := mT he
  obtain ⟨l1, l2⟩ := k6 e1
  have px1 : (part e cx (j * P.cellsOf e)).run P w = .ok (mkV P e (γL ρ (xs.take k1.length))) w := by
   rw [← hlen, ← hpx]
   exact sG hk1 hlen (by rw [hx, gK xs xs k1.length, List.append_assoc]) (by simpa using l1) w
  have py1 : (part e cy (j * P.cellsOf e)).run P w = .ok (mkV P e (γL ρ (ys.take k1.length))) w := by
   rw [← hlen, ← hpy]
   exact sG hk1 hlen (by rw [hy, gK ys ys k1.length, List.append_assoc]) (by simpa using l2) w
  obtain ⟨i1, i2⟩ := IH w _ _ r1 e1
  obtain ⟨j1, j2⟩ := CT hk1 hlen IH hi n (j + 1) w cx cy (px ++ γL ρ (xs.take k1.length)) (py ++ γL ρ (ys.take k1.length)) (xs.drop k1.length) (ys.drop k1.length) r2
   (by rw [hx, gK xs xs k1.length, List.append_assoc]) (by rw [hy, gK ys ys k1.length, List.append_assoc])
   (by rw [List.length_append, aT, l1, hpx, Nat.succ_mul]) (by rw [List.length_append, aT, l2, hpy, Nat.succ_mul]) e2
  rw [List.range'_succ]
  refine ⟨?_, fun b => ?_⟩
  ·simp only [Op.eqItems, Sem.run_bind, px1, py1, i1, Result.andThen_ok]
   cases r1
   ·simp
   ·simpa using j1
  ·have := j2 b
   simp only [List.forIn_cons, Sem.run_bind, run_sizeOf w hi, Result.andThen_ok, px1, i2 b, Sem.run_pure]
   exact this
theorem FL : ∀ (d : Nat) (t : TypeId) (ks : List TK), fT P d t = some ks → ∀ D, EqF P ρ (D + d) t ks
 | 0, t, ks, h, D => by simp [fT] at h
 | d + 1, t, ks, h, D => by
  intro w xs ys r he
  have h0 := h
  unfold fT at h
  rw [← Nat.add_assoc]
  cases hu : P.underlying t with
  | none => rw [hu] at h; cases h
  | some k =>
   rw [hu] at h
   cases k <;> simp only [] at h <;> try (cases h; done)
   case bool =>
    cases h
    obtain ⟨l1, l2⟩ := k6 he
    obtain ⟨x, rfl⟩ := List.length_eq_one_iff.1 (show xs.length = 1 from l1)
    obtain ⟨y, rfl⟩ := List.length_eq_one_iff.1 (show ys.length = 1 from l2)
    cases x <;> cases y <;> simp only [cA] at he <;> try (cases he; done)
    rename_i a b
    simp only [Option.map_some, Bool.and_true, Option.some.injEq] at he
    subst he
    unfold mkV
    simp only [hu, γL, γ, List.headD_cons]
    refine ⟨run_equalIn_bool w (D + d) t a b hu, fun b => ?_⟩
    simp only [Instr.checkKey, Sem.run_bind, run_underlying hu, Result.andThen_ok, Sem.run_pure]
   case int k =>
    cases h
    obtain ⟨l1, l2⟩ := k6 he
    obtain ⟨x, rfl⟩ := List.length_eq_one_iff.1 (show xs.length = 1 from l1)
    obtain ⟨y, rfl⟩ := List.length_eq_one_iff.1 (show ys.length = 1 from l2)
    cases x <;> cases y <;> simp only [cA] at he <;> try (cases he; done)
    rename_i k1 a k2 b
    split at he
    ·rename_i hk
     simp only [Option.map_some, Bool.and_true, Option.some.injEq] at he
     subst he
     unfold mkV
     simp only [hu, γL, γ, List.headD_cons]
     rw [hk.1, hk.2]
     refine ⟨run_equalIn_int w (D + d) t k k a b hu, fun b => ?_⟩
     simp only [Instr.checkKey, Sem.run_bind, run_underlying hu, Result.andThen_ok, Sem.run_pure]
    ·cases he
   case struct fs =>
    split at h
    ·cases h
    ·rename_i hst
     have hfo : P.fieldsOf t = fs := by simp [Program.fieldsOf, hu]
     obtain ⟨j1, j2⟩ := Bd (fun t ks hh => FL d t ks hh D) fs.toList 0 ks h w (γL ρ xs).toArray (γL ρ ys).toArray [] [] xs ys r (by simp) (by simp) rfl rfl he
     unfold mkV
     simp only [hu]
     refine ⟨?_, fun b => ?_⟩
     ·rw [run_equalIn_struct w (D + d) t _ _ (by rw [hfo]; exact hu) (by simpa using hst), hfo]
      exact j1
     ·have := j2 b
      rw [Instr.checkKey]
      simp only [Sem.run_bind, run_underlying hu, Result.andThen_ok]
      rw [← Array.forIn_toList, this]
      rfl
   case array n e =>
    split at h
    ·rename_i k1 hk1
     split at h
     ·rename_i hlen
      cases h
      obtain ⟨inf, hi⟩ := ED hk1
      obtain ⟨j1, j2⟩ := CT hk1 hlen (FL d e k1 hk1 D) hi n 0 w (γL ρ xs).toArray (γL ρ ys).toArray [] [] xs ys r (by simp) (by simp) (by simp) (by simp) he
      unfold mkV
      simp only [hu]
      refine ⟨?_, fun b => ?_⟩
      ·rw [run_equalIn_array w (D + d) _ _ hu hi, List.range_eq_range']
       exact j1
      ·have := j2 b
       rw [Instr.checkKey]
       simp only [Sem.run_bind, run_underlying hu, Result.andThen_ok]
       simp only [Std.Legacy.Range.forIn_eq_forIn_range', Std.Legacy.Range.size, Nat.sub_zero, Nat.add_one_sub_one, Nat.div_one]
       rw [this]
       rfl
     ·cases h
    ·cases h
theorem fU {d : Nat} {t : TypeId} {ks : List TK} (hd : d ≤ 10000) (h : fT P d t = some ks) (hg : P.eqGuardType P.depth t = false)
  (ha : (match P.underlying t with | some (.struct _) | some (.array _ _) => true | _ => false) = true) : NY P t ks := by
 refine ⟨hg, fun ρ w xs ys r he => ?_⟩
 have := FL (ρ := ρ) d t ks h (10000 - d) w xs ys r he
 rw [Nat.sub_add_cancel hd] at this
 have hm : ∀ cs, mkV P t cs = .agg cs.toArray := by
  intro cs
  unfold mkV
  cases hu : P.underlying t with
  | none => rw [hu] at ha; cases ha
  | some k => rw [hu] at ha; cases k <;> first | rfl | cases ha
 rw [hm, hm] at this
 exact this
end
end Go.Ev
namespace Go.Ev
def scX (n : Nat) : ar → Bool
 | .cells cs _ _ => scC n cs
 | .iter m _ _ _ => decide (m < n)
 | _ => true
def qN (K : Nat) : Nat → List (Option ab) → LA_
 | _, [] => []
 | t, some v :: M => v :: qN K (t + 1) M
 | t, none :: M => .dD (K + t) :: qN K (t + 1) M
def CU (tm : LA_) (D : List (FuncId × List Nat)) : List l9 := D.map fun p => ⟨p.1, p.2.map fun t => tm.getD t (.tup []), []⟩
def bd (K : Nat) (M : List (Option ab)) (B : List (Nat × ar)) (D : List (FuncId × List Nat)) : St := ⟨qN K 0 M, CU (qN K 0 M) D, ⟨K + M.length, B⟩⟩
def Cov (n : Nat) (s s' : St) : Prop := n ≤ s'.mem.next ∧ ∀ w0 ρ a w, bJ w0 ρ s a w → ∃ ρ', bJ w0 ρ' s' a w ∧ ∀ i, i < n → ρ' i = ρ i
theorem Cov.refl {n : Nat} {s : St} (h : n ≤ s.mem.next) : Cov n s s := ⟨h, fun _ ρ _ _ hr => ⟨ρ, hr, fun _ _ => rfl⟩⟩
def fits (f : Nat → Nat) (K : Nat) : List (Option ab) → LA_ → Prop
 | [], [] => True
 | some v :: M, x :: vs => x = rn f v ∧ sc K v = true ∧ fits f K M vs
 | none :: M, _ :: vs => fits f K M vs
 | _, _ => False
structure Nd (n : Nat) (F : List Nat) (M : List (Option ab)) (B : List (Nat × ar)) (D : List (FuncId × List Nat)) (s : St) : Prop where
 df : s.df = CU s.tm D
 tm : fits (fun i => F.getD i 0) F.length M s.tm
 bs : ∀ i b, look B i = some b → i < F.length ∧ s.mem.get (F.getD i 0) = some (rnB (fun i => F.getD i 0) b) ∧ scX F.length b = true
 inj : ∀ i j, i < F.length → j < F.length → F.getD i 0 = F.getD j 0 → i = j
 fix : ∀ i, i < n → F.getD i 0 = i
 nK : n ≤ F.length
theorem IC {ρ ρ' : Nat → Loc} {f : Nat → Nat} {K : Nat} (hρ : ∀ i, i < K → ρ' i = ρ (f i)) : ∀ (M : List (Option ab)) (vs : LA_) (t : Nat), fits f K M vs →
  (∀ j, j < vs.length → (ρ' (K + t + j)).val = γ ρ (vs.getD j (.tup []))) → γL ρ' (qN K t M) = γL ρ vs
 | [], [], t, _, _ => rfl
 | [], _ :: _, t, h, _ => by simp [fits] at h
 | some v :: M, [], t, h, _ => by simp [fits] at h
 | none :: M, [], t, h, _ => by simp [fits] at h
 | some v :: M, x :: vs, t, h, hj => by
  obtain ⟨rfl, h2, h3⟩ := h
  simp only [qN, γL, List.cons.injEq]
  refine ⟨?_, IC hρ M vs (t + 1) h3 ?_⟩
  ·rw [J9]; exact gX hρ v h2
  ·intro j hjl
   have := hj (j + 1) (by simp; omega)
   simpa [Nat.add_assoc, Nat.add_comm 1 j] using this
 | none :: M, x :: vs, t, h, hj => by
  have h3 : fits f K M vs := h
  simp only [qN, γL, List.cons.injEq]
  refine ⟨?_, IC hρ M vs (t + 1) h3 ?_⟩
  ·simpa [γ] using hj 0 (by simp)
  ·intro j hjl
   have := hj (j + 1) (by simp; omega)
   simpa [Nat.add_assoc, Nat.add_comm 1 j] using this
theorem ID {f : Nat → Nat} {K n : Nat} : ∀ (M : List (Option ab)) (vs : LA_) (t : Nat), fits f K M vs → K + t + M.length ≤ n → K ≤ n → scL n (qN K t M) = true
 | [], _, t, _, _, _ => rfl
 | some v :: M, [], t, h, _, _ => by simp [fits] at h
 | none :: M, [], t, h, _, _ => by simp [fits] at h
 | some v :: M, x :: vs, t, h, hn, hk => by
  obtain ⟨_, h2, h3⟩ := h
  simp only [List.length_cons] at hn
  simp only [qN, scL, Bool.and_eq_true]
  exact ⟨jL hk _ h2, ID M vs (t + 1) h3 (by omega) hk⟩
 | none :: M, x :: vs, t, h, hn, hk => by
  have h3 : fits f K M vs := h
  simp only [List.length_cons] at hn
  simp only [qN, scL, Bool.and_eq_true]
  refine ⟨?_, ID M vs (t + 1) h3 (by omega) hk⟩
  simp only [sc, decide_eq_true_eq]; omega
theorem Rq {ρ : Nat → Loc} {l : LA_} (t : Nat) : γ ρ (l.getD t (.tup [])) = (γL ρ l).getD t (γ ρ (.tup [])) := by
 simp only [List.getD_eq_getElem?_getD, jK]
 cases l[t]? <;> rfl
theorem Rr {n : Nat} {l : LA_} (h : scL n l = true) (t : Nat) : sc n (l.getD t (.tup [])) = true := by
 rw [List.getD_eq_getElem?_getD]
 cases hx : l[t]? with
 | none => rfl
 | some v => exact (iq _ _).1 h v (List.mem_of_getElem? hx)
theorem Rt {ρ ρ' : Nat → Loc} {l l' : LA_} (h : γL ρ' l' = γL ρ l) (D : List (FuncId × List Nat)) : (CU l' D).map (γD ρ') = (CU l D).map (γD ρ) := by
 simp only [CU, List.map_map]
 apply List.map_congr_left
 intro p _
 simp only [Function.comp, γD, γL]
 have : ∀ ts : List Nat, γL ρ' (ts.map fun t => l'.getD t (.tup [])) = γL ρ (ts.map fun t => l.getD t (.tup [])) := by
  intro ts
  induction ts with
  | nil => rfl
  | cons t ts ih => simp only [List.map_cons, γL, ih, Rq, h]; simp [γ, γL]
 rw [this]
theorem Ru {n : Nat} {l : LA_} (h : scL n l = true) (D : List (FuncId × List Nat)) : ∀ d ∈ CU l D, scL n d.cap = true ∧ scL n d.args = true := by
 intro d hd
 simp only [CU, List.mem_map] at hd
 obtain ⟨p, _, rfl⟩ := hd
 refine ⟨(iq _ _).2 ?_, rfl⟩
 intro v hv
 simp only [List.mem_map] at hv
 obtain ⟨t, _, rfl⟩ := hv
 exact Rr h t
theorem Nd.cov {n : Nat} {F : List Nat} {M : List (Option ab)} {B : List (Nat × ar)} {D : List (FuncId × List Nat)} {s : St} (h : Nd n F M B D s) : Cov n s (bd F.length M B D) := by
 refine ⟨Nat.le_trans h.nK (by simp [bd]), ?_⟩
 intro w0 ρ a w hr
 let ρ' : Nat → Loc := fun i => if i < F.length then ρ (F.getD i 0) else { blk := 0, base := 0, eQ := 0, val := γ ρ (s.tm.getD (i - F.length) (.tup [])) }
 have hρ : ∀ i, i < F.length → ρ' i = ρ (F.getD i 0) := fun i hi => by simp only [ρ', if_pos hi]
 have R := hr.rel
 have hsc : ∀ i b, look B i = some b → scB F.length b = true := by
  intro i b hi
  obtain ⟨_, q2, q3⟩ := h.bs i b hi
  have := R.sco _ _ q2
  cases b <;> first | exact q3 | exact this
 have htm : γL ρ' (qN F.length 0 M) = γL ρ s.tm := by
  refine IC (f := fun i => F.getD i 0) hρ M s.tm 0 h.tm ?_
  intro j hj
  simp only [ρ', Nat.add_zero]
  rw [if_neg (by omega), show F.length + j - F.length = j by omega]
 have hsm : scL (F.length + M.length) (qN F.length 0 M) = true := ID M s.tm 0 h.tm (by simp) (by simp)
 refine ⟨ρ', ⟨⟨?_, ?_, ?_, ?_, ?_, ?_, R.os, R.tape, R.output, R.size, R.old⟩, ?_, ?_, ?_, ?_⟩, ?_⟩
 ·intro i b hi
  have := (h.bs i b hi).1
  simp only [bd]; omega
 ·intro i b hi
  exact fy (by simp [bd]) b (hsc i b hi)
 ·intro i b hi
  obtain ⟨q1, q2, q3⟩ := h.bs i b hi
  rw [hρ i q1]
  exact dl (fun i hi => hρ i hi) rfl b (hsc i b hi) (OD (R.sco _ _ q2) (R.ok _ _ q2))
 ·intro i b hi ha
  obtain ⟨q1, q2, q3⟩ := h.bs i b hi
  rw [hρ i q1]
  exact R.inb _ _ q2 (by rw [tn]; exact ha)
 ·intro i j bi bj hi hj hij hoi haj
  obtain ⟨q1, q2, q3⟩ := h.bs i bi hi
  obtain ⟨p1, p2, p3⟩ := h.bs j bj hj
  rw [hρ i q1, hρ j p1]
  exact R.ap _ _ _ _ q2 p2 (fun e => hij (h.inj i j q1 p1 e)) (by rw [to]; exact hoi) (by rw [tn]; exact haj)
 ·intro i b hi ho
  obtain ⟨q1, q2, q3⟩ := h.bs i b hi
  rw [hρ i q1]
  exact R.own _ _ q2 (by rw [to]; exact ho)
 ·rw [hr.tm]; exact congrArg List.toArray htm.symm
 ·exact hsm
 ·rw [hr.df, h.df]; exact (Rt htm D).symm
 ·exact Ru hsm D
 ·intro i hi
  rw [hρ i (Nat.lt_of_lt_of_le hi h.nK), h.fix i hi]
def dq (P : Program) (n : Nat) (c : Code) (s : St) (Φ : an → St → Prop) : Prop :=
 n ≤ s.mem.next → ∀ w0 ρ a w, bJ w0 ρ s a w → c.wp P (fun e a' w' => ∃ o s', Φ o s' ∧ db w0 ρ n o s' e a' w') a w
section
variable {P : Program} {T : av} {H : bO} {n : Nat} {s : St}
theorem db.less {w0 : W0} {ρ : Nat → Loc} {n m : Nat} {o : an} {s' : St} {e : Exit} {a' : Act} {w' : World} (h : db w0 ρ m o s' e a' w') (hn : n ≤ m) : db w0 ρ n o s' e a' w' := by
 obtain ⟨ρ', h1, h2, h3, h4, h5⟩ := h.out
 exact ⟨ρ', h1, h2, fun i hi => h3 i (by omega), by omega, h5⟩
theorem db.step {w0 : W0} {ρ ρ1 : Nat → Loc} {n : Nat} {o : an} {s' : St} {e : Exit} {a' : Act} {w' : World} (he : ∀ i, i < n → ρ1 i = ρ i) (h : db w0 ρ1 n o s' e a' w') : db w0 ρ n o s' e a' w' := by
 obtain ⟨ρ', h1, h2, h3, h4, h5⟩ := h.out
 exact ⟨ρ', h1, h2, fun i hi => (h3 i hi).trans (he i hi), h4, h5⟩
theorem AWP.v9 {c : Code} {Φ : an → St → Prop} (h : AWP P c s Φ) : dq P n c s Φ :=
 fun hn w0 ρ a w hr => wp_mono (h w0 ρ a w hr) fun _ _ _ ⟨o, s', h1, h2⟩ => ⟨o, s', h1, h2.less hn⟩
theorem dq.tg {c : Code} {Φ : an → St → Prop} (h : dq P s.mem.next c s Φ) : AWP P c s Φ := h (Nat.le_refl _)
theorem dq.mono {c : Code} {Φ Ψ : an → St → Prop} (h : dq P n c s Φ) (hm : ∀ o s', Φ o s' → Ψ o s') : dq P n c s Ψ :=
 fun hn w0 ρ a w hr => wp_mono (h hn w0 ρ a w hr) fun _ _ _ ⟨o, s', h1, h2⟩ => ⟨o, s', hm o s' h1, h2⟩
theorem PJ {c : Code} {s' : St} {Φ : an → St → Prop} (hc : Cov n s s') (h : dq P n c s' Φ) : dq P n c s Φ := by
 intro _ w0 ρ a w hr
 obtain ⟨ρ', h1, h2⟩ := hc.2 w0 ρ a w hr
 exact wp_mono (h hc.1 w0 ρ' a w h1) fun _ _ _ ⟨o, s'', q1, q2⟩ => ⟨o, s'', q1, q2.step h2⟩
theorem pn {c : Code} {Φ : an → St → Prop} (h : dq P n c s fun o s' => (∀ v, o = .pan v → sc 0 v = true) ∧ ∃ s'', Cov n s' s'' ∧ Φ o s'') : dq P n c s Φ := by
 intro hn w0 ρ a w hr
 refine wp_mono (h hn w0 ρ a w hr) ?_
 rintro e a' w' ⟨o, s', ⟨hp, s'', h1, h1'⟩, ⟨ρ', rfl, h2, h3, h4, h5⟩⟩
 obtain ⟨ρ2, k1, k2⟩ := h1.2 w0 ρ' a' w' h2
 refine ⟨o, s'', h1', ⟨ρ2, ?_, k1, fun i hi => (k2 i hi).trans (h3 i hi), h1.1, fun v hv => jL (Nat.zero_le _) v (hp v hv)⟩⟩
 cases o with
 | pan v => simp only [CK, gX (ρ := ρ') (ρ' := ρ2) (n := 0) (fun i hi => by omega) v (hp v rfl)]
 | _ => rfl
theorem wd {x y : Code} {Φ : an → St → Prop} (h : dq P n x s (an.andThen (fun s' => dq P n y s' Φ) Φ)) : dq P n (.seq x y) s Φ := by
 intro hn w0 ρ a w hr
 refine wp_seq (wp_mono (h hn w0 ρ a w hr) ?_)
 rintro e a' w' ⟨o, s', h1, ⟨ρ', rfl, h2, h3, h4, h5⟩⟩
 cases o with
 | normal => exact wp_mono (h1 h4 w0 ρ' a' w' h2) fun _ _ _ ⟨o, s'', q1, q2⟩ => ⟨o, s'', q1, q2.step h3⟩
 | exit id => exact ⟨.exit id, s', h1, ⟨ρ', rfl, h2, h3, h4, h5⟩⟩
 | goto id => exact ⟨.goto id, s', h1, ⟨ρ', rfl, h2, h3, h4, h5⟩⟩
 | ret => exact ⟨.ret, s', h1, ⟨ρ', rfl, h2, h3, h4, h5⟩⟩
 | pan v => exact ⟨.pan v, s', h1, ⟨ρ', rfl, h2, h3, h4, h5⟩⟩
theorem Jh {c : Operand} {x y : Code} {b : Bool} {Φ : an → St → Prop} (hc : ev s.tm c = some (.bool b)) (h : dq P n (if b then x else y) s Φ) : dq P n (.cond c x y) s Φ :=
 fun hn w0 ρ a w hr => wp_cond (t := b) (by have := (qI hr.tm hr.sct hc).1; simpa only [γ] using this) (h hn w0 ρ a w hr)
theorem mU {id : Nat} {c : Code} {Φ : an → St → Prop} (h : dq P n c s (an.inBlock id Φ)) : dq P n (.block id c) s Φ := by
 intro hn w0 ρ a w hr
 refine wp_block (wp_mono (h hn w0 ρ a w hr) ?_)
 rintro e a' w' ⟨o, s', h1, ⟨ρ', rfl, h2, h3, h4, h5⟩⟩
 cases o with
 | normal => exact ⟨.normal, s', h1, ⟨ρ', rfl, h2, h3, h4, h5⟩⟩
 | exit id' =>
  simp only [an.inBlock] at h1
  simp only [CK, Exit.inBlock]
  split
  ·rename_i hid
   rw [if_pos hid] at h1
   exact ⟨.normal, s', h1, ⟨ρ', rfl, h2, h3, h4, by simp⟩⟩
  ·rename_i hid
   rw [if_neg hid] at h1
   exact ⟨.exit id', s', h1, ⟨ρ', rfl, h2, h3, h4, by simp⟩⟩
 | goto id => exact ⟨.goto id, s', h1, ⟨ρ', rfl, h2, h3, h4, h5⟩⟩
 | ret => exact ⟨.ret, s', h1, ⟨ρ', rfl, h2, h3, h4, h5⟩⟩
 | pan v => exact ⟨.pan v, s', h1, ⟨ρ', rfl, h2, h3, h4, h5⟩⟩
end
end Go.Ev
namespace Go.Ev
abbrev Ow := List (Option ab × Option ab)
def Ow.nil : Ow := []
def Ow.app (a b : Ow) : Ow := a ++ b
def Ow.ok (a : Ow) : Prop := ∀ x ∈ a, x.1 = x.2
def Ow.le (a b : Ow) : Prop := ∃ x, b = a ++ x
theorem Ow.le.refl (a : Ow) : a.le a := ⟨[], by simp⟩
theorem Ow.le.trans {a b c : Ow} (h : a.le b) (k : b.le c) : a.le c := by
 obtain ⟨x, h1⟩ := h
 obtain ⟨z, k1⟩ := k
 exact ⟨x ++ z, by rw [k1, h1, List.append_assoc]⟩
theorem Ow.le.ok {a b : Ow} (h : a.le b) (k : b.ok) : a.ok := by
 obtain ⟨x, h1⟩ := h
 exact fun q hq => k q (by rw [h1]; exact List.mem_append_left _ hq)
theorem Ow.gu (a b : Ow) : a.le (a.app b) := ⟨_, rfl⟩
theorem Ow.nT {a b : Ow} (h : (a.app b).ok) : b.ok := fun q hq => h q (List.mem_append_right _ hq)
theorem Ow.CY : Ow.nil.ok := fun _ h => (by cases h)
structure CH where
 call : {R : Type} → FuncId → LA_ → Mem → (fR → Mem → Ow → Option R) → Option R
 nat : ∀ {R : Type} (g : FuncId) (args : LA_) (σ : Mem) (k : fR → Mem → Ow → Option R),
  call g args σ k = (call g args σ fun r σ' o => some (r, σ', o)).bind fun x => k x.1 x.2.1 x.2.2
 ext : FuncId → Bool
 pf : FuncId → Nat
open Classical in
def CH.H (ch : CH) : bO := fun g args σ =>
 match ch.call g args σ fun r σ' o => some (r, σ', o) with
 | some (r, σ', o) => if o.ok then some (r, σ') else none
 | none => none
def CH.Hb (ch : CH) : bO := fun g args σ =>
 match ch.call g args σ fun r σ' o => some (r, σ', o) with
 | some (r, σ', []) => some (r, σ')
 | _ => none
theorem CH.Tj {ch : CH} {g : FuncId} {args : LA_} {σ : Mem} {x : fR × Mem} (h : ch.Hb g args σ = some x) : ch.H g args σ = some x := by
 unfold CH.Hb at h
 split at h
 ·rename_i r σ' hx
  simp only [CH.H, hx]
  rw [if_pos (show Ow.ok [] from Ow.CY)]
  exact h
 ·cases h
def aE (P : Program) (ch : CH) : Prop := ir P ch.H ∧ (∀ g args σ r σ', ch.ext g = true → ch.H g args σ = some (r, σ') → Ext σ σ') ∧ fk ch.pf ch.H
theorem CH.cJ {ch : CH} {R : Type} {g : FuncId} {args : LA_} {σ : Mem} {k : fR → Mem → Ow → Option R} {x : R} (h : ch.call g args σ k = some x) :
  ∃ r σ' o, k r σ' o = some x ∧ (o.ok → ch.H g args σ = some (r, σ')) := by
 rw [ch.nat] at h
 obtain ⟨⟨r, σ', o⟩, h1, h2⟩ := bE_ h
 exact ⟨r, σ', o, h2, fun ho => by simp only [CH.H, h1, if_pos ho]⟩
def af {R : Type} (c : Bool) (x : Option R) : Option R :=
 match c with
 | true => x
 | false => none
theorem aH {R : Type} {c : Bool} {x : Option R} {r : R} (h : af c x = some r) : c = true ∧ x = some r := by
 cases c with
 | true => exact ⟨rfl, h⟩
 | false => cases h
@[simp] theorem az {R : Type} (x : Option R) : af true x = x := rfl
@[simp] theorem T4 {R : Type} (x : Option R) : af false x = none := rfl
def OK {R : Type} (v : ab) (k : ab → Option R) : Option R :=
 match v with
 | .bool b => cond b (k (.bool true)) (k (.bool false))
 | v => k v
theorem Ji {R : Type} (v : ab) (k : ab → Option R) : OK v k = k v := by
 cases v <;> try rfl
 case bool b => cases b <;> rfl
def ac (cs : LA_) (i : Nat) : Int := match cs[i]? with
 | some (.int _ n) => n
 | _ => 0
def Tk (cs : LA_) (i : Nat) : Bool := match cs[i]? with
 | some (.bool b) => b
 | _ => false
def Tl (cs : LA_) (i : Nat) : ByteArray := match cs[i]? with
 | some (.str s) => s
 | _ => ⟨#[]⟩
def isK : TK → Option ab → Bool
 | .int k, some (.int l _) => decide (k = l)
 | .bool, some (.bool _) => true
 | .str, some (.str _) => true
 | _, _ => false
def aq : List TK → LA_ → Nat → Bool
 | [], _, _ => true
 | k :: ks, cs, o => isK k (cs[o]?) && aq ks cs (o + 1)
def Dr (k : TK) (cs : LA_) (i : Nat) : ab :=
 match k with
 | .int k => .int k (ac cs i)
 | .bool => .bool (Tk cs i)
 | .str => .str (Tl cs i)
 | _ => .tup []
def t6 (cs : LA_) (o : Nat) : List TK → Nat → LA_
 | [], _ => []
 | k :: ks, j => Dr k cs (o + j) :: t6 cs o ks (j + 1)
theorem P4 {k : TK} {cs : LA_} {i : Nat} (h : isK k (cs[i]?) = true) : cs[i]? = some (Dr k cs i) := by
 cases hc : cs[i]? with
 | none => rw [hc] at h; cases k <;> cases h
 | some v =>
  rw [hc] at h
  cases k <;> cases v <;> simp only [isK, Bool.false_eq_true, decide_eq_true_eq] at h
  ·subst h; simp [Dr, ac, hc]
  ·simp [Dr, Tk, hc]
  ·simp [Dr, Tl, hc]
theorem zb {cs : LA_} {o : Nat} : ∀ {ks : List TK} {j : Nat}, aq ks cs (o + j) = true → (cs.drop (o + j)).take ks.length = t6 cs o ks j ∧ o + j + ks.length ≤ cs.length ∨ ks = []
 | [], j, _ => .inr rfl
 | k :: ks, j, h => by
  simp only [aq, Bool.and_eq_true] at h
  have h1 := P4 h.1
  have hl := (List.getElem?_eq_some_iff.1 h1).1
  refine .inl ?_
  have hd : cs.drop (o + j) = Dr k cs (o + j) :: cs.drop (o + j + 1) := by
   rw [List.drop_eq_getElem_cons hl]
   congr 1
   exact (List.getElem?_eq_some_iff.1 h1).2
  rcases zb (j := j + 1) h.2 with ⟨i1, i2⟩ | rfl
  ·refine ⟨?_, by simp only [List.length_cons]; omega⟩
   rw [hd]
   simp only [List.length_cons, List.take_succ_cons, t6]
   congr 1
  ·refine ⟨?_, by simp only [List.length_cons, List.length_nil]; omega⟩
   rw [hd]
   simp [t6]
def OL (i : TyI) : Option (List TK) := if i.agg then i.flat else match i.k with
 | .slice _ => none
 | k => some [k]
def xj {R : Type} (T : av) (σ : Mem) (t : TypeId) (x : ab) (k : ab → Option R) : Option R :=
 match x with
 | .ptr b o =>
  match T t, σ.get b with
  | some i, some (.vec cs _ _ _) => match OL i with
   | some ks => if ks.length = i.size ∧ ks ≠ [] then af (aq ks cs o) (k (if i.agg then .agg (t6 cs o ks 0) else (t6 cs o ks 0).headD (.tup []))) else none
   | none => match qE T σ t (.ptr b o) with
    | some v => k v
    | none => none
  | some _, some (.cells _ _ _) => match qE T σ t (.ptr b o) with
   | some v => k v
   | none => none
  | _, _ => none
 | _ => none
theorem Hj {R : Type} {T : av} {σ : Mem} {t : TypeId} {x : ab} {k : ab → Option R} {r : R} (h : xj T σ t x k = some r) : ∃ v, qE T σ t x = some v ∧ k v = some r := by
 unfold xj at h
 split at h
 ·rename_i b o
  split at h
  ·rename_i i cs _ _ _ hT hg
   split at h
   ·rename_i ks hks
    split at h
    ·rename_i hl
     obtain ⟨h1, h2⟩ := aH h
     refine ⟨_, ?_, h2⟩
     rcases zb (o := o) (j := 0) (ks := ks) h1 with ⟨q1, q2⟩ | q
     ·simp only [Nat.add_zero] at q1 q2
      have hc : cV σ b o i.size = some (t6 cs o ks 0) := by
       simp only [cV, hg]
       rw [if_pos (by omega), ← hl.1, q1]
      simp only [qE, hT, hc]
      split
      ·rfl
      ·cases ks with
       | nil => exact absurd rfl hl.2
       | cons a l => rfl
     ·exact absurd q hl.2
    ·cases h
   ·split at h
    ·rename_i v hv; exact ⟨v, hv, h⟩
    ·cases h
  ·split at h
   ·rename_i v hv; exact ⟨v, hv, h⟩
   ·cases h
  ·cases h
 ·cases h
def II {R : Type} (T : av) (σ : Mem) (t : TypeId) (x i : ab) (k : ab → Option R) : Option R :=
 match T t, x, i with
 | some { k := .slice e, .. }, .vec b, .int _ n =>
  match T e, σ.get b with
  | some j, some (.vec _ l _ _) => af (decide (0 ≤ n) && decide (n < (l : Int))) (k (.ptr b (n.toNat * j.size)))
  | _, _ => none
 | some { k := .slice e, .. }, .slice b o l _ _, .int _ n =>
  match T e with
  | none => none
  | some j => af (decide (0 ≤ n) && decide (n < (l : Int))) (k (.ptr b (o + n.toNat * j.size)))
 | some { k := .arr l e, .. }, .ptr b o, .int _ n =>
  match T e with
  | none => none
  | some j => af (decide (0 ≤ n) && decide (n < (l : Int))) (k (.ptr b (o + n.toNat * j.size)))
 | _, _, _ => none
theorem OM {R : Type} {T : av} {σ : Mem} {t : TypeId} {x i : ab} {k : ab → Option R} {r : R} (h : II T σ t x i k = some r) : ∃ v, dE T σ t x i = some v ∧ k v = some r := by
 unfold II at h
 split at h
 ·rename_i hT
  split at h
  ·rename_i hTe hg
   obtain ⟨h1, h2⟩ := aH h
   simp only [Bool.and_eq_true, decide_eq_true_eq] at h1
   exact ⟨_, by simp only [dE, hT, hTe, hg]; rw [if_pos h1], h2⟩
  ·cases h
 ·rename_i hT
  split at h
  ·cases h
  ·rename_i hTe
   obtain ⟨h1, h2⟩ := aH h
   simp only [Bool.and_eq_true, decide_eq_true_eq] at h1
   exact ⟨_, by simp only [dE, hT, hTe]; rw [if_pos h1], h2⟩
 ·rename_i hT
  split at h
  ·cases h
  ·rename_i hTe
   obtain ⟨h1, h2⟩ := aH h
   simp only [Bool.and_eq_true, decide_eq_true_eq] at h1
   exact ⟨_, by simp only [dE, hT, hTe]; rw [if_pos h1], h2⟩
 ·cases h
def IJ {R : Type} (T : av) (σ : Mem) (t : TypeId) (s x : ab) (k : ab → Mem → Option R) : Option R :=
 match T t with
 | some { k := .slice e, .. } =>
  match T e with
  | none => none
  | some j =>
   match bS σ j.size s, bS σ j.size x with
   | some (cs, l), some (ds, m) =>
    if j.size = 0 ∨ j.bytes = 0 then none else
    af (decide (2 * (l + m) * j.bytes ≤ 2 ^ 48)) (match Dg σ j cs l ds m s x with
     | some (v, σ') => k v σ'
     | none => none)
   | _, _ => none
 | _ => none
theorem ON {R : Type} {T : av} {σ : Mem} {t : TypeId} {s x : ab} {k : ab → Mem → Option R} {r : R} (h : IJ T σ t s x k = some r) : ∃ v σ', pm T σ t s x = some (v, σ') ∧ k v σ' = some r := by
 unfold IJ at h
 split at h
 ·rename_i hT
  split at h
  ·cases h
  ·rename_i hTe
   split at h
   ·rename_i hcs hds
    split at h
    ·cases h
    ·rename_i hz
     obtain ⟨h1, h2⟩ := aH h
     simp only [decide_eq_true_eq] at h1
     split at h2
     ·rename_i v σ' hb
      refine ⟨v, σ', ?_, h2⟩
      simp only [pm, hT, hTe, hcs, hds]
      rw [if_neg (by rintro (q | q | q); exact hz (.inl q); exact hz (.inr q); omega), hb]
     ·cases h2
   ·cases h
 ·cases h
def FN {R : Type} (T : av) (c : Bool) (op : BinOp) (t : TypeId) (x y : ab) (k : ab → Option R) : Option R :=
 match op, x, y with
 | .quo, .int κ a, .int l b => if κ = l then af (!decide (b = 0)) (k (.int κ (κ.wrap (a.tdiv b)))) else none
 | .rem, .int κ a, .int l b => if κ = l then af (!decide (b = 0)) (k (.int κ (a.tmod b))) else none
 | .shl, .int κ a, .int _ b => af (!decide (b < 0)) (k (.int κ (κ.wrap (a * 2 ^ (min b.toNat κ.bits)))))
 | .shr, .int κ a, .int _ b => af (!decide (b < 0)) (k (.int κ (a.fdiv (2 ^ (min b.toNat κ.bits)))))
 | op, x, y => match xX T c op t x y with
  | some v => k v
  | none => none
def Ds {R : Type} (T : av) (σ : Mem) (t : TypeId) (n : Int) (k : ab → Mem → Option R) : Option R :=
 match T t with
 | some { k := .slice e, .. } =>
  match T e with
  | none => none
  | some j => af (J3 j n) (k (.slice σ.next 0 n.toNat true n.toNat) (σ.push (.cells (times j.zero n.toNat) true (some j.size))))
 | _ => none
theorem Ni {R : Type} {T : av} {σ : Mem} {t : TypeId} {n : Int} {k : ab → Mem → Option R} {r : R} (h : Ds T σ t n k = some r) : ∃ v σ', De T σ t n = some (v, σ') ∧ k v σ' = some r := by
 unfold Ds at h
 unfold De
 split at h
 ·rename_i e hT
  split at h
  ·cases h
  ·rename_i j hj
   obtain ⟨h1, h2⟩ := aH h
   exact ⟨_, _, by simp only [hT, hj, h1, cond_true], h2⟩
 ·cases h
def xk (σ : Mem) : ab → Option (LA_)
 | .vec i => match σ.get i with
  | some (.vec cs _ _ _) => some cs
  | _ => none
 | _ => none
def Nj (T : av) (σ : Mem) (op : BinOp) (t : TypeId) (x y : ab) : Option (LA_ × ab) :=
 cond (GG (T t)) (match (cond (gW x) (xk σ y) (cond (gW y) (xk σ x) none)), op with
  | some cs, .eql => some (cs, .bool false)
  | some cs, .neq => some (cs, .bool true)
  | _, _ => none) none
theorem Hk {σ : Mem} {x : ab} {cs : LA_} (h : xk σ x = some cs) (hc : (!cs.isEmpty) = true) : jt σ x = true := by
 unfold xk at h
 split at h
 ·split at h
  ·rename_i hg
   cases h
   cases cs with
   | nil => cases hc
   | cons a l => simp only [jt, hg]
  ·cases h
 ·cases h
theorem OO {T : av} {σ : Mem} {op : BinOp} {t : TypeId} {x y : ab} {cs : LA_} {v : ab} (h : Nj T σ op t x y = some (cs, v)) (hc : (!cs.isEmpty) = true) : CD T σ op t x y = some v := by
 unfold Nj at h
 cases hs : GG (T t) with
 | false => rw [hs] at h; cases h
 | true =>
  rw [hs] at h
  simp only [cond_true] at h
  have key : ∀ {o : Option (LA_)}, o = (cond (gW x) (xk σ y) (cond (gW y) (xk σ x) none)) → ∀ l, o = some l → (!l.isEmpty) = true → ((gW x && jt σ y) || (jt σ x && gW y)) = true := by
   intro o ho l hl hlc
   rw [ho] at hl
   cases hx : gW x with
   | true => rw [hx] at hl; simp only [cond_true] at hl; simp [Hk hl hlc]
   | false =>
    rw [hx] at hl
    simp only [cond_false] at hl
    cases hy : gW y with
    | true => rw [hy] at hl; simp only [cond_true] at hl; simp [Hk hl hlc]
    | false => rw [hy] at hl; cases hl
  split at h
  ·rename_i l hl
   simp only [Option.some.injEq, Prod.mk.injEq] at h
   obtain ⟨rfl, rfl⟩ := h
   simp only [CD, key rfl _ hl hc, hs, Bool.and_self, cond_true]
  ·rename_i l hl
   simp only [Option.some.injEq, Prod.mk.injEq] at h
   obtain ⟨rfl, rfl⟩ := h
   simp only [CD, key rfl _ hl hc, hs, Bool.and_self, cond_true]
  ·cases h
def Dt {R : Type} (T : av) (σ : Mem) (c n : Bool) (op : BinOp) (t : TypeId) (x y : ab) (k : ab → Option R) : Option R :=
 cond n (match Nj T σ op t x y with
  | some q => af (!q.1.isEmpty) (k q.2)
  | none => FN T c op t x y k) (FN T c op t x y k)
theorem Jj {R : Type} {T : av} {c : Bool} {op : BinOp} {t : TypeId} {x y : ab} {k : ab → Option R} {r : R} (h : FN T c op t x y k = some r) : ∃ v, xX T c op t x y = some v ∧ k v = some r := by
 unfold FN at h
 split at h
 ·rename_i κ a l b
  split at h
  ·rename_i hk
   obtain ⟨h1, h2⟩ := aH h
   have h1' : ¬ b = 0 := by simpa using h1
   exact ⟨_, by simp only [xX, hk, if_true, An]; rw [if_neg h1'], by rw [← hk]; exact h2⟩
  ·cases h
 ·rename_i κ a l b
  split at h
  ·rename_i hk
   obtain ⟨h1, h2⟩ := aH h
   have h1' : ¬ b = 0 := by simpa using h1
   exact ⟨_, by simp only [xX, hk, if_true, An]; rw [if_neg h1'], by rw [← hk]; exact h2⟩
  ·cases h
 ·obtain ⟨h1, h2⟩ := aH h
  refine ⟨_, ?_, h2⟩
  simp only [xX, yY]
  rw [if_neg (by simpa using h1)]
 ·obtain ⟨h1, h2⟩ := aH h
  refine ⟨_, ?_, h2⟩
  simp only [xX, yY]
  rw [if_neg (by simpa using h1)]
 ·split at h
  ·rename_i v hv; exact ⟨v, hv, h⟩
  ·cases h
theorem Nk {R : Type} {T : av} {σ : Mem} {c n : Bool} {op : BinOp} {t : TypeId} {x y : ab} {k : ab → Option R} {r : R} (h : Dt T σ c n op t x y k = some r) : ∃ v, CE T σ c n op t x y = some v ∧ k v = some r := by
 unfold Dt at h
 cases n with
 | false => obtain ⟨v, h1, h2⟩ := Jj h; exact ⟨v, h1, h2⟩
 | true =>
  simp only [cond_true] at h
  split at h
  ·rename_i q hv
   obtain ⟨h1, h2⟩ := aH h
   exact ⟨q.2, by simp only [CE, cond_true, OO hv h1], h2⟩
  ·rename_i hv
   obtain ⟨v, h1, h2⟩ := Jj h
   cases hb : CD T σ op t x y with
   | none => exact ⟨v, by simp only [CE, cond_true, hb]; exact h1, h2⟩
   | some u =>
    exfalso
    simp only [CD] at hb
    have hcs : ∀ {c : Bool} {z : Option ab}, cond c z none = some u → c = true ∧ z = some u := by
     intro c z hz
     cases c with
     | true => exact ⟨rfl, hz⟩
     | false => cases hz
    obtain ⟨q1, q2⟩ := hcs hb
    simp only [Bool.and_eq_true, Bool.or_eq_true] at q1
    have full : ∀ {z : ab}, jt σ z = true → ∃ cs, xk σ z = some cs := by
     intro z hz
     unfold jt at hz
     split at hz
     ·split at hz
      ·rename_i hg; exact ⟨_, (by simp only [xk, hg]; rfl)⟩
      ·cases hz
     ·cases hz
    simp only [Nj, q1.2, cond_true] at hv
    rcases q1.1 with ⟨a, b⟩ | ⟨a, b⟩
    ·obtain ⟨cs, hcs⟩ := full b
     simp only [a, cond_true, hcs] at hv
     split at q2 <;> simp_all
    ·obtain ⟨cs, hcs⟩ := full a
     cases hx : gW x with
     | true =>
      unfold gW at hx
      split at hx
      ·simp [jt] at a
      ·cases hx
     | false =>
      simp only [hx, cond_false, b, cond_true, hcs] at hv
      split at q2 <;> simp_all
def Du {R : Type} (T : av) (σ : Mem) (t : TypeId) (x k v : ab) (K : Mem → Option R) : Option R := none
theorem Lc {R : Type} {T : av} {σ : Mem} {t : TypeId} {x k v : ab} {K : Mem → Option R} {r : R} (h : Du T σ t x k v K = some r) : ∃ σ', uV T σ t x k v = some σ' ∧ K σ' = some r := by cases h
def Ka {R : Type} (T : av) (σ : Mem) (t : TypeId) (x k : ab) (ok : Bool) (K : ab → Option R) : Option R := none
theorem Nl {R : Type} {T : av} {σ : Mem} {t : TypeId} {x k : ab} {ok : Bool} {K : ab → Option R} {r : R} (h : Ka T σ t x k ok K = some r) : ∃ v, uU T σ t x k ok = some v ∧ K v = some r := by cases h
def zc {R : Type} (T : av) (σ : Mem) (t : TypeId) (x v : ab) (k : Mem → Option R) : Option R :=
 match T t, x with
 | some i, .ptr b o =>
  match σ.get b with
  | some (.vec cs n sz true) => if v.cellsOf.length = i.size ∧ v.mQ = false ∧ scC 0 v.cellsOf = true then
    af (decide (o + v.cellsOf.length ≤ cs.length)) (k (σ.set b (.vec (spliced cs o v.cellsOf) n sz true))) else none
  | some (.cells _ _ _) => match kR T σ t (.ptr b o) v with
   | some σ' => k σ'
   | none => none
  | _ => none
 | _, _ => none
theorem L0 {R : Type} {T : av} {σ : Mem} {t : TypeId} {x v : ab} {k : Mem → Option R} {r : R} (h : zc T σ t x v k = some r) : ∃ σ', kR T σ t x v = some σ' ∧ k σ' = some r := by
 unfold zc at h
 split at h
 ·rename_i i b o hT
  split at h
  ·rename_i cs n sz hg
   split at h
   ·rename_i hc
    obtain ⟨h1, h2⟩ := aH h
    rw [decide_eq_true_eq] at h1
    refine ⟨_, ?_, h2⟩
    simp only [kR, hT]
    rw [if_pos ⟨hc.1, hc.2.1⟩]
    simp only [dW, hg]
    rw [if_pos ⟨h1, hc.2.2⟩]
   ·cases h
  ·split at h
   ·rename_i σ' hs; exact ⟨σ', hs, h⟩
   ·cases h
  ·cases h
 ·cases h
def dS (s : ByteArray) (i : Nat) : Int := match s[i]? with
 | some b => b.toNat
 | none => 0
def ixK {R : Type} (T : av) (t : TypeId) (x i : ab) (k : ab → Option R) : Option R :=
 match T t, x, i with
 | some { k := .str, .. }, .str s, .int _ n => af (decide (0 ≤ n) && decide (n < (s.size : Int))) (k (.int .u8 (dS s n.toNat)))
 | some { k := .arr l e, .. }, .agg cs, .int _ n => (match T e with
  | some j => (match OL j with
   | some ks => if ks.length = j.size ∧ ks ≠ [] then af (decide (0 ≤ n) && decide (n < (l : Int)) && aq ks cs (n.toNat * j.size)) (k (if j.agg then .agg (t6 cs (n.toNat * j.size) ks 0) else (t6 cs (n.toNat * j.size) ks 0).headD (.tup []))) else none
   | none => (match tc T t x i with
    | some v => k v
    | none => none))
  | none => none)
 | _, x, i => match tc T t x i with
  | some v => k v
  | none => none
theorem P5 {R : Type} {T : av} {t : TypeId} {x i : ab} {k : ab → Option R} {r : R} (h : ixK T t x i k = some r) : ∃ v, tc T t x i = some v ∧ k v = some r := by
 unfold ixK at h
 split at h
 ·rename_i hT
  obtain ⟨h1, h2⟩ := aH h
  rw [Bool.and_eq_true, decide_eq_true_eq, decide_eq_true_eq] at h1
  refine ⟨_, ?_, h2⟩
  simp only [tc, hT]
  rw [if_pos h1.1]
  rename_i s _ n
  have hn : n.toNat < s.size := by omega
  unfold dS
  rw [getElem?_pos s n.toNat hn]
  rfl
 ·rename_i l e cs kn n hT
  split at h
  ·rename_i j hj
   split at h
   ·rename_i ks hks
    split at h
    ·rename_i hl
     obtain ⟨h1, h2⟩ := aH h
     simp only [Bool.and_eq_true, decide_eq_true_eq] at h1
     refine ⟨_, ?_, h2⟩
     simp only [tc, hT, hj]
     rw [if_pos h1.1]
     rcases zb (o := n.toNat * j.size) (j := 0) (ks := ks) h1.2 with ⟨q1, q2⟩ | q
     ·simp only [Nat.add_zero] at q1 q2
      simp only [GH, hj]
      split
      ·rw [hl.1] at q1; rw [q1]
      ·cases ks with
       | nil => exact absurd rfl hl.2
       | cons a r =>
        have e1 : (cs.drop (n.toNat * j.size)).take (r.length + 1) = t6 cs (n.toNat * j.size) (a :: r) 0 := q1
        have e2 := congrArg List.head? e1
        rw [List.head?_take] at e2
        simp only [Nat.add_one_ne_zero, if_false, List.head?_drop] at e2
        rw [e2]
        rfl
     ·exact absurd q hl.2
    ·cases h
   ·split at h
    ·rename_i v hv; exact ⟨v, hv, h⟩
    ·cases h
  ·cases h
 ·split at h
  ·rename_i v hv; exact ⟨v, hv, h⟩
  ·cases h
def opK {R : Type} (T : av) (ch : CH) (op : Op) (tm : LA_) (σ : Mem) (k : cP → Mem → Ow → Option R) : Option R :=
  match op with
  | .call { callee := .value f, args, argTypes } => match ev tm f, evL tm args.toList with
    | some (.func g fs cs), some vs => cond (ot f argTypes.toList)
      (cond (sc 0 (.func g fs cs) && scL 0 vs) (ch.call g (fs ++ vs ++ cs) ⟨0, []⟩ fun r σ' o => match r with
        | .ret v => cond (w9 σ' ⟨0, []⟩ && sc 0 v) (k (.val v) σ o) none
        | .pan _ => none) none)
      (ch.call g (fs ++ vs ++ cs) σ fun r σ' o => match r with
        | .ret v => k (.val v) σ' o
        | .pan v => k (.pan v) σ' o)
    | _, _ => none
  | .call { callee := .builtin .append, args, argTypes } => match argTypes.toList, evL tm args.toList with
    | [t, u], some [s, x] => match T u with
      | some { k := .slice _, .. } => IJ T σ t s x fun v σ' => k (.val v) σ' .nil
      | _ => none
    | _, _ => none
  | .load t x => match ev tm x with
    | some a => xj T σ t a fun v => k (.val v) σ .nil
    | none => none
  | .indexAddr t x i => match ev tm x, ev tm i with
    | some a, some b => II T σ t a b fun v => k (.val v) σ .nil
    | _, _ => none
  | .store t x y => match ev tm x, ev tm y with
    | some a, some v => zc T σ t a v fun σ' => k .skip σ' .nil
    | _, _ => none
  | .index t x i => match ev tm x, ev tm i with
    | some a, some b => ixK T t a b fun v => k (.val v) σ .nil
    | _, _ => none
  | .binOp o t x y _ => match ev tm x, ev tm y with
    | some a, some b => Dt T σ (mP x || mP y) (nR x || nR y) o t a b fun v => k (.val v) σ .nil
    | _, _ => none
  | .mapUpdate t m kx x => match ev tm m, ev tm kx, ev tm x with
    | some a, some b, some v => Du T σ t a b v fun σ' => k .skip σ' .nil
    | _, _, _ => none
  | .makeSlice t l c => match J4 l c, ev tm l with
    | true, some (.int _ n) => Ds T σ t n fun v σ' => k (.val v) σ' .nil
    | _, _ => none
  | .lookup t x kx ok => match ev tm x, ev tm kx with
    | some a, some b => Ka T σ t a b ok fun v => k (.val v) σ .nil
    | _, _ => none
  | op => match aN T Do op tm σ with
    | some (r, σ') => k r σ' .nil
    | none => none
theorem JZ {T : av} {H : bO} {op : Op} {tm : LA_} {σ : Mem} {r : cP × Mem} (h : aN T Do op tm σ = some r) : aN T H op tm σ = some r := by
 unfold aN at h ⊢
 split at h <;> first | exact h | skip
 split at h
 ·rename_i g vs _ _
  have hn : ∀ σ, gE Do σ g vs = none := fun σ => by
   cases g <;> simp [gE, Do]
  simp only [qG, hn] at h
  generalize ot _ _ = b at h
  cases b
  ·cases h
  ·simp only [cond_true] at h
   generalize (sc 0 g && scL 0 vs) = c at h
   cases c <;> cases h
 ·cases h
theorem P6 {R : Type} {T : av} {ch : CH} {op : Op} {tm : LA_} {σ : Mem} {k : cP → Mem → Ow → Option R} {r : R} (h : opK T ch op tm σ k = some r) :
  ∃ x σ' o, k x σ' o = some r ∧ (o.ok → aN T ch.H op tm σ = some (x, σ')) := by
 unfold opK at h
 split at h
 ·rename_i f args ats
  split at h
  ·rename_i g fs cs vs hf hvs
   cases hd : ot f ats.toList with
   | false =>
    rw [hd] at h
    obtain ⟨r1, σ', o, h1, h2⟩ := CH.cJ h
    cases r1 with
    | ret v => exact ⟨_, _, _, h1, fun ho => by simp only [aN, hf, hvs, qG, cond_false, gE, h2 ho, hd]⟩
    | pan v => exact ⟨_, _, _, h1, fun ho => by simp only [aN, hf, hvs, qG, cond_false, gE, h2 ho, hd]⟩
   | true =>
    rw [hd] at h
    simp only [cond_true] at h
    cases e1 : (sc 0 (.func g fs cs) && scL 0 vs) with
    | false => rw [e1] at h; cases h
    | true =>
     rw [e1] at h
     obtain ⟨r1, σ', o, h1, h2⟩ := CH.cJ h
     cases r1 with
     | ret v =>
      simp only at h1
      cases e2 : (w9 σ' ⟨0, []⟩ && sc 0 v) with
      | false => rw [e2] at h1; cases h1
      | true =>
       rw [e2] at h1
       simp only [Bool.and_eq_true] at e1 e2
       refine ⟨_, _, _, h1, fun ho => ?_⟩
       simp only [aN, hf, hvs, hd]
       exact Iw (by simp only [gE, h2 ho, KA e2.1]) e2.2 e1.1 e1.2
     | pan v => cases h1
  ·cases h
 ·split at h
  ·rename_i hts hvs
   split at h
   ·rename_i hTu
    obtain ⟨v, σ', h1, h2⟩ := ON h
    exact ⟨_, _, _, h2, fun _ => by simp only [aN, hvs, hts, iY, hTu, h1, Option.map_some]⟩
   ·cases h
  ·cases h
 ·split at h
  ·rename_i hx
   obtain ⟨v, h1, h2⟩ := Hj h
   exact ⟨_, _, _, h2, fun _ => by simp only [aN, hx, h1, Option.map_some]⟩
  ·cases h
 ·split at h
  ·rename_i hx hi
   obtain ⟨v, h1, h2⟩ := OM h
   exact ⟨_, _, _, h2, fun _ => by simp only [aN, hx, hi, h1, Option.map_some]⟩
  ·cases h
 ·split at h
  ·rename_i hx hv
   obtain ⟨σ', h1, h2⟩ := L0 h
   exact ⟨_, _, _, h2, fun _ => by simp only [aN, hx, hv, h1, Option.map_some]⟩
  ·cases h
 ·split at h
  ·rename_i hx hi
   obtain ⟨v, h1, h2⟩ := P5 h
   exact ⟨_, _, _, h2, fun _ => by simp only [aN, hx, hi, h1, Option.map_some]⟩
  ·cases h
 ·split at h
  ·rename_i hx hi
   obtain ⟨v, h1, h2⟩ := Nk h
   exact ⟨_, _, _, h2, fun _ => by simp only [aN, hx, hi, h1, Option.map_some]⟩
  ·cases h
 ·split at h
  ·rename_i hx hi hv
   obtain ⟨v, h1, h2⟩ := Lc h
   exact ⟨_, _, _, h2, fun _ => by simp only [aN, hx, hi, hv, h1, Option.map_some]⟩
  ·cases h
 ·split at h
  ·rename_i hs hx
   obtain ⟨v, σ', h1, h2⟩ := Ni h
   exact ⟨_, _, _, h2, fun _ => by simp only [aN, hs, hx, h1, Option.map_some]⟩
  ·cases h
 ·split at h
  ·rename_i hx hi
   obtain ⟨v, h1, h2⟩ := Nl h
   exact ⟨_, _, _, h2, fun _ => by simp only [aN, hx, hi, h1, Option.map_some]⟩
  ·cases h
 ·split at h
  ·rename_i hx
   exact ⟨_, _, _, h, fun _ => JZ hx⟩
  ·cases h
def ck {R : Type} (T : av) (ch : CH) (all : List Oper) (o : Oper) (s : St) (k : ab → Mem → Ow → Option R) (kp : ab → Mem → Ow → Option R) (kd : l9 → Mem → Ow → Option R) : Option R :=
 if gj all o s.tm then none else if bo all o s.tm then
  opK T ch o.op s.tm s.mem fun r σ ow => match r with
   | .val v => OK v fun v => k v σ ow
   | .skip => k (.tup []) σ ow
   | .pan v => kp v σ ow
   | .dfr d => kd d σ ow
 else k (.tup []) s.mem .nil
def runK {R : Type} (T : av) (ch : CH) (all : List Oper) : List Oper → St → Ow → (St → Ow → Option R) → (ab → St → Ow → Option R) → Option R
  | [], s, ow, k, _ => k s ow
  | o :: r, s, ow, k, kp => ck T ch all o s (fun v σ o' => runK T ch all r ⟨bR s.tm o.dst v, s.df, σ⟩ (ow.app o') k kp) (fun v σ o' => kp v ⟨s.tm, s.df, σ⟩ (ow.app o'))
    (fun d σ o' => runK T ch all r ⟨bR s.tm o.dst (.tup []), d :: s.df, σ⟩ (ow.app o') k kp)
def trK {R : Type} (T : av) (ch : CH) (all : List Oper) : List Oper → St → Ow → (List (St × ab) → St → Ow → Option R) → (List (St × ab) → St → ab → Mem → Ow → Option R) → Option R
  | [], s, ow, k, _ => k [] s ow
  | o :: r, s, ow, k, kp => ck T ch all o s (fun v σ o' => trK T ch all r ⟨bR s.tm o.dst v, s.df, σ⟩ (ow.app o') (fun l e ow' => k ((s, v) :: l) e ow') (fun l e u σ' ow' => kp ((s, v) :: l) e u σ' ow'))
    (fun v σ o' => kp [] s v σ (ow.app o')) (fun _ _ _ => none)
def Dv (ch : CH) (o : Oper) (tm : LA_) : Bool :=
 match o.op with
 | .alloc _ | .box .. | .buildSlice .. => true
 | .makeMap _ none => true
 | .panic _ => true
 | .call { callee := .value f, .. } => match ev tm f with
  | some (.func g _ _) => ch.ext g
  | _ => false
 | _ => !cn ch.pf o
def oU (bs : List Nat) (σ σ' : Mem) : Prop := σ.next ≤ σ'.next ∧ ∀ i, i < σ.next → bs.contains i = false → σ'.get i = σ.get i
theorem oU.refl (σ : Mem) : oU [] σ σ := ⟨Nat.le_refl _, fun _ _ _ => rfl⟩
theorem oU.trans {x y : List Nat} {a b c : Mem} (h : oU x a b) (k : oU y b c) : oU (x ++ y) a c := by
 refine ⟨Nat.le_trans h.1 k.1, fun i hi hc => ?_⟩
 have h1 : x.contains i = false ∧ y.contains i = false := by
  simp only [List.contains_eq_mem, List.mem_append, decide_eq_false_iff_not, not_or] at hc ⊢
  exact hc
 exact (k.2 i (Nat.lt_of_lt_of_le hi h.1) h1.2).trans (h.2 i hi h1.1)
def Ld (ch : CH) (all : List Oper) (o : Oper) (tm : LA_) : Option (List Nat) :=
 match !(bo all o tm) || Dv ch o tm with
 | true => some []
 | false => match o.op with
  | .store _ x _ => match ev tm x with
   | some (.ptr b _) => some [b]
   | _ => none
  | .mapUpdate _ m _ _ => match ev tm m with
   | some (.map b) => some [b]
   | _ => none
  | .call { callee := .builtin .append, args, .. } => match evL tm args.toList with
   | some [.vec b, _] => some [b]
   | _ => none
  | _ => none
def qP (ch : CH) (all : List Oper) : List Oper → List (St × ab) → List (Option (List Nat))
 | o :: r, (s, _) :: tr => Ld ch all o s.tm :: qP ch all r tr
 | _, _ => []
def Dw : List (Option (List Nat)) → Option (List Nat)
 | [] => some []
 | some l :: r => match Dw r with
  | some m => some (l ++ m)
  | none => none
 | none :: _ => none
def Mo (es : List (Option (List Nat))) (i c : Nat) : Option (List Nat) := Dw ((es.drop (min i c)).take (max i c - min i c))
def Le (es : List (Option (List Nat))) (op : Op) (tm : LA_) (n i c : Nat) : Bool :=
 match Mo es i c with
 | some bs => AS op tm fun x => decide (x < n) && !bs.contains x
 | none => false
def P7 (p : Option ab × Option ab) : Option ab × Option ab := match p.2 with
 | some v => (p.1, some v)
 | none => (none, some (.tup []))
theorem Mp {p : Option ab × Option ab} (h : (P7 p).1 = (P7 p).2) : ∃ v, p.1 = some v ∧ p.2 = some v := by
 obtain ⟨x, y⟩ := p
 cases y with
 | some v => exact ⟨v, h, rfl⟩
 | none => cases h
def qQ (pf : FuncId → Nat) (T : av) (H : bO) (all : List Oper) (es : List (Option (List Nat))) (mems : List Mem) : List Oper → Nat → List (List Nat) → List (St × ab) → List (Option ab × Option ab)
 | o :: r, i, cs :: ps, (s, _) :: tr => (if bo all o s.tm then (cs.filter fun c => !(decide (c < mems.length) && Le es o.op s.tm (min s.mem.next (mems.getD c ⟨0, []⟩).next) i c)).map fun c => P7 ((mems[c]?).bind fun σ => (aN T H o.op s.tm σ).bind fun x => match x.1 with
   | .val u => some u
   | _ => none, sF (aN T H o.op s.tm s.mem)) else []) ++ qQ pf T H all es mems r (i + 1) ps tr
 | _, _, _, _ => []
def P8 (T : av) (ch : CH) (all : List Oper) (tr : List (St × ab)) (e : St) : Ow :=
 qQ ch.pf T ch.Hb all (qP ch all all tr) (tr.map (·.1.mem) ++ [e.mem]) all 0 (tj ch.pf all) tr
def P9 (ch : CH) (all : List Oper) (tr : List (St × ab)) : Bool := qM ch.pf all (ag all []) (am ch.pf all (ag all [])) tr
def AG {R : Type} (T : av) (ch : CH) (all : List Oper) (s : St) (ow : Ow) (k : St → Ow → Option R) (kp : ab → St → Ow → Option R) : Option R :=
 trK T ch all all s ow (fun tr e ow' => af (nS ch.pf all && P9 ch all tr) (k e (ow'.app (P8 T ch all tr e))))
  (fun tr e v σ ow' => af (xe all tr.length && nS ch.pf (all.take tr.length) && P9 ch (all.take tr.length) tr) (kp v ⟨e.tm, e.df, σ⟩ (ow'.app (P8 T ch (all.take tr.length) tr e))))
structure LA where
 run : {R : Type} → St → (an → St → Option R) → Option R
 nat : ∀ {R : Type} (s : St) (k : an → St → Option R), run s k = (run s fun o s' => some (o, s')).bind fun x => k x.1 x.2
def cF (P : Program) (n : Nat) (la : LA) (b : Code) : Prop :=
 ∀ s o s', (la.run s fun o s' => some (o, s')) = some (o, s') → dq P n (.loop b) s fun o1 s1 => o1 = o ∧ s1 = s'
def dO : Code → Option Nat
 | .region id _ _ => some id
 | .seq a b => (dO a).orElse fun _ => dO b
 | .cond _ a b => (dO a).orElse fun _ => dO b
 | .block _ b => dO b
 | .loop b => dO b
 | .scope b => dO b
 | .rangeFunc _ _ a b => (dO a).orElse fun _ => dO b
 | _ => none
abbrev qJ := Option Nat → Option LA
def bt : qJ := fun _ => none
def bh {R : Type} (T : av) (ch : CH) (A : qJ) : Nat → Code → St → Ow → (an → St → Ow → Option R) → Option R
 | 0, _, _, _, _ => none
 | n + 1, c, s, ow, K =>
  match c with
  | .skip => K .normal s ow
  | .label _ => K .normal s ow
  | .region _ ops false => runK T ch ops.toList ops.toList s ow (fun s' o' => K .normal s' o') (fun v s' o' => K (.pan v) s' o')
  | .region _ ops true => AG T ch ops.toList s ow (fun s' o' => K .normal s' o') (fun v s' o' => K (.pan v) s' o')
  | .seq a b => bh T ch A n a s ow fun o s' ow' => match o with
   | .normal => bh T ch A n b s' ow' K
   | o => K o s' ow'
  | .cond c a b => match ev s.tm c with
   | some (.bool true) => bh T ch A n a s ow K
   | some (.bool false) => bh T ch A n b s ow K
   | _ => none
  | .block id b => bh T ch A n b s ow fun o s' ow' => match o with
   | .exit i => if i = id then K .normal s' ow' else K (.exit i) s' ow'
   | o => K o s' ow'
  | .loop b => match A (dO b) with
   | some la => la.run s fun o s' => K o s' ow
   | none => bh T ch A n b s ow fun o s' ow' => match o with
    | .normal => bh T ch A n (.loop b) s' ow' K
    | o => K o s' ow'
  | .scope b => bh T ch A n b s ow fun o s' ow' => match o with
   | .goto _ => none
   | o => K o s' ow'
  | .exit id => K (.exit id) s ow
  | .goto l => K (.goto l) s ow
  | .ret => K .ret s ow
  | _ => none
section
variable {R : Type} {T : av} {ch : CH}
theorem Hl {all : List Oper} {o : Oper} {s : St} {k kp : ab → Mem → Ow → Option R} {kd : l9 → Mem → Ow → Option R} {r : R} (h : ck T ch all o s k kp kd = some r) :
  (∃ v σ ow, k v σ ow = some r ∧ (ow.ok → cr T ch.H all o s = some (v, σ))) ∨
  (∃ v σ ow, kp v σ ow = some r ∧ (ow.ok → dr T ch.H all o s = some (.pan v ⟨s.tm, s.df, σ⟩))) ∨
  (∃ d σ ow, kd d σ ow = some r ∧ (ow.ok → dr T ch.H all o s = some (.go ⟨bR s.tm o.dst (.tup []), d :: s.df, σ⟩))) := by
 unfold ck at h
 cases hg : gj all o s.tm with
 | true => rw [hg] at h; simp at h
 | false =>
  rw [hg] at h
  simp only [Bool.false_eq_true, if_false] at h
  split at h
  ·rename_i hw
   obtain ⟨x, σ', ow, h1, h2⟩ := P6 h
   cases x with
   | val v =>
    simp only [Ji] at h1
    exact .inl ⟨v, σ', ow, h1, fun ho => by simp only [cr, hg, hw, h2 ho, Bool.false_eq_true, if_false, if_true]⟩
   | skip => exact .inl ⟨_, σ', ow, h1, fun ho => by simp only [cr, hg, hw, h2 ho, Bool.false_eq_true, if_false, if_true]⟩
   | pan v => exact .inr (.inl ⟨v, σ', ow, h1, fun ho => by simp only [dr, hg, hw, h2 ho, Bool.false_eq_true, if_false, if_true]⟩)
   | dfr d => exact .inr (.inr ⟨d, σ', ow, h1, fun ho => by simp only [dr, hg, hw, h2 ho, Bool.false_eq_true, if_false, if_true]⟩)
  ·rename_i hw
   exact .inl ⟨_, _, _, h, fun _ => by simp only [cr, hg, hw, Bool.false_eq_true, if_false]⟩
theorem iP {all : List Oper} : ∀ {l : List Oper} {s : St} {ow : Ow} {k : St → Ow → Option R} {kp : ab → St → Ow → Option R} {r : R}, runK T ch all l s ow k kp = some r →
  (∃ s' ow', k s' ow' = some r ∧ ow.le ow' ∧ (ow'.ok → dY T ch.H all l s = some (.go s'))) ∨
  (∃ v s' ow', kp v s' ow' = some r ∧ ow.le ow' ∧ (ow'.ok → dY T ch.H all l s = some (.pan v s')))
 | [], s, ow, k, kp, r, h => .inl ⟨s, ow, h, .refl _, fun _ => rfl⟩
 | o :: l, s, ow, k, kp, r, h => by
  simp only [runK] at h
  rcases Hl h with ⟨v, σ, o', h1, h2⟩ | ⟨v, σ, o', h1, h2⟩ | ⟨d, σ, o', h1, h2⟩
  ·rcases iP h1 with ⟨s', ow', k1, k2, k3⟩ | ⟨v', s', ow', k1, k2, k3⟩
   ·exact .inl ⟨s', ow', k1, (Ow.gu ow o').trans k2, fun ho => by
     simp only [dY, dQ (h2 (Ow.nT (k2.ok ho)))]; exact k3 ho⟩
   ·exact .inr ⟨v', s', ow', k1, (Ow.gu ow o').trans k2, fun ho => by
     simp only [dY, dQ (h2 (Ow.nT (k2.ok ho)))]; exact k3 ho⟩
  ·exact .inr ⟨v, _, _, h1, Ow.gu _ _, fun ho => by simp only [dY, h2 (Ow.nT ho)]⟩
  ·rcases iP h1 with ⟨s', ow', k1, k2, k3⟩ | ⟨v', s', ow', k1, k2, k3⟩
   ·exact .inl ⟨s', ow', k1, (Ow.gu ow o').trans k2, fun ho => by
     simp only [dY, h2 (Ow.nT (k2.ok ho))]; exact k3 ho⟩
   ·exact .inr ⟨v', s', ow', k1, (Ow.gu ow o').trans k2, fun ho => by
     simp only [dY, h2 (Ow.nT (k2.ok ho))]; exact k3 ho⟩
theorem FO {all : List Oper} : ∀ {l : List Oper} {s : St} {ow : Ow} {k : List (St × ab) → St → Ow → Option R} {kp : List (St × ab) → St → ab → Mem → Ow → Option R} {r : R}, trK T ch all l s ow k kp = some r →
  (∃ tr e ow', k tr e ow' = some r ∧ ow.le ow' ∧ (ow'.ok → trace T ch.H all l s = some (tr, e))) ∨
  (∃ tr e v σ ow', kp tr e v σ ow' = some r ∧ ow.le ow' ∧ ∃ o, l[tr.length]? = some o ∧ (ow'.ok → trace T ch.H all (l.take tr.length) s = some (tr, e) ∧ dr T ch.H all o e = some (.pan v ⟨e.tm, e.df, σ⟩)))
 | [], s, ow, k, kp, r, h => .inl ⟨[], s, ow, h, .refl _, fun _ => rfl⟩
 | o :: l, s, ow, k, kp, r, h => by
  simp only [trK] at h
  rcases Hl h with ⟨v, σ, o', h1, h2⟩ | ⟨v, σ, o', h1, h2⟩ | ⟨v, σ, o', h1, _⟩
  ·rcases FO h1 with ⟨tr, e, ow', k1, k2, k3⟩ | ⟨tr, e, u, σ', ow', k1, k2, oo, k3, k4⟩
   ·exact .inl ⟨_, e, ow', k1, (Ow.gu ow o').trans k2, fun ho => by simp only [trace, h2 (Ow.nT (k2.ok ho)), k3 ho]⟩
   ·refine .inr ⟨_, e, u, σ', ow', k1, (Ow.gu ow o').trans k2, oo, by simpa using k3, fun ho => ?_⟩
    obtain ⟨q1, q2⟩ := k4 ho
    refine ⟨?_, q2⟩
    simp only [List.length_cons, List.take_succ_cons, trace, h2 (Ow.nT (k2.ok ho)), q1]
  ·exact .inr ⟨[], s, v, σ, _, h1, Ow.gu _ _, o, by simp, fun ho => ⟨by simp [trace], h2 (Ow.nT ho)⟩⟩
  ·cases h1
theorem CZ {P : Program} (hH : aE P ch) {o : Oper} {tm : LA_} {σ σ' : Mem} {r : cP} (hr : aN T ch.H o.op tm σ = some (r, σ')) (he : Dv ch o tm = true) : Ext σ σ' := by
 by_cases hk : bM ch.pf o.op = 2
 ·unfold Dv at he
  split at he
  ·rename_i t ho
   simp only [ho, aN] at hr
   split at hr
   ·cases hr
   ·cases hr; exact .push _ _
  ·rename_i t x ho
   simp only [ho, aN] at hr
   split at hr
   ·split at hr
    ·cases hr
    ·cases hr; exact .push _ _
   ·cases hr
  ·rename_i t n ps ho
   simp only [ho, aN] at hr
   split at hr
   ·rename_i vs _
    cases hb : kW T σ t n vs with
    | none => rw [hb] at hr; cases hr
    | some q =>
     rw [hb] at hr; cases hr
     unfold kW at hb
     split at hb
     ·split at hb
      ·cases hb
      ·split at hb
       ·cases hb
       ·split at hb
        ·cases hb
        ·cases hb; exact .push _ _
     ·cases hb
   ·cases hr
  ·rename_i t ho
   simp only [ho, aN] at hr
   cases hr; exact .push _ _
  ·rename_i x ho
   simp only [ho, aN] at hr
   split at hr
   ·cases hr; exact .refl _
   ·cases hr
  ·rename_i f args ats ho
   simp only [ho, aN] at hr
   split at he
   ·rename_i g fs cs hf
    rw [hf] at hr
    split at hr
    ·rename_i g' vs hg' hvs
     simp only [Option.some.injEq] at hg'
     subst hg'
     cases hd : ot f ats.toList with
     | true => rw [hd] at hr; obtain ⟨q, _⟩ := te hr; rw [q]; exact .refl _
     | false =>
     rw [hd] at hr
     simp only [qG, cond_false, gE] at hr
     split at hr
     ·rename_i v1 σ1 hh
      cases hr; exact hH.2.1 _ _ _ _ _ he hh
     ·rename_i v1 σ1 hh
      cases hr; exact hH.2.1 _ _ _ _ _ he hh
     ·cases hr
    ·cases hr
   ·cases he
  ·simp [cn, hk] at he
 ·obtain ⟨q, _⟩ := jb hH.2.2 hk hr
  rw [q]; exact .refl _
theorem Jk {P : Program} (hH : aE P ch) {all : List Oper} {o : Oper} {s : St} {v : ab} {σ' : Mem} (h : cr T ch.H all o s = some (v, σ')) (he : (!(bo all o s.tm) || Dv ch o s.tm) = true) : Ext s.mem σ' := by
 unfold cr at h
 split at h
 ·cases h
 ·split at h
  ·rename_i hw
   simp only [hw, Bool.not_true, Bool.false_or] at he
   split at h
   ·rename_i u σ1 hx
    simp only [Option.some.injEq, Prod.mk.injEq] at h
    obtain ⟨_, rfl⟩ := h
    exact CZ hH hx he
   ·rename_i σ1 hx
    simp only [Option.some.injEq, Prod.mk.injEq] at h
    obtain ⟨_, rfl⟩ := h
    exact CZ hH hx he
   ·cases h
  ·simp only [Option.some.injEq, Prod.mk.injEq] at h
   obtain ⟨_, rfl⟩ := h
   exact .refl _
def nU (tr : List (St × ab)) (e : St) : List Mem := tr.map (·.1.mem) ++ [e.mem]
theorem Nm {σ σ1 : Mem} {b o : Nat} {vs : LA_} (h : dW σ b o vs = some σ1) : oU [b] σ σ1 := by
 refine ⟨by rw [pu h]; exact Nat.le_refl _, fun i _ hb => ?_⟩
 have hne : b ≠ i := by
  rintro rfl
  simp at hb
 unfold dW at h
 split at h
 ·split at h
  ·cases h; rw [aF, if_neg hne]
  ·cases h
 ·split at h
  ·cases h; rw [aF, if_neg hne]
  ·cases h
 ·cases h
theorem L1 {P : Program} (hH : aE P ch) {all : List Oper} {o : Oper} {s : St} {v : ab} {σ' : Mem} (h : cr T ch.H all o s = some (v, σ')) {bs : List Nat} (he : Ld ch all o s.tm = some bs) : oU bs s.mem σ' := by
 unfold Ld at he
 split at he
 ·rename_i hx
  cases he
  have := Jk hH h hx
  exact ⟨this.1, fun i hi _ => this.2 i hi⟩
 ·rename_i hx
  have hw : bo all o s.tm = true := by
   simp only [Bool.or_eq_false_iff, Bool.not_eq_false'] at hx
   exact hx.1
  unfold cr at h
  rw [hw] at h
  split at h
  ·cases h
  simp only [if_true] at h
  split at he
  ·rename_i t x y ho
   split at he
   ·rename_i b off hb
    cases he
    simp only [ho, aN, hb] at h
    cases hy : ev s.tm y with
    | none => rw [hy] at h; simp at h
    | some yv =>
     rw [hy] at h
     simp only at h
     cases hs : kR T s.mem t (.ptr b off) yv with
     | none => rw [hs] at h; simp at h
     | some σs =>
      rw [hs] at h
      simp only [Option.map_some, Option.some.injEq, Prod.mk.injEq] at h
      obtain ⟨_, rfl⟩ := h
      unfold kR at hs
      split at hs
      ·rename_i ti b' o' hti hbb
       cases hbb
       split at hs
       ·exact Nm hs
       ·cases hs
      ·cases hs
   ·cases he
  ·rename_i t m k x ho
   split at he
   ·rename_i b hb
    cases he
    simp only [ho, aN, hb] at h
    cases hk : ev s.tm k with
    | none => rw [hk] at h; simp at h
    | some kv =>
     cases hy : ev s.tm x with
     | none => rw [hk, hy] at h; simp at h
     | some yv =>
      rw [hk, hy] at h
      simp only at h
      cases hs : uV T s.mem t (.map b) kv yv with
      | none => rw [hs] at h; simp at h
      | some σs => cases hs
   ·cases he
  ·rename_i args ats ho
   split at he
   ·rename_i b x hv
    cases he
    simp only [ho, aN, hv] at h
    have ext : ∀ B, oU [b] s.mem ((s.mem.set b .dead).push B) := fun B => ⟨by simp, fun i hi hc => by
     have hne : b ≠ i := by rintro rfl; simp at hc
     rw [ct, en, if_neg (by omega), aF, if_neg hne]⟩
    cases hb : iY T .append ats.toList [.vec b, x] s.mem with
    | none => rw [hb] at h; simp at h
    | some q =>
     rw [hb] at h
     have key : ∀ u, (match T u with
       | some { k := .slice _, .. } => (pm T s.mem (ats.toList.headD 0) (.vec b) x).map fun (v, σ') => (cP.val v, σ')
       | _ => none) = some q → oU [b] s.mem q.2 := by
      intro u hb
      split at hb
      ·obtain ⟨z, hz, rfl⟩ := Option.map_eq_some_iff.1 hb
       unfold pm at hz
       split at hz
       ·split at hz
        ·cases hz
        ·split at hz
         ·split at hz
          ·cases hz
          ·simp only [Dg] at hz
           split at hz
           ·split at hz
            ·cases hz
             exact ext _
            ·cases hz
           ·cases hz
         ·cases hz
       ·cases hz
      ·cases hb
     have hq : oU [b] s.mem q.2 := by
      rcases hats : ats.toList with _ | ⟨t, _ | ⟨u, _ | ⟨z, r⟩⟩⟩
      ·rw [hats] at hb; simp [iY] at hb
      ·rw [hats] at hb; simp [iY] at hb
      ·rw [hats] at hb
       simp only [iY] at hb
       have := key u
       rw [hats] at this
       exact this hb
      ·rw [hats] at hb; simp [iY] at hb
     obtain ⟨q1, q2⟩ := q
     simp only at h hq
     split at h
     ·rename_i e; cases e; cases h; exact hq
     ·rename_i e; cases e; cases h; exact hq
     ·cases h
   ·cases he
  ·cases he
theorem Hm {P : Program} (hH : aE P ch) {all : List Oper} : ∀ {l : List Oper} {s : St} {tr : List (St × ab)} {e : St}, trace T ch.H all l s = some (tr, e) →
  tr.length = l.length ∧ (nU tr e)[0]? = some s.mem ∧ ∀ j bs, (qP ch all l tr)[j]? = some (some bs) → oU bs ((nU tr e).getD j ⟨0, []⟩) ((nU tr e).getD (j + 1) ⟨0, []⟩)
 | [], s, tr, e, h => by
  simp only [trace, Option.some.injEq, Prod.mk.injEq] at h
  obtain ⟨rfl, rfl⟩ := h
  exact ⟨rfl, rfl, fun j bs hj => by simp [qP] at hj⟩
 | o :: l, s, tr, e, h => by
  simp only [trace] at h
  split at h
  ·rename_i v σ hv
   split at h
   ·rename_i tr1 e1 hl
    simp only [Option.some.injEq, Prod.mk.injEq] at h
    obtain ⟨rfl, rfl⟩ := h
    obtain ⟨i1, i2, i3⟩ := Hm hH hl
    refine ⟨by simp [i1], rfl, fun j bs hj => ?_⟩
    cases j with
    | zero =>
     simp only [qP, List.getElem?_cons_zero, Option.some.injEq] at hj
     have := L1 hH hv hj
     have e2 : (nU ((s, v) :: tr1) e1).getD 1 ⟨0, []⟩ = σ := by
      have : (nU ((s, v) :: tr1) e1)[1]? = some σ := i2
      rw [List.getD_eq_getElem?_getD, this]; rfl
     rw [e2]; exact this
    | succ j =>
     simp only [qP, List.getElem?_cons_succ] at hj
     exact i3 j bs hj
   ·cases h
  ·cases h
theorem C0 {mems : List Mem} {es : List (Option (List Nat))} (hE : ∀ j bs, es[j]? = some (some bs) → oU bs (mems.getD j ⟨0, []⟩) (mems.getD (j + 1) ⟨0, []⟩)) : ∀ (n a : Nat) (bs : List Nat), Dw ((es.drop a).take n) = some bs → n ≤ es.length - a → oU bs (mems.getD a ⟨0, []⟩) (mems.getD (a + n) ⟨0, []⟩)
 | 0, a, bs, h, _ => by
  simp only [List.take_zero, Dw, Option.some.injEq] at h
  subst h
  exact .refl _
 | n + 1, a, bs, h, hn => by
  have hlt : a < es.length := by omega
  rw [List.drop_eq_getElem_cons hlt, List.take_succ_cons] at h
  cases hx : es[a] with
  | none => rw [hx] at h; simp [Dw] at h
  | some l =>
   rw [hx] at h
   simp only [Dw] at h
   split at h
   ·rename_i m hm
    cases h
    have h1 := hE a l (by rw [List.getElem?_eq_getElem hlt, hx])
    have h2 := C0 hE n (a + 1) m hm (by omega)
    rw [show a + 1 + n = a + (n + 1) by omega] at h2
    exact h1.trans h2
   ·cases h
theorem Jl {op : Op} {tm : LA_} {p q : Nat → Bool} (h : ∀ i, p i = true → q i = true) (hs : AS op tm p = true) : AS op tm q = true := by
 unfold AS at *
 rw [Bool.and_eq_true, List.all_eq_true] at *
 refine ⟨hs.1, fun t ht => ?_⟩
 have := hs.2 t ht
 revert this
 generalize tm.getD t (.tup []) = v
 intro hv
 cases v <;> first
  | rfl
  | exact h _ hv
theorem Lf {pf : FuncId → Nat} {H : bO} (hP : fk pf H) {all : List Oper} {es : List (Option (List Nat))} {mems : List Mem} (hE : ∀ j bs, es[j]? = some (some bs) → oU bs (mems.getD j ⟨0, []⟩) (mems.getD (j + 1) ⟨0, []⟩)) (hlen : mems.length = es.length + 1) :
  ∀ (l : List Oper) (i : Nat) (pl : List (List Nat)) (tr : List (St × ab)), (∀ (j : Nat) (q : St × ab), tr[j]? = some q → mems[i + j]? = some q.1.mem) → (∀ (j : Nat) (o : Oper) (cs : List Nat), l[j]? = some o → pl[j]? = some cs → cs ≠ [] → bM pf o.op = 1) →
  (∀ p ∈ qQ pf T H all es mems l i pl tr, p.1 = p.2) → ∀ p ∈ tl pf T H all mems l pl tr, p.1 = p.2
 | [], i, pl, tr, _, _, _ => by cases pl <;> cases tr <;> (intro p hp; simp [tl] at hp)
 | o :: r, i, [], tr, _, _, _ => by cases tr <;> (intro p hp; simp [tl] at hp)
 | o :: r, i, cs :: ps, [], _, _, _ => by intro p hp; simp [tl] at hp
 | o :: r, i, cs :: ps, (s, v) :: tr, hm, hk, h => by
  simp only [qQ, List.mem_append] at h
  intro p hp
  simp only [tl, List.mem_append] at hp
  rcases hp with hp | hp
  ·cases hw : bo all o s.tm with
   | false => rw [hw] at hp; simp at hp
   | true =>
    rw [hw] at hp h
    simp only [if_true, List.mem_map] at hp h
    obtain ⟨c, hc, rfl⟩ := hp
    cases hq : decide (c < mems.length) && Le es o.op s.tm (min s.mem.next (mems.getD c ⟨0, []⟩).next) i c with
    | false =>
     obtain ⟨v, h1, h2⟩ := Mp (h _ (.inl ⟨c, List.mem_filter.2 ⟨hc, by rw [hq]; rfl⟩, rfl⟩))
     exact h1.trans h2.symm
    | true =>
     simp only [Bool.and_eq_true, decide_eq_true_eq] at hq
     obtain ⟨q2, q1⟩ := hq
     have hk1 : bM pf o.op = 1 := hk 0 o cs rfl rfl (List.ne_nil_of_mem hc)
     have hmi : mems[i]? = some s.mem := hm 0 (s, v) rfl
     have hil : i < mems.length := (List.getElem?_eq_some_iff.1 hmi).1
     have hmc : mems[c]? = some (mems.getD c ⟨0, []⟩) := by rw [List.getD_eq_getElem?_getD, List.getElem?_eq_getElem q2]; rfl
     have hgi : mems.getD i ⟨0, []⟩ = s.mem := by rw [List.getD_eq_getElem?_getD, hmi]; rfl
     have hval : ∀ σ, ((aN T H o.op s.tm σ).bind fun x => match x.1 with
       | .val u => some u
       | _ => none) = sF (aN T H o.op s.tm σ) := by
      intro σ
      cases hx : aN T H o.op s.tm σ with
      | none => rfl
      | some x =>
       obtain ⟨x, y⟩ := x
       obtain ⟨_, u, hu⟩ := jb hP (by omega) hx
       subst hu; rfl
     simp only [hmc, Option.bind_some]
     refine (hval _).trans ?_
     unfold Le at q1
     split at q1
     ·rename_i bs hbs
      unfold Mo at hbs
      rcases Nat.le_total c i with hci | hci
      ·rw [Nat.min_eq_right hci, Nat.max_eq_left hci] at hbs
       have hx := C0 hE (i - c) c bs hbs (by omega)
       rw [show c + (i - c) = i by omega, hgi] at hx
       refine (IF (p := fun x => decide (x < (mems.getD c ⟨0, []⟩).next) && !bs.contains x) hk1 (fun j hj => ?_) (Jl (fun j hj => ?_) q1)).symm
       ·simp only [Bool.and_eq_true, decide_eq_true_eq, Bool.not_eq_true'] at hj
        exact hx.2 j hj.1 hj.2
       ·simp only [Bool.and_eq_true, decide_eq_true_eq] at hj ⊢
        exact ⟨by omega, hj.2⟩
      ·rw [Nat.min_eq_left hci, Nat.max_eq_right hci] at hbs
       have hx := C0 hE (c - i) i bs hbs (by omega)
       rw [show i + (c - i) = c by omega, hgi] at hx
       refine IF (p := fun x => decide (x < s.mem.next) && !bs.contains x) hk1 (fun j hj => ?_) (Jl (fun j hj => ?_) q1)
       ·simp only [Bool.and_eq_true, decide_eq_true_eq, Bool.not_eq_true'] at hj
        exact hx.2 j hj.1 hj.2
       ·simp only [Bool.and_eq_true, decide_eq_true_eq] at hj ⊢
        exact ⟨by omega, hj.2⟩
     ·cases q1
  ·refine Lf hP hE hlen r (i + 1) ps tr ?_ ?_ (fun q hq => h q (.inr hq)) p hp
   ·intro j q hj
    have := hm (j + 1) q (by simpa using hj)
    rw [show i + 1 + j = i + (j + 1) by omega]; exact this
   ·intro j o' cs' h1 h2 h3
    exact hk (j + 1) o' cs' (by simpa using h1) (by simpa using h2) h3
theorem L2 {pf : FuncId → Nat} {all : List Oper} {j : Nat} {o : Oper} {cs : List Nat} (h1 : all[j]? = some o) (h2 : (tj pf all)[j]? = some cs) (h3 : cs ≠ []) : bM pf o.op = 1 := by
 simp only [tj, List.getElem?_map, List.getElem?_zipIdx, h1, Option.map_some, Option.some.injEq] at h2
 split at h2
 ·rename_i hk; simpa using hk
 ·exact absurd h2.symm h3
theorem Be {all : List Oper} : ∀ {l : List Oper} {tr : List (St × ab)}, tr.length = l.length → (qP ch all l tr).length = l.length
 | [], [], _ => rfl
 | [], _ :: _, h => by simp at h
 | _ :: _, [], h => by simp at h
 | o :: l, (s, v) :: tr, h => by simp only [qP, List.length_cons] at *; rw [Be (by omega)]
theorem Qa {ch : CH} {σ : Mem} {f : ab} {vs : LA_} {x : cP × Mem} (h : gE ch.Hb σ f vs = some x) : gE ch.H σ f vs = some x := by
 unfold gE at h ⊢
 split at h
 ·rename_i g fs cs
  split at h
  ·rename_i v σ1 hh
   rw [CH.Tj hh]
   exact h
  ·rename_i v σ1 hh
   rw [CH.Tj hh]
   exact h
  ·cases h
 ·cases h
theorem Lg {ch : CH} {op : Op} {tm : LA_} {σ : Mem} {x : cP × Mem} (h : aN T ch.Hb op tm σ = some x) : aN T ch.H op tm σ = some x := by
 cases op
 case call c =>
  obtain ⟨callee, args, argTypes⟩ := c
  cases callee with
  | invoke r m => exact h
  | builtin b => exact h
  | value f =>
   simp only [aN] at h ⊢
   split at h
   ·rename_i g vs h1 h2
    exact NX (fun _ _ hx => Qa hx) h
   ·cases h
 case makeFunc fn fs cs => cases fn <;> exact h
 case makeMap t rs => cases rs <;> exact h
 case slice t y l u m => cases m <;> exact h
 case next y b => cases b <;> exact h
 case defer c =>
  obtain ⟨callee, args, argTypes⟩ := c
  cases callee <;> first
   | exact h
   | (simp only [aN] at h ⊢; exact h)
 all_goals exact h
theorem Lh {ch : CH} {pf : FuncId → Nat} {all : List Oper} {es : List (Option (List Nat))} {mems : List Mem} : ∀ (l : List Oper) (i : Nat) (pl : List (List Nat)) (tr : List (St × ab)),
  (∀ p ∈ qQ pf T ch.Hb all es mems l i pl tr, p.1 = p.2) → ∀ p ∈ qQ pf T ch.H all es mems l i pl tr, p.1 = p.2
 | [], i, pl, tr, _ => by cases pl <;> cases tr <;> (intro p hp; simp [qQ] at hp)
 | o :: r, i, [], tr, _ => by cases tr <;> (intro p hp; simp [qQ] at hp)
 | o :: r, i, cs :: ps, [], _ => by intro p hp; simp [qQ] at hp
 | o :: r, i, cs :: ps, (s, v) :: tr, h => by
  simp only [qQ, List.mem_append] at h
  intro p hp
  simp only [qQ, List.mem_append] at hp
  rcases hp with hp | hp
  ·cases hw : bo all o s.tm with
   | false => rw [hw] at hp; simp at hp
   | true =>
    rw [hw] at hp h
    simp only [if_true, List.mem_map] at hp h
    obtain ⟨c, hc, rfl⟩ := hp
    obtain ⟨u, h1, h2⟩ := Mp (h _ (.inl ⟨c, hc, rfl⟩))
    simp only at h1 h2
    have e2 : sF (aN T ch.H o.op s.tm s.mem) = some u := by
     cases hx : aN T ch.Hb o.op s.tm s.mem with
     | none => rw [hx] at h2; cases h2
     | some x => rw [Lg hx, ← hx]; exact h2
    have e1 : ((mems[c]?).bind fun σ => (aN T ch.H o.op s.tm σ).bind fun x => match x.1 with
      | .val u => some u
      | _ => none) = some u := by
     obtain ⟨σ, g1, g2⟩ := bE_ h1
     obtain ⟨x, g3, g4⟩ := bE_ g2
     rw [g1, Option.bind_some, Lg g3, Option.bind_some]
     exact g4
    rw [e1, e2]
    rfl
  ·exact Lh r (i + 1) ps tr (fun q hq => h q (.inr hq)) p hp
theorem Li {P : Program} (hH : aE P ch) {all : List Oper} {s e : St} {tr : List (St × ab)} (ht : trace T ch.H all all s = some (tr, e)) (hg : P9 ch all tr = true) (ho : (P8 T ch all tr e).ok) : jO ch.pf T ch.H all s = some e := by
 obtain ⟨t1, t2, t3⟩ := Hm hH ht
 refine Ha rfl ?_
 unfold IB
 rw [ht]
 have hrd : tk ch.pf T ch.H all (nU tr e) all (tj ch.pf all) tr = true := by
  refine K0 _ _ _ (Jg _ _ _ _ _ ht (Lf hH.2.2 (es := qP ch all all tr) (mems := nU tr e) t3 (by simp [nU, t1, Be t1]) all 0 (tj ch.pf all) tr ?_ (fun j o cs q1 q2 q3 => L2 q1 q2 q3) (Lh _ _ _ _ fun q hq => ho q hq)))
  intro j q hj
  simp only [nU, Nat.zero_add]
  rw [List.getElem?_append_left (by have := (List.getElem?_eq_some_iff.1 hj).1; simpa using this), List.getElem?_map, hj]; rfl
 show (if (tk ch.pf T ch.H all (nU tr e) all (tj ch.pf all) tr && qM ch.pf all (ag all []) (am ch.pf all (ag all [])) tr) = true then some e else none) = some e
 rw [if_pos (by rw [hrd, show qM ch.pf all (ag all []) (am ch.pf all (ag all [])) tr = true from hg]; rfl)]
theorem Nn {H : bO} {all : List Oper} {n : Nat} {o : Oper} {s : St} (hg : ∀ g b, o.guard = some (g, b) → g < n) : cr T H (all.take n) o s = cr T H all o s := by
 have e : ∀ g b, o.guard = some (g, b) → (all.take n)[g]? = all[g]? := fun g b h => by rw [List.getElem?_take, if_pos (hg g b h)]
 unfold cr gj bo
 cases h : o.guard with
 | none => rfl
 | some q => obtain ⟨g, b⟩ := q; simp only [e g b h]
theorem Hn {H : bO} {all : List Oper} {n : Nat} : ∀ {l : List Oper} {s : St}, (∀ o ∈ l, ∀ g b, o.guard = some (g, b) → g < n) → trace T H (all.take n) l s = trace T H all l s
 | [], _, _ => rfl
 | o :: l, s, h => by
  simp only [trace]
  rw [Nn (h o (by simp))]
  split
  ·rw [Hn (fun o' ho => h o' (by simp [ho]))]
  ·rfl
theorem L3 {all : List Oper} {n : Nat} (h : xe all n = true) : ∀ o ∈ all.take n, ∀ g b, o.guard = some (g, b) → g < n := by
 intro o ho g b hg
 unfold xe at h
 simp only [Bool.and_eq_true, List.all_eq_true] at h
 obtain ⟨j, hj, rfl⟩ := List.mem_take_iff_getElem.1 ho
 have := h.1.2 (all[j], j) (List.mem_zipIdx_iff_getElem?.2 (List.getElem?_eq_getElem (by omega)))
 simp only [Bool.and_eq_true, Bool.or_eq_true, Bool.not_eq_true', decide_eq_false_iff_not, hg, decide_eq_true_eq] at this
 rcases this.1 with q | q
 ·omega
 ·exact q.2
theorem AH {P : Program} (hH : aE P ch) {all : List Oper} {s : St} {ow : Ow} {k : St → Ow → Option R} {kp : ab → St → Ow → Option R} {r : R} (h : AG T ch all s ow k kp = some r) :
  (∃ s' ow', k s' ow' = some r ∧ ow.le ow' ∧ nS ch.pf all = true ∧ (ow'.ok → jO ch.pf T ch.H all s = some s')) ∨
  (∃ v s' ow' n o, kp v s' ow' = some r ∧ ow.le ow' ∧ all[n]? = some o ∧ xe all n = true ∧ nS ch.pf (all.take n) = true ∧ (ow'.ok → ∃ s1, jO ch.pf T ch.H (all.take n) s = some s1 ∧ dr T ch.H all o s1 = some (.pan v s'))) := by
 rcases FO h with ⟨tr, e, ow', h0, h2, h3⟩ | ⟨tr, e, v, σ, ow', h0, h2, o, h3, h4⟩
 ·obtain ⟨hg, h1⟩ := aH h0
  rw [Bool.and_eq_true] at hg
  exact .inl ⟨e, _, h1, h2.trans (Ow.gu _ _), hg.1, fun ho => Li hH (h3 ((Ow.gu _ _).ok ho)) hg.2 (Ow.nT ho)⟩
 ·obtain ⟨hg, h1⟩ := aH h0
  simp only [Bool.and_eq_true] at hg
  refine .inr ⟨v, _, _, tr.length, o, h1, h2.trans (Ow.gu _ _), h3, hg.1.1, hg.1.2, fun ho => ?_⟩
  obtain ⟨q1, q2⟩ := h4 ((Ow.gu _ _).ok ho)
  rw [← Hn (L3 hg.1.1)] at q1
  exact ⟨e, Li hH q1 hg.2 (Ow.nT ho), q2⟩
def zd (P : Program) (n : Nat) (b : Code) : Nat → St → an → St → Prop
 | 0, _, _, _ => False
 | m + 1, s, o, s' => (o ≠ .normal ∧ dq P n b s fun o1 s1 => o1 = o ∧ s1 = s') ∨ ∃ s1, (dq P n b s fun o1 s2 => o1 = .normal ∧ s2 = s1) ∧ zd P n b m s1 o s'
theorem Jm {P : Program} {n : Nat} {b : Code} {w0 : W0} : ∀ (m : Nat) {s : St} {o : an} {s' : St} (ρ : Nat → Loc) (a : Act) (w : World), zd P n b m s o s' → n ≤ s.mem.next → bJ w0 ρ s a w →
  Code.rounds P b (fun e a' w' => ∃ o1 s1, (o1 = o ∧ s1 = s') ∧ db w0 ρ n o1 s1 e a' w') m a w
 | 0, s, o, s', ρ, a, w, h, _, _ => h.elim
 | m + 1, s, o, s', ρ, a, w, h, hn, hr => by
  rw [rounds_succ]
  rcases h with ⟨ho, h⟩ | ⟨s1, h, k⟩
  ·refine wp_mono (h hn w0 ρ a w hr) ?_
   rintro e a' w' ⟨o1, s1, ⟨rfl, rfl⟩, ha⟩
   obtain ⟨ρ', rfl, k1, k2, k3, k4⟩ := ha
   cases o1 with
   | normal => exact absurd rfl ho
   | exit id => exact ⟨.exit id, s1, ⟨rfl, rfl⟩, ⟨ρ', rfl, k1, k2, k3, k4⟩⟩
   | goto id => exact ⟨.goto id, s1, ⟨rfl, rfl⟩, ⟨ρ', rfl, k1, k2, k3, k4⟩⟩
   | ret => exact ⟨.ret, s1, ⟨rfl, rfl⟩, ⟨ρ', rfl, k1, k2, k3, k4⟩⟩
   | pan v => exact ⟨.pan v, s1, ⟨rfl, rfl⟩, ⟨ρ', rfl, k1, k2, k3, k4⟩⟩
  ·refine wp_mono (h hn w0 ρ a w hr) ?_
   rintro e a' w' ⟨o1, s2, ⟨rfl, rfl⟩, ha⟩
   obtain ⟨ρ', rfl, k1, k2, k3, k4⟩ := ha
   have := Jm m ρ' a' w' k k3 k1
   have mono : ∀ (m : Nat) (a : Act) (w : World), Code.rounds P b (fun e a' w' => ∃ o1 s1, (o1 = o ∧ s1 = s') ∧ db w0 ρ' n o1 s1 e a' w') m a w →
     Code.rounds P b (fun e a' w' => ∃ o1 s1, (o1 = o ∧ s1 = s') ∧ db w0 ρ n o1 s1 e a' w') m a w := by
    intro m
    induction m with
    | zero => intro a w h; exact h
    | succ m ih =>
     intro a w h
     rw [rounds_succ] at h ⊢
     refine wp_mono h ?_
     intro e a' w' q
     cases e with
     | normal => exact ih _ _ q
     | _ => obtain ⟨o1, s1, q1, q2⟩ := q; exact ⟨o1, s1, q1, q2.step k2⟩
   exact mono m a' w' this
theorem EF {P : Program} {n m : Nat} {b : Code} {s : St} {o : an} {s' : St} (h : zd P n b m s o s') : dq P n (.loop b) s fun o1 s1 => o1 = o ∧ s1 = s' :=
 fun hn _ ρ a w hr => wp_loop_rounds m (Jm m ρ a w h hn hr)
theorem uT {P : Program} {n : Nat} {s : St} {c : Code} {Φ : an → St → Prop} (h : dq P n c s fun o s' => (∀ i, o ≠ .goto i) ∧ Φ o s') : dq P n (.scope c) s Φ := by
 intro hn w0 ρ a w hr
 refine wp_scope_straight (wp_mono (h hn w0 ρ a w hr) ?_)
 rintro e a' w' ⟨o, s', ⟨h0, h1⟩, ⟨ρ', rfl, h2, h3, h4, h5⟩⟩
 cases o with
 | goto i => exact absurd rfl (h0 i)
 | normal => exact ⟨.normal, s', h1, ⟨ρ', rfl, h2, h3, h4, h5⟩⟩
 | exit i => exact ⟨.exit i, s', h1, ⟨ρ', rfl, h2, h3, h4, h5⟩⟩
 | ret => exact ⟨.ret, s', h1, ⟨ρ', rfl, h2, h3, h4, h5⟩⟩
 | pan v => exact ⟨.pan v, s', h1, ⟨ρ', rfl, h2, h3, h4, h5⟩⟩
theorem ja {P : Program} {A : qJ} {k : Nat} (hT : aY P T) (hH : aE P ch) (hm : P.follows .mixedOrders = true) :
  ∀ (n : Nat) {R : Type} (c : Code) (s : St) (ow : Ow) (K : an → St → Ow → Option R) (r : R), (∀ b ∈ bm c, ∀ la, A (dO b) = some la → cF P k la b) → bh T ch A n c s ow K = some r →
   ∃ o s' ow', K o s' ow' = some r ∧ ow.le ow' ∧ (ow'.ok → dq P k c s fun o1 s1 => o1 = o ∧ s1 = s') := by
 intro n
 induction n using Nat.strongRecOn with
 | _ n ih =>
  cases n with
  | zero => intro R c s ow K r _ h; simp [bh] at h
  | succ n =>
   intro R c s ow K r hA h
   cases c with
   | skip => exact ⟨_, _, _, by simpa only [bh] using h, .refl _, fun _ => (Py (Φ := fun o1 s1 => o1 = .normal ∧ s1 = s) ⟨rfl, rfl⟩).v9⟩
   | label l => exact ⟨_, _, _, by simpa only [bh] using h, .refl _, fun _ => (Or (Φ := fun o1 s1 => o1 = .normal ∧ s1 = s) ⟨rfl, rfl⟩).v9⟩
   | exit l => exact ⟨_, _, _, by simpa only [bh] using h, .refl _, fun _ => (Pz (Φ := fun o1 s1 => o1 = .exit l ∧ s1 = s) ⟨rfl, rfl⟩).v9⟩
   | goto l => exact ⟨_, _, _, by simpa only [bh] using h, .refl _, fun _ => (PA (Φ := fun o1 s1 => o1 = .goto l ∧ s1 = s) ⟨rfl, rfl⟩).v9⟩
   | ret => exact ⟨_, _, _, by simpa only [bh] using h, .refl _, fun _ => (Rn (Φ := fun o1 s1 => o1 = .ret ∧ s1 = s) ⟨rfl, rfl⟩).v9⟩
   | region id ops d =>
    cases d with
    | false =>
     simp only [bh] at h
     rcases iP h with ⟨s', ow', h1, h2, h3⟩ | ⟨v, s', ow', h1, h2, h3⟩
     ·exact ⟨_, _, _, h1, h2, fun ho => (uQ hT hH.1 (h3 ho) (Φ := fun o1 s1 => o1 = .normal ∧ s1 = s') ⟨rfl, rfl⟩).v9⟩
     ·exact ⟨_, _, _, h1, h2, fun ho => (uQ hT hH.1 (h3 ho) (Φ := fun o1 s1 => o1 = .pan v ∧ s1 = s') ⟨rfl, rfl⟩).v9⟩
    | true =>
     simp only [bh] at h
     rcases AH hH h with ⟨s', ow', h1, h2, hst, h3⟩ | ⟨v, s', ow', m, o, h1, h2, ho, hC, hst, h3⟩
     ·exact ⟨_, _, _, h1, h2, fun hok => (PI hT hH.1 hH.2.2 hm hst (h3 hok) (Φ := fun o1 s1 => o1 = .normal ∧ s1 = s') ⟨rfl, rfl⟩).v9⟩
     ·exact ⟨_, _, _, h1, h2, fun hok => by
       obtain ⟨s1, q1, q2⟩ := h3 hok
       exact (KY hT hH.1 hH.2.2 hm ho hst hC q1 q2 (Φ := fun o1 s1 => o1 = .pan v ∧ s1 = s') ⟨rfl, rfl⟩).v9⟩
   | seq a b =>
    simp only [bh] at h
    have hAa : ∀ b ∈ bm a, ∀ la, A (dO b) = some la → cF P k la b := fun q hq => hA q (List.mem_append_left _ hq)
    have hAb : ∀ q ∈ bm b, ∀ la, A (dO q) = some la → cF P k la q := fun q hq => hA q (List.mem_append_right _ hq)
    obtain ⟨o, s1, ow1, h1, h2, h3⟩ := ih n (Nat.lt_succ_self n) a s ow _ r hAa h
    cases o with
    | normal =>
     obtain ⟨o2, s2, ow2, k1, k2, k3⟩ := ih n (Nat.lt_succ_self n) b s1 ow1 K r hAb h1
     refine ⟨o2, s2, ow2, k1, h2.trans k2, fun ho => wd ((h3 (k2.ok ho)).mono ?_)⟩
     rintro o1 s' ⟨rfl, rfl⟩
     exact k3 ho
    | exit i => exact ⟨_, _, _, h1, h2, fun ho => wd ((h3 ho).mono (by rintro o1 s' ⟨rfl, rfl⟩; exact ⟨rfl, rfl⟩))⟩
    | goto i => exact ⟨_, _, _, h1, h2, fun ho => wd ((h3 ho).mono (by rintro o1 s' ⟨rfl, rfl⟩; exact ⟨rfl, rfl⟩))⟩
    | ret => exact ⟨_, _, _, h1, h2, fun ho => wd ((h3 ho).mono (by rintro o1 s' ⟨rfl, rfl⟩; exact ⟨rfl, rfl⟩))⟩
    | pan v => exact ⟨_, _, _, h1, h2, fun ho => wd ((h3 ho).mono (by rintro o1 s' ⟨rfl, rfl⟩; exact ⟨rfl, rfl⟩))⟩
   | cond c a b =>
    simp only [bh] at h
    split at h
    ·rename_i hc
     obtain ⟨o, s1, ow1, h1, h2, h3⟩ := ih n (Nat.lt_succ_self n) a s ow _ r (fun q hq => hA q (List.mem_append_left _ hq)) h
     exact ⟨o, s1, ow1, h1, h2, fun ho => Jh hc (h3 ho)⟩
    ·rename_i hc
     obtain ⟨o, s1, ow1, h1, h2, h3⟩ := ih n (Nat.lt_succ_self n) b s ow _ r (fun q hq => hA q (List.mem_append_right _ hq)) h
     exact ⟨o, s1, ow1, h1, h2, fun ho => Jh hc (h3 ho)⟩
    ·cases h
   | block id b =>
    simp only [bh] at h
    obtain ⟨o, s1, ow1, h1, h2, h3⟩ := ih n (Nat.lt_succ_self n) b s ow _ r hA h
    cases o with
    | exit i =>
     simp only at h1
     split at h1
     ·rename_i e
      exact ⟨_, _, _, h1, h2, fun ho => mU ((h3 ho).mono (by rintro o1 s' ⟨rfl, rfl⟩; simp only [an.inBlock]; rw [if_pos e]; exact ⟨trivial, trivial⟩))⟩
     ·rename_i e
      exact ⟨_, _, _, h1, h2, fun ho => mU ((h3 ho).mono (by rintro o1 s' ⟨rfl, rfl⟩; simp only [an.inBlock]; rw [if_neg e]; exact ⟨trivial, trivial⟩))⟩
    | normal => exact ⟨_, _, _, h1, h2, fun ho => mU ((h3 ho).mono (by rintro o1 s' ⟨rfl, rfl⟩; exact ⟨rfl, rfl⟩))⟩
    | goto i => exact ⟨_, _, _, h1, h2, fun ho => mU ((h3 ho).mono (by rintro o1 s' ⟨rfl, rfl⟩; exact ⟨rfl, rfl⟩))⟩
    | ret => exact ⟨_, _, _, h1, h2, fun ho => mU ((h3 ho).mono (by rintro o1 s' ⟨rfl, rfl⟩; exact ⟨rfl, rfl⟩))⟩
    | pan v => exact ⟨_, _, _, h1, h2, fun ho => mU ((h3 ho).mono (by rintro o1 s' ⟨rfl, rfl⟩; exact ⟨rfl, rfl⟩))⟩
   | loop b =>
    cases hla : A (dO b) with
    | some la =>
     simp only [bh, hla] at h
     rw [la.nat] at h
     obtain ⟨⟨o, s'⟩, h1, h2⟩ := bE_ h
     exact ⟨o, s', _, h2, .refl _, fun ho => hA b (by simp [bm]) la hla s o s' h1⟩
    | none =>
     have hAb : ∀ q ∈ bm b, ∀ la, A (dO q) = some la → cF P k la q := fun q hq => hA q (by simp [bm, hq])
     have key : ∀ (m : Nat), m ≤ n + 1 → ∀ (s : St) (ow : Ow), bh T ch A m (.loop b) s ow K = some r →
       ∃ o s' ow', K o s' ow' = some r ∧ ow.le ow' ∧ (ow'.ok → ∃ j, zd P k b j s o s') := by
      intro m
      induction m with
      | zero => intro _ s ow h; simp [bh] at h
      | succ m ihm =>
       intro hmn s ow h
       simp only [bh, hla] at h
       obtain ⟨o, s1, ow1, h1, h2, h3⟩ := ih m (by omega) b s ow _ r hAb h
       cases o with
       | normal =>
        obtain ⟨o2, s2, ow2, k1, k2, k3⟩ := ihm (by omega) s1 ow1 h1
        exact ⟨o2, s2, ow2, k1, h2.trans k2, fun ho => by
         obtain ⟨j, hj⟩ := k3 ho
         exact ⟨j + 1, .inr ⟨s1, h3 (k2.ok ho), hj⟩⟩⟩
       | exit i => exact ⟨_, _, _, h1, h2, fun ho => ⟨1, .inl ⟨by simp, h3 ho⟩⟩⟩
       | goto i => exact ⟨_, _, _, h1, h2, fun ho => ⟨1, .inl ⟨by simp, h3 ho⟩⟩⟩
       | ret => exact ⟨_, _, _, h1, h2, fun ho => ⟨1, .inl ⟨by simp, h3 ho⟩⟩⟩
       | pan v => exact ⟨_, _, _, h1, h2, fun ho => ⟨1, .inl ⟨by simp, h3 ho⟩⟩⟩
     obtain ⟨o, s', ow', h1, h2, h3⟩ := key (n + 1) (Nat.le_refl _) s ow h
     exact ⟨o, s', ow', h1, h2, fun ho => by obtain ⟨j, hj⟩ := h3 ho; exact EF hj⟩
   | scope b =>
    simp only [bh] at h
    obtain ⟨o, s1, ow1, h1, h2, h3⟩ := ih n (Nat.lt_succ_self n) b s ow _ r hA h
    cases o with
    | goto i => cases h1
    | normal => exact ⟨_, _, _, h1, h2, fun ho => uT ((h3 ho).mono (by rintro o1 s' ⟨rfl, rfl⟩; exact ⟨by simp, rfl, rfl⟩))⟩
    | exit i => exact ⟨_, _, _, h1, h2, fun ho => uT ((h3 ho).mono (by rintro o1 s' ⟨rfl, rfl⟩; exact ⟨by simp, rfl, rfl⟩))⟩
    | ret => exact ⟨_, _, _, h1, h2, fun ho => uT ((h3 ho).mono (by rintro o1 s' ⟨rfl, rfl⟩; exact ⟨by simp, rfl, rfl⟩))⟩
    | pan v => exact ⟨_, _, _, h1, h2, fun ho => uT ((h3 ho).mono (by rintro o1 s' ⟨rfl, rfl⟩; exact ⟨by simp, rfl, rfl⟩))⟩
   | rangeFunc f ps a b => simp [bh] at h
   | refuse w => simp [bh] at h
end
end Go.Ev
