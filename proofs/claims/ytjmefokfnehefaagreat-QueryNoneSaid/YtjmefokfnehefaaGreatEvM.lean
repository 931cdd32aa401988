/- The abstract interpreter: the evaluator, bodies and calls. No statement is proved here. -/
import Derived.Test.YtjmefokfnehefaaGreatEvL
namespace Go.Ev
set_option linter.unusedVariables false
set_option linter.unusedSimpArgs false

def evalC (T : TTab) (H : Hooks) : Nat → Code → St → Option (AOut × St)
  | 0, _, _ => none
  | n + 1, c, s =>
    match c with
    | .skip => some (.normal, s)
    | .label _ => some (.normal, s)
    | .region _ ops false => match runOps T H ops.toList ops.toList s with
      | some (.go s') => some (.normal, s')
      | some (.pan v s') => some (.pan v, s')
      | none => none
    | .region _ ops true => if statOk (fun _ => 2) ops.toList then (match runDraw (fun _ => 2) T H ops.toList s with
      | some s' => some (.normal, s')
      | none => none) else none
    | .seq a b => match evalC T H n a s with
      | some (.normal, s') => evalC T H n b s'
      | x => x
    | .cond c a b => match ev s.tm c with
      | some (.bool true) => evalC T H n a s
      | some (.bool false) => evalC T H n b s
      | _ => none
    | .block id b => match evalC T H n b s with
      | some (.exit id', s') => if id' = id then some (.normal, s') else some (.exit id', s')
      | x => x
    | .loop b => match evalC T H n b s with
      | some (.normal, s') => evalC T H n (.loop b) s'
      | x => x
    | .exit id => some (.exit id, s)
    | .goto l => some (.goto l, s)
    | .ret => some (.ret, s)
    | _ => none

def resL (T : TTab) (s : St) : List ResultVar → Option (List AVal)
  | [] => some []
  | .tmp t :: r => (resL T s r).map fun vs => s.tm.getD t (.tup []) :: vs
  | .cell a t :: r => match loadA T s.mem t (s.tm.getD a (.tup [])), resL T s r with
    | some v, some vs => some (v :: vs)
    | _, _ => none

def resA (T : TTab) (s : St) (rs : List ResultVar) : Option AVal :=
  match resL T s rs with
  | some [v] => some v
  | some vs => some (.tup vs)
  | none => none

def initSt (ntmps : Nat) (args : List AVal) (σ : Mem) : St := ⟨args ++ List.replicate (ntmps - args.length) (.tup []), [], σ⟩

/-- Of a body's end the call's. -/
def endA (T : TTab) (rs : List ResultVar) : AOut → St → Option (ARes × Mem)
  | .normal, s | .ret, s => match s.df with
    | [] => (resA T s rs).map fun v => (.ret v, s.mem)
    | _ => none
  | .pan v, s => match s.df with
    | [] => some (.pan v, s.mem)
    | _ => none
  | _, _ => none

def inl (P : Program) (T : TTab) (H : Hooks) (n : Nat) : Hooks := fun f args σ =>
  match P.funcs[f]? with
  | some fn => match fn.body with
    | some c => match evalC T H n c (initSt fn.ntmps args σ) with
      | some (o, s) => endA T fn.results.toList o s
      | none => none
    | none => none
  | none => none

def orH (A B : Hooks) : Hooks := fun f args σ =>
  match A f args σ with
  | some r => some r
  | none => B f args σ

/-- Specifications first, then bodies, so deep. -/
def deepH (P : Program) (T : TTab) (S : Hooks) (n : Nat) : Nat → Hooks
  | 0 => S
  | d + 1 => orH S (inl P T (deepH P T S n d) n)

def NoNum (P : Program) : Prop := ∀ (g : FuncId) (fn : Func), P.funcs[g]? = some fn → (fn.name == "runtime.NumGoroutine") = false

section
variable {P : Program} {T : TTab} {H : Hooks}

theorem evalC_sound (hT : TabOk P T) (hH : HooksOk P H) (hm : P.follows .mixedOrders = true) : ∀ (n : Nat) (c : Code) (s : St) (o : AOut) (s' : St), evalC T H n c s = some (o, s') →
    AWP P c s fun o1 s1 => o1 = o ∧ s1 = s' := by
  intro n
  induction n using Nat.strongRecOn with
  | _ n ih =>
    cases n with
    | zero => intro c s o s' h; simp [evalC] at h
    | succ n =>
      intro c s o s' h
      cases c with
      | skip => simp only [evalC, Option.some.injEq, Prod.mk.injEq] at h; exact awp_skip ⟨h.1, h.2⟩
      | label l => simp only [evalC, Option.some.injEq, Prod.mk.injEq] at h; exact awp_label ⟨h.1, h.2⟩
      | exit l => simp only [evalC, Option.some.injEq, Prod.mk.injEq] at h; exact awp_exit ⟨h.1, h.2⟩
      | goto l => simp only [evalC, Option.some.injEq, Prod.mk.injEq] at h; exact awp_goto ⟨h.1, h.2⟩
      | ret => simp only [evalC, Option.some.injEq, Prod.mk.injEq] at h; exact awp_ret ⟨h.1, h.2⟩
      | region id ops d =>
        cases d with
        | false =>
          simp only [evalC] at h
          split at h
          · rename_i s1 hx
            simp only [Option.some.injEq, Prod.mk.injEq] at h
            exact awp_region hT hH hx ⟨h.1, h.2⟩
          · rename_i v s1 hx
            simp only [Option.some.injEq, Prod.mk.injEq] at h
            exact awp_region hT hH hx ⟨h.1, h.2⟩
          · cases h
        | true =>
          simp only [evalC] at h
          split at h
          · rename_i hst
            split at h
            · rename_i s1 hx
              simp only [Option.some.injEq, Prod.mk.injEq] at h
              exact awp_draw hT hH (pf := fun _ => 2) (PureOk.two _) hm hst hx ⟨h.1, h.2⟩
            · cases h
          · cases h
      | seq a b =>
        simp only [evalC] at h
        refine awp_seq ?_
        split at h
        · rename_i s1 hx
          refine (ih n (Nat.lt_succ_self n) a s _ _ hx).mono ?_
          rintro o1 s2 ⟨rfl, rfl⟩
          exact ih n (Nat.lt_succ_self n) b _ o s' h
        · rename_i x hx
          refine (ih n (Nat.lt_succ_self n) a s o s' h).mono ?_
          rintro o1 s2 ⟨rfl, rfl⟩
          cases o1 with
          | normal => exact absurd h (hx _)
          | _ => exact ⟨rfl, rfl⟩
      | cond c a b =>
        simp only [evalC] at h
        split at h
        · rename_i hc
          exact awp_cond hc (ih n (Nat.lt_succ_self n) a s o s' h)
        · rename_i hc
          exact awp_cond hc (ih n (Nat.lt_succ_self n) b s o s' h)
        · cases h
      | block id b =>
        simp only [evalC] at h
        refine awp_block ?_
        split at h
        · rename_i id' s1 hx
          refine (ih n (Nat.lt_succ_self n) b s _ _ hx).mono ?_
          rintro o1 s2 ⟨rfl, rfl⟩
          simp only [AOut.inBlock]
          split at h
          · rename_i e; rw [if_pos e]; simp only [Option.some.injEq, Prod.mk.injEq] at h; exact ⟨h.1, h.2⟩
          · rename_i e; rw [if_neg e]; simp only [Option.some.injEq, Prod.mk.injEq] at h; exact ⟨h.1, h.2⟩
        · rename_i x hx
          refine (ih n (Nat.lt_succ_self n) b s o s' h).mono ?_
          rintro o1 s2 ⟨rfl, rfl⟩
          cases o1 with
          | exit id' => exact absurd h (hx _ _)
          | _ => exact ⟨rfl, rfl⟩
      | loop b =>
        let D : St → Nat → Prop := fun s m => m ≤ n + 1 ∧ evalC T H m (.loop b) s = some (o, s')
        refine awp_loop (fun s => ∃ m, D s m) (fun s => least (D s)) ⟨n + 1, Nat.le_refl _, h⟩ ?_
        intro s1 hI
        obtain ⟨⟨hle, hev⟩, _⟩ := least_spec hI
        generalize hm : least (D s1) = m at hle hev
        cases m with
        | zero => simp [evalC] at hev
        | succ m =>
          simp only [evalC] at hev
          split at hev
          · rename_i s2 hx
            refine (ih m (by omega) b s1 _ _ hx).mono ?_
            rintro o1 s3 ⟨rfl, rfl⟩
            have hD : D s3 m := ⟨by omega, hev⟩
            refine ⟨⟨m, hD⟩, ?_⟩
            have := (least_spec ⟨m, hD⟩).2 m hD
            omega
          · rename_i x hx
            refine (ih m (by omega) b s1 o s' hev).mono ?_
            rintro o1 s3 ⟨rfl, rfl⟩
            cases o1 with
            | normal => exact absurd hev (hx _)
            | _ => exact ⟨rfl, rfl⟩
      | scope b => simp [evalC] at h
      | rangeFunc f ps a b => simp [evalC] at h
      | refuse w => simp [evalC] at h

/-! ### A body -/

def resF (tmps : Array Value) : ResultVar → Sem Value
  | .tmp t => pure (tmps.getD t undef)
  | .cell ad t => do loadVar t (← asAddr (tmps.getD ad undef))

theorem results_eq (fn : Func) (tmps : Array Value) : results fn tmps = (do let vs ← fn.results.mapM (resF tmps); pure (if h : vs.size = 1 then vs[0] else .tuple vs)) := by
  have e : (fun x : ResultVar => (match x with
      | .tmp t => pure (tmps.getD t undef)
      | .cell ad t => do loadVar t (← asAddr (tmps.getD ad undef)) : Sem Value)) = resF tmps := by
    funext r; cases r <;> rfl
  rw [← e]
  rfl

theorem resL_run (hT : TabOk P T) {w0 : W0} {ρ : Nat → Loc} {s : St} {a : Act} {w : World} (h : SRel w0 ρ s a w) : ∀ {rs : List ResultVar} {vs : List AVal}, resL T s rs = some vs →
    (rs.mapM (resF a.tmps)).run P w = .ok (γL ρ vs) w ∧ scL s.mem.next vs = true
  | [], vs, hr => by simp only [resL, Option.some.injEq] at hr; subst hr; exact ⟨rfl, rfl⟩
  | .tmp t :: r, vs, hr => by
    simp only [resL] at hr
    cases hq : resL T s r with
    | none => rw [hq] at hr; cases hr
    | some us =>
      rw [hq] at hr; cases hr
      obtain ⟨i1, i2⟩ := resL_run hT h hq
      obtain ⟨e1, e2⟩ := ev_γ (x := .tmp t) h.tm h.sct rfl
      simp only [Act.eval] at e1
      refine ⟨?_, by simp only [scL, e2, i2, Bool.and_self]⟩
      simp only [List.mapM_cons, resF, Sem.run_bind, Sem.run_pure, Result.andThen_ok, i1, e1, γL]
  | .cell ad t :: r, vs, hr => by
    simp only [resL] at hr
    split at hr
    · rename_i v us hv hq
      cases hr
      obtain ⟨i1, i2⟩ := resL_run hT h hq
      obtain ⟨b, o, hx, r1, r2⟩ := h.rel.run_loadVar (P := P) hT hv
      obtain ⟨e1, e2⟩ := ev_γ (x := .tmp ad) h.tm h.sct rfl
      simp only [Act.eval, hx, γ] at e1
      refine ⟨?_, by simp only [scL, r2, i2, Bool.and_self]⟩
      have e3 : (asAddr (a.tmps.getD ad undef)).run P w = .ok ⟨(ρ b).blk, (ρ b).base + o, none⟩ w := by rw [e1]; rfl
      simp only [List.mapM_cons, resF, Sem.run_bind, Sem.run_pure, Result.andThen_ok, e3, r1, i1, γL]
    · cases hr

theorem resA_run (hT : TabOk P T) {w0 : W0} {ρ : Nat → Loc} {s : St} {a : Act} {w : World} (h : SRel w0 ρ s a w) {fn : Func} {v : AVal} (hr : resA T s fn.results.toList = some v) :
    (results fn a.tmps).run P w = .ok (γ ρ v) w ∧ sc s.mem.next v = true := by
  unfold resA at hr
  have key : ∀ vs, resL T s fn.results.toList = some vs → (results fn a.tmps).run P w = .ok (if hh : vs.length = 1 then γ ρ (vs[0]'(by omega)) else .tuple (γL ρ vs).toArray) w ∧ scL s.mem.next vs = true := by
    intro vs hvs
    obtain ⟨r1, r2⟩ := resL_run (P := P) hT h hvs
    refine ⟨?_, r2⟩
    rw [results_eq, Array.mapM_eq_mapM_toList]
    simp only [Sem.run_bind, Sem.run_map, r1]
    simp only [Result.andThen_ok, Sem.run_pure]
    congr 1
    by_cases hl : vs.length = 1
    · simp [hl, γL_map]
    · simp [hl]
  split at hr
  · rename_i u hu
    cases hr
    obtain ⟨k1, k2⟩ := key _ hu
    simp only [scL, Bool.and_true] at k2
    exact ⟨by simpa using k1, k2⟩
  · rename_i us hne hu
    cases hr
    obtain ⟨k1, k2⟩ := key _ hu
    refine ⟨?_, by simpa only [sc] using k2⟩
    have hl : ¬ us.length = 1 := by
      intro hl
      match us, hl with
      | [x], _ => exact hne x rfl
    rw [dif_neg hl] at k1
    simpa only [γ] using k1
  · cases hr

theorem call_of_body (hT : TabOk P T) {f : FuncId} {fn : Func} {c : Code} {args : List AVal} {σ : Mem} (hf : P.funcs[f]? = some fn) (hb : fn.body = some c) {R : ARes → Mem → Prop}
    (h : AWP P c (initSt fn.ntmps args σ) fun o s' => ∃ r σ', endA T fn.results.toList o s' = some (r, σ') ∧ R r σ') :
    ∀ w0 ρ w, Rel w0 ρ σ w → scL σ.next args = true →
      Calls P f (γL ρ args).toArray w fun e w' => ∃ r σ' ρ', R r σ' ∧ e = endOf ρ' r ∧ Post w0 ρ σ.next ρ' σ' w' ∧ sc σ'.next r.value = true := by
  intro w0 ρ w hr hs
  refine calls_of_wp hf hb ?_
  have hsr : SRel w0 ρ (initSt fn.ntmps args σ) { tmps := (γL ρ args).toArray ++ Array.replicate (fn.ntmps - (γL ρ args).toArray.size) undef, defers := [] } w := by
    refine ⟨hr, ?_, ?_, rfl, by simp [initSt]⟩
    · apply Array.ext'
      simp [initSt, γL_append, γL_replicate, undef_γ ρ]
    · simp only [initSt, scL_append]
      refine ⟨hs, ?_⟩
      rw [scL_iff]
      intro v hv
      rw [(List.mem_replicate.1 hv).2]
      simp [sc, scL]
  refine wp_mono (h w0 ρ _ w hsr) ?_
  rintro e a' w' ⟨o, s', ⟨r, σ', h1, h2⟩, ⟨ρ', rfl, k1, k2, k3, k4⟩⟩
  have hdf : s'.df = [] → a'.defers = [] := fun q => by rw [k1.df, q]; rfl
  have hpost : ∀ {σ'}, s'.mem = σ' → Post w0 ρ σ.next ρ' σ' w' := fun q => q ▸ ⟨k1.rel, k2, k3⟩
  cases o with
  | normal =>
    simp only [endA] at h1
    split at h1
    · rename_i hd
      cases hra : resA T s' fn.results.toList with
      | none => rw [hra] at h1; cases h1
      | some v =>
        rw [hra] at h1
        simp only [Option.map_some, Option.some.injEq, Prod.mk.injEq] at h1
        obtain ⟨rfl, rfl⟩ := h1
        obtain ⟨q1, q2⟩ := resA_run hT k1 hra
        exact ⟨hdf hd, _, q1, _, _, ρ', h2, rfl, hpost rfl, q2⟩
    · cases h1
  | ret =>
    simp only [endA] at h1
    split at h1
    · rename_i hd
      cases hra : resA T s' fn.results.toList with
      | none => rw [hra] at h1; cases h1
      | some v =>
        rw [hra] at h1
        simp only [Option.map_some, Option.some.injEq, Prod.mk.injEq] at h1
        obtain ⟨rfl, rfl⟩ := h1
        obtain ⟨q1, q2⟩ := resA_run hT k1 hra
        exact ⟨hdf hd, _, q1, _, _, ρ', h2, rfl, hpost rfl, q2⟩
    · cases h1
  | pan v =>
    simp only [endA] at h1
    split at h1
    · rename_i hd
      simp only [Option.some.injEq, Prod.mk.injEq] at h1
      obtain ⟨rfl, rfl⟩ := h1
      exact ⟨hdf hd, _, _, ρ', h2, rfl, hpost rfl, k4 _ rfl⟩
    · cases h1
  | exit id => simp [endA] at h1
  | goto id => simp [endA] at h1

theorem inl_ok (hT : TabOk P T) (hH : HooksOk P H) (hm : P.follows .mixedOrders = true) (hN : NoNum P) (n : Nat) : HooksOk P (inl P T H n) := by
  intro f args σ r σ' h
  unfold inl at h
  split at h
  · rename_i fn hf
    split at h
    · rename_i c hb
      split at h
      · rename_i o s he
        refine .inl ⟨⟨fn, hf, hN f fn hf, by rw [hb]; rfl⟩, ?_⟩
        intro w0 ρ w hr hs
        have := call_of_body (R := fun r1 σ1 => r1 = r ∧ σ1 = σ') hT hf hb ((evalC_sound hT hH hm n c _ o s he).mono fun o1 s1 hh => by
          obtain ⟨rfl, rfl⟩ := hh
          exact ⟨r, σ', h, rfl, rfl⟩) w0 ρ w hr hs
        refine this.mono ?_
        rintro e w' ⟨r1, σ1, ρ', ⟨rfl, rfl⟩, q1, q2, q3⟩
        exact ⟨ρ', q1, q2, q3⟩
      · cases h
    · cases h
  · cases h

theorem orH_ok {A B : Hooks} (hA : HooksOk P A) (hB : HooksOk P B) : HooksOk P (orH A B) := by
  intro f args σ r σ' h
  unfold orH at h
  split at h
  · rename_i q hq
    cases h
    exact hA f args σ _ _ hq
  · exact hB f args σ r σ' h

theorem deepH_ok (hT : TabOk P T) {S : Hooks} (hS : HooksOk P S) (hm : P.follows .mixedOrders = true) (hN : NoNum P) (n : Nat) : ∀ d, HooksOk P (deepH P T S n d)
  | 0 => hS
  | d + 1 => orH_ok hS (inl_ok hT (deepH_ok hT hS hm hN n d) hm hN n)

def noHooks : Hooks := fun _ _ _ => none

theorem noHooks_ok : HooksOk P noHooks := fun _ _ _ _ _ h => by cases h

end
end Go.Ev
