import Derived.Test.YtcgajpdhbanhaaaGreatEvL
namespace Go.Ev
set_option linter.unusedVariables false
set_option linter.unusedSimpArgs false
def resL (T : TTab) (s : St) : List ResultVar → Option (List AVal)
  | [] => some []
  | .tmp t :: r => (resL T s r).map fun vs => s.tm.getD t (.tup []) :: vs
  | .cell a t :: r => match loadA T s.mem t (s.tm.getD a (.tup [])), resL T s r with
    | some v, some vs => some (v :: vs)
    | _, _ => none
def resA (T : TTab) (s : St) (rs : List ResultVar) : Option AVal :=
  match resL T s rs with
  | some [v] => some v
  | some vs => some (.tup vs)
  | none => none
def initSt (ntmps : Nat) (args : List AVal) (σ : Mem) : St := ⟨args ++ List.replicate (ntmps - args.length) (.tup []), [], σ⟩
def endA (T : TTab) (rs : List ResultVar) : AOut → St → Option (ARes × Mem)
  | .normal, s | .ret, s => match s.df with
    | [] => (resA T s rs).map fun v => (.ret v, s.mem)
    | _ => none
  | .pan v, s => match s.df with
    | [] => some (.pan v, s.mem)
    | _ => none
  | _, _ => none
def NoNum (P : Program) : Prop := ∀ (g : FuncId) (fn : Func), P.funcs[g]? = some fn → (fn.name == "runtime.NumGoroutine") = false
section
variable {P : Program} {T : TTab} {H : Hooks}
def resF (tmps : Array Value) : ResultVar → Sem Value
  | .tmp t => pure (tmps.getD t undef)
  | .cell ad t => do loadVar t (← asAddr (tmps.getD ad undef))
theorem results_eq (fn : Func) (tmps : Array Value) : results fn tmps = (do let vs ← fn.results.mapM (resF tmps); pure (if h : vs.size = 1 then vs[0] else .tuple vs)) := by
  have e : (fun x : ResultVar => (match x with
      | .tmp t => pure (tmps.getD t undef)
      | .cell ad t => do loadVar t (← asAddr (tmps.getD ad undef)) : Sem Value)) = resF tmps := by
    funext r; cases r <;> rfl
  rw [← e]
  rfl
theorem resL_run (hT : TabOk P T) {w0 : W0} {ρ : Nat → Loc} {s : St} {a : Act} {w : World} (h : SRel w0 ρ s a w) : ∀ {rs : List ResultVar} {vs : List AVal}, resL T s rs = some vs →
    (rs.mapM (resF a.tmps)).run P w = .ok (γL ρ vs) w ∧ scL s.mem.next vs = true
  | [], vs, hr => by simp only [resL, Option.some.injEq] at hr; subst hr; exact ⟨rfl, rfl⟩
  | .tmp t :: r, vs, hr => by
    simp only [resL] at hr
    cases hq : resL T s r with
    | none => rw [hq] at hr; cases hr
    | some us =>
      rw [hq] at hr; cases hr
      obtain ⟨i1, i2⟩ := resL_run hT h hq
      obtain ⟨e1, e2⟩ := ev_γ (x := .tmp t) h.tm h.sct rfl
      simp only [Act.eval] at e1
      refine ⟨?_, by simp only [scL, e2, i2, Bool.and_self]⟩
      simp only [List.mapM_cons, resF, Sem.run_bind, Sem.run_pure, Result.andThen_ok, i1, e1, γL]
  | .cell ad t :: r, vs, hr => by
    simp only [resL] at hr
    split at hr
    · rename_i v us hv hq
      cases hr
      obtain ⟨i1, i2⟩ := resL_run hT h hq
      obtain ⟨b, o, hx, r1, r2⟩ := h.rel.run_loadVar (P := P) hT hv
      obtain ⟨e1, e2⟩ := ev_γ (x := .tmp ad) h.tm h.sct rfl
      simp only [Act.eval, hx, γ] at e1
      refine ⟨?_, by simp only [scL, r2, i2, Bool.and_self]⟩
      have e3 : (asAddr (a.tmps.getD ad undef)).run P w = .ok ⟨(ρ b).blk, (ρ b).base + o, none⟩ w := by rw [e1]; rfl
      simp only [List.mapM_cons, resF, Sem.run_bind, Sem.run_pure, Result.andThen_ok, e3, r1, i1, γL]
    · cases hr
theorem resA_run (hT : TabOk P T) {w0 : W0} {ρ : Nat → Loc} {s : St} {a : Act} {w : World} (h : SRel w0 ρ s a w) {fn : Func} {v : AVal} (hr : resA T s fn.results.toList = some v) :
    (results fn a.tmps).run P w = .ok (γ ρ v) w ∧ sc s.mem.next v = true := by
  unfold resA at hr
  have key : ∀ vs, resL T s fn.results.toList = some vs → (results fn a.tmps).run P w = .ok (if hh : vs.length = 1 then γ ρ (vs[0]'(by omega)) else .tuple (γL ρ vs).toArray) w ∧ scL s.mem.next vs = true := by
    intro vs hvs
    obtain ⟨r1, r2⟩ := resL_run (P := P) hT h hvs
    refine ⟨?_, r2⟩
    rw [results_eq, Array.mapM_eq_mapM_toList]
    simp only [Sem.run_bind, Sem.run_map, r1]
    simp only [Result.andThen_ok, Sem.run_pure]
    congr 1
    by_cases hl : vs.length = 1
    · simp [hl, γL_map]
    · simp [hl]
  split at hr
  · rename_i u hu
    cases hr
    obtain ⟨k1, k2⟩ := key _ hu
    simp only [scL, Bool.and_true] at k2
    exact ⟨by simpa using k1, k2⟩
  · rename_i us hne hu
    cases hr
    obtain ⟨k1, k2⟩ := key _ hu
    refine ⟨?_, by simpa only [sc] using k2⟩
    have hl : ¬ us.length = 1 := by
      intro hl
      match us, hl with
      | [x], _ => exact hne x rfl
    rw [dif_neg hl] at k1
    simpa only [γ] using k1
  · cases hr
theorem call_of_body (hT : TabOk P T) {f : FuncId} {fn : Func} {c : Code} {args : List AVal} {σ : Mem} (hf : P.funcs[f]? = some fn) (hb : fn.body = some c) {R : ARes → Mem → Prop}
    (h : AWP P c (initSt fn.ntmps args σ) fun o s' => ∃ r σ', endA T fn.results.toList o s' = some (r, σ') ∧ R r σ') :
    ∀ w0 ρ w, Rel w0 ρ σ w → scL σ.next args = true →
      Calls P f (γL ρ args).toArray w fun e w' => ∃ r σ' ρ', R r σ' ∧ e = endOf ρ' r ∧ Post w0 ρ σ.next ρ' σ' w' ∧ sc σ'.next r.value = true := by
  intro w0 ρ w hr hs
  refine calls_of_wp hf hb ?_
  have hsr : SRel w0 ρ (initSt fn.ntmps args σ) { tmps := (γL ρ args).toArray ++ Array.replicate (fn.ntmps - (γL ρ args).toArray.size) undef, defers := [] } w := by
    refine ⟨hr, ?_, ?_, rfl, by simp [initSt]⟩
    · apply Array.ext'
      simp [initSt, γL_append, γL_replicate, undef_γ ρ]
    · simp only [initSt, scL_append]
      refine ⟨hs, ?_⟩
      rw [scL_iff]
      intro v hv
      rw [(List.mem_replicate.1 hv).2]
      simp [sc, scL]
  refine wp_mono (h w0 ρ _ w hsr) ?_
  rintro e a' w' ⟨o, s', ⟨r, σ', h1, h2⟩, ⟨ρ', rfl, k1, k2, k3, k4⟩⟩
  have hdf : s'.df = [] → a'.defers = [] := fun q => by rw [k1.df, q]; rfl
  have hpost : ∀ {σ'}, s'.mem = σ' → Post w0 ρ σ.next ρ' σ' w' := fun q => q ▸ ⟨k1.rel, k2, k3⟩
  cases o with
  | normal =>
    simp only [endA] at h1
    split at h1
    · rename_i hd
      cases hra : resA T s' fn.results.toList with
      | none => rw [hra] at h1; cases h1
      | some v =>
        rw [hra] at h1
        simp only [Option.map_some, Option.some.injEq, Prod.mk.injEq] at h1
        obtain ⟨rfl, rfl⟩ := h1
        obtain ⟨q1, q2⟩ := resA_run hT k1 hra
        exact ⟨hdf hd, _, q1, _, _, ρ', h2, rfl, hpost rfl, q2⟩
    · cases h1
  | ret =>
    simp only [endA] at h1
    split at h1
    · rename_i hd
      cases hra : resA T s' fn.results.toList with
      | none => rw [hra] at h1; cases h1
      | some v =>
        rw [hra] at h1
        simp only [Option.map_some, Option.some.injEq, Prod.mk.injEq] at h1
        obtain ⟨rfl, rfl⟩ := h1
        obtain ⟨q1, q2⟩ := resA_run hT k1 hra
        exact ⟨hdf hd, _, q1, _, _, ρ', h2, rfl, hpost rfl, q2⟩
    · cases h1
  | pan v =>
    simp only [endA] at h1
    split at h1
    · rename_i hd
      simp only [Option.some.injEq, Prod.mk.injEq] at h1
      obtain ⟨rfl, rfl⟩ := h1
      exact ⟨hdf hd, _, _, ρ', h2, rfl, hpost rfl, k4 _ rfl⟩
    · cases h1
  | exit id => simp [endA] at h1
  | goto id => simp [endA] at h1
def noHooks : Hooks := fun _ _ _ => none
end
end Go.Ev

