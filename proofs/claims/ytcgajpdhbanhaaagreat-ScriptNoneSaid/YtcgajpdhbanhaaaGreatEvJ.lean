import Derived.Test.YtcgajpdhbanhaaaGreatEvI
namespace Go.Ev
set_option linter.unusedVariables false
set_option linter.unusedSimpArgs false
structure St where
  tm : List AVal
  df : List ADef
  mem : Mem
  deriving Inhabited
inductive AOut where
  | normal
  | exit (id : Nat)
  | goto (l : Nat)
  | ret
  | pan (v : AVal)
  deriving Inhabited
def exitOf (ρ : Nat → Loc) : AOut → Exit
  | .normal => .normal
  | .exit id => .exit id
  | .goto l => .goto l
  | .ret => .ret
  | .pan v => .panic [{ v := γ ρ v, recovered := false }]
structure SRel (w0 : W0) (ρ : Nat → Loc) (s : St) (a : Act) (w : World) : Prop where
  rel : Rel w0 ρ s.mem w
  tm : a.tmps = (γL ρ s.tm).toArray
  sct : scL s.mem.next s.tm = true
  df : a.defers = s.df.map (γD ρ)
  scd : ∀ d ∈ s.df, scL s.mem.next d.cap = true ∧ scL s.mem.next d.args = true
structure After (w0 : W0) (ρ : Nat → Loc) (n : Nat) (o : AOut) (s' : St) (e : Exit) (a' : Act) (w' : World) : Prop where
  out : ∃ ρ', e = exitOf ρ' o ∧ SRel w0 ρ' s' a' w' ∧ (∀ i, i < n → ρ' i = ρ i) ∧ n ≤ s'.mem.next ∧ (∀ v, o = .pan v → sc s'.mem.next v = true)
def AWP (P : Program) (c : Code) (s : St) (Φ : AOut → St → Prop) : Prop :=
  ∀ w0 ρ a w, SRel w0 ρ s a w → c.wp P (fun e a' w' => ∃ o s', Φ o s' ∧ After w0 ρ s.mem.next o s' e a' w') a w
def setD (tm : List AVal) (d : Option Tmp) (v : AVal) : List AVal :=
  match d with
  | some t => tm.set t v
  | none => tm
def wantedA (all : List Oper) (o : Oper) (tm : List AVal) : Bool :=
  match o.guard with
  | none => true
  | some (j, want) => match (all[j]?).bind (·.dst) with
    | some d => match tm[d]? with
      | some (.bool b) => b == want
      | _ => false
    | none => false
def gj (all : List Oper) (o : Oper) (tm : List AVal) : Bool :=
  match o.guard with
  | none => false
  | some (j, _) => match (all[j]?).bind (·.dst) with
    | some d => match tm[d]? with
      | some (.junk _) => true
      | _ => false
    | none => false
inductive OOut where
  | go (s : St)
  | pan (v : AVal) (s : St)
  deriving Inhabited
def stepOp (T : TTab) (H : Hooks) (all : List Oper) (o : Oper) (s : St) : Option OOut :=
  if gj all o s.tm then none else if wantedA all o s.tm then
    match aexec T H o.op s.tm s.mem with
    | some (.val v, σ) => some (.go ⟨setD s.tm o.dst v, s.df, σ⟩)
    | some (.skip, σ) => some (.go ⟨setD s.tm o.dst (.tup []), s.df, σ⟩)
    | some (.pan v, σ) => some (.pan v ⟨s.tm, s.df, σ⟩)
    | some (.dfr d, σ) => some (.go ⟨setD s.tm o.dst (.tup []), d :: s.df, σ⟩)
    | none => none
  else some (.go ⟨setD s.tm o.dst (.tup []), s.df, s.mem⟩)
def runOps (T : TTab) (H : Hooks) (all : List Oper) : List Oper → St → Option OOut
  | [], s => some (.go s)
  | o :: r, s => match stepOp T H all o s with
    | some (.go s') => runOps T H all r s'
    | x => x
section
variable {P : Program} {T : TTab} {H : Hooks} {ρ : Nat → Loc} {w0 : W0} {w : World} {s : St} {a : Act}
theorem SRel.congr (h : SRel w0 ρ s a w) {ρ' : Nat → Loc} {σ' : Mem} {w' : World} (hp : Post w0 ρ s.mem.next ρ' σ' w') : SRel w0 ρ' ⟨s.tm, s.df, σ'⟩ a w' := by
  refine ⟨hp.rel, ?_, scL_mono hp.le _ h.sct, ?_, fun d hd => ⟨scL_mono hp.le _ (h.scd d hd).1, scL_mono hp.le _ (h.scd d hd).2⟩⟩
  · rw [h.tm, γL_congr hp.ext _ h.sct]
  · rw [h.df]
    apply List.map_congr_left
    intro d hd
    simp only [γD, γL_congr hp.ext _ (h.scd d hd).1, γL_congr hp.ext _ (h.scd d hd).2]
theorem SRel.put (h : SRel w0 ρ s a w) {v : AVal} (hv : sc s.mem.next v = true) (d : Option Tmp) : SRel w0 ρ ⟨setD s.tm d v, s.df, s.mem⟩ (a.put d (γ ρ v)) w := by
  cases d with
  | none => exact ⟨h.rel, h.tm, h.sct, h.df, h.scd⟩
  | some t =>
    refine ⟨h.rel, ?_, scL_set h.sct hv, h.df, h.scd⟩
    simp only [Act.put, h.tm, setD, γL_set, List.setIfInBounds_toArray]
theorem undef_γ (ρ : Nat → Loc) : undef = γ ρ (.tup []) := by simp [γ, γL, undef]
theorem wanted_γ {ops : Array Oper} {o : Oper} {tm : List AVal} (hg : gj ops.toList o tm = false) : Region.wanted o (yielded ops (γL ρ tm).toArray) = wantedA ops.toList o tm := by
  unfold Region.wanted wantedA
  unfold gj at hg
  cases hgu : o.guard with
  | none => rfl
  | some g =>
    obtain ⟨j, want⟩ := g
    rw [hgu] at hg
    simp only [yielded, Array.getElem?_toList]
    simp only [Array.getElem?_toList] at hg
    cases hd : (ops[j]?).bind (·.dst) with
    | none => simp
    | some d =>
      rw [hd] at hg
      simp only at hg
      simp only [Option.bind_some, List.getElem?_toArray, γL_get]
      cases htd : tm[d]? with
      | none => simp
      | some v =>
        rw [htd] at hg
        cases v <;> simp [γ]
        simp at hg
theorem stepOp_wp (hT : TabOk P T) (hH : HooksOk P H) (h : SRel w0 ρ s a w) {ops : Array Oper} {i : Nat} {o : Oper} (hi : ops[i]? = some o) {r : OOut}
    (hx : stepOp T H ops.toList o s = some r) {Q : Exit → Act → World → Prop} {K : Act → World → Prop}
    (hK : match r with
      | .go s' => ∀ ρ' a' w', SRel w0 ρ' s' a' w' → (∀ i, i < s.mem.next → ρ' i = ρ i) → s.mem.next ≤ s'.mem.next → K a' w'
      | .pan v s' => ∀ ρ' a' w', SRel w0 ρ' s' a' w' → (∀ i, i < s.mem.next → ρ' i = ρ i) → s.mem.next ≤ s'.mem.next → sc s'.mem.next v = true →
          Q (.panic [{ v := γ ρ' v, recovered := false }]) a' w') : wpOp P ops Q i K a w := by
  unfold wpOp
  simp only [hi]
  unfold stepOp at hx
  cases hg : gj ops.toList o s.tm with
  | true => rw [hg] at hx; cases hx
  | false =>
  rw [hg] at hx
  simp only [Bool.false_eq_true, if_false] at hx
  have hw : Region.wanted o (yielded ops a.tmps) = wantedA ops.toList o s.tm := by rw [h.tm]; exact wanted_γ hg
  rw [hw]
  split at hx
  · rename_i hwa
    simp only [hwa, if_true]
    refine .inl ?_
    split at hx
    · rename_i v σ' hx'
      cases hx
      refine aexec_wp hT hH h.rel h.tm h.sct hx' fun ρ' w' hp => ?_
      intro hv
      exact hK ρ' _ w' ((h.congr hp).put hv o.dst) hp.ext hp.le
    · rename_i σ' hx'
      cases hx
      refine aexec_wp hT hH h.rel h.tm h.sct hx' fun ρ' w' hp => ?_
      show K (a.put o.dst undef) w'
      rw [undef_γ ρ']
      exact hK ρ' _ w' ((h.congr hp).put (by simp [sc, scL]) o.dst) hp.ext hp.le
    · rename_i v σ' hx'
      cases hx
      refine aexec_wp hT hH h.rel h.tm h.sct hx' fun ρ' w' hp => ?_
      intro hv
      exact hK ρ' a w' (h.congr hp) hp.ext hp.le hv
    · rename_i d σ' hx'
      cases hx
      refine aexec_wp hT hH h.rel h.tm h.sct hx' fun ρ' w' hp => ?_
      intro hc1 hc2
      have h1 := h.congr hp
      have h2 : SRel w0 ρ' ⟨s.tm, d :: s.df, σ'⟩ { a with defers := γD ρ' d :: a.defers } w' :=
        ⟨h1.rel, h1.tm, h1.sct, by rw [List.map_cons, ← h1.df], fun d' hd' => by
          rcases List.mem_cons.1 hd' with rfl | hd'
          · exact ⟨hc1, hc2⟩
          · exact h1.scd d' hd'⟩
      show K ({ a with defers := γD ρ' d :: a.defers }.put o.dst undef) w'
      rw [undef_γ ρ']
      exact hK ρ' _ w' (h2.put (by simp [sc, scL]) o.dst) hp.ext hp.le
    · cases hx
  · rename_i hwa
    cases hx
    have hwa' : wantedA ops.toList o s.tm = false := by simpa using hwa
    simp only [hwa', Bool.false_eq_true, if_false]
    rw [undef_γ ρ]
    exact hK ρ _ w (h.put (by simp [sc, scL]) o.dst) (fun _ _ => rfl) (Nat.le_refl _)
theorem runOps_wp (hT : TabOk P T) (hH : HooksOk P H) {ops : Array Oper} {Q : Exit → Act → World → Prop} : ∀ (l pre : List Oper) (ρ : Nat → Loc) (s : St) (a : Act) (w : World) (r : OOut),
    ops.toList = pre ++ l → SRel w0 ρ s a w → runOps T H ops.toList l s = some r →
    (match r with
      | .go s' => ∀ ρ' a' w', SRel w0 ρ' s' a' w' → (∀ i, i < s.mem.next → ρ' i = ρ i) → s.mem.next ≤ s'.mem.next → Q .normal a' w'
      | .pan v s' => ∀ ρ' a' w', SRel w0 ρ' s' a' w' → (∀ i, i < s.mem.next → ρ' i = ρ i) → s.mem.next ≤ s'.mem.next → sc s'.mem.next v = true →
          Q (.panic [{ v := γ ρ' v, recovered := false }]) a' w') → wpOps P ops Q (List.range' pre.length l.length) a w
  | [], pre, ρ, s, a, w, r, _, h, hx, hK => by
    simp only [runOps, Option.some.injEq] at hx
    subst hx
    exact hK ρ a w h (fun _ _ => rfl) (Nat.le_refl _)
  | o :: l, pre, ρ, s, a, w, r, he, h, hx, hK => by
    rw [List.length_cons, List.range'_succ, wpOps_cons]
    have hi : ops[pre.length]? = some o := by
      rw [← Array.getElem?_toList, he, List.getElem?_append_right (Nat.le_refl _)]; simp
    simp only [runOps] at hx
    cases hs : stepOp T H ops.toList o s with
    | none => rw [hs] at hx; cases hx
    | some q =>
      rw [hs] at hx
      refine stepOp_wp hT hH h hi hs ?_
      cases q with
      | go s1 =>
        intro ρ1 a1 w1 h1 e1 l1
        have := runOps_wp hT hH l (pre ++ [o]) ρ1 s1 a1 w1 r (by simp [he]) h1 hx (by
          cases r with
          | go s' => exact fun ρ' a' w' h' e' l' => hK ρ' a' w' h' (fun i hi => (e' i (by omega)).trans (e1 i hi)) (by omega)
          | pan v s' => exact fun ρ' a' w' h' e' l' => hK ρ' a' w' h' (fun i hi => (e' i (by omega)).trans (e1 i hi)) (by omega))
        simpa using this
      | pan v s1 =>
        simp only [Option.some.injEq] at hx
        subst hx
        exact hK
theorem awp_region (hT : TabOk P T) (hH : HooksOk P H) {id : Nat} {ops : Array Oper} {Φ : AOut → St → Prop} {r : OOut} (hx : runOps T H ops.toList ops.toList s = some r)
    (hΦ : match r with | .go s' => Φ .normal s' | .pan v s' => Φ (.pan v) s') : AWP P (.region id ops false) s Φ := by
  intro w0 ρ a w h
  refine wp_region ?_
  have := runOps_wp (w0 := w0) hT hH (ops := ops) (Q := fun e a' w' => ∃ o s', Φ o s' ∧ After w0 ρ s.mem.next o s' e a' w') ops.toList [] ρ s a w r (by simp) h hx (by
    cases r with
    | go s' => exact fun ρ' a' w' h' e' l' => ⟨.normal, s', hΦ, ⟨ρ', rfl, h', e', l', by simp⟩⟩
    | pan v s' => exact fun ρ' a' w' h' e' l' hv => ⟨.pan v, s', hΦ, ⟨ρ', rfl, h', e', l', by simpa using hv⟩⟩)
  rw [List.range_eq_range']
  simpa using this
theorem AWP.mono {c : Code} {Φ Ψ : AOut → St → Prop} (h : AWP P c s Φ) (hm : ∀ o s', Φ o s' → Ψ o s') : AWP P c s Ψ :=
  fun w0 ρ a w hr => wp_mono (h w0 ρ a w hr) fun _ _ _ ⟨o, s', h1, h2⟩ => ⟨o, s', hm o s' h1, h2⟩
theorem After.trans {n : Nat} {o : AOut} {s1 s2 : St} {ρ1 : Nat → Loc} {e : Exit} {a' : Act} {w' : World} (hle : n ≤ s1.mem.next) (he : ∀ i, i < n → ρ1 i = ρ i)
    (h : After w0 ρ1 s1.mem.next o s2 e a' w') : After w0 ρ n o s2 e a' w' := by
  obtain ⟨ρ2, h1, h2, h3, h4, h5⟩ := h.out
  exact ⟨ρ2, h1, h2, fun i hi => (h3 i (by omega)).trans (he i hi), by omega, h5⟩
theorem awp_skip {Φ : AOut → St → Prop} (h : Φ .normal s) : AWP P .skip s Φ := fun _ ρ _ _ hr => wp_skip ⟨.normal, s, h, ⟨ρ, rfl, hr, fun _ _ => rfl, Nat.le_refl _, by simp⟩⟩
theorem awp_label {l : Nat} {Φ : AOut → St → Prop} (h : Φ .normal s) : AWP P (.label l) s Φ := fun _ ρ _ _ hr => wp_label ⟨.normal, s, h, ⟨ρ, rfl, hr, fun _ _ => rfl, Nat.le_refl _, by simp⟩⟩
theorem awp_exit {id : Nat} {Φ : AOut → St → Prop} (h : Φ (.exit id) s) : AWP P (.exit id) s Φ := fun _ ρ _ _ hr => wp_exit ⟨.exit id, s, h, ⟨ρ, rfl, hr, fun _ _ => rfl, Nat.le_refl _, by simp⟩⟩
theorem awp_goto {id : Nat} {Φ : AOut → St → Prop} (h : Φ (.goto id) s) : AWP P (.goto id) s Φ := fun _ ρ _ _ hr => wp_goto ⟨.goto id, s, h, ⟨ρ, rfl, hr, fun _ _ => rfl, Nat.le_refl _, by simp⟩⟩
theorem awp_ret {Φ : AOut → St → Prop} (h : Φ .ret s) : AWP P .ret s Φ := fun _ ρ _ _ hr => wp_ret ⟨.ret, s, h, ⟨ρ, rfl, hr, fun _ _ => rfl, Nat.le_refl _, by simp⟩⟩
def AOut.andThen (Ψ : St → Prop) (Φ : AOut → St → Prop) : AOut → St → Prop
  | .normal, s => Ψ s
  | o, s => Φ o s
def AOut.inBlock (id : Nat) (Φ : AOut → St → Prop) : AOut → St → Prop
  | .exit id', s => if id' = id then Φ .normal s else Φ (.exit id') s
  | o, s => Φ o s
end
end Go.Ev

