import Derived.Test.YtcgajpdhbanhaaaGreatEvFc
import Derived.RangeFuncRecord
import Derived.LoopNIn
import Derived.OrdersIn
import Derived.RangeFuncLeaves
namespace Go.Ev
set_option linter.unusedVariables false
def FW (r : Option Nat) : Fence := { Fence.wide with round := r }
section
variable {P : Program} {r : Option Nat} {n : Nat}
theorem calls_FW {f : FuncId} {args : Array Value} {w : World} {R : Ending → World → Prop} (h : Calls P f args w R) : CallsIn (FW r) n P f args w R :=
  callsIn_wide (n := n).2 h
theorem FW_calls {f : FuncId} {args : Array Value} {w : World} {R : Ending → World → Prop} (h : CallsIn (FW r) n P f args w R) : Calls P f args w R :=
  callsIn_wide (n := n).1 h
theorem rows_FW {row : String} {args : Array Value} {w : World} {R : Value → World → Prop} (h : Rows P row args w R) : RowsIn (FW r) n P row args w R := by
  intro c cs _
  obtain ⟨v, w', h1, h2⟩ := h c cs
  exact ⟨v, w', h1, (stepsIn_wide (P := P)).2 h2⟩
def isDefer : Op → Bool
  | .defer _ => true
  | _ => false
theorem oper_FW {o : Oper} {a : Act} {w : World} {K K' : Act → World → Prop} {Q : Exit → Act → World → Prop} (hd : isDefer o.op = false ∨ r = none) (hK : ∀ a w, K a w → K' a w) (h : o.wp P a w K Q) : o.wpIn (FW r) n P a w K' Q := by
  refine ⟨fun _ _ => trivial, ?_⟩
  have e : Oper.semAt (FW r).round a.eval o = execOp a.eval o := by
    rcases hd with hd | hd
    · exact Oper.semAt_eq _ _ _ fun c hc => by rw [hc] at hd; cases hd
    · subst hd; rfl
  rw [e]
  unfold Oper.wp at h
  generalize (execOp a.eval o).run P w = x at h
  cases x with
  | ok y w' =>
    cases y with
    | value v => exact hK _ _ h
    | skip => exact hK _ _ h
    | «defer» d => exact hK _ _ h
    | enter f args =>
      refine ⟨fun hh => (by cases hh), ?_⟩
      refine calls_FW (Calls.mono h fun e w'' q => ?_)
      cases e with
      | returned v => exact hK _ _ q
      | panicked ch => exact q
      | outgrown => exact q
    | row rw args => exact ⟨fun hh => (by cases hh), rows_FW (Rows.mono h fun v w'' q => hK _ _ q)⟩
    | round l f tm x y => exact h.elim
    | recover => exact h.elim
    | spawn d => exact h.elim
    | _ => exact h.elim
  | halt x w' =>
    cases x <;> first | exact h | exact h.elim
theorem wpOp_FW {ops : Array Oper} {Q : Exit → Act → World → Prop} {i : Nat} {K K' : Act → World → Prop} {a : Act} {w : World} (hQ : ¬ LetsOut Q) (hd : (∀ o ∈ ops.toList, isDefer o.op = false) ∨ r = none) (hK : ∀ a w, K a w → K' a w)
    (h : wpOp P ops Q i K a w) : wpOpIn (FW r) n P ops Q i K' a w := by
  unfold wpOp at h
  unfold wpOpIn
  cases ho : ops[i]? with
  | none => rw [ho] at h; exact hK _ _ h
  | some o =>
    rw [ho] at h
    simp only at h ⊢
    split at h
    · rename_i hw
      rw [if_pos hw]
      rcases h with h | h
      · exact oper_FW (hd.imp (fun q => q o (by rw [Array.mem_toList_iff]; exact Array.mem_of_getElem? ho)) id) hK h
      · exact absurd h.2 hQ
    · rename_i hw
      rw [if_neg hw]
      exact ⟨fun _ _ => trivial, hK _ _ h⟩
theorem wpOps_FW {ops : Array Oper} {Q : Exit → Act → World → Prop} (hQ : ¬ LetsOut Q) (hd : (∀ o ∈ ops.toList, isDefer o.op = false) ∨ r = none) : ∀ (l : List Nat) {a : Act} {w : World}, wpOps P ops Q l a w → wpOpsIn (FW r) n P ops Q l a w
  | [], _, _, h => h
  | i :: l, a, w, h => by
    rw [wpOps_cons] at h
    rw [wpOpsIn_cons]
    exact wpOp_FW hQ hd (fun _ _ q => wpOps_FW hQ hd l q) h
theorem wpAny_FW {ops : Array Oper} {Q : Exit → Act → World → Prop} {md : Region.Mode} (hQ : ¬ LetsOut Q) (hd : (∀ o ∈ ops.toList, isDefer o.op = false) ∨ r = none) : ∀ (fuel : Nat) {listed : Array Bool} {a : Act} {w : World}, wpAny P md ops Q fuel listed a w → wpAnyIn (FW r) n P md ops Q fuel listed a w
  | 0, _, _, _, h => h
  | fuel + 1, _, _, _, h => ⟨h.1, fun i hi => wpOp_FW hQ hd (fun _ _ q => wpAny_FW hQ hd fuel q) (h.2 i hi)⟩
end
def AWPy (G : W0 → (Nat → Loc) → Prop) (r : Option Nat) (P : Program) (n : Nat) (c : Code) (s : St) (Φ : AOut → St → Prop) : Prop :=
  n ≤ s.mem.next → ∀ w0 ρ a w, G w0 ρ → SRel w0 ρ s a w → c.wpIn (FW r) 0 P (fun e a' w' => ∃ o s', Φ o s' ∧ After w0 ρ n o s' e a' w') a w
def GOk (n : Nat) (G : W0 → (Nat → Loc) → Prop) : Prop := ∀ w0 ρ ρ', (∀ i, i < n → ρ' i = ρ i) → G w0 ρ → G w0 ρ'
section
variable {G : W0 → (Nat → Loc) → Prop} {r : Option Nat} {P : Program} {n : Nat} {s : St}
theorem after_out {w0 : W0} {ρ : Nat → Loc} {Φ : AOut → St → Prop} : ¬ LetsOut (fun e a' w' => ∃ o s', Φ o s' ∧ After w0 ρ n o s' e a' w') := by
  rintro ⟨a, w, o, s', _, ⟨ρ', h, _⟩⟩
  cases o <;> cases h
theorem AWPy.mono {c : Code} {Φ Ψ : AOut → St → Prop} (h : AWPy G r P n c s Φ) (hm : ∀ o s', Φ o s' → Ψ o s') : AWPy G r P n c s Ψ :=
  fun hn w0 ρ a w hg hr => wpIn_mono (h hn w0 ρ a w hg hr) fun _ _ _ ⟨o, s', h1, h2⟩ => ⟨o, s', hm o s' h1, h2⟩
theorem awpy_skip {Φ : AOut → St → Prop} (h : Φ .normal s) : AWPy G r P n .skip s Φ := fun hn _ ρ _ _ _ hr => wpIn_skip ⟨.normal, s, h, ⟨ρ, rfl, hr, fun _ _ => rfl, hn, by simp⟩⟩
theorem awpy_label {l : Nat} {Φ : AOut → St → Prop} (h : Φ .normal s) : AWPy G r P n (.label l) s Φ := fun hn _ ρ _ _ _ hr => wpIn_label ⟨.normal, s, h, ⟨ρ, rfl, hr, fun _ _ => rfl, hn, by simp⟩⟩
theorem awpy_exit {id : Nat} {Φ : AOut → St → Prop} (h : Φ (.exit id) s) : AWPy G r P n (.exit id) s Φ := fun hn _ ρ _ _ _ hr => wpIn_exit ⟨.exit id, s, h, ⟨ρ, rfl, hr, fun _ _ => rfl, hn, by simp⟩⟩
theorem awpy_goto {id : Nat} {Φ : AOut → St → Prop} (h : Φ (.goto id) s) : AWPy G r P n (.goto id) s Φ := fun hn _ ρ _ _ _ hr => wpIn_goto ⟨.goto id, s, h, ⟨ρ, rfl, hr, fun _ _ => rfl, hn, by simp⟩⟩
theorem awpy_ret {Φ : AOut → St → Prop} (h : Φ .ret s) : AWPy G r P n .ret s Φ := fun hn _ ρ _ _ _ hr => wpIn_ret ⟨.ret, s, h, ⟨ρ, rfl, hr, fun _ _ => rfl, hn, by simp⟩⟩
theorem awpy_seq (hG : GOk n G) {x y : Code} {Φ : AOut → St → Prop} (h : AWPy G r P n x s (AOut.andThen (fun s' => AWPy G r P n y s' Φ) Φ)) : AWPy G r P n (.seq x y) s Φ := by
  intro hn w0 ρ a w hg hr
  refine wpIn_seq (wpIn_mono (h hn w0 ρ a w hg hr) ?_)
  rintro e a' w' ⟨o, s', h1, ⟨ρ', rfl, h2, h3, h4, h5⟩⟩
  cases o with
  | normal => exact wpIn_mono (h1 h4 w0 ρ' a' w' (hG w0 ρ ρ' h3 hg) h2) fun _ _ _ ⟨o, s'', q1, q2⟩ => ⟨o, s'', q1, q2.step h3⟩
  | exit id => exact ⟨.exit id, s', h1, ⟨ρ', rfl, h2, h3, h4, h5⟩⟩
  | goto id => exact ⟨.goto id, s', h1, ⟨ρ', rfl, h2, h3, h4, h5⟩⟩
  | ret => exact ⟨.ret, s', h1, ⟨ρ', rfl, h2, h3, h4, h5⟩⟩
  | pan v => exact ⟨.pan v, s', h1, ⟨ρ', rfl, h2, h3, h4, h5⟩⟩
theorem awpy_cond {c : Operand} {x y : Code} {b : Bool} {Φ : AOut → St → Prop} (hc : ev s.tm c = some (.bool b)) (h : AWPy G r P n (if b then x else y) s Φ) : AWPy G r P n (.cond c x y) s Φ :=
  fun hn w0 ρ a w hg hr => wpIn_cond (t := b) (by have := (ev_γ hr.tm hr.sct hc).1; simpa only [γ] using this) (h hn w0 ρ a w hg hr)
theorem awpy_block {id : Nat} {c : Code} {Φ : AOut → St → Prop} (h : AWPy G r P n c s (AOut.inBlock id Φ)) : AWPy G r P n (.block id c) s Φ := by
  intro hn w0 ρ a w hg hr
  refine wpIn_block (wpIn_mono (h hn w0 ρ a w hg hr) ?_)
  rintro e a' w' ⟨o, s', h1, ⟨ρ', rfl, h2, h3, h4, h5⟩⟩
  cases o with
  | normal => exact ⟨.normal, s', h1, ⟨ρ', rfl, h2, h3, h4, h5⟩⟩
  | exit id' =>
    simp only [AOut.inBlock] at h1
    simp only [exitOf, Exit.inBlock]
    split
    · rename_i hid
      rw [if_pos hid] at h1
      exact ⟨.normal, s', h1, ⟨ρ', rfl, h2, h3, h4, by simp⟩⟩
    · rename_i hid
      rw [if_neg hid] at h1
      exact ⟨.exit id', s', h1, ⟨ρ', rfl, h2, h3, h4, by simp⟩⟩
  | goto id => exact ⟨.goto id, s', h1, ⟨ρ', rfl, h2, h3, h4, h5⟩⟩
  | ret => exact ⟨.ret, s', h1, ⟨ρ', rfl, h2, h3, h4, h5⟩⟩
  | pan v => exact ⟨.pan v, s', h1, ⟨ρ', rfl, h2, h3, h4, h5⟩⟩
theorem awpy_of_awpn {c : Code} {Φ : AOut → St → Prop} (h : AWPn P n c s Φ) : AWPy G none P n c s Φ :=
  fun hn w0 ρ a w _ hr => (wpIn_wide (n := 0)).2 (h hn w0 ρ a w hr)
theorem AWPy.awpn {c : Code} {Φ : AOut → St → Prop} (h : AWPy (fun _ _ => True) none P n c s Φ) : AWPn P n c s Φ :=
  fun hn w0 ρ a w hr => (wpIn_wide (n := 0)).1 (h hn w0 ρ a w trivial hr)
theorem wp_scope_gen {c : Code} {Q : Exit → Act → World → Prop} (I : Nat → Code → Act → World → Prop)
    (hI : ∀ m x a w, I m x a w → x.wp P (fun e a' w' => match e with | .goto l => ∃ rest m', m' < m ∧ findLabel c l = some rest ∧ I m' rest a' w' | e => Q e a' w') a w)
    {m : Nat} {a : Act} {w : World} (h : I m c a w) : (Code.scope c).wp P Q a w := by
  intro b k cs
  have key : ∀ m x a w, I m x a w → ∃ e a' w', Q e a' w' ∧ Arrives P (lone (b.at a (.code x :: .inScope c :: k)) cs w) b k cs e a' w' := by
    intro m
    induction m using Nat.strongRecOn with
    | _ m ih =>
      intro x a w hx
      obtain ⟨e, a₁, w₁, hq, harr⟩ := hI m x a w hx b (.inScope c :: k) cs
      cases e with
      | normal => exact ⟨.normal, a₁, w₁, hq, Steps.trans harr (.one step_inScope)⟩
      | exit id => exact ⟨.exit id, a₁, w₁, hq, fun k' hk => harr k' (by simp [exitTo, hk])⟩
      | goto l =>
        obtain ⟨rest, m', hlt, hf, hJ⟩ := hq
        obtain ⟨e₂, a₂, w₂, hq₂, harr₂⟩ := ih m' hlt rest a₁ w₁ hJ
        have hg : gotoIn l (.inScope c :: k) = some (.code rest :: .inScope c :: k) := by simp [gotoIn, hf]
        exact ⟨e₂, a₂, w₂, hq₂, .of_steps (harr _ hg) harr₂⟩
      | ret => exact ⟨_, a₁, w₁, hq, harr⟩
      | panic ch => exact ⟨_, a₁, w₁, hq, harr⟩
      | outgrown => exact ⟨_, a₁, w₁, hq, harr⟩
  obtain ⟨e, a', w', h1, h2⟩ := key m c a w h
  exact ⟨e, a', w', h1, .of_steps (.one step_scope) h2⟩
theorem awpy_scopeN {b : Code} {Φ : AOut → St → Prop} (hG : GOk n G) (I : Nat → Code → St → Prop)
    (hI : ∀ m x s, I m x s → AWPy G none P n x s fun o s' => match o with | .goto l => ∃ rest m', m' < m ∧ findLabel b l = some rest ∧ I m' rest s' | o => Φ o s') {m : Nat} (h : I m b s) : AWPy G none P n (.scope b) s Φ := by
  intro hn w0 ρ a w hg hr
  refine (wpIn_wide (n := 0)).2 (wp_scope_gen (fun m x a w => ∃ s ρ', I m x s ∧ SRel w0 ρ' s a w ∧ (∀ i, i < n → ρ' i = ρ i) ∧ n ≤ s.mem.next) ?_ (m := m) ⟨s, ρ, h, hr, fun _ _ => rfl, hn⟩)
  rintro m x a w ⟨s, ρ1, h1, h2, h3, h4⟩
  refine wp_mono ((wpIn_wide (n := 0)).1 (hI m x s h1 h4 w0 ρ1 a w (hG w0 ρ ρ1 h3 hg) h2)) ?_
  rintro e a' w' ⟨o, s', k1, ⟨ρ2, rfl, k2, k3, k4, k5⟩⟩
  have e2 : ∀ i, i < n → ρ2 i = ρ i := fun i hi => (k3 i hi).trans (h3 i hi)
  cases o with
  | goto l =>
    obtain ⟨rest, m', q1, q2, q3⟩ := k1
    exact ⟨rest, m', q1, q2, s', ρ2, q3, k2, e2, k4⟩
  | normal => exact ⟨_, s', k1, ⟨ρ2, rfl, k2, e2, k4, k5⟩⟩
  | exit i => exact ⟨_, s', k1, ⟨ρ2, rfl, k2, e2, k4, k5⟩⟩
  | ret => exact ⟨_, s', k1, ⟨ρ2, rfl, k2, e2, k4, k5⟩⟩
  | pan v => exact ⟨_, s', k1, ⟨ρ2, rfl, k2, e2, k4, k5⟩⟩
theorem roundsIn_mono {F : Fence} {m : Nat} {b : Code} {Q Q' : Exit → Act → World → Prop} (hQ : ∀ e a w, Q e a w → Q' e a w) : ∀ (k : Nat) {a : Act} {w : World}, Code.roundsIn F m P b Q k a w → Code.roundsIn F m P b Q' k a w
  | 0, _, _, h => h
  | k + 1, a, w, h => by
    rw [roundsIn_succ] at h ⊢
    refine wpIn_mono h fun e a' w' q => ?_
    cases e with
    | normal => exact roundsIn_mono hQ k q
    | _ => exact hQ _ _ _ q
theorem awpy_ops {id : Nat} {ops : Array Oper} {Φ : AOut → St → Prop} (hd : (∀ o ∈ ops.toList, isDefer o.op = false) ∨ r = none)
    (h : n ≤ s.mem.next → ∀ w0 ρ a w, SRel w0 ρ s a w → wpOps P ops (fun e a' w' => ∃ o s', Φ o s' ∧ After w0 ρ n o s' e a' w') (List.range ops.size) a w) : AWPy G r P n (.region id ops false) s Φ :=
  fun hn w0 ρ a w _ hr => wpIn_region (wpOps_FW after_out hd _ (h hn w0 ρ a w hr))
end
section
variable {w0 : W0} {ρ : Nat → Loc} {σ : Mem} {w : World}
theorem Rel.putTurn (h : Rel w0 ρ σ w) {j k i : Nat} (hj : σ.get j = some (.turn k i)) (b' : ABlk) (o : Obj) (hsc : scB σ.next b' = true) (hb : ∀ w' : World, w'.heap[(ρ j).blk]? = some o → BOk ρ (ρ j) w' b') :
    Rel w0 ρ (σ.set j b') (w.putObj (ρ j).blk o) := by
  have hown := h.own j _ hj rfl
  have hin := h.inb j _ hj rfl
  refine ⟨fun x b hx => ?_, fun x b hx => ?_, fun x b hx => ?_, fun x b hx ha => ?_, fun x y bx by' hx hy hne ho ha => ?_, fun x b hx ho => ?_, h.os, h.tape, h.output, by rw [World.putObj_size]; exact h.size, fun p hp => ?_⟩
  · rw [get_set] at hx
    split at hx
    · rename_i e; subst e; exact h.lt j _ hj
    · exact h.lt x b hx
  · rw [get_set] at hx
    split at hx
    · cases hx; exact hsc
    · exact h.sco x b hx
  · rw [get_set] at hx
    split at hx
    · rename_i e
      subst e
      cases hx
      exact hb _ (World.putObj_heap_same hin)
    · rename_i hij
      by_cases ha : b.alive = true
      · exact BOk_congr (fun _ _ => rfl) (World.putObj_heap_other (h.ap j x _ b hj hx hij rfl ha).symm) b (h.sco x b hx) (h.ok x b hx)
      · exact BOk_still ha (h.ok x b hx)
  · rw [World.putObj_size]
    rw [get_set] at hx
    split at hx
    · rename_i e; subst e; exact hin
    · exact h.inb x b hx ha
  · rw [get_set] at hx hy
    split at hx
    · rename_i e
      subst e
      rw [if_neg hne] at hy
      exact h.ap _ _ _ _ hj hy hne rfl ha
    · rename_i e
      split at hy
      · rename_i e2; subst e2; exact h.ap _ _ _ _ hx hj hne ho rfl
      · exact h.ap _ _ _ _ hx hy hne ho ha
  · rw [get_set] at hx
    split at hx
    · rename_i e; subst e; exact hown
    · exact h.own x b hx ho
  · rw [World.putObj_heap_other (by rintro rfl; exact hown hp)]
    exact h.old p hp
end
structure YEnv where
  nm : Nat
  ps : Array Tmp
  assign : Code
  body : Code
  tm : List AVal
def setPs : List Tmp → List AVal → List AVal → List AVal
  | t :: ps, v :: vs, tm => setPs ps vs (tm.set t v)
  | _, _, tm => tm
theorem setPs_γ {ρ : Nat → Loc} : ∀ (ps : List Tmp) (vs tm : List AVal), ((ps.zip (γL ρ vs)).foldl (fun t (x : Tmp × Value) => t.setIfInBounds x.1 x.2) (γL ρ tm).toArray) = (γL ρ (setPs ps vs tm)).toArray
  | [], vs, tm => by simp [setPs]
  | t :: ps, [], tm => by simp [setPs, γL]
  | t :: ps, v :: vs, tm => by
    simp only [γL, List.zip_cons_cons, List.foldl_cons, setPs, List.setIfInBounds_toArray, ← γL_set]
    exact setPs_γ ps vs (tm.set t v)
theorem setPs_sc {n : Nat} : ∀ (ps : List Tmp) (vs tm : List AVal), scL n vs = true → scL n tm = true → scL n (setPs ps vs tm) = true
  | [], _, _, _, h => h
  | _ :: _, [], _, _, h => h
  | t :: ps, v :: vs, tm, hv, h => by
    simp only [scL, Bool.and_eq_true] at hv
    exact setPs_sc ps vs (tm.set t v) hv.2 (scL_set h hv.1)
def recOfY (Y : YEnv) (ρ : Nat → Loc) (fn : FuncId) (D : Nat) : Loop :=
  { state := .ready, pending := none, fn, tmps := (γL ρ Y.tm).toArray, params := Y.ps, assign := Y.assign, body := Y.body, defers := D }
def yG (Y : YEnv) : W0 → (Nat → Loc) → Prop := fun _ ρ =>
  ∃ fn D, (ρ Y.nm).val = .func (.yield (ρ Y.nm).blk) #[] #[] ∧ (ρ Y.nm).lp = recOfY Y ρ fn D
theorem yG_ok {Y : YEnv} {n : Nat} (hn : Y.nm < n) (ht : scL n Y.tm = true) : GOk n (yG Y) := by
  rintro w0 ρ ρ' he ⟨fn, D, h1, h2⟩
  refine ⟨fn, D, by rw [he _ hn]; exact h1, ?_⟩
  rw [he _ hn, h2]
  simp only [recOfY, γL_congr he _ ht]
def jumpA : AOut → Option (Nat × Nat)
  | .normal => some (0, 0)
  | .ret => some (1, 0)
  | .exit i => some (2, i)
  | .goto i => some (3, i)
  | .pan _ => none
theorem round_run {P : Program} {Y : YEnv} {n : Nat} {vs : List AVal} {σ : Mem} {Ψ : Bool → Mem → Prop} (hlen : vs.length = Y.ps.size) (hn : n ≤ σ.next) (hnm : Y.nm < n) (hsv : scL σ.next vs = true) (hst : scL n Y.tm = true)
    (h : ∀ l, AWPy (fun _ _ => True) (some l) P σ.next Y.assign ⟨setPs Y.ps.toList vs Y.tm, [], σ⟩ fun o s1 => o = .normal ∧ s1.mem.get Y.nm = some (.turn 0 0) ∧
      AWPy (fun _ _ => True) (some l) P σ.next Y.body ⟨s1.tm, s1.df, s1.mem.set Y.nm (.turn 4 0)⟩ fun o s2 => s2.mem.get Y.nm = some (.turn 4 0) ∧ ∃ k i, jumpA o = some (k, i) ∧ Ψ (Nat.beq k 0) (s2.mem.set Y.nm (.turn k i)))
    (hget : σ.get Y.nm = some (.turn 0 0)) {w0 : W0} {ρ : Nat → Loc} {w : World} (hr : Rel w0 ρ σ w) {fn : FuncId} {D : Nat} (hp : (ρ Y.nm).lp = recOfY Y ρ fn D) :
    (Instr.yield (ρ Y.nm).blk (γL ρ vs).toArray).run P w = .ok (.round (ρ Y.nm).blk fn (γL ρ (setPs Y.ps.toList vs Y.tm)).toArray Y.assign Y.body) w ∧
    RoundIn (FW none) 0 P (ρ Y.nm).blk fn (γL ρ (setPs Y.ps.toList vs Y.tm)).toArray Y.assign Y.body w fun e w' => ∃ b, e = .returned (.bool b) ∧ ∃ ρ' σ', Ψ b σ' ∧ Post w0 ρ σ.next ρ' σ' w' := by
  obtain ⟨l, hl⟩ : ∃ l, (ρ Y.nm).blk = l := ⟨_, rfl⟩
  have hlw : w.heap[l]? = some (.loop (recOfY Y ρ fn D)) := by
    have := hr.ok _ _ hget
    rw [BOk, hp, hl] at this
    exact this
  rw [hl]
  refine ⟨?_, ?_⟩
  · rw [run_yield hlw (by simp [recOfY, γL_length, hlen])]
    simp only [recOfY]
    congr 2
    rw [← setPs_γ Y.ps.toList vs Y.tm, ← Array.foldl_toList, Array.toList_zip]
  refine roundIn_of_wpIn (F := FW none) trivial ?_
  have hsr : SRel w0 ρ ⟨setPs Y.ps.toList vs Y.tm, [], σ⟩ { tmps := (γL ρ (setPs Y.ps.toList vs Y.tm)).toArray, defers := [] } w := ⟨hr, rfl, setPs_sc _ _ _ hsv (scL_mono hn _ hst), rfl, by simp⟩
  refine wpIn_mono (h l (Nat.le_refl _) w0 ρ _ w trivial hsr) ?_
  rintro e a' w1 ⟨o, s1, ⟨rfl, hg1, hB⟩, ⟨ρ1, rfl, k1, k2, k3, k4⟩⟩
  have e1 : ρ1 Y.nm = ρ Y.nm := k2 _ (by omega)
  have hl1 : w1.heap[l]? = some (.loop (recOfY Y ρ fn D)) := by
    have := k1.rel.ok _ _ hg1
    rw [BOk, e1, hp, hl] at this
    exact this
  refine ⟨_, run_beginRound hl1 rfl, ?_⟩
  have R1 : Rel w0 ρ1 (s1.mem.set Y.nm (.turn 4 0)) (w1.putObj l (.loop { recOfY Y ρ fn D with state := .busy })) := by
    have := k1.rel.putTurn hg1 (.turn 4 0) (.loop { recOfY Y ρ fn D with state := .busy }) rfl fun w' hw' => by
      rw [BOk, hw', e1, hp]
      rfl
    rw [e1, hl] at this
    exact this
  refine wpIn_mono (hB k3 w0 ρ1 a' _ trivial ⟨R1, k1.tm, k1.sct, k1.df, k1.scd⟩) ?_
  rintro e a2 w2 ⟨o, s2, ⟨hg2, k, i, hji, hΨ⟩, ⟨ρ2, rfl, j1, j2, j3, j4⟩⟩
  have e2 : ρ2 Y.nm = ρ Y.nm := (j2 _ (by omega)).trans e1
  have hl2 : w2.heap[l]? = some (.loop { recOfY Y ρ fn D with state := .busy }) := by
    have := j1.rel.ok _ _ hg2
    rw [BOk, e2, hp, hl] at this
    exact this
  have fin : ∀ (jump : Option Code) (k i : Nat), jump.isNone = Nat.beq k 0 → (turned (recOfY Y ρ fn D) k i) = { recOfY Y ρ fn D with state := if jump.isNone then .ready else .done, pending := jump } → Ψ (Nat.beq k 0) (s2.mem.set Y.nm (.turn k i)) →
      ∃ v w', (Instr.endRound l jump).run P w2 = .ok v w' ∧ ∃ b, Ending.returned v = .returned (.bool b) ∧ ∃ ρ' σ', Ψ b σ' ∧ Post w0 ρ σ.next ρ' σ' w' := by
    intro jump k i h1 h2 h3
    refine ⟨_, _, run_endRound jump hl2, _, rfl, ρ2, s2.mem.set Y.nm (.turn k i), by rw [h1]; exact h3, ⟨?_, fun i hi => (j2 i hi).trans (k2 i hi), j3⟩⟩
    have := j1.rel.putTurn hg2 (.turn k i) (.loop { recOfY Y ρ fn D with state := if jump.isNone then .ready else .done, pending := jump }) rfl fun w' hw' => by
      rw [BOk, hw', e2, hp, h2]
    rw [e2, hl] at this
    exact this
  cases o with
  | normal =>
    simp only [jumpA, Option.some.injEq, Prod.mk.injEq] at hji
    obtain ⟨rfl, rfl⟩ := hji
    exact fin none 0 0 rfl rfl hΨ
  | ret =>
    simp only [jumpA, Option.some.injEq, Prod.mk.injEq] at hji
    obtain ⟨rfl, rfl⟩ := hji
    exact fin (some .ret) 1 0 rfl rfl hΨ
  | exit x =>
    simp only [jumpA, Option.some.injEq, Prod.mk.injEq] at hji
    obtain ⟨rfl, rfl⟩ := hji
    exact fin (some (.exit x)) 2 x rfl rfl hΨ
  | goto x =>
    simp only [jumpA, Option.some.injEq, Prod.mk.injEq] at hji
    obtain ⟨rfl, rfl⟩ := hji
    exact fin (some (.goto x)) 3 x rfl rfl hΨ
  | pan v => cases hji
theorem alloc_eq (w : World) (o : Obj) : w.alloc o = { w with heap := w.heap.push o } := rfl
def leaveA : Nat → Nat → Option AOut
  | 0, _ => some .normal
  | 1, _ => some .ret
  | 2, i => some (.exit i)
  | 3, i => some (.goto i)
  | _, _ => none
theorem awpy_rangeFunc {P : Program} {T : TTab} (hT : TabOk P T) {G : W0 → (Nat → Loc) → Prop} {n : Nat} {s : St} {g : Operand} {ps : Array Tmp} {assign body : Code} {f : FuncId} {cs : List AVal} {fn : Func} {c : Code} {Φ : AOut → St → Prop}
    (hg : ev s.tm g = some (.func f [] cs)) (hf : P.funcs[f]? = some fn) (hb : fn.body = some c) (hfn : IsFn P f)
    (h : scL s.mem.next s.tm = true → AWPy (yG ⟨s.mem.next + 1, ps, assign, body, s.tm⟩) none P (s.mem.next + 2) c (initSt fn.ntmps (.junk (s.mem.next + 1) :: cs) ((s.mem.push .coll).push (.turn 0 0))) fun o s' =>
      (o = .normal ∨ o = .ret) ∧ s'.df = [] ∧ (∃ v, resA T s' fn.results.toList = some v) ∧ ∃ k i o2, s'.mem.get (s.mem.next + 1) = some (.turn k i) ∧ leaveA k i = some o2 ∧
        Φ o2 ⟨s.tm, ⟨markF, [.junk s.mem.next], []⟩ :: s.df, s'.mem.set (s.mem.next + 1) .dead⟩) : AWPy G none P n (.rangeFunc g ps assign body) s Φ := by
  intro hn w0 ρ a w hG hr
  obtain ⟨e1, e2⟩ := ev_γ hr.tm hr.sct hg
  simp only [sc, scL, Bool.true_and] at e2
  have hev : a.eval g = .func (.func f) #[] (γL ρ cs).toArray := by rw [e1]; simp [γ, γL]
  refine wpIn_rangeFunc (F := FW none) ?_
  intro fid _
  obtain ⟨D, hD⟩ : ∃ D, D = w.heap.size := ⟨_, rfl⟩
  obtain ⟨rec, hrec⟩ : ∃ rec : Loop, rec = { state := .ready, pending := none, fn := fid, tmps := a.tmps, params := ps, assign, body, defers := D } := ⟨_, rfl⟩
  obtain ⟨W1, hW1⟩ : ∃ W1, (w.alloc (.deferred (some []))).alloc (.loop rec) = W1 := ⟨_, rfl⟩
  let LD : Loc := { blk := D, base := 0, capE := 0, val := .int .i64 D }
  let LL : Loc := { blk := D + 1, base := 0, capE := 0, val := .func (.yield (D + 1)) #[] #[], lp := rec }
  have hD1 : (w.alloc (.deferred (some []))).heap[D]? = some (.deferred (some [])) := by rw [hD]; exact World.alloc_heap_new w _
  have R1 : Rel w0 (upd ρ s.mem.next LD) (s.mem.push .coll) (w.alloc (.deferred (some []))) := hr.rel.push (L := LD) hD rfl fun _ _ => ⟨by rw [← alloc_eq]; exact hD1, rfl⟩
  have hs1 : (w.alloc (.deferred (some []))).heap.size = D + 1 := by rw [World.size_alloc, hD]
  have hl1 : W1.heap[D + 1]? = some (.loop rec) := by rw [← hW1, ← hs1]; exact World.alloc_heap_new _ _
  have R2 : Rel w0 (upd (upd ρ s.mem.next LD) (s.mem.next + 1) LL) ((s.mem.push .coll).push (.turn 0 0)) W1 := by
    rw [← hW1]
    exact R1.push (L := LL) hs1.symm rfl fun _ _ => by
      show _ = some (Obj.loop rec)
      rw [← alloc_eq, hW1]
      exact hl1
  generalize hρ : upd (upd ρ s.mem.next LD) (s.mem.next + 1) LL = ρ2 at R2
  have r0 : ∀ i, i < s.mem.next → ρ2 i = ρ i := fun i hi => by rw [← hρ, upd_lt (by omega), upd_lt hi]
  have r1 : ρ2 s.mem.next = LD := by rw [← hρ, upd_lt (by omega), upd_self]
  have r2 : ρ2 (s.mem.next + 1) = LL := by rw [← hρ, upd_self]
  have htm : (γL ρ2 s.tm).toArray = a.tmps := by rw [hr.tm, γL_congr r0 _ hr.sct]
  have hyG : yG ⟨s.mem.next + 1, ps, assign, body, s.tm⟩ w0 ρ2 := ⟨fid, D, by rw [r2], by
    show (ρ2 (s.mem.next + 1)).lp = _
    rw [r2]
    show rec = _
    rw [hrec]
    simp only [recOfY, htm]⟩
  have hsa : scL ((s.mem.push .coll).push (.turn 0 0)).next (.junk (s.mem.next + 1) :: cs) = true := by
    simp only [scL, sc, Bool.and_eq_true, decide_eq_true_eq]
    exact ⟨by simp, scL_mono (by simp; omega) _ e2⟩
  have hsr := srel_init R2 hsa fn.ntmps
  have hargs : (γL ρ2 (.junk (s.mem.next + 1) :: cs)).toArray = #[.func (.yield (D + 1)) #[] #[]] ++ (γL ρ cs).toArray := by
    simp only [γL, γ, r2, γL_congr r0 _ e2]
    simp [LL]
  refine ⟨D + 1, [{ target := .collected D, args := #[] }], W1, { target := .fn (.func f) (γL ρ cs).toArray, args := #[.func (.yield (D + 1)) #[] #[]] }, W1, f, #[.func (.yield (D + 1)) #[] #[]] ++ (γL ρ cs).toArray, W1, ?_, ?_, fun _ _ => trivial, ?_, fun hh => (by cases hh), ?_⟩
  · rw [← hW1, hrec, hD]; exact run_enterLoop_outer _ _ _ _ _
  · simp only [resolve, hev]
    simp [go_sem]
  · simp [invoke, go_sem, callFunc_enter hfn]
  refine callsIn_of_wp (F := FW none) hf hb trivial ?_
  rw [← hargs]
  refine wpIn_mono (h hr.sct (Nat.le_refl _) w0 ρ2 _ W1 hyG hsr) ?_
  rintro e a' w3 ⟨o, s', ⟨ho, hdf, ⟨v, hv⟩, k, i, o2, hget, hlv, hΦ⟩, ⟨ρ3, rfl, k1, k2, k3, k4⟩⟩
  have e3 : ρ3 (s.mem.next + 1) = LL := (k2 _ (by omega)).trans r2
  have hl3 : w3.heap[D + 1]? = some (.loop (turned rec k i)) := by
    have := k1.rel.ok _ _ hget
    rw [BOk, e3] at this
    exact this
  have hpend : (rec.pending = none) := by rw [hrec]
  have hstate : (turned rec k i).state ≠ .busy ∧ (match (turned rec k i).pending with | none => o2 = .normal | some c => (c = .ret ∧ o2 = .ret) ∨ (∃ x, c = .exit x ∧ o2 = .exit x) ∨ ∃ x, c = .goto x ∧ o2 = .goto x) := by
    match k, hlv with
    | 0, hlv => simp only [leaveA, Option.some.injEq] at hlv; subst hlv; subst hrec; exact ⟨by simp [turned], rfl⟩
    | 1, hlv => simp only [leaveA, Option.some.injEq] at hlv; subst hlv; exact ⟨by simp [turned], .inl ⟨rfl, rfl⟩⟩
    | 2, hlv => simp only [leaveA, Option.some.injEq] at hlv; subst hlv; exact ⟨by simp [turned], .inr (.inl ⟨i, rfl, rfl⟩)⟩
    | 3, hlv => simp only [leaveA, Option.some.injEq] at hlv; subst hlv; exact ⟨by simp [turned], .inr (.inr ⟨i, rfl, rfl⟩)⟩
    | k + 4, hlv => cases hlv
  obtain ⟨W4, hW4⟩ : ∃ W4, w3.putObj (D + 1) (.loop { turned rec k i with state := .exhausted }) = W4 := ⟨_, rfl⟩
  have R4 : Rel w0 ρ3 (s'.mem.set (s.mem.next + 1) .dead) W4 := by
    have := k1.rel.putTurn hget .dead (.loop { turned rec k i with state := .exhausted }) rfl fun _ _ => trivial
    rw [e3, hW4] at this
    exact this
  have q0 : ∀ i, i < s.mem.next → ρ3 i = ρ i := fun i hi => (k2 i (by omega)).trans (r0 i hi)
  have hle : s.mem.next ≤ s'.mem.next := by omega
  have aft : ∀ {e}, e = exitOf ρ3 o2 → (∀ v, o2 ≠ .pan v) → ∃ o s', Φ o s' ∧ After w0 ρ n o s' e { a with defers := [{ target := .collected D, args := #[] }] ++ a.defers } W4 := by
    rintro e rfl hnp
    refine ⟨o2, _, hΦ, ⟨ρ3, rfl, ⟨R4, ?_, scL_mono hle _ hr.sct, ?_, ?_⟩, fun i hi => q0 i (by omega), by show n ≤ s'.mem.next; omega, fun v hv => absurd hv (hnp v)⟩⟩
    · show a.tmps = _
      rw [hr.tm, γL_congr q0 _ hr.sct]
    · show [{ target := .collected D, args := #[] }] ++ a.defers = _
      have e3 : γD ρ3 ⟨markF, [.junk s.mem.next], []⟩ = { target := .collected D, args := #[] } := by
        simp only [γD, dOf, if_true, γL, γ, k2 s.mem.next (by omega), r1]
        simp [LD]
      rw [List.map_cons, e3, hr.df]
      simp only [List.singleton_append, List.cons.injEq, true_and]
      exact List.map_congr_left fun d hd => by simp only [γD, γL_congr q0 _ (hr.scd d hd).1, γL_congr q0 _ (hr.scd d hd).2]
    · intro d hd
      rcases List.mem_cons.1 hd with rfl | hd
      · exact ⟨by simp only [scL, sc, Bool.and_true, decide_eq_true_eq]; show s.mem.next < s'.mem.next; omega, rfl⟩
      · exact ⟨scL_mono hle _ (hr.scd d hd).1, scL_mono hle _ (hr.scd d hd).2⟩
  have fin : a'.defers = [] ∧ ∃ v, (results fn a'.tmps).run P w3 = .ok v w3 ∧ rangePost (FW none) 0 P (D + 1) (fun e a' w' => ∃ o s', Φ o s' ∧ After w0 ρ n o s' e a' w') { a with defers := [{ target := .collected D, args := #[] }] ++ a.defers } (.returned v) w3 := by
    refine ⟨by rw [k1.df, hdf]; rfl, _, (resA_run hT k1 hv).1, (turned rec k i).pending, W4, by rw [run_endLoop (P := P) hl3 hstate.1, hW4], ?_⟩
    have hs2 := hstate.2
    cases hpe : (turned rec k i).pending with
    | none =>
      rw [hpe] at hs2
      simp only at hs2
      subst hs2
      exact aft rfl (by simp)
    | some c =>
      rw [hpe] at hs2
      simp only at hs2 ⊢
      rcases hs2 with ⟨rfl, rfl⟩ | ⟨x, rfl, rfl⟩ | ⟨x, rfl, rfl⟩
      · exact wpIn_ret (aft rfl (by simp))
      · exact wpIn_exit (aft rfl (by simp))
      · exact wpIn_goto (aft rfl (by simp))
  rcases ho with rfl | rfl
  · exact fin
  · exact fin
def takeAll : List ADef → Mem → Option Mem
  | [], σ => some σ
  | d :: r, σ => match d.cap with
    | [.junk j] => if d.f = markF then (match σ.get j with
      | some .coll => takeAll r (σ.set j .dead)
      | _ => none) else none
    | _ => none
def endM (T : TTab) (rs : List ResultVar) : AOut → St → Option (ARes × Mem)
  | .normal, s | .ret, s => match takeAll s.df s.mem with
    | some σ' => (resA T ⟨s.tm, [], σ'⟩ rs).map fun v => (.ret v, σ')
    | none => none
  | .pan v, s => match s.df with
    | [] => some (.pan v, s.mem)
    | _ => none
  | _, _ => none
theorem Rel.take {w0 : W0} {ρ : Nat → Loc} {σ : Mem} {w : World} (h : Rel w0 ρ σ w) {j : Nat} (hj : σ.get j = some .coll) : Rel w0 ρ (σ.set j .dead) (w.putObj (ρ j).blk (.deferred none)) := by
  have hk := h.kill hj
  have hown := h.own j _ hj rfl
  refine ⟨hk.lt, hk.sco, fun i b hb => ?_, fun i b hb ha => by rw [World.putObj_size]; exact hk.inb i b hb ha, hk.ap, hk.own, h.os, h.tape, h.output, by rw [World.putObj_size]; exact h.size, fun k hp => ?_⟩
  · by_cases ha : b.alive = true
    · have hne : (ρ i).blk ≠ (ρ j).blk := by
        rw [get_set] at hb
        split at hb
        · cases hb; cases ha
        · rename_i hij
          exact (h.ap j i _ b hj hb hij rfl ha).symm
      exact BOk_congr (fun _ _ => rfl) (World.putObj_heap_other hne) b (hk.sco i b hb) (hk.ok i b hb)
    · exact BOk_still ha (hk.ok i b hb)
  · rw [World.putObj_heap_other (by rintro rfl; exact hown hp)]
    exact h.old k hp
theorem takes {P : Program} {w0 : W0} {fn : Func} {tmps : Array Value} {R : Ending → World → Prop} {ρ : Nat → Loc} : ∀ (l : List ADef) {σ σ' : Mem} {w : World}, Rel w0 ρ σ w → takeAll l σ = some σ' →
    (∀ w', Rel w0 ρ σ' w' → ∃ v, (results fn tmps).run P w' = .ok v w' ∧ R (.returned v) w') → LeavesInM (FW none) 0 P fn tmps R (l.map (γD ρ)) .returning w
  | [], σ, σ', w, hr, ht, h => by
    obtain rfl : σ = σ' := by simpa [takeAll] using ht
    exact h w hr
  | d :: r, σ, σ', w, hr, ht, h => by
    obtain ⟨f, cap, args⟩ := d
    simp only [takeAll] at ht
    split at ht
    rotate_left
    · cases ht
    rename_i j
    split at ht
    rotate_left
    · cases ht
    rename_i hm
    split at ht
    rotate_left
    · cases ht
    rename_i hj
    subst hm
    obtain ⟨h1, h2⟩ := hr.ok j _ hj
    refine ⟨by simp, .inl ⟨(ρ j).blk, _, ?_, run_takeDeferred h1, takes r (hr.take hj) ht h⟩⟩
    simp only [γD, dOf, if_true, γL, γ, h2]
    simp
theorem takeAll_next : ∀ {l : List ADef} {σ σ' : Mem}, takeAll l σ = some σ' → σ'.next = σ.next
  | [], σ, σ', h => by
    obtain rfl : σ = σ' := by simpa [takeAll] using h
    rfl
  | d :: r, σ, σ', h => by
    simp only [takeAll] at h
    split at h
    · split at h
      · split at h
        · have := takeAll_next h
          exact this
        · cases h
      · cases h
    · cases h
theorem call_of_bodyM {P : Program} {T : TTab} (hT : TabOk P T) {f : FuncId} {fn : Func} {c : Code} {args : List AVal} {σ : Mem} (hf : P.funcs[f]? = some fn) (hb : fn.body = some c) {R : ARes → Mem → Prop}
    (h : AWPy (fun _ _ => True) none P σ.next c (initSt fn.ntmps args σ) fun o s' => ∃ r σ', endM T fn.results.toList o s' = some (r, σ') ∧ R r σ') :
    ∀ w0 ρ w, Rel w0 ρ σ w → scL σ.next args = true →
      Calls P f (γL ρ args).toArray w fun e w' => ∃ r σ' ρ', R r σ' ∧ e = endOf ρ' r ∧ Post w0 ρ σ.next ρ' σ' w' ∧ sc σ'.next r.value = true := by
  intro w0 ρ w hr hs
  refine FW_calls (r := none) (n := 0) (callsIn_of_wp_marks (F := FW none) hf hb trivial ?_)
  refine wpIn_mono (h (Nat.le_refl _) w0 ρ _ w trivial (srel_init hr hs fn.ntmps)) ?_
  rintro e a' w' ⟨o, s', ⟨r, σ', h1, h2⟩, ⟨ρ', rfl, k1, k2, k3, k4⟩⟩
  have fin : (match takeAll s'.df s'.mem with | some σ' => (resA T ⟨s'.tm, [], σ'⟩ fn.results.toList).map fun v => (ARes.ret v, σ') | none => none) = some (r, σ') →
      LeavesInM (FW none) 0 P fn a'.tmps (fun e w' => ∃ r σ' ρ', R r σ' ∧ e = endOf ρ' r ∧ Post w0 ρ σ.next ρ' σ' w' ∧ sc σ'.next r.value = true) a'.defers .returning w' := by
    intro h1
    split at h1
    rotate_left
    · cases h1
    rename_i σ2 ht
    obtain ⟨v, hv, h3⟩ := Option.map_eq_some_iff.1 h1
    simp only [Prod.mk.injEq] at h3
    obtain ⟨rfl, rfl⟩ := h3
    have hnx := takeAll_next ht
    rw [k1.df]
    refine takes s'.df k1.rel ht fun w2 hr2 => ?_
    have hsr : SRel w0 ρ' ⟨s'.tm, [], σ2⟩ { tmps := a'.tmps, defers := [] } w2 := ⟨hr2, k1.tm, by show scL σ2.next s'.tm = true; rw [hnx]; exact k1.sct, rfl, by simp⟩
    obtain ⟨q1, q2⟩ := resA_run hT hsr hv
    exact ⟨_, q1, _, _, ρ', h2, rfl, ⟨hr2, k2, by rw [hnx]; exact k3⟩, q2⟩
  cases o with
  | normal => exact fin h1
  | ret => exact fin h1
  | exit i => cases h1
  | goto i => cases h1
  | pan v =>
    simp only [endM] at h1
    split at h1
    · rename_i hd
      simp only [Option.some.injEq, Prod.mk.injEq] at h1
      obtain ⟨rfl, rfl⟩ := h1
      have hd' : a'.defers = [] := by rw [k1.df, hd]; rfl
      show LeavesInM _ _ _ _ _ _ a'.defers _ _
      rw [hd']
      exact ⟨_, _, ρ', h2, rfl, ⟨k1.rel, k2, k3⟩, k4 v rfl⟩
    · cases h1
def yieldOf (nm : Nat) (tm : List AVal) (o : Oper) : Option (List AVal) :=
  match o.op with
  | .call ⟨.value g, args, _⟩ => match ev tm g with
    | some (.junk i) => cond (Nat.beq i nm) (evL tm args.toList) none
    | _ => none
  | _ => none
def anyDefer (l : List Oper) : Bool := l.any fun o => isDefer o.op
def isTurn (n : Nat) : Option ABlk → Bool
  | some (.turn k i) => Nat.beq k n && Nat.beq i 0
  | _ => false
theorem isTurn_eq {n : Nat} {b : Option ABlk} (h : isTurn n b = true) : b = some (.turn n 0) := by
  unfold isTurn at h
  split at h
  · simp only [Bool.and_eq_true] at h
    rw [Nat.eq_of_beq_eq_true h.1, Nat.eq_of_beq_eq_true h.2]
  · cases h
noncomputable def runY {X : Type} (T : TTab) (ch : CH) (y : YEnv) (rd : List AVal → Mem → (Bool → Mem → Option X) → Option X) (all : List Oper) : List Oper → St → (St → Option X) → Option X
  | [], s, k => k s
  | o :: r, s, k => match yieldOf y.nm s.tm o with
    | some vs => cond (gj all o s.tm) none (cond (wantedA all o s.tm)
      (cond (Nat.beq vs.length y.ps.size && isTurn 0 (s.mem.get y.nm)) (rd vs s.mem fun b σ' => runY T ch y rd all r ⟨setD s.tm o.dst (.bool b), s.df, σ'⟩ k) none)
      (runY T ch y rd all r ⟨setD s.tm o.dst (.tup []), s.df, s.mem⟩ k))
    | none => runK T ch all [o] s .nil (fun s' w => cond (owB w) (runY T ch y rd all r s' k) none) (fun _ _ _ => none)
def scopeN {X : Type} (ev : Code → St → (AOut → St → Option X) → Option X) (b : Code) (K : AOut → St → Option X) : Nat → Code → St → Option X
  | 0, _, _ => none
  | m + 1, c, s => ev c s fun o s' => match o with
    | .goto l => (match findLabel b l with
      | some rest => scopeN ev b K m rest s'
      | none => none)
    | o => K o s'
def isEnd : AOut → Bool
  | .normal => true
  | .ret => true
  | _ => false
def callI (il : FuncId → Bool) (tm : List AVal) (o : Oper) : Option (FuncId × List AVal) :=
  match o.op with
  | .call ⟨.value (.func g), args, _⟩ => cond (il g) (match evL tm args.toList with
    | some vs => some (g, vs)
    | none => none) none
  | _ => none
def isInl (il : FuncId → Bool) (o : Oper) : Bool :=
  match o.op with
  | .call ⟨.value (.func g), _, _⟩ => il g
  | _ => false
noncomputable def runI {X : Type} (T : TTab) (ch : CH) (il : FuncId → Bool) (cl : FuncId → List AVal → Mem → (AVal → Mem → Option X) → Option X) (all : List Oper) : List Oper → St → (St → Option X) → Option X
  | [], s, k => k s
  | o :: r, s, k => match callI il s.tm o with
    | some q => cond (gj all o s.tm) none (cond (wantedA all o s.tm)
      (cl q.1 q.2 s.mem fun v σ' => runI T ch il cl all r ⟨setD s.tm o.dst v, s.df, σ'⟩ k)
      (runI T ch il cl all r ⟨setD s.tm o.dst (.tup []), s.df, s.mem⟩ k))
    | none => runK T ch all [o] s .nil (fun s' w => cond (owB w) (runI T ch il cl all r s' k) none) (fun _ _ _ => none)
noncomputable def evalR {X : Type} (eq : X → X → Bool) (P : Program) (T : TTab) (ch : CH) (il : FuncId → Bool) : Nat → Anns → Bool → Option YEnv → Code → St → (AOut → St → Option X) → Option X
  | 0, _, _, _, _, _, _ => none
  | n + 1, A, inR, Y, c, s, K =>
    match c with
    | .seq a b => evalR eq P T ch il n A inR Y a s fun o s' => match o with
      | .normal => evalR eq P T ch il n A inR Y b s' K
      | o => K o s'
    | .cond c a b => match ev s.tm c with
      | some (.bool true) => evalR eq P T ch il n A inR Y a s K
      | some (.bool false) => evalR eq P T ch il n A inR Y b s K
      | _ => none
    | .block id b => evalR eq P T ch il n A inR Y b s fun o s' => match o with
      | .exit i => if i = id then K .normal s' else K (.exit i) s'
      | o => K o s'
    | .loop b => match cond inR none (A (regOf b)) with
      | some la => la.run s K
      | none => evalR eq P T ch il n A inR Y b s fun o s' => match o with
        | .normal => evalR eq P T ch il n A inR Y (.loop b) s' K
        | o => K o s'
    | .scope b => cond inR none (scopeN (fun c s K => evalR eq P T ch il n A inR Y c s K) b K (n + 1) b s)
    | .rangeFunc g ps a b => cond inR none (match ev s.tm g with
      | some (.func f [] cs) => match P.funcs[f]? with
        | some fn => match fn.body with
          | some c => evalR eq P T ch il n noAnns false (some ⟨s.mem.next + 1, ps, a, b, s.tm⟩) c (initSt fn.ntmps (.junk (s.mem.next + 1) :: cs) ((s.mem.push .coll).push (.turn 0 0))) fun o s' => cond (isEnd o)
            (match s'.df, resA T s' fn.results.toList, s'.mem.get (s.mem.next + 1) with
              | [], some _, some (.turn k i) => (match leaveA k i with
                | some o2 => K o2 ⟨s.tm, ⟨markF, [.junk s.mem.next], []⟩ :: s.df, s'.mem.set (s.mem.next + 1) .dead⟩
                | none => none)
              | _, _, _ => none) none
          | none => none
        | none => none
      | _ => none)
    | .region _ ops false => cond (inR && anyDefer ops.toList) none (match nextOp ops.toList with
      | some (x, o, l) => match ev s.tm x with
        | some v => match iterA s.mem v with
          | some (i, m, since, seen, es, clock) =>
            let go : St → Option X := fun s1 => runK T ch ops.toList l s1 .nil (fun s' w => cond (owB w) (K .normal s') none) (fun v s' w => cond (owB w) (K (.pan v) s') none)
            match leftA es seen with
            | [] => go ⟨setD s.tm o.dst (.tup [.bool false]), s.df, s.mem⟩
            | ls => allSame eq (ls.map fun e => go ⟨setD s.tm o.dst (.tup [.bool true, e.1, e.2.1]), s.df, s.mem.set i (.iter m since (seen ++ [e.2.2]) clock)⟩)
          | none => none
        | none => none
      | none => match Y with
        | some y => runY T ch y (fun vs σ k => evalR eq P T ch il n noAnns true none y.assign ⟨setPs y.ps.toList vs y.tm, [], σ⟩ fun o s1 => match o with
          | .normal => cond (isTurn 0 (s1.mem.get y.nm)) (evalR eq P T ch il n noAnns true none y.body ⟨s1.tm, s1.df, s1.mem.set y.nm (.turn 4 0)⟩ fun o s2 => cond (isTurn 4 (s2.mem.get y.nm)) (match jumpA o with
            | some j => k (Nat.beq j.1 0) (s2.mem.set y.nm (.turn j.1 j.2))
            | none => none) none) none
          | _ => none) ops.toList ops.toList s (K .normal)
        | none => cond (ops.toList.any (isInl il))
          (runI T ch il (fun g vs σ kk => match P.funcs[g]? with
            | some fn => match fn.body with
              | some b => evalR eq P T ch il n noAnns false none b (initSt fn.ntmps vs σ) fun o s1 => match endM T fn.results.toList o s1 with
                | some (.ret v, σ') => kk v σ'
                | _ => none
              | none => none
            | none => none) ops.toList ops.toList s (K .normal))
          (runK T ch ops.toList ops.toList s .nil (fun s' w => cond (owB w) (K .normal s') none) (fun v s' w => cond (owB w) (K (.pan v) s') none)))
    | .region _ ops true => cond (inR && anyDefer ops.toList) none (drawK T ch ops.toList s .nil (fun s' w => cond (owB w) (K .normal s') none) (fun v s' w => cond (owB w) (K (.pan v) s') none))
    | .skip => K .normal s
    | .label _ => K .normal s
    | .exit id => K (.exit id) s
    | .goto l => K (.goto l) s
    | .ret => K .ret s
    | _ => none
theorem cond_none {R : Type} {c : Bool} {x : Option R} {r : R} (h : cond c none x = some r) : c = false ∧ x = some r := by
  cases c with
  | true => cases h
  | false => exact ⟨rfl, h⟩
theorem noDefer_of {inR : Bool} {ops : Array Oper} {r : Option Nat} (hR : inR = true ∨ r = none) (h : (inR && anyDefer ops.toList) = false) : (∀ o ∈ ops.toList, isDefer o.op = false) ∨ r = none := by
  rcases hR with rfl | hR
  · simp only [Bool.true_and, anyDefer, List.any_eq_false] at h
    exact .inl fun o ho => by simpa using h o ho
  · exact .inr hR
section
variable {P : Program} {T : TTab} {ch : CH} {X : Type} {eq : X → X → Bool}
theorem yield_exec {w0 : W0} {ρ : Nat → Loc} {s : St} {a : Act} {w : World} (hr : SRel w0 ρ s a w) {nm : Nat} {o : Oper} {vs : List AVal} (h : yieldOf nm s.tm o = some vs) {l : Nat} (hl : (ρ nm).val = .func (.yield l) #[] #[]) :
    (execOp a.eval o).run P w = (Instr.yield l (γL ρ vs).toArray).run P w ∧ scL s.mem.next vs = true ∧ isDefer o.op = false := by
  obtain ⟨dst, op, type, pos, after, guard⟩ := o
  unfold yieldOf at h
  split at h
  · rename_i g args at' hop
    simp only at hop
    subst hop
    split at h
    · rename_i i hi
      obtain ⟨h1, h2⟩ := cond_some h
      obtain rfl := Nat.eq_of_beq_eq_true h1
      obtain ⟨e1, e2⟩ := evL_γ hr.tm hr.sct h2
      obtain ⟨q1, _⟩ := ev_γ hr.tm hr.sct hi
      have e3 : args.map a.eval = (γL ρ vs).toArray := by apply Array.ext'; rw [Array.toList_map, e1]
      refine ⟨?_, e2, rfl⟩
      simp only [execOp, resolve, e3, q1, γ, hl, Deferred.ofValue, Sem.run_bind, Sem.run_pure, Result.andThen_ok, invoke]
      simp
    · cases h
  · cases h
theorem runY_ops (hT : TabOk P T) (hH : CHOk P ch) {y : YEnv} {k : Nat} (hk : y.nm < k) (hy : scL k y.tm = true) {rd : List AVal → Mem → (Bool → Mem → Option X) → Option X} {x : X}
    (hrd : ∀ vs σ kk, rd vs σ kk = some x → ∀ l, AWPy (fun _ _ => True) (some l) P σ.next y.assign ⟨setPs y.ps.toList vs y.tm, [], σ⟩ fun o s1 => o = .normal ∧ s1.mem.get y.nm = some (.turn 0 0) ∧
      AWPy (fun _ _ => True) (some l) P σ.next y.body ⟨s1.tm, s1.df, s1.mem.set y.nm (.turn 4 0)⟩ fun o s2 => s2.mem.get y.nm = some (.turn 4 0) ∧ ∃ k i, jumpA o = some (k, i) ∧ kk (Nat.beq k 0) (s2.mem.set y.nm (.turn k i)) = some x)
    {ops : Array Oper} {K : St → Option X} {w0 : W0} {Q : Exit → Act → World → Prop} : ∀ (l pre : List Oper) (ρ : Nat → Loc) (s : St) (a : Act) (w : World), ops.toList = pre ++ l → yG y w0 ρ → SRel w0 ρ s a w → k ≤ s.mem.next →
      runY T ch y rd ops.toList l s K = some x →
      (∀ s' ρ' a' w', K s' = some x → SRel w0 ρ' s' a' w' → (∀ i, i < k → ρ' i = ρ i) → k ≤ s'.mem.next → Q .normal a' w') → ¬ LetsOut Q → wpOpsIn (FW none) 0 P ops Q (List.range' pre.length l.length) a w
  | [], pre, ρ, s, a, w, he, hG, h, hn, hx, hK, hQ => by
    simp only [runY] at hx
    exact hK s ρ a w hx h (fun _ _ => rfl) hn
  | o :: l, pre, ρ, s, a, w, he, hG, h, hn, hx, hK, hQ => by
    rw [List.length_cons, List.range'_succ, wpOpsIn_cons]
    have hi : ops[pre.length]? = some o := by
      rw [← Array.getElem?_toList, he, List.getElem?_append_right (Nat.le_refl _)]; simp
    have next : ∀ (s1 : St) (ρ1 : Nat → Loc) (a1 : Act) (w1 : World), SRel w0 ρ1 s1 a1 w1 → (∀ i, i < k → ρ1 i = ρ i) → k ≤ s1.mem.next → runY T ch y rd ops.toList l s1 K = some x → wpOpsIn (FW none) 0 P ops Q (List.range' (pre.length + 1) l.length) a1 w1 := by
      intro s1 ρ1 a1 w1 h1 e1 l1 hx1
      have := runY_ops hT hH hk hy hrd l (pre ++ [o]) ρ1 s1 a1 w1 (by simp [he]) (yG_ok hk hy w0 ρ ρ1 e1 hG) h1 l1 hx1 (fun s' ρ' a' w' q1 q2 q3 q4 => hK s' ρ' a' w' q1 q2 (fun i hi => (q3 i hi).trans (e1 i hi)) q4) hQ
      simpa using this
    simp only [runY] at hx
    split at hx
    · rename_i vs hvs
      obtain ⟨hg, hx⟩ := cond_none hx
      have hw : Region.wanted o (yielded ops a.tmps) = wantedA ops.toList o s.tm := by rw [h.tm]; exact wanted_γ hg
      unfold wpOpIn
      simp only [hi]
      rw [hw]
      cases hwa : wantedA ops.toList o s.tm with
      | true =>
        rw [hwa] at hx
        simp only [cond_true, if_true] at hx ⊢
        obtain ⟨hlen, hx⟩ := cond_some hx
        simp only [Bool.and_eq_true] at hlen
        obtain ⟨fid, D, g1, g3⟩ := hG
        obtain ⟨hex, hsv, hnd⟩ := yield_exec (P := P) h hvs g1
        obtain ⟨r1, r2⟩ := round_run (Ψ := fun b σ' => runY T ch y rd ops.toList l ⟨setD s.tm o.dst (.bool b), s.df, σ'⟩ K = some x) (Nat.eq_of_beq_eq_true hlen.1) hn hk hsv hy (hrd vs s.mem _ hx) (isTurn_eq hlen.2) h.rel g3
        refine ⟨fun _ _ => trivial, ?_⟩
        have e : Oper.semAt (FW none).round a.eval o = execOp a.eval o := rfl
        rw [e, hex, r1]
        refine ⟨fun hh => (by cases hh), r2.mono ?_⟩
        rintro e' w' ⟨b, rfl, ρ', σ', hΨ, hp⟩
        exact next _ ρ' _ w' ((h.congr hp).put (v := .bool b) (by simp [sc]) o.dst) (fun i hi => hp.ext i (by omega)) (by show k ≤ σ'.next; have := hp.le; omega) hΨ
      | false =>
        rw [hwa] at hx
        simp only [cond_false, Bool.false_eq_true, if_false] at hx ⊢
        refine ⟨fun _ _ => trivial, ?_⟩
        rw [undef_γ ρ]
        exact next _ ρ _ w (h.put (v := .tup []) (by simp [sc, scL]) o.dst) (fun _ _ => rfl) hn hx
    · rcases runK_spec hx with ⟨s', ow', h1, h2, h3⟩ | ⟨v, s', ow', h1, _⟩
      · obtain ⟨q1, q2⟩ := cond_some h1
        have hro := h3 (owB_ok q1)
        simp only [runOps] at hro
        have hst : stepOp T ch.H ops.toList o s = some (.go s') := by
          cases hs : stepOp T ch.H ops.toList o s with
          | none => rw [hs] at hro; cases hro
          | some q =>
            rw [hs] at hro
            cases q with
            | go s1 => simpa [runOps] using hro
            | pan v s1 => simp at hro
        refine wpOp_FW (K := fun a w => wpOpsIn (FW none) 0 P ops Q (List.range' (pre.length + 1) l.length) a w) hQ (.inr rfl) (fun _ _ q => q) (stepOp_wp hT hH.1 h hi hst ?_)
        intro ρ1 a1 w1 h1' e1 l1
        exact next s' ρ1 a1 w1 h1' (fun i hi => e1 i (by omega)) (by omega) q2
      · cases h1
end
section
variable {P : Program} {T : TTab} {ch : CH} {X : Type} {eq : X → X → Bool}
theorem ops_plain (hT : TabOk P T) (hH : CHOk P ch) (heq : ∀ {x y}, eq x y = true → x = y) {k : Nat} {ops : Array Oper} {s : St} {K : AOut → St → Option X} {x : X}
    (h : (match nextOp ops.toList with
      | some (xo, o, l) => match ev s.tm xo with
        | some v => match iterA s.mem v with
          | some (i, m, since, seen, es, clock) =>
            match leftA es seen with
            | [] => runK T ch ops.toList l ⟨setD s.tm o.dst (.tup [.bool false]), s.df, s.mem⟩ .nil (fun s' w => cond (owB w) (K .normal s') none) (fun v s' w => cond (owB w) (K (.pan v) s') none)
            | ls => allSame eq (ls.map fun e => runK T ch ops.toList l ⟨setD s.tm o.dst (.tup [.bool true, e.1, e.2.1]), s.df, s.mem.set i (.iter m since (seen ++ [e.2.2]) clock)⟩ .nil (fun s' w => cond (owB w) (K .normal s') none) (fun v s' w => cond (owB w) (K (.pan v) s') none))
          | none => none
        | none => none
      | none => runK T ch ops.toList ops.toList s .nil (fun s' w => cond (owB w) (K .normal s') none) (fun v s' w => cond (owB w) (K (.pan v) s') none)) = some x)
    (hn : k ≤ s.mem.next) {w0 : W0} {ρ : Nat → Loc} {a : Act} {w : World} (hr : SRel w0 ρ s a w) :
    wpOps P ops (fun e a' w' => ∃ o s', K o s' = some x ∧ After w0 ρ k o s' e a' w') (List.range ops.size) a w := by
  split at h
  · rename_i xo o l hno
    obtain ⟨e1, e2, e3⟩ := nextOp_eq hno
    split at h
    · rename_i v hv
      split at h
      · rename_i i m since seen es clock hit
        have E := ev_γ hr.tm hr.sct hv
        rw [List.range_eq_range']
        have hsz : ops.size = l.length + 1 := by rw [← Array.length_toList, e1, List.length_cons]
        rw [hsz, List.range'_succ, wpOps_cons]
        have hi : ops[0]? = some o := by rw [← Array.getElem?_toList, e1]; rfl
        unfold wpOp
        simp only [hi]
        have hg : gj ops.toList o s.tm = false := by simp only [gj, e3]
        have hw : Region.wanted o (yielded ops a.tmps) = true := by
          rw [hr.tm, wanted_γ hg]; simp only [wantedA, e3]
        rw [hw]
        simp only [if_true]
        refine .inl ?_
        obtain ⟨dst, op, type, pos, after, guard⟩ := o
        simp only at e2 e3
        subst e2 e3
        have fin : ∀ (s1 : St) (a1 : Act) (w1 : World), SRel w0 ρ s1 a1 w1 → s1.mem.next = s.mem.next →
            runK T ch ops.toList l s1 .nil (fun s' w => cond (owB w) (K .normal s') none) (fun v s' w => cond (owB w) (K (.pan v) s') none) = some x →
            wpOps P ops (fun e a' w' => ∃ o s', K o s' = some x ∧ After w0 ρ k o s' e a' w') (List.range' 1 l.length) a1 w1 := fun s1 a1 w1 hr1 hs1 hx =>
          runs_of (pre := [_]) hT hH (by simpa using e1) hx hr1 (by omega)
        rcases next_run (P := P) hr.rel hit type with ⟨q1, q2⟩ | ⟨e, q1, w', q2, q3, q4⟩
        · rw [q1] at h
          refine wp_val (v := .tup [.bool false]) (ρ' := ρ) (w' := w) ?_ (fin _ _ _ (hr.put (v := .tup [.bool false]) (by simp [sc, scL]) dst) rfl h)
          simp only [execOp, E.1, Sem.run_bind, q2, Result.andThen_ok, Sem.run_pure]
        · have hx2 : runK T ch ops.toList l ⟨setD s.tm dst (.tup [.bool true, e.1, e.2.1]), s.df, s.mem.set i (.iter m since (seen ++ [e.2.2]) clock)⟩ .nil (fun s' w => cond (owB w) (K .normal s') none) (fun v s' w => cond (owB w) (K (.pan v) s') none) = some x := by
            split at h
            · rename_i hl; rw [hl] at q1; cases q1
            · exact allSame_mem heq h _ (List.mem_map.2 ⟨e, q1, rfl⟩)
          have hr1 : SRel w0 ρ ⟨s.tm, s.df, s.mem.set i (.iter m since (seen ++ [e.2.2]) clock)⟩ a w' := hr.congr ⟨q3, fun _ _ => rfl, Nat.le_refl _⟩
          refine wp_val (v := .tup [.bool true, e.1, e.2.1]) (ρ' := ρ) (w' := w') ?_ (fin _ _ _ (hr1.put (v := .tup [.bool true, e.1, e.2.1]) q4 dst) rfl hx2)
          simp only [execOp, E.1, Sem.run_bind, q2, Result.andThen_ok, Sem.run_pure]
      · cases h
    · cases h
  · have := runs_of (pre := []) (k := k) hT hH (by simp) h hr hn
    rw [List.range_eq_range']
    simpa using this
theorem runI_ops (hT : TabOk P T) (hH : CHOk P ch) {il : FuncId → Bool} {cl : FuncId → List AVal → Mem → (AVal → Mem → Option X) → Option X} {x : X} {k : Nat}
    (hcl : ∀ g vs σ kk, cl g vs σ kk = some x → IsFn P g ∧ ∀ w0 ρ w, Rel w0 ρ σ w → scL σ.next vs = true →
      Calls P g (γL ρ vs).toArray w fun e w' => ∃ v σ' ρ', kk v σ' = some x ∧ e = .returned (γ ρ' v) ∧ Post w0 ρ σ.next ρ' σ' w' ∧ sc σ'.next v = true)
    {ops : Array Oper} {K : St → Option X} {w0 : W0} {Q : Exit → Act → World → Prop} : ∀ (l pre : List Oper) (ρ : Nat → Loc) (s : St) (a : Act) (w : World), ops.toList = pre ++ l → SRel w0 ρ s a w → k ≤ s.mem.next →
      runI T ch il cl ops.toList l s K = some x →
      (∀ s' ρ' a' w', K s' = some x → SRel w0 ρ' s' a' w' → (∀ i, i < k → ρ' i = ρ i) → k ≤ s'.mem.next → Q .normal a' w') → wpOps P ops Q (List.range' pre.length l.length) a w
  | [], pre, ρ, s, a, w, he, h, hn, hx, hK => by
    simp only [runI] at hx
    exact hK s ρ a w hx h (fun _ _ => rfl) hn
  | o :: l, pre, ρ, s, a, w, he, h, hn, hx, hK => by
    rw [List.length_cons, List.range'_succ, wpOps_cons]
    have hi : ops[pre.length]? = some o := by
      rw [← Array.getElem?_toList, he, List.getElem?_append_right (Nat.le_refl _)]; simp
    have next : ∀ (s1 : St) (ρ1 : Nat → Loc) (a1 : Act) (w1 : World), SRel w0 ρ1 s1 a1 w1 → (∀ i, i < k → ρ1 i = ρ i) → k ≤ s1.mem.next → runI T ch il cl ops.toList l s1 K = some x → wpOps P ops Q (List.range' (pre.length + 1) l.length) a1 w1 := by
      intro s1 ρ1 a1 w1 h1 e1 l1 hx1
      have := runI_ops hT hH hcl l (pre ++ [o]) ρ1 s1 a1 w1 (by simp [he]) h1 l1 hx1 (fun s' ρ' a' w' q1 q2 q3 q4 => hK s' ρ' a' w' q1 q2 (fun i hi => (q3 i hi).trans (e1 i hi)) q4)
      simpa using this
    simp only [runI] at hx
    split at hx
    · rename_i q hq
      obtain ⟨hg, hx⟩ := cond_none hx
      have hw : Region.wanted o (yielded ops a.tmps) = wantedA ops.toList o s.tm := by rw [h.tm]; exact wanted_γ hg
      unfold wpOp
      simp only [hi]
      rw [hw]
      cases hwa : wantedA ops.toList o s.tm with
      | true =>
        rw [hwa] at hx
        simp only [cond_true, if_true] at hx ⊢
        refine .inl ?_
        obtain ⟨hfn, hc⟩ := hcl _ _ _ _ hx
        obtain ⟨dst, op, type, pos, after, guard⟩ := o
        unfold callI at hq
        split at hq
        rotate_left
        · cases hq
        rename_i g args ats hop
        simp only at hop
        subst hop
        obtain ⟨_, hq⟩ := cond_some hq
        split at hq
        rotate_left
        · cases hq
        rename_i vs hvs
        cases hq
        obtain ⟨e1, e2⟩ := evL_γ h.tm h.sct hvs
        have e3 : args.map a.eval = (γL ρ vs).toArray := by apply Array.ext'; rw [Array.toList_map, e1]
        have e5 : a.eval (.func g) = .func (.func g) #[] #[] := rfl
        have hrun : (execOp a.eval ⟨dst, .call ⟨.value (.func g), args, ats⟩, type, pos, after, guard⟩).run P w = .ok (.enter g (γL ρ vs).toArray) w := by
          simp only [execOp, resolve, e3, e5, Deferred.ofValue, Sem.run_bind, Sem.run_pure, Result.andThen_ok, invoke]
          simp [callFunc_enter hfn]
        unfold Oper.wp
        rw [hrun]
        refine (hc w0 ρ w h.rel e2).mono ?_
        rintro e w' ⟨v, σ', ρ', hk, rfl, hp, hv⟩
        exact next _ ρ' _ w' ((h.congr hp).put hv dst) (fun i hi => hp.ext i (by omega)) (by show k ≤ σ'.next; have := hp.le; omega) hk
      | false =>
        rw [hwa] at hx
        simp only [cond_false, Bool.false_eq_true, if_false] at hx ⊢
        rw [undef_γ ρ]
        exact next _ ρ _ w (h.put (v := .tup []) (by simp [sc, scL]) o.dst) (fun _ _ => rfl) hn hx
    · rcases runK_spec hx with ⟨s', ow', h1, h2, h3⟩ | ⟨v, s', ow', h1, _⟩
      · obtain ⟨q1, q2⟩ := cond_some h1
        have hro := h3 (owB_ok q1)
        simp only [runOps] at hro
        have hst : stepOp T ch.H ops.toList o s = some (.go s') := by
          cases hs : stepOp T ch.H ops.toList o s with
          | none => rw [hs] at hro; cases hro
          | some q =>
            rw [hs] at hro
            cases q with
            | go s1 => simpa [runOps] using hro
            | pan v s1 => simp at hro
        refine stepOp_wp hT hH.1 h hi hst ?_
        intro ρ1 a1 w1 h1' e1 l1
        exact next s' ρ1 a1 w1 h1' (fun i hi => e1 i (by omega)) (by omega) q2
      · cases h1
theorem findLabel_loops : ∀ {b rest : Code} {l : Nat}, findLabel b l = some rest → ∀ x ∈ loopsOf rest, x ∈ loopsOf b
  | .seq a b, rest, l, h, x, hx => by
    simp only [findLabel] at h
    split at h
    · rename_i r hr
      simp only [Option.some.injEq] at h
      subst h
      simp only [loopsOf, List.mem_append] at hx ⊢
      exact hx.imp (findLabel_loops hr x) id
    · simp only [loopsOf, List.mem_append]
      exact .inr (findLabel_loops h x hx)
  | .label l', rest, l, h, x, hx => by
    simp only [findLabel] at h
    split at h
    · simp only [Option.some.injEq] at h; subst h; simp [loopsOf] at hx
    · cases h
  | .skip, rest, l, h, x, hx => by simp [findLabel] at h
  | .region .., rest, l, h, x, hx => by simp [findLabel] at h
  | .cond .., rest, l, h, x, hx => by simp [findLabel] at h
  | .block .., rest, l, h, x, hx => by simp [findLabel] at h
  | .loop _, rest, l, h, x, hx => by simp [findLabel] at h
  | .scope _, rest, l, h, x, hx => by simp [findLabel] at h
  | .rangeFunc .., rest, l, h, x, hx => by simp [findLabel] at h
  | .exit _, rest, l, h, x, hx => by simp [findLabel] at h
  | .goto _, rest, l, h, x, hx => by simp [findLabel] at h
  | .ret, rest, l, h, x, hx => by simp [findLabel] at h
  | .refuse _, rest, l, h, x, hx => by simp [findLabel] at h
theorem evalR_sound (hT : TabOk P T) (hH : CHOk P ch) (hm : P.follows .mixedOrders = true) (hN : NoNum P) (heq : ∀ {x y}, eq x y = true → x = y) {il : FuncId → Bool} :
    ∀ (n : Nat) {A : Anns} {inR : Bool} {r : Option Nat} {Y : Option YEnv} {G : W0 → (Nat → Loc) → Prop} {k : Nat} (c : Code) (s : St) (K : AOut → St → Option X) (x : X), (inR = true ∨ ∀ b ∈ loopsOf c, ∀ la, A (regOf b) = some la → LaOk P k la b) → inR = true ∨ r = none → GOk k G →
      (∀ y, Y = some y → G = yG y ∧ y.nm < k ∧ scL k y.tm = true ∧ r = none) → evalR eq P T ch il n A inR Y c s K = some x → AWPy G r P k c s fun o s' => K o s' = some x := by
  intro n
  induction n using Nat.strongRecOn with
  | _ n ih =>
    cases n with
    | zero => intro A inR r Y G k c s K x _ _ _ _ h; simp [evalR] at h
    | succ n =>
      intro A inR r Y G k c s K x hA hR hG hY h
      have ih' := @ih n (Nat.lt_succ_self n)
      cases c with
      | skip => exact awpy_skip (by simpa only [evalR] using h)
      | label l => exact awpy_label (by simpa only [evalR] using h)
      | exit l => exact awpy_exit (by simpa only [evalR] using h)
      | goto l => exact awpy_goto (by simpa only [evalR] using h)
      | ret => exact awpy_ret (by simpa only [evalR] using h)
      | seq a b =>
        simp only [evalR] at h
        refine awpy_seq hG ((ih' a s _ x (hA.imp (fun h => h) fun h b hb => h b (by simp [loopsOf, hb])) hR hG hY h).mono fun o s' q => ?_)
        cases o with
        | normal => exact ih' b s' K x (hA.imp (fun h => h) fun h b hb => h b (by simp [loopsOf, hb])) hR hG hY q
        | exit i => exact q
        | goto i => exact q
        | ret => exact q
        | pan v => exact q
      | cond c a b =>
        simp only [evalR] at h
        split at h
        · rename_i hc; exact awpy_cond hc (ih' a s K x (hA.imp (fun h => h) fun h b hb => h b (by simp [loopsOf, hb])) hR hG hY h)
        · rename_i hc; exact awpy_cond hc (ih' b s K x (hA.imp (fun h => h) fun h b hb => h b (by simp [loopsOf, hb])) hR hG hY h)
        · cases h
      | block id b =>
        simp only [evalR] at h
        refine awpy_block ((ih' b s _ x (hA.imp (fun h => h) fun h b hb => h b (by simpa [loopsOf] using hb)) hR hG hY h).mono fun o s' q => ?_)
        cases o with
        | exit i =>
          simp only [AOut.inBlock] at q ⊢
          split at q
          · rename_i e; rw [if_pos e]; exact q
          · rename_i e; rw [if_neg e]; exact q
        | normal => exact q
        | goto i => exact q
        | ret => exact q
        | pan v => exact q
      | scope b =>
        simp only [evalR] at h
        obtain ⟨h0, h⟩ := cond_none h
        obtain rfl : r = none := hR.resolve_left (by rw [h0]; simp)
        have hA' : ∀ b1 ∈ loopsOf b, ∀ la, A (regOf b1) = some la → LaOk P k la b1 := (hA.resolve_left (by rw [h0]; simp))
        refine awpy_scopeN hG (fun m c s => (∀ b1 ∈ loopsOf c, b1 ∈ loopsOf b) ∧ scopeN (fun c s K => evalR eq P T ch il n A inR Y c s K) b K m c s = some x) ?_ ⟨fun _ h => h, h⟩
        rintro m c s ⟨hlc, hx⟩
        cases m with
        | zero => cases hx
        | succ m =>
          simp only [scopeN] at hx
          refine (ih' c s _ x (.inr fun b1 hb1 => hA' b1 (hlc b1 hb1)) (.inr rfl) hG hY hx).mono fun o s' q => ?_
          cases o with
          | goto l =>
            simp only at q ⊢
            split at q
            · rename_i rest hf
              exact ⟨rest, m, Nat.lt_succ_self m, hf, findLabel_loops hf, q⟩
            · cases q
          | exit i => exact q
          | normal => exact q
          | ret => exact q
          | pan v => exact q
      | loop b =>
        cases hla : cond inR none (A (regOf b)) with
        | some la =>
          simp only [evalR, hla] at h
          cases hi : inR with
          | true => rw [hi] at hla; cases hla
          | false =>
            rw [hi] at hla
            simp only [cond_false] at hla
            obtain rfl : r = none := hR.resolve_left (by rw [hi]; simp)
            have hok := (hA.resolve_left (by rw [hi]; simp)) b (by simp [loopsOf]) la hla
            rw [la.nat] at h
            obtain ⟨⟨o, s'⟩, q1, q2⟩ := Option.bind_eq_some_iff.1 h
            exact awpy_of_awpn ((hok s o s' q1).mono fun o1 s1 hh => by
              obtain ⟨rfl, rfl⟩ := hh
              exact q2)
        | none =>
        have key : ∀ (m : Nat), m ≤ n + 1 → ∀ (s : St), evalR eq P T ch il m A inR Y (.loop b) s K = some x → k ≤ s.mem.next → ∀ w0 ρ a w, G w0 ρ → SRel w0 ρ s a w →
            Code.roundsIn (FW r) 0 P b (fun e a' w' => ∃ o s', K o s' = some x ∧ After w0 ρ k o s' e a' w') m a w := by
          intro m
          induction m with
          | zero => intro _ s h; simp [evalR] at h
          | succ m ihm =>
            intro hmn s h hn w0 ρ a w hg hr
            simp only [evalR, hla] at h
            have h1 := ih m (by omega) b s _ x (hA.imp (fun h => h) fun h b hb => h b (by simp [loopsOf, hb])) hR hG hY h hn w0 ρ a w hg hr
            rw [roundsIn_succ]
            refine wpIn_mono h1 ?_
            rintro e a' w' ⟨o, s', q, ⟨ρ', rfl, h2, h3, h4, h5⟩⟩
            cases o with
            | normal =>
              refine roundsIn_mono ?_ m (ihm (by omega) s' q h4 w0 ρ' a' w' (hG w0 ρ ρ' h3 hg) h2)
              rintro e a w ⟨o, s', q1, q2⟩
              exact ⟨o, s', q1, q2.step h3⟩
            | exit i => exact ⟨_, s', q, ⟨ρ', rfl, h2, h3, h4, h5⟩⟩
            | goto i => exact ⟨_, s', q, ⟨ρ', rfl, h2, h3, h4, h5⟩⟩
            | ret => exact ⟨_, s', q, ⟨ρ', rfl, h2, h3, h4, h5⟩⟩
            | pan v => exact ⟨_, s', q, ⟨ρ', rfl, h2, h3, h4, h5⟩⟩
        intro hn w0 ρ a w hg hr
        exact wpIn_loop_rounds (n + 1) (key (n + 1) (Nat.le_refl _) s h hn w0 ρ a w hg hr)
      | rangeFunc g ps a b =>
        simp only [evalR] at h
        obtain ⟨h0, h⟩ := cond_none h
        obtain rfl : r = none := hR.resolve_left (by rw [h0]; simp)
        split at h
        · rename_i f cs hg
          split at h
          · rename_i fn hf
            split at h
            · rename_i c hb
              refine awpy_rangeFunc hT hg hf hb ⟨fn, hf, hN f fn hf, by rw [hb]; rfl⟩ fun hst => ?_
              have hsc : scL (s.mem.next + 2) s.tm = true := scL_mono (by omega) _ hst
              refine (ih' (k := s.mem.next + 2) (G := yG ⟨s.mem.next + 1, ps, a, b, s.tm⟩) (r := none) c _ _ x (.inr fun _ _ _ h => by cases h) (.inr rfl) (yG_ok (by show s.mem.next + 1 < s.mem.next + 2; omega) hsc) (fun y hy => by
                cases hy
                exact ⟨rfl, by show s.mem.next + 1 < s.mem.next + 2; omega, hsc, rfl⟩) h).mono fun o s' q => ?_
              obtain ⟨ho, q⟩ := cond_some q
              have ho' : o = .normal ∨ o = .ret := by cases o <;> simp_all [isEnd]
              split at q
              · rename_i k1 i1 hd hv hgt
                split at q
                · rename_i o2 hlv
                  exact ⟨ho', hd, ⟨_, hv⟩, k1, i1, o2, hgt, hlv, q⟩
                · cases q
              · cases q
            · cases h
          · cases h
        · cases h
      | region id ops d =>
        cases d with
        | true =>
          simp only [evalR] at h
          obtain ⟨h0, h⟩ := cond_none h
          have hd := noDefer_of hR h0
          intro hn w0 ρ a w hg hr
          rcases drawK_spec hH h with ⟨s', ow', h1, h2, hst, h3⟩ | ⟨v, s', ow', m, o, h1, h2, ho, hC, hst, h3⟩
          · obtain ⟨q1, q2⟩ := cond_some h1
            refine wpIn_mono (wpIn_region_any hm (wpAny_FW after_out hd _ (draw_any hT hH.1 hH.2.2 hst (h3 (owB_ok q1)) (Φ := fun o s' => K o s' = some x) q2 w0 ρ a w hr))) ?_
            rintro e a' w' ⟨o, s', k1, k2⟩
            exact ⟨o, s', k1, k2.less hn⟩
          · obtain ⟨q1, q2⟩ := cond_some h1
            obtain ⟨s1, r1, r2⟩ := h3 (owB_ok q1)
            refine wpIn_mono (wpIn_region_any hm (wpAny_FW after_out hd _ (draw_pan_any hT hH.1 hH.2.2 ho hst hC r1 r2 (Φ := fun o s' => K o s' = some x) q2 w0 ρ a w hr))) ?_
            rintro e a' w' ⟨o, s', k1, k2⟩
            exact ⟨o, s', k1, k2.less hn⟩
        | false =>
          simp only [evalR] at h
          obtain ⟨h0, h⟩ := cond_none h
          have hd := noDefer_of hR h0
          cases hY0 : Y with
          | none =>
            subst hY0
            cases hno : nextOp ops.toList with
            | some q =>
              rw [hno] at h
              refine awpy_ops hd fun hn w0 ρ a w hr => ops_plain hT hH heq ?_ hn hr
              rw [hno]
              exact h
            | none =>
              rw [hno] at h
              simp only at h
              cases hany : ops.toList.any (isInl il) with
              | false =>
                rw [hany] at h
                simp only [cond_false] at h
                refine awpy_ops hd fun hn w0 ρ a w hr => ops_plain hT hH heq ?_ hn hr
                rw [hno]
                exact h
              | true =>
                rw [hany] at h
                simp only [cond_true] at h
                refine awpy_ops hd fun hn w0 ρ a w hr => ?_
                have := runI_ops (P := P) (Q := fun e a' w' => ∃ o s', K o s' = some x ∧ After w0 ρ k o s' e a' w') (k := k) hT hH (x := x) (fun g vs σ kk hx => ?_) ops.toList [] ρ s a w (by simp) hr hn h (fun s' ρ' a' w' q1 q2 q3 q4 => ⟨.normal, s', q1, ⟨ρ', rfl, q2, q3, q4, by simp⟩⟩)
                · rw [List.range_eq_range']
                  simpa using this
                · split at hx
                  rotate_left
                  · cases hx
                  rename_i fn hf
                  split at hx
                  rotate_left
                  · cases hx
                  rename_i b hb
                  refine ⟨⟨fn, hf, hN g fn hf, by rw [hb]; rfl⟩, fun w1 ρ1 w2 hr1 hs1 => ?_⟩
                  have := call_of_bodyM (R := fun r σ' => ∃ v, r = .ret v ∧ kk v σ' = some x) hT hf hb (σ := σ) (args := vs) ((ih' (inR := false) (r := none) (Y := none) (G := fun _ _ => True) (k := σ.next) b _ _ x (.inr fun _ _ _ h => by cases h) (.inr rfl) (fun _ _ _ _ _ => trivial) (fun y hy => by cases hy) hx).mono fun o s1 q => by
                    split at q
                    · rename_i v σ' he
                      exact ⟨.ret v, σ', he, v, rfl, q⟩
                    · cases q) w1 ρ1 w2 hr1 hs1
                  refine this.mono ?_
                  rintro e w' ⟨r1, σ', ρ', ⟨v, rfl, hk⟩, rfl, k4, k5⟩
                  exact ⟨v, σ', ρ', hk, rfl, k4, k5⟩
          | some y =>
            subst hY0
            obtain ⟨rfl, hk, hy, rfl⟩ := hY y rfl
            cases hno : nextOp ops.toList with
            | some q =>
              rw [hno] at h
              refine awpy_ops hd fun hn w0 ρ a w hr => ops_plain hT hH heq ?_ hn hr
              rw [hno]
              exact h
            | none =>
              rw [hno] at h
              simp only at h
              intro hn w0 ρ a w hg hr
              refine wpIn_region ?_
              have := runY_ops (Q := fun e a' w' => ∃ o s', K o s' = some x ∧ After w0 ρ k o s' e a' w') hT hH hk hy (x := x) (fun vs σ kk hx l => ?_) ops.toList [] ρ s a w (by simp) hg hr hn h (fun s' ρ' a' w' q1 q2 q3 q4 => ⟨.normal, s', q1, ⟨ρ', rfl, q2, q3, q4, by simp⟩⟩) after_out
              · rw [List.range_eq_range']
                simpa using this
              · refine (ih' (inR := true) (r := some l) (Y := none) (G := fun _ _ => True) (k := σ.next) y.assign _ _ x (.inl rfl) (.inl rfl) (fun _ _ _ _ _ => trivial) (fun y hy => by cases hy) hx).mono fun o s1 q => ?_
                cases o with
                | normal =>
                  obtain ⟨q1, q⟩ := cond_some q
                  refine ⟨rfl, isTurn_eq q1, (ih' (inR := true) (r := some l) (Y := none) (G := fun _ _ => True) (k := σ.next) y.body _ _ x (.inl rfl) (.inl rfl) (fun _ _ _ _ _ => trivial) (fun y hy => by cases hy) q).mono fun o s2 q2 => ?_⟩
                  obtain ⟨q3, q2⟩ := cond_some q2
                  split at q2
                  · rename_i j hj
                    exact ⟨isTurn_eq q3, j.1, j.2, hj, q2⟩
                  · cases q2
                | exit i => cases q
                | goto i => cases q
                | ret => cases q
                | pan v => cases q
      | refuse w => simp [evalR] at h
end
end Go.Ev

