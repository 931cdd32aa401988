import Derived.Test.YtbmjabafceihgaaKaf
import Derived.RangeFuncRecord
import Derived.LoopNIn
import Derived.OrdersIn
import Derived.RangeFuncLeaves
import Derived.Test.YtbmjabafceihgaaProg
import Derived.KernelRfl
set_option linter.unusedVariables false
set_option linter.unusedSimpArgs false
set_option maxRecDepth 100000
noncomputable section
namespace Go.Ev
def FW (r : Option Nat) : Fence := { Fence.wide with round := r }
section
variable {P : Program} {r : Option Nat} {n : Nat}
theorem Pw {f : FuncId} {args : Array Value} {w : World} {R : Ending → World → Prop} (h : Calls P f args w R) : CallsIn (FW r) n P f args w R :=
 callsIn_wide (n := n).2 h
theorem Px {f : FuncId} {args : Array Value} {w : World} {R : Ending → World → Prop} (h : CallsIn (FW r) n P f args w R) : Calls P f args w R :=
 callsIn_wide (n := n).1 h
theorem Rn {row : String} {args : Array Value} {w : World} {R : Value → World → Prop} (h : Rows P row args w R) : RowsIn (FW r) n P row args w R := by
 intro c cs _
 obtain ⟨v, w', h1, h2⟩ := h c cs
 exact ⟨v, w', h1, (stepsIn_wide (P := P)).2 h2⟩
def mn : Op → Bool
 | .defer _ => true
 | _ => false
theorem Ro {o : Oper} {a : Act} {w : World} {K K' : Act → World → Prop} {Q : Exit → Act → World → Prop} (hd : mn o.op = false ∨ r = none) (hK : ∀ a w, K a w → K' a w) (h : o.wp P a w K Q) : o.wpIn (FW r) n P a w K' Q := by
 refine ⟨fun _ _ => trivial, ?_⟩
 have e : Oper.semAt (FW r).round a.eval o = execOp a.eval o := by
  rcases hd with hd | hd
  ·exact Oper.semAt_eq _ _ _ fun c hc => by rw [hc] at hd; cases hd
  ·subst hd; rfl
 rw [e]
 unfold Oper.wp at h
 generalize (execOp a.eval o).run P w = x at h
 cases x with
 | ok y w' =>
  cases y with
  | value v => exact hK _ _ h
  | skip => exact hK _ _ h
  | «defer» d => exact hK _ _ h
  | enter f args =>
   refine ⟨fun hh => (by cases hh), ?_⟩
   refine Pw (Calls.mono h fun e w'' q => ?_)
   cases e with
   | returned v => exact hK _ _ q
   | panicked ch => exact q
   | outgrown => exact q
  | row rw args => exact ⟨fun hh => (by cases hh), Rn (Rows.mono h fun v w'' q => hK _ _ q)⟩
  | round l f tm x y => exact h.elim
  | recover => exact h.elim
  | spawn d => exact h.elim
  | _ => exact h.elim
 | halt x w' =>
  cases x <;> first | exact h | exact h.elim
theorem CT {ops : Array Oper} {Q : Exit → Act → World → Prop} {i : Nat} {K K' : Act → World → Prop} {a : Act} {w : World} (hQ : ¬ LetsOut Q) (hd : (∀ o ∈ ops.toList, mn o.op = false) ∨ r = none) (hK : ∀ a w, K a w → K' a w)
  (h : wpOp P ops Q i K a w) : wpOpIn (FW r) n P ops Q i K' a w := by
 unfold wpOp at h
 unfold wpOpIn
 cases ho : ops[i]? with
 | none => rw [ho] at h; exact hK _ _ h
 | some o =>
  rw [ho] at h
  simp only at h ⊢
  split at h
  ·rename_i hw
   rw [if_pos hw]
   rcases h with h | h
   ·exact Ro (hd.imp (fun q => q o (by rw [Array.mem_toList_iff]; exact Array.mem_of_getElem? ho)) id) hK h
   ·exact absurd h.2 hQ
  ·rename_i hw
   rw [if_neg hw]
   exact ⟨fun _ _ => trivial, hK _ _ h⟩
theorem Kt {ops : Array Oper} {Q : Exit → Act → World → Prop} (hQ : ¬ LetsOut Q) (hd : (∀ o ∈ ops.toList, mn o.op = false) ∨ r = none) : ∀ (l : List Nat) {a : Act} {w : World}, wpOps P ops Q l a w → wpOpsIn (FW r) n P ops Q l a w
 | [], _, _, h => h
 | i :: l, a, w, h => by
  rw [wpOps_cons] at h
  rw [wpOpsIn_cons]
  exact CT hQ hd (fun _ _ q => Kt hQ hd l q) h
theorem vE {ops : Array Oper} {Q : Exit → Act → World → Prop} {md : Region.Mode} (hQ : ¬ LetsOut Q) (hd : (∀ o ∈ ops.toList, mn o.op = false) ∨ r = none) : ∀ (fuel : Nat) {listed : Array Bool} {a : Act} {w : World}, wpAny P md ops Q fuel listed a w → wpAnyIn (FW r) n P md ops Q fuel listed a w
 | 0, _, _, _, h => h
 | fuel + 1, _, _, _, h => ⟨h.1, fun i hi => CT hQ hd (fun _ _ q => vE hQ hd fuel q) (h.2 i hi)⟩
end
def dY (G : W0 → (Nat → Loc) → Prop) (r : Option Nat) (P : Program) (n : Nat) (c : Code) (s : St) (Φ : an → St → Prop) : Prop :=
 n ≤ s.mem.next → ∀ w0 ρ a w, G w0 ρ → bF w0 ρ s a w → c.wpIn (FW r) 0 P (fun e a' w' => ∃ o s', Φ o s' ∧ db w0 ρ n o s' e a' w') a w
def GOk (n : Nat) (G : W0 → (Nat → Loc) → Prop) : Prop := ∀ w0 ρ ρ', (∀ i, i < n → ρ' i = ρ i) → G w0 ρ → G w0 ρ'
section
variable {G : W0 → (Nat → Loc) → Prop} {r : Option Nat} {P : Program} {n : Nat} {s : St}
theorem lL {w0 : W0} {ρ : Nat → Loc} {Φ : an → St → Prop} : ¬ LetsOut (fun e a' w' => ∃ o s', Φ o s' ∧ db w0 ρ n o s' e a' w') := by
 rintro ⟨a, w, o, s', _, ⟨ρ', h, _⟩⟩
 cases o <;> cases h
theorem dY.mono {c : Code} {Φ Ψ : an → St → Prop} (h : dY G r P n c s Φ) (hm : ∀ o s', Φ o s' → Ψ o s') : dY G r P n c s Ψ :=
 fun hn w0 ρ a w hg hr => wpIn_mono (h hn w0 ρ a w hg hr) fun _ _ _ ⟨o, s', h1, h2⟩ => ⟨o, s', hm o s' h1, h2⟩
theorem Iv {Φ : an → St → Prop} (h : Φ .normal s) : dY G r P n .skip s Φ := fun hn _ ρ _ _ _ hr => wpIn_skip ⟨.normal, s, h, ⟨ρ, rfl, hr, fun _ _ => rfl, hn, by simp⟩⟩
theorem Gm {l : Nat} {Φ : an → St → Prop} (h : Φ .normal s) : dY G r P n (.label l) s Φ := fun hn _ ρ _ _ _ hr => wpIn_label ⟨.normal, s, h, ⟨ρ, rfl, hr, fun _ _ => rfl, hn, by simp⟩⟩
theorem Iw {id : Nat} {Φ : an → St → Prop} (h : Φ (.exit id) s) : dY G r P n (.exit id) s Φ := fun hn _ ρ _ _ _ hr => wpIn_exit ⟨.exit id, s, h, ⟨ρ, rfl, hr, fun _ _ => rfl, hn, by simp⟩⟩
theorem Oi {id : Nat} {Φ : an → St → Prop} (h : Φ (.goto id) s) : dY G r P n (.goto id) s Φ := fun hn _ ρ _ _ _ hr => wpIn_goto ⟨.goto id, s, h, ⟨ρ, rfl, hr, fun _ _ => rfl, hn, by simp⟩⟩
theorem Km {Φ : an → St → Prop} (h : Φ .ret s) : dY G r P n .ret s Φ := fun hn _ ρ _ _ _ hr => wpIn_ret ⟨.ret, s, h, ⟨ρ, rfl, hr, fun _ _ => rfl, hn, by simp⟩⟩
theorem Kn (hG : GOk n G) {x y : Code} {Φ : an → St → Prop} (h : dY G r P n x s (an.andThen (fun s' => dY G r P n y s' Φ) Φ)) : dY G r P n (.seq x y) s Φ := by
 intro hn w0 ρ a w hg hr
 refine wpIn_seq (wpIn_mono (h hn w0 ρ a w hg hr) ?_)
 rintro e a' w' ⟨o, s', h1, ⟨ρ', rfl, h2, h3, h4, h5⟩⟩
 cases o with
 | normal => exact wpIn_mono (h1 h4 w0 ρ' a' w' (hG w0 ρ ρ' h3 hg) h2) fun _ _ _ ⟨o, s'', q1, q2⟩ => ⟨o, s'', q1, q2.step h3⟩
 | exit id => exact ⟨.exit id, s', h1, ⟨ρ', rfl, h2, h3, h4, h5⟩⟩
 | goto id => exact ⟨.goto id, s', h1, ⟨ρ', rfl, h2, h3, h4, h5⟩⟩
 | ret => exact ⟨.ret, s', h1, ⟨ρ', rfl, h2, h3, h4, h5⟩⟩
 | pan v => exact ⟨.pan v, s', h1, ⟨ρ', rfl, h2, h3, h4, h5⟩⟩
theorem wM {c : Operand} {x y : Code} {b : Bool} {Φ : an → St → Prop} (hc : ev s.tm c = some (.bool b)) (h : dY G r P n (if b then x else y) s Φ) : dY G r P n (.cond c x y) s Φ :=
 fun hn w0 ρ a w hg hr => wpIn_cond (t := b) (by have := (qf hr.tm hr.sct hc).1; simpa only [γ] using this) (h hn w0 ρ a w hg hr)
theorem Gn {id : Nat} {c : Code} {Φ : an → St → Prop} (h : dY G r P n c s (an.inBlock id Φ)) : dY G r P n (.block id c) s Φ := by
 intro hn w0 ρ a w hg hr
 refine wpIn_block (wpIn_mono (h hn w0 ρ a w hg hr) ?_)
 rintro e a' w' ⟨o, s', h1, ⟨ρ', rfl, h2, h3, h4, h5⟩⟩
 cases o with
 | normal => exact ⟨.normal, s', h1, ⟨ρ', rfl, h2, h3, h4, h5⟩⟩
 | exit id' =>
  simp only [an.inBlock] at h1
  simp only [Ci, Exit.inBlock]
  split
  ·rename_i hid
   rw [if_pos hid] at h1
   exact ⟨.normal, s', h1, ⟨ρ', rfl, h2, h3, h4, by simp⟩⟩
  ·rename_i hid
   rw [if_neg hid] at h1
   exact ⟨.exit id', s', h1, ⟨ρ', rfl, h2, h3, h4, by simp⟩⟩
 | goto id => exact ⟨.goto id, s', h1, ⟨ρ', rfl, h2, h3, h4, h5⟩⟩
 | ret => exact ⟨.ret, s', h1, ⟨ρ', rfl, h2, h3, h4, h5⟩⟩
 | pan v => exact ⟨.pan v, s', h1, ⟨ρ', rfl, h2, h3, h4, h5⟩⟩
theorem lM {c : Code} {Φ : an → St → Prop} (h : dk P n c s Φ) : dY G none P n c s Φ :=
 fun hn w0 ρ a w _ hr => (wpIn_wide (n := 0)).2 (h hn w0 ρ a w hr)
theorem dY.SC {c : Code} {Φ : an → St → Prop} (h : dY (fun _ _ => True) none P n c s Φ) : dk P n c s Φ :=
 fun hn w0 ρ a w hr => (wpIn_wide (n := 0)).1 (h hn w0 ρ a w trivial hr)
theorem Ku {c : Code} {Q : Exit → Act → World → Prop} (I : Nat → Code → Act → World → Prop)
  (hI : ∀ m x a w, I m x a w → x.wp P (fun e a' w' => match e with | .goto l => ∃ rest m', m' < m ∧ findLabel c l = some rest ∧ I m' rest a' w' | e => Q e a' w') a w)
  {m : Nat} {a : Act} {w : World} (h : I m c a w) : (Code.scope c).wp P Q a w := by
 intro b k cs
 have key : ∀ m x a w, I m x a w → ∃ e a' w', Q e a' w' ∧ Arrives P (lone (b.at a (.code x :: .inScope c :: k)) cs w) b k cs e a' w' := by
  intro m
  induction m using Nat.strongRecOn with
  | _ m ih =>
   intro x a w hx
   obtain ⟨e, a₁, w₁, hq, harr⟩ := hI m x a w hx b (.inScope c :: k) cs
   cases e with
   | normal => exact ⟨.normal, a₁, w₁, hq, Steps.trans harr (.one step_inScope)⟩
   | exit id => exact ⟨.exit id, a₁, w₁, hq, fun k' hk => harr k' (by simp [exitTo, hk])⟩
   | goto l =>
    obtain ⟨rest, m', hlt, hf, hJ⟩ := hq
    obtain ⟨e₂, a₂, w₂, hq₂, harr₂⟩ := ih m' hlt rest a₁ w₁ hJ
    have hg : gotoIn l (.inScope c :: k) = some (.code rest :: .inScope c :: k) := by simp [gotoIn, hf]
    exact ⟨e₂, a₂, w₂, hq₂, .of_steps (harr _ hg) harr₂⟩
   | ret => exact ⟨_, a₁, w₁, hq, harr⟩
   | panic ch => exact ⟨_, a₁, w₁, hq, harr⟩
   | outgrown => exact ⟨_, a₁, w₁, hq, harr⟩
 obtain ⟨e, a', w', h1, h2⟩ := key m c a w h
 exact ⟨e, a', w', h1, .of_steps (.one step_scope) h2⟩
theorem Lr {b : Code} {Φ : an → St → Prop} (hG : GOk n G) (I : Nat → Code → St → Prop)
  (hI : ∀ m x s, I m x s → dY G none P n x s fun o s' => match o with | .goto l => ∃ rest m', m' < m ∧ findLabel b l = some rest ∧ I m' rest s' | o => Φ o s') {m : Nat} (h : I m b s) : dY G none P n (.scope b) s Φ := by
 intro hn w0 ρ a w hg hr
 refine (wpIn_wide (n := 0)).2 (Ku (fun m x a w => ∃ s ρ', I m x s ∧ bF w0 ρ' s a w ∧ (∀ i, i < n → ρ' i = ρ i) ∧ n ≤ s.mem.next) ?_ (m := m) ⟨s, ρ, h, hr, fun _ _ => rfl, hn⟩)
 rintro m x a w ⟨s, ρ1, h1, h2, h3, h4⟩
 refine wp_mono ((wpIn_wide (n := 0)).1 (hI m x s h1 h4 w0 ρ1 a w (hG w0 ρ ρ1 h3 hg) h2)) ?_
 rintro e a' w' ⟨o, s', k1, ⟨ρ2, rfl, k2, k3, k4, k5⟩⟩
 have e2 : ∀ i, i < n → ρ2 i = ρ i := fun i hi => (k3 i hi).trans (h3 i hi)
 cases o with
 | goto l =>
  obtain ⟨rest, m', q1, q2, q3⟩ := k1
  exact ⟨rest, m', q1, q2, s', ρ2, q3, k2, e2, k4⟩
 | normal => exact ⟨_, s', k1, ⟨ρ2, rfl, k2, e2, k4, k5⟩⟩
 | exit i => exact ⟨_, s', k1, ⟨ρ2, rfl, k2, e2, k4, k5⟩⟩
 | ret => exact ⟨_, s', k1, ⟨ρ2, rfl, k2, e2, k4, k5⟩⟩
 | pan v => exact ⟨_, s', k1, ⟨ρ2, rfl, k2, e2, k4, k5⟩⟩
theorem to {F : Fence} {m : Nat} {b : Code} {Q Q' : Exit → Act → World → Prop} (hQ : ∀ e a w, Q e a w → Q' e a w) : ∀ (k : Nat) {a : Act} {w : World}, Code.roundsIn F m P b Q k a w → Code.roundsIn F m P b Q' k a w
 | 0, _, _, h => h
 | k + 1, a, w, h => by
  rw [roundsIn_succ] at h ⊢
  refine wpIn_mono h fun e a' w' q => ?_
  cases e with
  | normal => exact to hQ k q
  | _ => exact hQ _ _ _ q
theorem Ak {id : Nat} {ops : Array Oper} {Φ : an → St → Prop} (hd : (∀ o ∈ ops.toList, mn o.op = false) ∨ r = none)
  (h : n ≤ s.mem.next → ∀ w0 ρ a w, bF w0 ρ s a w → wpOps P ops (fun e a' w' => ∃ o s', Φ o s' ∧ db w0 ρ n o s' e a' w') (List.range ops.size) a w) : dY G r P n (.region id ops false) s Φ :=
 fun hn w0 ρ a w _ hr => wpIn_region (Kt lL hd _ (h hn w0 ρ a w hr))
end
section
variable {w0 : W0} {ρ : Nat → Loc} {σ : Mem} {w : World}
theorem Rel.start (h : Rel w0 ρ σ w) {w1 : W0} (ho : w1.w.os = w0.w.os) (ht : w1.w.tape = w0.w.tape) (hp : w1.w.output = w0.w.output) (hs : w1.w.heap.size ≤ w.heap.size)
  (hprot : ∀ i b, σ.get i = some b → b.owned = true → ¬ w1.fG (ρ i).blk) (hold : ∀ k, w1.fG k → w.heap[k]? = w1.w.heap[k]?) : Rel w1 ρ σ w :=
 ⟨h.lt, h.sco, h.ok, h.inb, h.ap, hprot, h.os.trans ho.symm, h.tape.trans ht.symm, h.output.trans hp.symm, hs, hold⟩
theorem Rel.H3 (h : Rel w0 ρ σ w) {j k i : Nat} (hj : σ.get j = some (.bM k i)) (b' : am) (o : Obj) (hsc : scB σ.next b' = true) (hb : ∀ w' : World, w'.heap[(ρ j).blk]? = some o → BOk ρ (ρ j) w' b') :
  Rel w0 ρ (σ.set j b') (w.putObj (ρ j).blk o) := by
 have hown := h.own j _ hj rfl
 have hin := h.inb j _ hj rfl
 refine ⟨fun x b hx => ?_, fun x b hx => ?_, fun x b hx => ?_, fun x b hx ha => ?_, fun x y bx by' hx hy hne ho ha => ?_, fun x b hx ho => ?_, h.os, h.tape, h.output, by rw [World.putObj_size]; exact h.size, fun p hp => ?_⟩
 ·rw [aT] at hx
  split at hx
  ·rename_i e; subst e; exact h.lt j _ hj
  ·exact h.lt x b hx
 ·rw [aT] at hx
  split at hx
  ·cases hx; exact hsc
  ·exact h.sco x b hx
 ·rw [aT] at hx
  split at hx
  ·rename_i e
   subst e
   cases hx
   exact hb _ (World.putObj_heap_same hin)
  ·rename_i hij
   by_cases ha : b.alive = true
   ·exact cr (fun _ _ => rfl) (World.putObj_heap_other (h.ap j x _ b hj hx hij rfl ha).symm) b (h.sco x b hx) (h.ok x b hx)
   ·exact lB ha (h.ok x b hx)
 ·rw [World.putObj_size]
  rw [aT] at hx
  split at hx
  ·rename_i e; subst e; exact hin
  ·exact h.inb x b hx ha
 ·rw [aT] at hx hy
  split at hx
  ·rename_i e
   subst e
   rw [if_neg hne] at hy
   exact h.ap _ _ _ _ hj hy hne rfl ha
  ·rename_i e
   split at hy
   ·rename_i e2; subst e2; exact h.ap _ _ _ _ hx hj hne ho rfl
   ·exact h.ap _ _ _ _ hx hy hne ho ha
 ·rw [aT] at hx
  split at hx
  ·rename_i e; subst e; exact hown
  ·exact h.own x b hx ho
 ·rw [World.putObj_heap_other (by rintro rfl; exact hown hp)]
  exact h.old p hp
end
structure qm where
 nm : Nat
 ps : Array Tmp
 assign : Code
 body : Code
 tm : LA_
def jX : List Tmp → LA_ → LA_ → LA_
 | t :: ps, v :: vs, tm => jX ps vs (tm.set t v)
 | _, _, tm => tm
theorem Kv {ρ : Nat → Loc} : ∀ (ps : List Tmp) (vs tm : LA_), ((ps.zip (γL ρ vs)).foldl (fun t (x : Tmp × Value) => t.setIfInBounds x.1 x.2) (γL ρ tm).toArray) = (γL ρ (jX ps vs tm)).toArray
 | [], vs, tm => by simp [jX]
 | t :: ps, [], tm => by simp [jX, γL]
 | t :: ps, v :: vs, tm => by
  simp only [γL, List.zip_cons_cons, List.foldl_cons, jX, List.setIfInBounds_toArray, ← yx]
  exact Kv ps vs (tm.set t v)
theorem Kw {n : Nat} : ∀ (ps : List Tmp) (vs tm : LA_), scL n vs = true → scL n tm = true → scL n (jX ps vs tm) = true
 | [], _, _, _, h => h
 | _ :: _, [], _, _, h => h
 | t :: ps, v :: vs, tm, hv, h => by
  simp only [scL, UC] at hv
  exact Kw ps vs (tm.set t v) hv.2 (uv h hv.1)
def iD (Y : qm) (ρ : Nat → Loc) (fn : FuncId) (D : Nat) : Loop :=
 { state := .ready, pending := none, fn, tmps := (γL ρ Y.tm).toArray, params := Y.ps, assign := Y.assign, body := Y.body, defers := D }
def yG (Y : qm) : W0 → (Nat → Loc) → Prop := fun _ ρ =>
 ∃ fn D, (ρ Y.nm).val = .func (.yield (ρ Y.nm).blk) #[] #[] ∧ (ρ Y.nm).lp = iD Y ρ fn D
theorem Jq {Y : qm} {n : Nat} (hn : Y.nm < n) (ht : scL n Y.tm = true) : GOk n (yG Y) := by
 rintro w0 ρ ρ' he ⟨fn, D, h1, h2⟩
 refine ⟨fn, D, by rw [he _ hn]; exact h1, ?_⟩
 rw [he _ hn, h2]
 simp only [iD, cI he _ ht]
def wL : an → Option (Nat × Nat)
 | .normal => some (0, 0)
 | .ret => some (1, 0)
 | .exit i => some (2, i)
 | .goto i => some (3, i)
 | .pan _ => none
theorem Iu {P : Program} {Y : qm} {n : Nat} {vs : LA_} {σ : Mem} {Ψ : Bool → Mem → Prop} (hlen : vs.length = Y.ps.size) (hn : n ≤ σ.next) (hnm : Y.nm < n) (hsv : scL σ.next vs = true) (hst : scL n Y.tm = true)
  (h : ∀ l, dY (fun _ _ => True) (some l) P σ.next Y.assign ⟨jX Y.ps.toList vs Y.tm, [], σ⟩ fun o s1 => o = .normal ∧ s1.mem.get Y.nm = some (.bM 0 0) ∧
   dY (fun _ _ => True) (some l) P σ.next Y.body ⟨s1.tm, s1.df, s1.mem.set Y.nm (.bM 4 0)⟩ fun o s2 => s2.mem.get Y.nm = some (.bM 4 0) ∧ ∃ k i, wL o = some (k, i) ∧ Ψ (Nat.beq k 0) (s2.mem.set Y.nm (.bM k i)))
  (hget : σ.get Y.nm = some (.bM 0 0)) {w0 : W0} {ρ : Nat → Loc} {w : World} (hr : Rel w0 ρ σ w) {fn : FuncId} {D : Nat} (hp : (ρ Y.nm).lp = iD Y ρ fn D) :
  (Instr.yield (ρ Y.nm).blk (γL ρ vs).toArray).run P w = .ok (.round (ρ Y.nm).blk fn (γL ρ (jX Y.ps.toList vs Y.tm)).toArray Y.assign Y.body) w ∧
  RoundIn (FW none) 0 P (ρ Y.nm).blk fn (γL ρ (jX Y.ps.toList vs Y.tm)).toArray Y.assign Y.body w fun e w' => ∃ b, e = .returned (.bool b) ∧ ∃ ρ' σ', Ψ b σ' ∧ bO w0 ρ σ.next ρ' σ' w' := by
 obtain ⟨l, hl⟩ : ∃ l, (ρ Y.nm).blk = l := ⟨_, rfl⟩
 have hlw : w.heap[l]? = some (.loop (iD Y ρ fn D)) := by
  have := hr.ok _ _ hget
  rw [BOk, hp, hl] at this
  exact this
 rw [hl]
 refine ⟨?_, ?_⟩
 ·rw [run_yield hlw (by simp [iD, aU, hlen])]
  simp only [iD]
  congr 2
  rw [← Kv Y.ps.toList vs Y.tm, ← Array.foldl_toList, Array.toList_zip]
 refine roundIn_of_wpIn (F := FW none) trivial ?_
 have hsr : bF w0 ρ ⟨jX Y.ps.toList vs Y.tm, [], σ⟩ { tmps := (γL ρ (jX Y.ps.toList vs Y.tm)).toArray, defers := [] } w := ⟨hr, rfl, Kw _ _ _ hsv (cf hn _ hst), rfl, by simp⟩
 refine wpIn_mono (h l (Nat.le_refl _) w0 ρ _ w trivial hsr) ?_
 rintro e a' w1 ⟨o, s1, ⟨rfl, hg1, hB⟩, ⟨ρ1, rfl, k1, k2, k3, k4⟩⟩
 have e1 : ρ1 Y.nm = ρ Y.nm := k2 _ (by omega)
 have hl1 : w1.heap[l]? = some (.loop (iD Y ρ fn D)) := by
  have := k1.rel.ok _ _ hg1
  rw [BOk, e1, hp, hl] at this
  exact this
 refine ⟨_, run_beginRound hl1 rfl, ?_⟩
 have R1 : Rel w0 ρ1 (s1.mem.set Y.nm (.bM 4 0)) (w1.putObj l (.loop { iD Y ρ fn D with state := .busy })) := by
  have := k1.rel.H3 hg1 (.bM 4 0) (.loop { iD Y ρ fn D with state := .busy }) rfl fun w' hw' => by
   rw [BOk, hw', e1, hp]
   rfl
  rw [e1, hl] at this
  exact this
 refine wpIn_mono (hB k3 w0 ρ1 a' _ trivial ⟨R1, k1.tm, k1.sct, k1.df, k1.scd⟩) ?_
 rintro e a2 w2 ⟨o, s2, ⟨hg2, k, i, hji, hΨ⟩, ⟨ρ2, rfl, j1, j2, j3, j4⟩⟩
 have e2 : ρ2 Y.nm = ρ Y.nm := (j2 _ (by omega)).trans e1
 have hl2 : w2.heap[l]? = some (.loop { iD Y ρ fn D with state := .busy }) := by
  have := j1.rel.ok _ _ hg2
  rw [BOk, e2, hp, hl] at this
  exact this
 have fin : ∀ (jump : Option Code) (k i : Nat), jump.isNone = Nat.beq k 0 → (jn (iD Y ρ fn D) k i) = { iD Y ρ fn D with state := if jump.isNone then .ready else .done, pending := jump } → Ψ (Nat.beq k 0) (s2.mem.set Y.nm (.bM k i)) →
   ∃ v w', (Instr.endRound l jump).run P w2 = .ok v w' ∧ ∃ b, Ending.returned v = .returned (.bool b) ∧ ∃ ρ' σ', Ψ b σ' ∧ bO w0 ρ σ.next ρ' σ' w' := by
  intro jump k i h1 h2 h3
  refine ⟨_, _, run_endRound jump hl2, _, rfl, ρ2, s2.mem.set Y.nm (.bM k i), by rw [h1]; exact h3, ⟨?_, fun i hi => (j2 i hi).trans (k2 i hi), j3⟩⟩
  have := j1.rel.H3 hg2 (.bM k i) (.loop { iD Y ρ fn D with state := if jump.isNone then .ready else .done, pending := jump }) rfl fun w' hw' => by
   rw [BOk, hw', e2, hp, h2]
  rw [e2, hl] at this
  exact this
 cases o with
 | normal =>
  simp only [wL, UB, UD] at hji
  obtain ⟨rfl, rfl⟩ := hji
  exact fin none 0 0 rfl rfl hΨ
 | ret =>
  simp only [wL, UB, UD] at hji
  obtain ⟨rfl, rfl⟩ := hji
  exact fin (some .ret) 1 0 rfl rfl hΨ
 | exit x =>
  simp only [wL, UB, UD] at hji
  obtain ⟨rfl, rfl⟩ := hji
  exact fin (some (.exit x)) 2 x rfl rfl hΨ
 | goto x =>
  simp only [wL, UB, UD] at hji
  obtain ⟨rfl, rfl⟩ := hji
  exact fin (some (.goto x)) 3 x rfl rfl hΨ
 | pan v => cases hji
theorem alloc_eq (w : World) (o : Obj) : w.alloc o = { w with heap := w.heap.push o } := rfl
def vD : Nat → Nat → Option an
 | 0, _ => some .normal
 | 1, _ => some .ret
 | 2, i => some (.exit i)
 | 3, i => some (.goto i)
 | _, _ => none
theorem yz {P : Program} {T : ar} (hT : aZ P T) {G : W0 → (Nat → Loc) → Prop} {n : Nat} {s : St} {g : Operand} {ps : Array Tmp} {assign body : Code} {f : FuncId} {cs : LA_} {fn : Func} {c : Code} {Φ : an → St → Prop}
  (hg : ev s.tm g = some (.func f [] cs)) (hf : P.funcs[f]? = some fn) (hb : fn.body = some c) (hfn : mZ P f)
  (h : scL s.mem.next s.tm = true → dY (yG ⟨s.mem.next + 1, ps, assign, body, s.tm⟩) none P (s.mem.next + 2) c (bG fn.ntmps (.dm (s.mem.next + 1) :: cs) ((s.mem.push .jm).push (.bM 0 0))) fun o s' =>
   (o = .normal ∨ o = .ret) ∧ s'.df = [] ∧ (∃ v, gk T s' fn.results.toList = some v) ∧ ∃ k i o2, s'.mem.get (s.mem.next + 1) = some (.bM k i) ∧ vD k i = some o2 ∧
    Φ o2 ⟨s.tm, ⟨wG, [.dm s.mem.next], []⟩ :: s.df, s'.mem.set (s.mem.next + 1) .dead⟩) : dY G none P n (.rangeFunc g ps assign body) s Φ := by
 intro hn w0 ρ a w hG hr
 obtain ⟨e1, e2⟩ := qf hr.tm hr.sct hg
 simp only [sc, scL, Bool.true_and] at e2
 have hev : a.eval g = .func (.func f) #[] (γL ρ cs).toArray := by rw [e1]; simp [γ, γL]
 refine wpIn_rangeFunc (F := FW none) ?_
 intro fid _
 obtain ⟨D, hD⟩ : ∃ D, D = w.heap.size := ⟨_, rfl⟩
 obtain ⟨rec, hrec⟩ : ∃ rec : Loop, rec = { state := .ready, pending := none, fn := fid, tmps := a.tmps, params := ps, assign, body, defers := D } := ⟨_, rfl⟩
 obtain ⟨W1, hW1⟩ : ∃ W1, (w.alloc (.deferred (some []))).alloc (.loop rec) = W1 := ⟨_, rfl⟩
 let LD : Loc := { blk := D, base := 0, dS := 0, val := .int .i64 D }
 let LL : Loc := { blk := D + 1, base := 0, dS := 0, val := .func (.yield (D + 1)) #[] #[], lp := rec }
 have hD1 : (w.alloc (.deferred (some []))).heap[D]? = some (.deferred (some [])) := by rw [hD]; exact World.alloc_heap_new w _
 have R1 : Rel w0 (upd ρ s.mem.next LD) (s.mem.push .jm) (w.alloc (.deferred (some []))) := hr.rel.push (L := LD) hD rfl fun _ _ => ⟨by rw [← alloc_eq]; exact hD1, rfl⟩
 have hs1 : (w.alloc (.deferred (some []))).heap.size = D + 1 := by rw [World.size_alloc, hD]
 have hl1 : W1.heap[D + 1]? = some (.loop rec) := by rw [← hW1, ← hs1]; exact World.alloc_heap_new _ _
 have R2 : Rel w0 (upd (upd ρ s.mem.next LD) (s.mem.next + 1) LL) ((s.mem.push .jm).push (.bM 0 0)) W1 := by
  rw [← hW1]
  exact R1.push (L := LL) hs1.symm rfl fun _ _ => by
   show _ = some (Obj.loop rec)
   rw [← alloc_eq, hW1]
   exact hl1
 generalize hρ : upd (upd ρ s.mem.next LD) (s.mem.next + 1) LL = ρ2 at R2
 have r0 : ∀ i, i < s.mem.next → ρ2 i = ρ i := fun i hi => by rw [← hρ, dU (by omega), dU hi]
 have r1 : ρ2 s.mem.next = LD := by rw [← hρ, dU (by omega), bw]
 have r2 : ρ2 (s.mem.next + 1) = LL := by rw [← hρ, bw]
 have htm : (γL ρ2 s.tm).toArray = a.tmps := by rw [hr.tm, cI r0 _ hr.sct]
 have hyG : yG ⟨s.mem.next + 1, ps, assign, body, s.tm⟩ w0 ρ2 := ⟨fid, D, by rw [r2], by
  show (ρ2 (s.mem.next + 1)).lp = _
  rw [r2]
  show rec = _
  rw [hrec]
  simp only [iD, htm]⟩
 have hsa : scL ((s.mem.push .jm).push (.bM 0 0)).next (.dm (s.mem.next + 1) :: cs) = true := by
  simp only [scL, sc, UC, UI]
  exact ⟨by simp, cf (by simp; omega) _ e2⟩
 have hsr := wN R2 hsa fn.ntmps
 have hargs : (γL ρ2 (.dm (s.mem.next + 1) :: cs)).toArray = #[.func (.yield (D + 1)) #[] #[]] ++ (γL ρ cs).toArray := by
  simp only [γL, γ, r2, cI r0 _ e2]
  simp [LL]
 refine ⟨D + 1, [{ target := .collected D, args := #[] }], W1, { target := .fn (.func f) (γL ρ cs).toArray, args := #[.func (.yield (D + 1)) #[] #[]] }, W1, f, #[.func (.yield (D + 1)) #[] #[]] ++ (γL ρ cs).toArray, W1, ?_, ?_, fun _ _ => trivial, ?_, fun hh => (by cases hh), ?_⟩
 ·rw [← hW1, hrec, hD]; exact run_enterLoop_outer _ _ _ _ _
 ·simp only [resolve, hev]
  simp [go_sem]
 ·simp [invoke, go_sem, jp hfn]
 refine callsIn_of_wp (F := FW none) hf hb trivial ?_
 rw [← hargs]
 refine wpIn_mono (h hr.sct (Nat.le_refl _) w0 ρ2 _ W1 hyG hsr) ?_
 rintro e a' w3 ⟨o, s', ⟨ho, hdf, ⟨v, hv⟩, k, i, o2, hget, hlv, hΦ⟩, ⟨ρ3, rfl, k1, k2, k3, k4⟩⟩
 have e3 : ρ3 (s.mem.next + 1) = LL := (k2 _ (by omega)).trans r2
 have hl3 : w3.heap[D + 1]? = some (.loop (jn rec k i)) := by
  have := k1.rel.ok _ _ hget
  rw [BOk, e3] at this
  exact this
 have hpend : (rec.pending = none) := by rw [hrec]
 have hstate : (jn rec k i).state ≠ .busy ∧ (match (jn rec k i).pending with | none => o2 = .normal | some c => (c = .ret ∧ o2 = .ret) ∨ (∃ x, c = .exit x ∧ o2 = .exit x) ∨ ∃ x, c = .goto x ∧ o2 = .goto x) := by
  match k, hlv with
  | 0, hlv => simp only [vD, UB] at hlv; subst hlv; subst hrec; exact ⟨by simp [jn], rfl⟩
  | 1, hlv => simp only [vD, UB] at hlv; subst hlv; exact ⟨by simp [jn], .inl ⟨rfl, rfl⟩⟩
  | 2, hlv => simp only [vD, UB] at hlv; subst hlv; exact ⟨by simp [jn], .inr (.inl ⟨i, rfl, rfl⟩)⟩
  | 3, hlv => simp only [vD, UB] at hlv; subst hlv; exact ⟨by simp [jn], .inr (.inr ⟨i, rfl, rfl⟩)⟩
  | k + 4, hlv => cases hlv
 obtain ⟨W4, hW4⟩ : ∃ W4, w3.putObj (D + 1) (.loop { jn rec k i with state := .exhausted }) = W4 := ⟨_, rfl⟩
 have R4 : Rel w0 ρ3 (s'.mem.set (s.mem.next + 1) .dead) W4 := by
  have := k1.rel.H3 hget .dead (.loop { jn rec k i with state := .exhausted }) rfl fun _ _ => trivial
  rw [e3, hW4] at this
  exact this
 have q0 : ∀ i, i < s.mem.next → ρ3 i = ρ i := fun i hi => (k2 i (by omega)).trans (r0 i hi)
 have hle : s.mem.next ≤ s'.mem.next := by omega
 have aft : ∀ {e}, e = Ci ρ3 o2 → (∀ v, o2 ≠ .pan v) → ∃ o s', Φ o s' ∧ db w0 ρ n o s' e { a with defers := [{ target := .collected D, args := #[] }] ++ a.defers } W4 := by
  rintro e rfl hnp
  refine ⟨o2, _, hΦ, ⟨ρ3, rfl, ⟨R4, ?_, cf hle _ hr.sct, ?_, ?_⟩, fun i hi => q0 i (by omega), by show n ≤ s'.mem.next; omega, fun v hv => absurd hv (hnp v)⟩⟩
  ·show a.tmps = _
   rw [hr.tm, cI q0 _ hr.sct]
  ·show [{ target := .collected D, args := #[] }] ++ a.defers = _
   have e3 : γD ρ3 ⟨wG, [.dm s.mem.next], []⟩ = { target := .collected D, args := #[] } := by
    simp only [γD, dOf, if_true, γL, γ, k2 s.mem.next (by omega), r1]
    simp [LD]
   rw [List.map_cons, e3, hr.df]
   simp only [List.singleton_append, List.cons.injEq, true_and]
   exact List.map_congr_left fun d hd => by simp only [γD, cI q0 _ (hr.scd d hd).1, cI q0 _ (hr.scd d hd).2]
  ·intro d hd
   rcases List.mem_cons.1 hd with rfl | hd
   ·exact ⟨by simp only [scL, sc, Bool.and_true, UI]; show s.mem.next < s'.mem.next; omega, rfl⟩
   ·exact ⟨cf hle _ (hr.scd d hd).1, cf hle _ (hr.scd d hd).2⟩
 have fin : a'.defers = [] ∧ ∃ v, (results fn a'.tmps).run P w3 = .ok v w3 ∧ rangePost (FW none) 0 P (D + 1) (fun e a' w' => ∃ o s', Φ o s' ∧ db w0 ρ n o s' e a' w') { a with defers := [{ target := .collected D, args := #[] }] ++ a.defers } (.returned v) w3 := by
  refine ⟨by rw [k1.df, hdf]; rfl, _, (rC hT k1 hv).1, (jn rec k i).pending, W4, by rw [run_endLoop (P := P) hl3 hstate.1, hW4], ?_⟩
  have hs2 := hstate.2
  cases hpe : (jn rec k i).pending with
  | none =>
   rw [hpe] at hs2
   simp only at hs2
   subst hs2
   exact aft rfl (by simp)
  | some c =>
   rw [hpe] at hs2
   simp only at hs2 ⊢
   rcases hs2 with ⟨rfl, rfl⟩ | ⟨x, rfl, rfl⟩ | ⟨x, rfl, rfl⟩
   ·exact wpIn_ret (aft rfl (by simp))
   ·exact wpIn_exit (aft rfl (by simp))
   ·exact wpIn_goto (aft rfl (by simp))
 rcases ho with rfl | rfl
 ·exact fin
 ·exact fin
def g7 : List oh → Mem → Option Mem
 | [], σ => some σ
 | d :: r, σ => match d.cap with
  | [.dm j] => if d.f = wG then (match σ.get j with
   | some .jm => g7 r (σ.set j .dead)
   | _ => none) else none
  | _ => none
def Kp (T : ar) (rs : List ResultVar) : an → St → Option (fc × Mem)
 | .normal, s | .ret, s => match g7 s.df s.mem with
  | some σ' => (gk T ⟨s.tm, [], σ'⟩ rs).map fun v => (.ret v, σ')
  | none => none
 | .pan v, s => match s.df with
  | [] => some (.pan v, s.mem)
  | _ => none
 | _, _ => none
theorem Rel.take {w0 : W0} {ρ : Nat → Loc} {σ : Mem} {w : World} (h : Rel w0 ρ σ w) {j : Nat} (hj : σ.get j = some .jm) : Rel w0 ρ (σ.set j .dead) (w.putObj (ρ j).blk (.deferred none)) := by
 have hk := h.kill hj
 have hown := h.own j _ hj rfl
 refine ⟨hk.lt, hk.sco, fun i b hb => ?_, fun i b hb ha => by rw [World.putObj_size]; exact hk.inb i b hb ha, hk.ap, hk.own, h.os, h.tape, h.output, by rw [World.putObj_size]; exact h.size, fun k hp => ?_⟩
 ·by_cases ha : b.alive = true
  ·have hne : (ρ i).blk ≠ (ρ j).blk := by
    rw [aT] at hb
    split at hb
    ·cases hb; cases ha
    ·rename_i hij
     exact (h.ap j i _ b hj hb hij rfl ha).symm
   exact cr (fun _ _ => rfl) (World.putObj_heap_other hne) b (hk.sco i b hb) (hk.ok i b hb)
  ·exact lB ha (hk.ok i b hb)
 ·rw [World.putObj_heap_other (by rintro rfl; exact hown hp)]
  exact h.old k hp
theorem Qz {P : Program} {w0 : W0} {fn : Func} {tmps : Array Value} {R : Ending → World → Prop} {ρ : Nat → Loc} : ∀ (l : List oh) {σ σ' : Mem} {w : World}, Rel w0 ρ σ w → g7 l σ = some σ' →
  (∀ w', Rel w0 ρ σ' w' → ∃ v, (results fn tmps).run P w' = .ok v w' ∧ R (.returned v) w') → LeavesInM (FW none) 0 P fn tmps R (l.map (γD ρ)) .returning w
 | [], σ, σ', w, hr, ht, h => by
  obtain rfl : σ = σ' := by simpa [g7] using ht
  exact h w hr
 | d :: r, σ, σ', w, hr, ht, h => by
  obtain ⟨f, cap, args⟩ := d
  simp only [g7] at ht
  split at ht
  rotate_left
  ·cases ht
  rename_i j
  split at ht
  rotate_left
  ·cases ht
  rename_i hm
  split at ht
  rotate_left
  ·cases ht
  rename_i hj
  subst hm
  obtain ⟨h1, h2⟩ := hr.ok j _ hj
  refine ⟨by simp, .inl ⟨(ρ j).blk, _, ?_, run_takeDeferred h1, Qz r (hr.take hj) ht h⟩⟩
  simp only [γD, dOf, if_true, γL, γ, h2]
  simp
theorem Cq : ∀ {l : List oh} {σ σ' : Mem}, g7 l σ = some σ' → σ'.next = σ.next
 | [], σ, σ', h => by
  obtain rfl : σ = σ' := by simpa [g7] using h
  rfl
 | d :: r, σ, σ', h => by
  simp only [g7] at h
  split at h
  ·split at h
   ·split at h
    ·have := Cq h
     exact this
    ·cases h
   ·cases h
  ·cases h
theorem tp {P : Program} {T : ar} (hT : aZ P T) {f : FuncId} {fn : Func} {c : Code} {args : LA_} {σ : Mem} (hf : P.funcs[f]? = some fn) (hb : fn.body = some c) {R : fc → Mem → Prop}
  (h : dY (fun _ _ => True) none P σ.next c (bG fn.ntmps args σ) fun o s' => ∃ r σ', Kp T fn.results.toList o s' = some (r, σ') ∧ R r σ') :
  ∀ w0 ρ w, Rel w0 ρ σ w → scL σ.next args = true →
   Calls P f (γL ρ args).toArray w fun e w' => ∃ r σ' ρ', R r σ' ∧ e = rR ρ' r ∧ bO w0 ρ σ.next ρ' σ' w' ∧ sc σ'.next r.value = true := by
 intro w0 ρ w hr hs
 refine Px (r := none) (n := 0) (callsIn_of_wp_marks (F := FW none) hf hb trivial ?_)
 refine wpIn_mono (h (Nat.le_refl _) w0 ρ _ w trivial (wN hr hs fn.ntmps)) ?_
 rintro e a' w' ⟨o, s', ⟨r, σ', h1, h2⟩, ⟨ρ', rfl, k1, k2, k3, k4⟩⟩
 have fin : (match g7 s'.df s'.mem with | some σ' => (gk T ⟨s'.tm, [], σ'⟩ fn.results.toList).map fun v => (fc.ret v, σ') | none => none) = some (r, σ') →
   LeavesInM (FW none) 0 P fn a'.tmps (fun e w' => ∃ r σ' ρ', R r σ' ∧ e = rR ρ' r ∧ bO w0 ρ σ.next ρ' σ' w' ∧ sc σ'.next r.value = true) a'.defers .returning w' := by
  intro h1
  split at h1
  rotate_left
  ·cases h1
  rename_i σ2 ht
  obtain ⟨v, hv, h3⟩ := UM.1 h1
  simp only [UD] at h3
  obtain ⟨rfl, rfl⟩ := h3
  have hnx := Cq ht
  rw [k1.df]
  refine Qz s'.df k1.rel ht fun w2 hr2 => ?_
  have hsr : bF w0 ρ' ⟨s'.tm, [], σ2⟩ { tmps := a'.tmps, defers := [] } w2 := ⟨hr2, k1.tm, by show scL σ2.next s'.tm = true; rw [hnx]; exact k1.sct, rfl, by simp⟩
  obtain ⟨q1, q2⟩ := rC hT hsr hv
  exact ⟨_, q1, _, _, ρ', h2, rfl, ⟨hr2, k2, by rw [hnx]; exact k3⟩, q2⟩
 cases o with
 | normal => exact fin h1
 | ret => exact fin h1
 | exit i => cases h1
 | goto i => cases h1
 | pan v =>
  simp only [Kp] at h1
  split at h1
  ·rename_i hd
   simp only [UB, UD] at h1
   obtain ⟨rfl, rfl⟩ := h1
   have hd' : a'.defers = [] := by rw [k1.df, hd]; rfl
   show LeavesInM _ _ _ _ _ _ a'.defers _ _
   rw [hd']
   exact ⟨_, _, ρ', h2, rfl, ⟨k1.rel, k2, k3⟩, k4 v rfl⟩
  ·cases h1
def yieldOf (nm : Nat) (tm : LA_) (o : Oper) : Option (LA_) :=
 match o.op with
 | .call ⟨.value g, args, _⟩ => match ev tm g with
  | some (.dm i) => cond (Nat.beq i nm) (evL tm args.toList) none
  | _ => none
 | _ => none
def Al (l : List Oper) : Bool := l.any fun o => mn o.op
def qk (n : Nat) : Option am → Bool
 | some (.bM k i) => Nat.beq k n && Nat.beq i 0
 | _ => false
theorem jx {n : Nat} {b : Option am} (h : qk n b = true) : b = some (.bM n 0) := by
 unfold qk at h
 split at h
 ·simp only [UC] at h
  rw [UR h.1, UR h.2]
 ·cases h
def Am {X : Type} (T : ar) (ch : CH) (y : qm) (rd : LA_ → Mem → (Bool → Mem → Option X) → Option X) (all : List Oper) : List Oper → St → (St → Option X) → Option X
  | [], s, k => k s
  | o :: r, s, k => match yieldOf y.nm s.tm o with
    | some vs => cond (gj all o s.tm) none (cond (br all o s.tm)
      (cond (Nat.beq vs.length y.ps.size && qk 0 (s.mem.get y.nm)) (rd vs s.mem fun b σ' => Am T ch y rd all r ⟨bJ s.tm o.dst (.bool b), s.df, σ'⟩ k) none)
      (Am T ch y rd all r ⟨bJ s.tm o.dst (.tup []), s.df, s.mem⟩ k))
    | none => runK T ch all [o] s .nil (fun s' w => cond (owB w) (Am T ch y rd all r s' k) none) (fun _ _ _ => none)
def Gw {X : Type} (ev : Code → St → (an → St → Option X) → Option X) (b : Code) (K : an → St → Option X) : Nat → Code → St → Option X
 | 0, _, _ => none
 | m + 1, c, s => ev c s fun o s' => match o with
  | .goto l => (match findLabel b l with
   | some rest => Gw ev b K m rest s'
   | none => none)
  | o => K o s'
def Ad : an → Bool
 | .normal => true
 | .ret => true
 | _ => false
def QA (il : FuncId → Bool) (tm : LA_) (o : Oper) : Option (FuncId × LA_) :=
 match o.op with
 | .call ⟨.value (.func g), args, _⟩ => cond (il g) (match evL tm args.toList with
  | some vs => some (g, vs)
  | none => none) none
 | _ => none
def QB (il : FuncId → Bool) (o : Oper) : Bool :=
 match o.op with
 | .call ⟨.value (.func g), _, _⟩ => il g
 | _ => false
def Cr {X : Type} (T : ar) (ch : CH) (il : FuncId → Bool) (cl : FuncId → LA_ → Mem → (ab → Mem → Option X) → Option X) (all : List Oper) : List Oper → St → (St → Option X) → Option X
  | [], s, k => k s
  | o :: r, s, k => match QA il s.tm o with
    | some q => cond (gj all o s.tm) none (cond (br all o s.tm)
      (cl q.1 q.2 s.mem fun v σ' => Cr T ch il cl all r ⟨bJ s.tm o.dst v, s.df, σ'⟩ k)
      (Cr T ch il cl all r ⟨bJ s.tm o.dst (.tup []), s.df, s.mem⟩ k))
    | none => runK T ch all [o] s .nil (fun s' w => cond (owB w) (Cr T ch il cl all r s' k) none) (fun _ _ _ => none)
def cA {X : Type} (eq : X → X → Bool) (P : Program) (T : ar) (ch : CH) (il : FuncId → Bool) : Nat → qh → Bool → Option qm → Code → St → (an → St → Option X) → Option X
  | 0, _, _, _, _, _, _ => none
  | n + 1, A, inR, Y, c, s, K =>
    match c with
    | .seq a b => cA eq P T ch il n A inR Y a s fun o s' => match o with
      | .normal => cA eq P T ch il n A inR Y b s' K
      | o => K o s'
    | .cond c a b => match ev s.tm c with
      | some (.bool true) => cA eq P T ch il n A inR Y a s K
      | some (.bool false) => cA eq P T ch il n A inR Y b s K
      | _ => none
    | .block id b => cA eq P T ch il n A inR Y b s fun o s' => match o with
      | .exit i => if i = id then K .normal s' else K (.exit i) s'
      | o => K o s'
    | .loop b => match cond inR none (A (dK b)) with
      | some la => la.run s K
      | none => cA eq P T ch il n A inR Y b s fun o s' => match o with
        | .normal => cA eq P T ch il n A inR Y (.loop b) s' K
        | o => K o s'
    | .scope b => cond inR none (Gw (fun c s K => cA eq P T ch il n A inR Y c s K) b K (n + 1) b s)
    | .rangeFunc g ps a b => cond inR none (match ev s.tm g with
      | some (.func f [] cs) => match P.funcs[f]? with
        | some fn => match fn.body with
          | some c => cA eq P T ch il n bD false (some ⟨s.mem.next + 1, ps, a, b, s.tm⟩) c (bG fn.ntmps (.dm (s.mem.next + 1) :: cs) ((s.mem.push .jm).push (.bM 0 0))) fun o s' => cond (Ad o)
            (match s'.df, gk T s' fn.results.toList, s'.mem.get (s.mem.next + 1) with
              | [], some _, some (.bM k i) => (match vD k i with
                | some o2 => K o2 ⟨s.tm, ⟨wG, [.dm s.mem.next], []⟩ :: s.df, s'.mem.set (s.mem.next + 1) .dead⟩
                | none => none)
              | _, _, _ => none) none
          | none => none
        | none => none
      | _ => none)
    | .region _ ops false => cond (inR && Al ops.toList) none (match yA ops.toList with
      | some (x, o, l) => match ev s.tm x with
        | some v => match Gc s.mem v with
          | some (i, m, since, seen, es, clock) =>
            let go : St → Option X := fun s1 => runK T ch ops.toList l s1 .nil (fun s' w => cond (owB w) (K .normal s') none) (fun v s' w => cond (owB w) (K (.pan v) s') none)
            match Gb es seen with
            | [] => go ⟨bJ s.tm o.dst (.tup [.bool false]), s.df, s.mem⟩
            | ls => oP eq (ls.map fun e => go ⟨bJ s.tm o.dst (.tup [.bool true, e.1, e.2.1]), s.df, s.mem.set i (.iter m since (seen ++ [e.2.2]) clock)⟩)
          | none => none
        | none => none
      | none => match Y with
        | some y => Am T ch y (fun vs σ k => cA eq P T ch il n bD true none y.assign ⟨jX y.ps.toList vs y.tm, [], σ⟩ fun o s1 => match o with
          | .normal => cond (qk 0 (s1.mem.get y.nm)) (cA eq P T ch il n bD true none y.body ⟨s1.tm, s1.df, s1.mem.set y.nm (.bM 4 0)⟩ fun o s2 => cond (qk 4 (s2.mem.get y.nm)) (match wL o with
            | some j => k (Nat.beq j.1 0) (s2.mem.set y.nm (.bM j.1 j.2))
            | none => none) none) none
          | _ => none) ops.toList ops.toList s (K .normal)
        | none => cond (ops.toList.any (QB il))
          (Cr T ch il (fun g vs σ kk => match P.funcs[g]? with
            | some fn => match fn.body with
              | some b => cA eq P T ch il n bD false none b (bG fn.ntmps vs σ) fun o s1 => match Kp T fn.results.toList o s1 with
                | some (.ret v, σ') => kk v σ'
                | _ => none
              | none => none
            | none => none) ops.toList ops.toList s (K .normal))
          (runK T ch ops.toList ops.toList s .nil (fun s' w => cond (owB w) (K .normal s') none) (fun v s' w => cond (owB w) (K (.pan v) s') none)))
    | .region _ ops true => cond (inR && Al ops.toList) none (um T ch ops.toList s .nil (fun s' w => cond (owB w) (K .normal s') none) (fun v s' w => cond (owB w) (K (.pan v) s') none))
    | .skip => K .normal s
    | .label _ => K .normal s
    | .exit id => K (.exit id) s
    | .goto l => K (.goto l) s
    | .ret => K .ret s
    | _ => none
theorem lK {R : Type} {c : Bool} {x : Option R} {r : R} (h : cond c none x = some r) : c = false ∧ x = some r := by
 cases c with
 | true => cases h
 | false => exact ⟨rfl, h⟩
theorem Gx {inR : Bool} {ops : Array Oper} {r : Option Nat} (hR : inR = true ∨ r = none) (h : (inR && Al ops.toList) = false) : (∀ o ∈ ops.toList, mn o.op = false) ∨ r = none := by
 rcases hR with rfl | hR
 ·simp only [Bool.true_and, Al, List.any_eq_false] at h
  exact .inl fun o ho => by simpa using h o ho
 ·exact .inr hR
section
variable {P : Program} {T : ar} {ch : CH} {X : Type} {eq : X → X → Bool}
theorem Gl {w0 : W0} {ρ : Nat → Loc} {s : St} {a : Act} {w : World} (hr : bF w0 ρ s a w) {nm : Nat} {o : Oper} {vs : LA_} (h : yieldOf nm s.tm o = some vs) {l : Nat} (hl : (ρ nm).val = .func (.yield l) #[] #[]) :
  (execOp a.eval o).run P w = (Instr.yield l (γL ρ vs).toArray).run P w ∧ scL s.mem.next vs = true ∧ mn o.op = false := by
 obtain ⟨dst, op, type, pos, after, guard⟩ := o
 unfold yieldOf at h
 split at h
 ·rename_i g args at' hop
  simp only at hop
  subst hop
  split at h
  ·rename_i i hi
   obtain ⟨h1, h2⟩ := bQ h
   obtain rfl := UR h1
   obtain ⟨e1, e2⟩ := sF hr.tm hr.sct h2
   obtain ⟨q1, _⟩ := qf hr.tm hr.sct hi
   have e3 : args.map a.eval = (γL ρ vs).toArray := by apply Array.ext'; rw [Array.toList_map, e1]
   refine ⟨?_, e2, rfl⟩
   simp only [execOp, resolve, e3, q1, γ, hl, Deferred.ofValue, UO, UP, UN, invoke]
   simp
  ·cases h
 ·cases h
theorem Kx (hT : aZ P T) (hH : aG P ch) {y : qm} {k : Nat} (hk : y.nm < k) (hy : scL k y.tm = true) {rd : LA_ → Mem → (Bool → Mem → Option X) → Option X} {x : X}
  (hrd : ∀ vs σ kk, rd vs σ kk = some x → ∀ l, dY (fun _ _ => True) (some l) P σ.next y.assign ⟨jX y.ps.toList vs y.tm, [], σ⟩ fun o s1 => o = .normal ∧ s1.mem.get y.nm = some (.bM 0 0) ∧
   dY (fun _ _ => True) (some l) P σ.next y.body ⟨s1.tm, s1.df, s1.mem.set y.nm (.bM 4 0)⟩ fun o s2 => s2.mem.get y.nm = some (.bM 4 0) ∧ ∃ k i, wL o = some (k, i) ∧ kk (Nat.beq k 0) (s2.mem.set y.nm (.bM k i)) = some x)
  {ops : Array Oper} {K : St → Option X} {w0 : W0} {Q : Exit → Act → World → Prop} : ∀ (l pre : List Oper) (ρ : Nat → Loc) (s : St) (a : Act) (w : World), ops.toList = pre ++ l → yG y w0 ρ → bF w0 ρ s a w → k ≤ s.mem.next →
   Am T ch y rd ops.toList l s K = some x →
   (∀ s' ρ' a' w', K s' = some x → bF w0 ρ' s' a' w' → (∀ i, i < k → ρ' i = ρ i) → k ≤ s'.mem.next → Q .normal a' w') → ¬ LetsOut Q → wpOpsIn (FW none) 0 P ops Q (List.range' pre.length l.length) a w
 | [], pre, ρ, s, a, w, he, hG, h, hn, hx, hK, hQ => by
  simp only [Am] at hx
  exact hK s ρ a w hx h (fun _ _ => rfl) hn
 | o :: l, pre, ρ, s, a, w, he, hG, h, hn, hx, hK, hQ => by
  rw [UW, List.range'_succ, wpOpsIn_cons]
  have hi : ops[pre.length]? = some o := by
   rw [← UX, he, List.getElem?_append_right (Nat.le_refl _)]; simp
  have next : ∀ (s1 : St) (ρ1 : Nat → Loc) (a1 : Act) (w1 : World), bF w0 ρ1 s1 a1 w1 → (∀ i, i < k → ρ1 i = ρ i) → k ≤ s1.mem.next → Am T ch y rd ops.toList l s1 K = some x → wpOpsIn (FW none) 0 P ops Q (List.range' (pre.length + 1) l.length) a1 w1 := by
   intro s1 ρ1 a1 w1 h1 e1 l1 hx1
   have := Kx hT hH hk hy hrd l (pre ++ [o]) ρ1 s1 a1 w1 (by simp [he]) (Jq hk hy w0 ρ ρ1 e1 hG) h1 l1 hx1 (fun s' ρ' a' w' q1 q2 q3 q4 => hK s' ρ' a' w' q1 q2 (fun i hi => (q3 i hi).trans (e1 i hi)) q4) hQ
   simpa using this
  simp only [Am] at hx
  split at hx
  ·rename_i vs hvs
   obtain ⟨hg, hx⟩ := lK hx
   have hw : Region.wanted o (yielded ops a.tmps) = br ops.toList o s.tm := by rw [h.tm]; exact sH hg
   unfold wpOpIn
   simp only [hi]
   rw [hw]
   cases hwa : br ops.toList o s.tm with
   | true =>
    rw [hwa] at hx
    simp only [cond_true, if_true] at hx ⊢
    obtain ⟨hlen, hx⟩ := bQ hx
    simp only [UC] at hlen
    obtain ⟨fid, D, g1, g3⟩ := hG
    obtain ⟨hex, hsv, hnd⟩ := Gl (P := P) h hvs g1
    obtain ⟨r1, r2⟩ := Iu (Ψ := fun b σ' => Am T ch y rd ops.toList l ⟨bJ s.tm o.dst (.bool b), s.df, σ'⟩ K = some x) (UR hlen.1) hn hk hsv hy (hrd vs s.mem _ hx) (jx hlen.2) h.rel g3
    refine ⟨fun _ _ => trivial, ?_⟩
    have e : Oper.semAt (FW none).round a.eval o = execOp a.eval o := rfl
    rw [e, hex, r1]
    refine ⟨fun hh => (by cases hh), r2.mono ?_⟩
    rintro e' w' ⟨b, rfl, ρ', σ', hΨ, hp⟩
    exact next _ ρ' _ w' ((h.congr hp).put (v := .bool b) (by simp [sc]) o.dst) (fun i hi => hp.ext i (by omega)) (by show k ≤ σ'.next; have := hp.le; omega) hΨ
   | false =>
    rw [hwa] at hx
    simp only [cond_false, UE, if_false] at hx ⊢
    refine ⟨fun _ _ => trivial, ?_⟩
    rw [lJ ρ]
    exact next _ ρ _ w (h.put (v := .tup []) (by simp [sc, scL]) o.dst) (fun _ _ => rfl) hn hx
  ·rcases iC hx with ⟨s', ow', h1, h2, h3⟩ | ⟨v, s', ow', h1, _⟩
   ·obtain ⟨q1, q2⟩ := bQ h1
    have hro := h3 (eW q1)
    simp only [dX] at hro
    have hst : et T ch.H ops.toList o s = some (.go s') := by
     cases hs : et T ch.H ops.toList o s with
     | none => rw [hs] at hro; cases hro
     | some q =>
      rw [hs] at hro
      cases q with
      | go s1 => simpa [dX] using hro
      | pan v s1 => simp at hro
    refine CT (K := fun a w => wpOpsIn (FW none) 0 P ops Q (List.range' (pre.length + 1) l.length) a w) hQ (.inr rfl) (fun _ _ q => q) (jw hT hH.1 h hi hst ?_)
    intro ρ1 a1 w1 h1' e1 l1
    exact next s' ρ1 a1 w1 h1' (fun i hi => e1 i (by omega)) (by omega) q2
   ·cases h1
end
section
variable {P : Program} {T : ar} {ch : CH} {X : Type} {eq : X → X → Bool}
theorem Cs (hT : aZ P T) (hH : aG P ch) (heq : ∀ {x y}, eq x y = true → x = y) {k : Nat} {ops : Array Oper} {s : St} {K : an → St → Option X} {x : X}
  (h : (match yA ops.toList with
   | some (xo, o, l) => match ev s.tm xo with
    | some v => match Gc s.mem v with
     | some (i, m, since, seen, es, clock) =>
      match Gb es seen with
      | [] => runK T ch ops.toList l ⟨bJ s.tm o.dst (.tup [.bool false]), s.df, s.mem⟩ .nil (fun s' w => cond (owB w) (K .normal s') none) (fun v s' w => cond (owB w) (K (.pan v) s') none)
      | ls => oP eq (ls.map fun e => runK T ch ops.toList l ⟨bJ s.tm o.dst (.tup [.bool true, e.1, e.2.1]), s.df, s.mem.set i (.iter m since (seen ++ [e.2.2]) clock)⟩ .nil (fun s' w => cond (owB w) (K .normal s') none) (fun v s' w => cond (owB w) (K (.pan v) s') none))
     | none => none
    | none => none
   | none => runK T ch ops.toList ops.toList s .nil (fun s' w => cond (owB w) (K .normal s') none) (fun v s' w => cond (owB w) (K (.pan v) s') none)) = some x)
  (hn : k ≤ s.mem.next) {w0 : W0} {ρ : Nat → Loc} {a : Act} {w : World} (hr : bF w0 ρ s a w) :
  wpOps P ops (fun e a' w' => ∃ o s', K o s' = some x ∧ db w0 ρ k o s' e a' w') (List.range ops.size) a w := by
 split at h
 ·rename_i xo o l hno
  obtain ⟨e1, e2, e3⟩ := Oc hno
  split at h
  ·rename_i v hv
   split at h
   ·rename_i i m since seen es clock hit
    have E := qf hr.tm hr.sct hv
    rw [List.range_eq_range']
    have hsz : ops.size = l.length + 1 := by rw [← Array.length_toList, e1, UW]
    rw [hsz, List.range'_succ, wpOps_cons]
    have hi : ops[0]? = some o := by rw [← UX, e1]; rfl
    unfold wpOp
    simp only [hi]
    have hg : gj ops.toList o s.tm = false := by simp only [gj, e3]
    have hw : Region.wanted o (yielded ops a.tmps) = true := by
     rw [hr.tm, sH hg]; simp only [br, e3]
    rw [hw]
    simp only [if_true]
    refine .inl ?_
    obtain ⟨dst, op, type, pos, after, guard⟩ := o
    simp only at e2 e3
    subst e2 e3
    have fin : ∀ (s1 : St) (a1 : Act) (w1 : World), bF w0 ρ s1 a1 w1 → s1.mem.next = s.mem.next →
      runK T ch ops.toList l s1 .nil (fun s' w => cond (owB w) (K .normal s') none) (fun v s' w => cond (owB w) (K (.pan v) s') none) = some x →
      wpOps P ops (fun e a' w' => ∃ o s', K o s' = some x ∧ db w0 ρ k o s' e a' w') (List.range' 1 l.length) a1 w1 := fun s1 a1 w1 hr1 hs1 hx =>
     LT (pre := [_]) hT hH (by simpa using e1) hx hr1 (by omega)
    rcases Kf (P := P) hr.rel hit type with ⟨q1, q2⟩ | ⟨e, q1, w', q2, q3, q4⟩
    ·rw [q1] at h
     refine eu (v := .tup [.bool false]) (ρ' := ρ) (w' := w) ?_ (fin _ _ _ (hr.put (v := .tup [.bool false]) (by simp [sc, scL]) dst) rfl h)
     simp only [execOp, E.1, UO, q2, UN, UP]
    ·have hx2 : runK T ch ops.toList l ⟨bJ s.tm dst (.tup [.bool true, e.1, e.2.1]), s.df, s.mem.set i (.iter m since (seen ++ [e.2.2]) clock)⟩ .nil (fun s' w => cond (owB w) (K .normal s') none) (fun v s' w => cond (owB w) (K (.pan v) s') none) = some x := by
      split at h
      ·rename_i hl; rw [hl] at q1; cases q1
      ·exact DX heq h _ (List.mem_map.2 ⟨e, q1, rfl⟩)
     have hr1 : bF w0 ρ ⟨s.tm, s.df, s.mem.set i (.iter m since (seen ++ [e.2.2]) clock)⟩ a w' := hr.congr ⟨q3, fun _ _ => rfl, Nat.le_refl _⟩
     refine eu (v := .tup [.bool true, e.1, e.2.1]) (ρ' := ρ) (w' := w') ?_ (fin _ _ _ (hr1.put (v := .tup [.bool true, e.1, e.2.1]) q4 dst) rfl hx2)
     simp only [execOp, E.1, UO, q2, UN, UP]
   ·cases h
  ·cases h
 ·have := LT (pre := []) (k := k) hT hH (by simp) h hr hn
  rw [List.range_eq_range']
  simpa using this
theorem Ky (hT : aZ P T) (hH : aG P ch) {il : FuncId → Bool} {cl : FuncId → LA_ → Mem → (ab → Mem → Option X) → Option X} {x : X} {k : Nat}
  (hcl : ∀ g vs σ kk, cl g vs σ kk = some x → mZ P g ∧ ∀ w0 ρ w, Rel w0 ρ σ w → scL σ.next vs = true →
   Calls P g (γL ρ vs).toArray w fun e w' => ∃ v σ' ρ', kk v σ' = some x ∧ e = .returned (γ ρ' v) ∧ bO w0 ρ σ.next ρ' σ' w' ∧ sc σ'.next v = true)
  {ops : Array Oper} {K : St → Option X} {w0 : W0} {Q : Exit → Act → World → Prop} : ∀ (l pre : List Oper) (ρ : Nat → Loc) (s : St) (a : Act) (w : World), ops.toList = pre ++ l → bF w0 ρ s a w → k ≤ s.mem.next →
   Cr T ch il cl ops.toList l s K = some x →
   (∀ s' ρ' a' w', K s' = some x → bF w0 ρ' s' a' w' → (∀ i, i < k → ρ' i = ρ i) → k ≤ s'.mem.next → Q .normal a' w') → wpOps P ops Q (List.range' pre.length l.length) a w
 | [], pre, ρ, s, a, w, he, h, hn, hx, hK => by
  simp only [Cr] at hx
  exact hK s ρ a w hx h (fun _ _ => rfl) hn
 | o :: l, pre, ρ, s, a, w, he, h, hn, hx, hK => by
  rw [UW, List.range'_succ, wpOps_cons]
  have hi : ops[pre.length]? = some o := by
   rw [← UX, he, List.getElem?_append_right (Nat.le_refl _)]; simp
  have next : ∀ (s1 : St) (ρ1 : Nat → Loc) (a1 : Act) (w1 : World), bF w0 ρ1 s1 a1 w1 → (∀ i, i < k → ρ1 i = ρ i) → k ≤ s1.mem.next → Cr T ch il cl ops.toList l s1 K = some x → wpOps P ops Q (List.range' (pre.length + 1) l.length) a1 w1 := by
   intro s1 ρ1 a1 w1 h1 e1 l1 hx1
   have := Ky hT hH hcl l (pre ++ [o]) ρ1 s1 a1 w1 (by simp [he]) h1 l1 hx1 (fun s' ρ' a' w' q1 q2 q3 q4 => hK s' ρ' a' w' q1 q2 (fun i hi => (q3 i hi).trans (e1 i hi)) q4)
   simpa using this
  simp only [Cr] at hx
  split at hx
  ·rename_i q hq
   obtain ⟨hg, hx⟩ := lK hx
   have hw : Region.wanted o (yielded ops a.tmps) = br ops.toList o s.tm := by rw [h.tm]; exact sH hg
   unfold wpOp
   simp only [hi]
   rw [hw]
   cases hwa : br ops.toList o s.tm with
   | true =>
    rw [hwa] at hx
    simp only [cond_true, if_true] at hx ⊢
    refine .inl ?_
    obtain ⟨hfn, hc⟩ := hcl _ _ _ _ hx
    obtain ⟨dst, op, type, pos, after, guard⟩ := o
    unfold QA at hq
    split at hq
    rotate_left
    ·cases hq
    rename_i g args ats hop
    simp only at hop
    subst hop
    obtain ⟨_, hq⟩ := bQ hq
    split at hq
    rotate_left
    ·cases hq
    rename_i vs hvs
    cases hq
    obtain ⟨e1, e2⟩ := sF h.tm h.sct hvs
    have e3 : args.map a.eval = (γL ρ vs).toArray := by apply Array.ext'; rw [Array.toList_map, e1]
    have e5 : a.eval (.func g) = .func (.func g) #[] #[] := rfl
    have hrun : (execOp a.eval ⟨dst, .call ⟨.value (.func g), args, ats⟩, type, pos, after, guard⟩).run P w = .ok (.enter g (γL ρ vs).toArray) w := by
     simp only [execOp, resolve, e3, e5, Deferred.ofValue, UO, UP, UN, invoke]
     simp [jp hfn]
    unfold Oper.wp
    rw [hrun]
    refine (hc w0 ρ w h.rel e2).mono ?_
    rintro e w' ⟨v, σ', ρ', hk, rfl, hp, hv⟩
    exact next _ ρ' _ w' ((h.congr hp).put hv dst) (fun i hi => hp.ext i (by omega)) (by show k ≤ σ'.next; have := hp.le; omega) hk
   | false =>
    rw [hwa] at hx
    simp only [cond_false, UE, if_false] at hx ⊢
    rw [lJ ρ]
    exact next _ ρ _ w (h.put (v := .tup []) (by simp [sc, scL]) o.dst) (fun _ _ => rfl) hn hx
  ·rcases iC hx with ⟨s', ow', h1, h2, h3⟩ | ⟨v, s', ow', h1, _⟩
   ·obtain ⟨q1, q2⟩ := bQ h1
    have hro := h3 (eW q1)
    simp only [dX] at hro
    have hst : et T ch.H ops.toList o s = some (.go s') := by
     cases hs : et T ch.H ops.toList o s with
     | none => rw [hs] at hro; cases hro
     | some q =>
      rw [hs] at hro
      cases q with
      | go s1 => simpa [dX] using hro
      | pan v s1 => simp at hro
    refine jw hT hH.1 h hi hst ?_
    intro ρ1 a1 w1 h1' e1 l1
    exact next s' ρ1 a1 w1 h1' (fun i hi => e1 i (by omega)) (by omega) q2
   ·cases h1
theorem qp : ∀ {b rest : Code} {l : Nat}, findLabel b l = some rest → ∀ x ∈ bm rest, x ∈ bm b
 | .seq a b, rest, l, h, x, hx => by
  simp only [findLabel] at h
  split at h
  ·rename_i r hr
   simp only [UB] at h
   subst h
   simp only [bm, U1] at hx ⊢
   exact hx.imp (qp hr x) id
  ·simp only [bm, U1]
   exact .inr (qp h x hx)
 | .label l', rest, l, h, x, hx => by
  simp only [findLabel] at h
  split at h
  ·simp only [UB] at h; subst h; simp [bm] at hx
  ·cases h
 | .skip, rest, l, h, x, hx => by simp [findLabel] at h
 | .region .., rest, l, h, x, hx => by simp [findLabel] at h
 | .cond .., rest, l, h, x, hx => by simp [findLabel] at h
 | .block .., rest, l, h, x, hx => by simp [findLabel] at h
 | .loop _, rest, l, h, x, hx => by simp [findLabel] at h
 | .scope _, rest, l, h, x, hx => by simp [findLabel] at h
 | .rangeFunc .., rest, l, h, x, hx => by simp [findLabel] at h
 | .exit _, rest, l, h, x, hx => by simp [findLabel] at h
 | .goto _, rest, l, h, x, hx => by simp [findLabel] at h
 | .ret, rest, l, h, x, hx => by simp [findLabel] at h
 | .refuse _, rest, l, h, x, hx => by simp [findLabel] at h
theorem xE (hT : aZ P T) (hH : aG P ch) (hm : P.follows .mixedOrders = true) (hN : nN P) (heq : ∀ {x y}, eq x y = true → x = y) {il : FuncId → Bool} :
  ∀ (n : Nat) {A : qh} {inR : Bool} {r : Option Nat} {Y : Option qm} {G : W0 → (Nat → Loc) → Prop} {k : Nat} (c : Code) (s : St) (K : an → St → Option X) (x : X), (inR = true ∨ ∀ b ∈ bm c, ∀ la, A (dK b) = some la → cX P k la b) → inR = true ∨ r = none → GOk k G →
   (∀ y, Y = some y → G = yG y ∧ y.nm < k ∧ scL k y.tm = true ∧ r = none) → cA eq P T ch il n A inR Y c s K = some x → dY G r P k c s fun o s' => K o s' = some x := by
 intro n
 induction n using Nat.strongRecOn with
 | _ n ih =>
  cases n with
  | zero => intro A inR r Y G k c s K x _ _ _ _ h; simp [cA] at h
  | succ n =>
   intro A inR r Y G k c s K x hA hR hG hY h
   have ih' := @ih n (Nat.lt_succ_self n)
   cases c with
   | skip => exact Iv (by simpa only [cA] using h)
   | label l => exact Gm (by simpa only [cA] using h)
   | exit l => exact Iw (by simpa only [cA] using h)
   | goto l => exact Oi (by simpa only [cA] using h)
   | ret => exact Km (by simpa only [cA] using h)
   | seq a b =>
    simp only [cA] at h
    refine Kn hG ((ih' a s _ x (hA.imp (fun h => h) fun h b hb => h b (by simp [bm, hb])) hR hG hY h).mono fun o s' q => ?_)
    cases o with
    | normal => exact ih' b s' K x (hA.imp (fun h => h) fun h b hb => h b (by simp [bm, hb])) hR hG hY q
    | exit i => exact q
    | goto i => exact q
    | ret => exact q
    | pan v => exact q
   | cond c a b =>
    simp only [cA] at h
    split at h
    ·rename_i hc; exact wM hc (ih' a s K x (hA.imp (fun h => h) fun h b hb => h b (by simp [bm, hb])) hR hG hY h)
    ·rename_i hc; exact wM hc (ih' b s K x (hA.imp (fun h => h) fun h b hb => h b (by simp [bm, hb])) hR hG hY h)
    ·cases h
   | block id b =>
    simp only [cA] at h
    refine Gn ((ih' b s _ x (hA.imp (fun h => h) fun h b hb => h b (by simpa [bm] using hb)) hR hG hY h).mono fun o s' q => ?_)
    cases o with
    | exit i =>
     simp only [an.inBlock] at q ⊢
     split at q
     ·rename_i e; rw [if_pos e]; exact q
     ·rename_i e; rw [if_neg e]; exact q
    | normal => exact q
    | goto i => exact q
    | ret => exact q
    | pan v => exact q
   | scope b =>
    simp only [cA] at h
    obtain ⟨h0, h⟩ := lK h
    obtain rfl : r = none := hR.resolve_left (by rw [h0]; simp)
    have hA' : ∀ b1 ∈ bm b, ∀ la, A (dK b1) = some la → cX P k la b1 := (hA.resolve_left (by rw [h0]; simp))
    refine Lr hG (fun m c s => (∀ b1 ∈ bm c, b1 ∈ bm b) ∧ Gw (fun c s K => cA eq P T ch il n A inR Y c s K) b K m c s = some x) ?_ ⟨fun _ h => h, h⟩
    rintro m c s ⟨hlc, hx⟩
    cases m with
    | zero => cases hx
    | succ m =>
     simp only [Gw] at hx
     refine (ih' c s _ x (.inr fun b1 hb1 => hA' b1 (hlc b1 hb1)) (.inr rfl) hG hY hx).mono fun o s' q => ?_
     cases o with
     | goto l =>
      simp only at q ⊢
      split at q
      ·rename_i rest hf
       exact ⟨rest, m, Nat.lt_succ_self m, hf, qp hf, q⟩
      ·cases q
     | exit i => exact q
     | normal => exact q
     | ret => exact q
     | pan v => exact q
   | loop b =>
    cases hla : cond inR none (A (dK b)) with
    | some la =>
     simp only [cA, hla] at h
     cases hi : inR with
     | true => rw [hi] at hla; cases hla
     | false =>
      rw [hi] at hla
      simp only [cond_false] at hla
      obtain rfl : r = none := hR.resolve_left (by rw [hi]; simp)
      have hok := (hA.resolve_left (by rw [hi]; simp)) b (by simp [bm]) la hla
      rw [la.nat] at h
      obtain ⟨⟨o, s'⟩, q1, q2⟩ := bE_ h
      exact lM ((hok s o s' q1).mono fun o1 s1 hh => by
       obtain ⟨rfl, rfl⟩ := hh
       exact q2)
    | none =>
    have key : ∀ (m : Nat), m ≤ n + 1 → ∀ (s : St), cA eq P T ch il m A inR Y (.loop b) s K = some x → k ≤ s.mem.next → ∀ w0 ρ a w, G w0 ρ → bF w0 ρ s a w →
      Code.roundsIn (FW r) 0 P b (fun e a' w' => ∃ o s', K o s' = some x ∧ db w0 ρ k o s' e a' w') m a w := by
     intro m
     induction m with
     | zero => intro _ s h; simp [cA] at h
     | succ m ihm =>
      intro hmn s h hn w0 ρ a w hg hr
      simp only [cA, hla] at h
      have h1 := ih m (by omega) b s _ x (hA.imp (fun h => h) fun h b hb => h b (by simp [bm, hb])) hR hG hY h hn w0 ρ a w hg hr
      rw [roundsIn_succ]
      refine wpIn_mono h1 ?_
      rintro e a' w' ⟨o, s', q, ⟨ρ', rfl, h2, h3, h4, h5⟩⟩
      cases o with
      | normal =>
       refine to ?_ m (ihm (by omega) s' q h4 w0 ρ' a' w' (hG w0 ρ ρ' h3 hg) h2)
       rintro e a w ⟨o, s', q1, q2⟩
       exact ⟨o, s', q1, q2.step h3⟩
      | exit i => exact ⟨_, s', q, ⟨ρ', rfl, h2, h3, h4, h5⟩⟩
      | goto i => exact ⟨_, s', q, ⟨ρ', rfl, h2, h3, h4, h5⟩⟩
      | ret => exact ⟨_, s', q, ⟨ρ', rfl, h2, h3, h4, h5⟩⟩
      | pan v => exact ⟨_, s', q, ⟨ρ', rfl, h2, h3, h4, h5⟩⟩
    intro hn w0 ρ a w hg hr
    exact wpIn_loop_rounds (n + 1) (key (n + 1) (Nat.le_refl _) s h hn w0 ρ a w hg hr)
   | rangeFunc g ps a b =>
    simp only [cA] at h
    obtain ⟨h0, h⟩ := lK h
    obtain rfl : r = none := hR.resolve_left (by rw [h0]; simp)
    split at h
    ·rename_i f cs hg
     split at h
     ·rename_i fn hf
      split at h
      ·rename_i c hb
       refine yz hT hg hf hb ⟨fn, hf, hN f fn hf, by rw [hb]; rfl⟩ fun hst => ?_
       have hsc : scL (s.mem.next + 2) s.tm = true := cf (by omega) _ hst
       refine (ih' (k := s.mem.next + 2) (G := yG ⟨s.mem.next + 1, ps, a, b, s.tm⟩) (r := none) c _ _ x (.inr fun _ _ _ h => by cases h) (.inr rfl) (Jq (by show s.mem.next + 1 < s.mem.next + 2; omega) hsc) (fun y hy => by
        cases hy
        exact ⟨rfl, by show s.mem.next + 1 < s.mem.next + 2; omega, hsc, rfl⟩) h).mono fun o s' q => ?_
       obtain ⟨ho, q⟩ := bQ q
       have ho' : o = .normal ∨ o = .ret := by cases o <;> simp_all [Ad]
       split at q
       ·rename_i k1 i1 hd hv hgt
        split at q
        ·rename_i o2 hlv
         exact ⟨ho', hd, ⟨_, hv⟩, k1, i1, o2, hgt, hlv, q⟩
        ·cases q
       ·cases q
      ·cases h
     ·cases h
    ·cases h
   | region id ops d =>
    cases d with
    | true =>
     simp only [cA] at h
     obtain ⟨h0, h⟩ := lK h
     have hd := Gx hR h0
     intro hn w0 ρ a w hg hr
     rcases Ae hH h with ⟨s', ow', h1, h2, h3⟩ | ⟨v, s', ow', m, o, h1, h2, ho, hC, h3⟩
     ·obtain ⟨q1, q2⟩ := bQ h1
      refine wpIn_mono (wpIn_region_any hm (vE lL hd _ (Cg hT hH.1 hH.2.2 (h3 (eW q1)) (Φ := fun o s' => K o s' = some x) q2 w0 ρ a w hr))) ?_
      rintro e a' w' ⟨o, s', k1, k2⟩
      exact ⟨o, s', k1, k2.less hn⟩
     ·obtain ⟨q1, q2⟩ := bQ h1
      refine wpIn_mono (wpIn_region_any hm (vE lL hd _ (Fa hT hH.1 hH.2.2 ho hC (h3 (eW q1)) (Φ := fun o s' => K o s' = some x) q2 w0 ρ a w hr))) ?_
      rintro e a' w' ⟨o, s', k1, k2⟩
      exact ⟨o, s', k1, k2.less hn⟩
    | false =>
     simp only [cA] at h
     obtain ⟨h0, h⟩ := lK h
     have hd := Gx hR h0
     cases hY0 : Y with
     | none =>
      subst hY0
      cases hno : yA ops.toList with
      | some q =>
       rw [hno] at h
       refine Ak hd fun hn w0 ρ a w hr => Cs hT hH heq ?_ hn hr
       rw [hno]
       exact h
      | none =>
       rw [hno] at h
       simp only at h
       cases hany : ops.toList.any (QB il) with
       | false =>
        rw [hany] at h
        simp only [cond_false] at h
        refine Ak hd fun hn w0 ρ a w hr => Cs hT hH heq ?_ hn hr
        rw [hno]
        exact h
       | true =>
        rw [hany] at h
        simp only [cond_true] at h
        refine Ak hd fun hn w0 ρ a w hr => ?_
        have := Ky (P := P) (Q := fun e a' w' => ∃ o s', K o s' = some x ∧ db w0 ρ k o s' e a' w') (k := k) hT hH (x := x) (fun g vs σ kk hx => ?_) ops.toList [] ρ s a w (by simp) hr hn h (fun s' ρ' a' w' q1 q2 q3 q4 => ⟨.normal, s', q1, ⟨ρ', rfl, q2, q3, q4, by simp⟩⟩)
        ·rw [List.range_eq_range']
         simpa using this
        ·split at hx
         rotate_left
         ·cases hx
         rename_i fn hf
         split at hx
         rotate_left
         ·cases hx
         rename_i b hb
         refine ⟨⟨fn, hf, hN g fn hf, by rw [hb]; rfl⟩, fun w1 ρ1 w2 hr1 hs1 => ?_⟩
         have := tp (R := fun r σ' => ∃ v, r = .ret v ∧ kk v σ' = some x) hT hf hb (σ := σ) (args := vs) ((ih' (inR := false) (r := none) (Y := none) (G := fun _ _ => True) (k := σ.next) b _ _ x (.inr fun _ _ _ h => by cases h) (.inr rfl) (fun _ _ _ _ _ => trivial) (fun y hy => by cases hy) hx).mono fun o s1 q => by
          split at q
          ·rename_i v σ' he
           exact ⟨.ret v, σ', he, v, rfl, q⟩
          ·cases q) w1 ρ1 w2 hr1 hs1
         refine this.mono ?_
         rintro e w' ⟨r1, σ', ρ', ⟨v, rfl, hk⟩, rfl, k4, k5⟩
         exact ⟨v, σ', ρ', hk, rfl, k4, k5⟩
     | some y =>
      subst hY0
      obtain ⟨rfl, hk, hy, rfl⟩ := hY y rfl
      cases hno : yA ops.toList with
      | some q =>
       rw [hno] at h
       refine Ak hd fun hn w0 ρ a w hr => Cs hT hH heq ?_ hn hr
       rw [hno]
       exact h
      | none =>
       rw [hno] at h
       simp only at h
       intro hn w0 ρ a w hg hr
       refine wpIn_region ?_
       have := Kx (Q := fun e a' w' => ∃ o s', K o s' = some x ∧ db w0 ρ k o s' e a' w') hT hH hk hy (x := x) (fun vs σ kk hx l => ?_) ops.toList [] ρ s a w (by simp) hg hr hn h (fun s' ρ' a' w' q1 q2 q3 q4 => ⟨.normal, s', q1, ⟨ρ', rfl, q2, q3, q4, by simp⟩⟩) lL
       ·rw [List.range_eq_range']
        simpa using this
       ·refine (ih' (inR := true) (r := some l) (Y := none) (G := fun _ _ => True) (k := σ.next) y.assign _ _ x (.inl rfl) (.inl rfl) (fun _ _ _ _ _ => trivial) (fun y hy => by cases hy) hx).mono fun o s1 q => ?_
        cases o with
        | normal =>
         obtain ⟨q1, q⟩ := bQ q
         refine ⟨rfl, jx q1, (ih' (inR := true) (r := some l) (Y := none) (G := fun _ _ => True) (k := σ.next) y.body _ _ x (.inl rfl) (.inl rfl) (fun _ _ _ _ _ => trivial) (fun y hy => by cases hy) q).mono fun o s2 q2 => ?_⟩
         obtain ⟨q3, q2⟩ := bQ q2
         split at q2
         ·rename_i j hj
          exact ⟨jx q3, j.1, j.2, hj, q2⟩
         ·cases q2
        | exit i => cases q
        | goto i => cases q
        | ret => cases q
        | pan v => cases q
   | refuse w => simp [cA] at h
end
end Go.Ev
namespace Go.Ev
section
variable {P : Program}
end
structure RI where
 fd : Func
 id : Nat
 ops : Array Oper
 o0 : Oper
 o1 : Oper
 rest : Code
 t3 : Tmp
 t2 : Tmp
theorem Ko {o : an} (h : Ad o = true) : o = .normal ∨ o = .ret := by cases o <;> simp_all [Ad]
section
variable {P : Program}
theorem Rel.same {w0 : W0} {ρ : Nat → Loc} {σ σ' : Mem} {w : World} (h : Rel w0 ρ σ' w) (hlt : ∀ i b, σ.get i = some b → i < σ.next) (hn : σ'.next = σ.next) (hE : ∀ i, i < σ.next → σ'.get i = σ.get i) : Rel w0 ρ σ w := by
 have key : ∀ i b, σ.get i = some b → σ'.get i = some b := fun i b hb => (hE i (hlt i b hb)).trans hb
 exact ⟨hlt, fun i b hb => hn ▸ h.sco i b (key i b hb), fun i b hb => h.ok i b (key i b hb), fun i b hb ha => h.inb i b (key i b hb) ha, fun i j bi bj hi hj => h.ap i j bi bj (key i bi hi) (key j bj hj), fun i b hb => h.own i b (key i b hb),
  h.os, h.tape, h.output, h.size, h.old⟩
theorem cE.same {g : FuncId} {args : LA_} {σ σ' : Mem} {r : fc} (h : cE P g args σ r σ') (he : Ext σ σ') (hn : σ'.next = σ.next) : cE P g args σ r σ := by
 intro w0 ρ w hr hs
 refine (h w0 ρ w hr hs).mono ?_
 rintro e w' ⟨ρ', h1, h2, h3⟩
 exact ⟨ρ', h1, ⟨h2.rel.same hr.lt hn he.2, h2.ext, Nat.le_refl _⟩, hn ▸ h3⟩
end
end Go.Ev
namespace Go.Ev
def eqF {X : Type} : X → X → Bool := fun _ _ => false
theorem Kl {X : Type} : ∀ {x y : X}, eqF x y = true → x = y := fun h => by cases h
section
variable {P : Program} {T : ar} {ch : CH} {A : qh}
theorem FD.SD (d : FD) {w0 : W0} {ρ : Nat → Loc} {e : Ending} {w' : World} {x : d.X} {v : ab} {σ2 : Mem}
  (hS : shP (d.k + d.B.length) [some d.M] (dV d.k d.B) = true)
  (q2 : (mSt d.k (d.k + d.B.length) (d.F ⟨[v], [], σ2⟩) [some d.M] (dV d.k d.B) [] ⟨[v], [], σ2⟩).bind d.ofL = some x)
  (hc : ∃ ρ', e = rR ρ' (.ret v) ∧ bO w0 ρ d.k ρ' σ2 w' ∧ sc σ2.next v = true) :
  ∃ ρ', e = rR ρ' (.ret (d.val x)) ∧ bO w0 ρ d.k ρ' ⟨d.k + (d.aN x).length, cS d.k (d.aN x)⟩ w' ∧ sc (d.k + (d.aN x).length) (d.val x) = true := by
 obtain ⟨ls, q3, q4⟩ := bE_ q2
 have hls := d.au _ _ q4
 subst hls
 have hcov := uo hS q3
 obtain ⟨ρ', k3, k4, k5⟩ := hc
 have hSR : bF w0 ρ' ⟨[v], [], σ2⟩ { tmps := (γL ρ' [v]).toArray, defers := [] } w' :=
  ⟨k4.rel, rfl, by simp only [scL, Bool.and_true]; exact k5, rfl, by simp⟩
 obtain ⟨ρ2, c1, c2⟩ := hcov.2 w0 ρ' _ w' hSR
 have eB : (iB (dV d.k d.B) (iM [some d.M] (d.toL x)).2).1 = cS d.k (d.aN x) := KB
 have eM : (iM [some d.M] (d.toL x)).1 = [some (d.val x)] := rfl
 rw [iSt, eB, eM] at c1
 have hlen : (d.aN x).length = d.B.length := Ao
 have e1 : γ ρ2 (d.val x) = γ ρ' v := by
  have := c1.tm
  simp only [bo, qn, γL, List.toArray_inj] at this
  have h2 := congrArg Array.toList this
  simp at h2
  exact h2.symm
 unfold mSt at q3
 split at q3
 ·rename_i hf0
  simp only [fOk, UC, beq_iff_eq] at hf0
  split at q3
  ·rename_i a b ha hb'
   simp only [shP, UC] at hS
   obtain ⟨M0, m1, m2⟩ := yB (n := d.k + d.B.length) _ _ a ha hS.1
   obtain ⟨B1, b1, b2⟩ := CX (n := d.k + d.B.length) _ b hb' hS.2
   simp only [UB] at q3
   have f1 : iM [some d.M] (a ++ b) = (M0, b) := m1 b
   have f2 : (iB (dV d.k d.B) b).1 = B1 := by have := b1 []; rw [List.append_nil] at this; rw [this]
   rw [q3] at f1
   have f3 : M0 = [some (d.val x)] := by rw [← eM, f1]
   have f4 : B1 = cS d.k (d.aN x) := by rw [← eB, f1, ← f2]
   subst f3 f4
   have hsv : sc (d.k + d.B.length) (d.val x) = true := m2.2.1
   have hget : ∀ i b, (⟨d.k + (d.aN x).length, cS d.k (d.aN x)⟩ : Mem).get i = some b → (bo (d.k + d.B.length) [some (d.val x)] (cS d.k (d.aN x)) []).mem.get i = some b := fun i b h => h
   have R := c1.rel
   refine ⟨ρ2, by rw [k3]; simp only [rR, e1], ⟨R.weaken (fun i b hb _ => hget i b hb) ?_ ?_, fun i hi => (c2 i hi).trans (k4.ext i hi), by simp⟩, ?_⟩
   ·intro i b hb
    show i < d.k + (d.aN x).length
    rw [hlen]
    exact (b2 _ (lN hb)).1
   ·intro i b hb
    show scB (d.k + (d.aN x).length) b = true
    rw [hlen]
    exact KC (R.sco i b (hget i b hb)) (b2 _ (lN hb)).2.2
   ·show sc (d.k + (d.aN x).length) (d.val x) = true
    rw [hlen]; exact hsv
  ·cases q3
 ·cases q3
def FD.Jr (d : FD) (T : ar) (rs : List ResultVar) (o : an) (s : St) : Option d.X :=
 cond (Ad o) (match g7 (cb d.pre s).df (cb d.pre s).mem with
  | some σ' => Pz T ⟨(cb d.pre s).tm, [], σ'⟩ rs fun v => (mSt d.k (d.k + d.B.length) (d.F ⟨[v], [], σ'⟩) [some d.M] (dV d.k d.B) [] ⟨[v], [], σ'⟩).bind d.ofL
  | none => none) none
theorem FD.Ss (hT : aZ P T) (hH : aG P ch) (hm : P.follows .mixedOrders = true) (hN : nN P) (d : FD) {il : FuncId → Bool} {g : FuncId} {fn : Func} {c : Code} {fuel : Nat} {cargs : LA_} {B0 : List (Nat × am)} {x : d.X}
  (hf : P.funcs[g]? = some fn) (hb : fn.body = some c) (hA : ∀ b ∈ bm c, ∀ la, A (dK b) = some la → cX P d.k la b)
  (hS : shP (d.k + d.B.length) [some d.M] (dV d.k d.B) = true)
  (hx : cA eqF P T ch il fuel A false none c (bG fn.ntmps cargs ⟨d.k, B0⟩) (d.Jr T fn.results.toList) = some x) :
  mZ P g ∧ cE P g cargs ⟨d.k, B0⟩ (.ret (d.val x)) ⟨d.k + (d.aN x).length, cS d.k (d.aN x)⟩ := by
 have h1 := xE (r := none) (Y := none) (G := fun _ _ => True) (k := d.k) hT hH hm hN Kl fuel c _ _ x (.inr hA) (.inr rfl) (fun _ _ _ _ _ => trivial) (fun y hy => by cases hy) hx
 have h2 : dk P d.k c (bG fn.ntmps cargs ⟨d.k, B0⟩) fun o s' => (o = .normal ∨ o = .ret) ∧ ∃ σ' v, g7 s'.df s'.mem = some σ' ∧ gk T ⟨s'.tm, [], σ'⟩ fn.results.toList = some v ∧
   (mSt d.k (d.k + d.B.length) (d.F ⟨[v], [], σ'⟩) [some d.M] (dV d.k d.B) [] ⟨[v], [], σ'⟩).bind d.ofL = some x := by
  refine oM ?_
  intro hn w0 ρ a w hr
  refine wp_mono (h1.SC hn w0 ρ a w hr) ?_
  rintro e' a' w' ⟨o, s', q, ρ', r1, r2, r3, r4, r5⟩
  unfold FD.Jr at q
  obtain ⟨q1, q⟩ := bQ q
  have ho : o = .normal ∨ o = .ret := Ko q1
  split at q
  ·rename_i σ' ht
   obtain ⟨v, hv, q⟩ := Cj q
   refine ⟨o, s', ⟨?_, cb d.pre s', jV r4, ho, σ', v, ht, hv, q⟩, ⟨ρ', r1, r2, r3, r4, r5⟩⟩
   rintro v rfl
   rcases ho with h | h <;> cases h
  ·cases q
 refine ⟨⟨fn, hf, hN g fn hf, by rw [hb]; rfl⟩, ?_⟩
 intro w0 ρ w hr hs
 have := tp (R := fun r σ' => ∃ v, r = .ret v ∧ (mSt d.k (d.k + d.B.length) (d.F ⟨[v], [], σ'⟩) [some d.M] (dV d.k d.B) [] ⟨[v], [], σ'⟩).bind d.ofL = some x) hT hf hb (σ := ⟨d.k, B0⟩) (args := cargs)
  ((lM h2).mono fun o s' q => by
   obtain ⟨ho, σ', v, ht, hv, q⟩ := q
   refine ⟨.ret v, σ', ?_, v, rfl, q⟩
   rcases ho with rfl | rfl <;> simp only [Kp, ht, hv, US]) w0 ρ w hr hs
 refine this.mono ?_
 rintro e w' ⟨r, σ', ρ', ⟨v, rfl, q⟩, k3, k4, k5⟩
 exact d.SD hS q ⟨ρ', k3, k4, k5⟩
end
end Go.Ev
namespace Go.Ev
section
variable {w0 : W0} {ρ ρ' : Nat → Loc} {σ σ' : Mem} {w w' : World}
def W0.frz (w0 : W0) (ρ : Nat → Loc) (σ : Mem) (w : World) (h : Rel w0 ρ σ w) : W0 :=
 ⟨w, fun k => w0.fG k ∨ ∃ i b, σ.get i = some b ∧ b.alive = true ∧ b.owned = false ∧ (ρ i).blk = k, fun k hk => by
  rcases hk with hk | ⟨i, b, h1, h2, _, rfl⟩
  ·exact Nat.lt_of_lt_of_le (w0.lt k hk) h.size
  ·exact h.inb i b h1 h2⟩
theorem Rel.frz (h : Rel w0 ρ σ w) : Rel (w0.frz ρ σ w h) ρ σ w := by
 refine h.start h.os h.tape h.output (Nat.le_refl _) ?_ fun _ _ => rfl
 intro i b hi ho
 rintro (hp | ⟨j, c, h1, h2, h3, h4⟩)
 ·exact h.own i b hi ho hp
 ·by_cases e : i = j
  ·subst e
   rw [hi] at h1
   cases h1
   rw [ho] at h3
   cases h3
  ·exact h.ap i j b c hi h1 e ho h2 h4.symm
theorem Rel.SB (h : Rel w0 ρ σ w) (k : Rel (w0.frz ρ σ w h) ρ' σ' w') (he : ∀ i, i < σ.next → ρ' i = ρ i) {σ3 : Mem}
  (h3 : ∀ i b, σ3.get i = some b → b = .dead ∨ σ'.get i = some b ∨ (σ.get i = some b ∧ b.owned = false)) (hl : ∀ i b, σ3.get i = some b → i < σ3.next) (hs : ∀ i b, σ3.get i = some b → scB σ3.next b = true) : Rel w0 ρ' σ3 w' := by
 have eq : ∀ i b, σ.get i = some b → ρ' i = ρ i := fun i b hi => he i (h.lt i b hi)
 have held : ∀ i b, σ.get i = some b → b.alive = true → b.owned = false → w'.heap[(ρ i).blk]? = w.heap[(ρ i).blk]? := fun i b hi ha ho => k.old _ (.inr ⟨i, b, hi, ha, ho, rfl⟩)
 have src : ∀ i b, σ3.get i = some b → b.owned = true → σ'.get i = some b := by
  intro i b hi ho
  rcases h3 i b hi with rfl | q | ⟨_, q⟩
  ·cases ho
  ·exact q
  ·rw [ho] at q; cases q
 refine ⟨hl, hs, ?_, ?_, ?_, ?_, k.os.trans h.os, k.tape.trans h.tape, k.output.trans h.output, Nat.le_trans h.size k.size, fun p hp => (k.old p (.inl hp)).trans (h.old p hp)⟩
 ·intro i b hi
  rcases h3 i b hi with rfl | q | ⟨q, qo⟩
  ·trivial
  ·exact k.ok i b q
  ·rw [eq i b q]
   by_cases ha : b.alive = true
   ·exact cr he (held i b q ha qo) b (h.sco i b q) (h.ok i b q)
   ·exact lB ha (h.ok i b q)
 ·intro i b hi ha
  rcases h3 i b hi with rfl | q | ⟨q, qo⟩
  ·cases ha
  ·exact k.inb i b q ha
  ·rw [eq i b q]; exact Nat.lt_of_lt_of_le (h.inb i b q ha) k.size
 ·intro i j bi bj hi hj hne ho ha
  have qi := src i bi hi ho
  rcases h3 j bj hj with rfl | q | ⟨q, qo⟩
  ·cases ha
  ·exact k.ap i j bi bj qi q hne ho ha
  ·intro e
   exact k.own i bi qi ho (.inr ⟨j, bj, q, ha, qo, by rw [← eq j bj q]; exact e.symm⟩)
 ·intro i b hi ho
  intro hp
  exact k.own i b (src i b hi ho) ho (.inl hp)
end
abbrev RJ := Bool × (Nat → Int)
def CR (σ σ' : Mem) (a b : Nat) : Bool := (upto σ.next 0).all fun i => Nat.beq i a || Nat.beq i b || (match σ.get i with
 | some B => cond B.owned (match σ'.get i with
  | some C => eqB B C
  | none => false) true
 | none => true)
theorem Gk {σ σ' : Mem} {a b : Nat} (h : CR σ σ' a b = true) {i : Nat} {B : am} (hi : σ.get i = some B) (hl : i < σ.next) (ha : i ≠ a) (hb : i ≠ b) (ho : B.owned = true) : σ'.get i = some B := by
 unfold CR at h
 rw [List.all_eq_true] at h
 have := h i (Fd (Nat.zero_le _) (by omega))
 have nb : ∀ {x y : Nat}, x ≠ y → Nat.beq x y = false := fun {x y} hxy => by
  cases hc : Nat.beq x y with
  | false => rfl
  | true => exact absurd (UR hc) hxy
 rw [nb ha, nb hb, hi] at this
 simp only [Bool.false_or, ho, cond_true] at this
 split at this
 ·rename_i C hC
  rw [hC, Nz this]
 ·cases this
def CS (m : Nat) (d : Nat → Int) (v : ab) : LA_ := (upto m 0).map (fun i => .int .u64 (d i)) ++ [v]
def isU : Option ab → Bool
 | some (.int .u64 _) => true
 | _ => false
def NY (v : ab) : Option ab → Bool
 | some u => aeq u v
 | none => false
def Ki (m : Nat) (cs : LA_) (v : ab) : Bool := Nat.beq cs.length (m + 1) && (upto m 0).all (fun i => isU (cs[i]?)) && NY v (cs[m]?)
theorem Kj : ∀ {n i j : Nat}, j < n → (upto n i)[j]? = some (i + j)
 | 0, i, j, h => by omega
 | n + 1, i, 0, h => rfl
 | n + 1, i, j + 1, h => by
  simp only [upto, List.getElem?_cons_succ]
  rw [Kj (by omega)]
  congr 1
  omega
theorem Ab : ∀ (n i : Nat), (upto n i).length = n
 | 0, i => rfl
 | n + 1, i => by simp [upto, Ab n (i + 1)]
theorem Lm {m : Nat} {cs : LA_} {v : ab} (h : Ki m cs v = true) : CS m (fun i => ac cs i) v = cs := by
 simp only [Ki, UC] at h
 obtain ⟨⟨h1, h2⟩, h3⟩ := h
 have hl := UR h1
 rw [List.all_eq_true] at h2
 apply List.ext_getElem?
 intro i
 unfold CS
 rcases Nat.lt_or_ge i m with hi | hi
 ·rw [List.getElem?_append_left (by simp [Ab]; exact hi), List.getElem?_map, Kj hi]
  have := h2 i (Fd (Nat.zero_le _) (by omega))
  unfold isU at this
  split at this
  ·rename_i z hz
   rw [hz]
   simp [ac, hz]
  ·cases this
 ·rw [List.getElem?_append_right (by simp [Ab]; exact hi)]
  simp only [List.length_map, Ab]
  rcases Nat.lt_or_ge m i with hi2 | hi2
  ·rw [List.getElem?_eq_none (by simp; omega), List.getElem?_eq_none (by omega)]
  ·obtain rfl : i = m := by omega
   unfold NY at h3
   split at h3
   ·rename_i u hu
    rw [hu, vw _ _ h3]
    simp
   ·cases h3
def MJ : Option am → Option (LA_)
 | some (.cells cs true none) => some cs
 | _ => none
theorem Pm {b : Option am} {cs : LA_} (h : MJ b = some cs) : b = some (.cells cs true none) := by
 unfold MJ at h
 split at h
 ·cases h; rfl
 ·cases h
def MK (σ : Mem) (nm ro m : Nat) (v : ab) (o : an) (s : St) : Option RJ :=
 match o with
 | .normal => cond (qk 4 (s.mem.get nm) && CR σ s.mem nm nm) (some (true, fun _ => 0)) none
 | .ret => cond (qk 4 (s.mem.get nm) && CR σ s.mem nm ro) (match MJ (s.mem.get ro) with
  | some cs => cond (Ki m cs v) (some (false, fun i => ac cs i)) none
  | none => none) none
 | _ => none
def Kk (P : Program) (T : ar) (ch : CH) (il : FuncId → Bool) (n : Nat) (ro m : Nat) (y : qm) (vs : LA_) (σ : Mem) : Option RJ :=
 cA eqF P T ch il n bD true none y.assign ⟨jX y.ps.toList vs y.tm, [], σ⟩ fun o s1 => match o with
  | .normal => cond (qk 0 (s1.mem.get y.nm)) (cA eqF P T ch il n bD true none y.body ⟨s1.tm, s1.df, s1.mem.set y.nm (.bM 4 0)⟩ (MK σ y.nm ro m (vs.headD .aL))) none
  | _ => none
def Ac (σ : Mem) (nm ro m : Nat) (d : Nat → Int) (v : ab) : Mem := (σ.set ro (.cells (CS m d v) true none)).set nm (.bM 1 0)
def Qy (σ : Mem) (nm ro : Nat) (v : ab) : Bool := Nat.blt ro σ.next && !(Nat.beq ro nm) && sc σ.next v && v.eV
def ul {X : Type} (T : ar) (ch : CH) (ro m : Nat) (y : qm) (rj : LA_ → Mem → Option RJ) (all : List Oper) : List Oper → St → (St → Option X) → Option X
  | [], s, k => k s
  | o :: r, s, k => match yieldOf y.nm s.tm o with
    | some vs => cond (gj all o s.tm) none (cond (br all o s.tm)
      (cond (Nat.beq vs.length y.ps.size && qk 0 (s.mem.get y.nm) && Qy s.mem y.nm ro (vs.headD .aL)) ((rj vs s.mem).bind fun q => cond q.1
        (ul T ch ro m y rj all r ⟨bJ s.tm o.dst (.bool true), s.df, s.mem⟩ k)
        (ul T ch ro m y rj all r ⟨bJ s.tm o.dst (.bool false), s.df, Ac s.mem y.nm ro m q.2 (vs.headD .aL)⟩ k)) none)
      (ul T ch ro m y rj all r ⟨bJ s.tm o.dst (.tup []), s.df, s.mem⟩ k))
    | none => runK T ch all [o] s .nil (fun s' w => cond (owB w) (ul T ch ro m y rj all r s' k) none) (fun _ _ _ => none)
def LS (σ : Mem) (nm ro m : Nat) (v : ab) (q : RJ) (b : Bool) (σ' : Mem) : Prop :=
 ∃ s2 : Mem, (b = true ∧ q.1 = true ∧ CR σ s2 nm nm = true ∧ σ' = s2.set nm (.bM 0 0)) ∨
  (b = false ∧ q.1 = false ∧ CR σ s2 nm ro = true ∧ s2.get ro = some (.cells (CS m q.2 v) true none) ∧ σ' = s2.set nm (.bM 1 0))
theorem Pn {n m : Nat} {d : Nat → Int} {v : ab} (hc : v.eV = true) (hv : sc n v = true) : scC n (CS m d v) = true := by
 unfold CS
 generalize upto m 0 = l
 induction l with
 | nil => simp only [List.map_nil, List.nil_append, scC, hc, hv, UF]
 | cons a l ih => simp only [List.map_cons, List.cons_append, scC, ab.eV, sc, Bool.true_and]; exact ih
section
variable {P : Program} {T : ar} {ch : CH} {X : Type}
theorem Po (hT : aZ P T) (hH : aG P ch) (hm : P.follows .mixedOrders = true) (hN : nN P) {il : FuncId → Bool} {n ro m : Nat} {y : qm} {vs : LA_} {σ : Mem} {q : RJ} (hq : Kk P T ch il n ro m y vs σ = some q) (l : Nat) :
  dY (fun _ _ => True) (some l) P σ.next y.assign ⟨jX y.ps.toList vs y.tm, [], σ⟩ fun o s1 => o = .normal ∧ s1.mem.get y.nm = some (.bM 0 0) ∧
   dY (fun _ _ => True) (some l) P σ.next y.body ⟨s1.tm, s1.df, s1.mem.set y.nm (.bM 4 0)⟩ fun o s2 => s2.mem.get y.nm = some (.bM 4 0) ∧ ∃ k i, wL o = some (k, i) ∧ LS σ y.nm ro m (vs.headD .aL) q (Nat.beq k 0) (s2.mem.set y.nm (.bM k i)) := by
 unfold Kk at hq
 refine (xE (inR := true) (r := some l) (Y := none) (G := fun _ _ => True) (k := σ.next) hT hH hm hN Kl n y.assign _ _ q (.inl rfl) (.inl rfl) (fun _ _ _ _ _ => trivial) (fun y hy => by cases hy) hq).mono fun o s1 h => ?_
 cases o with
 | normal =>
  obtain ⟨h1, h⟩ := bQ h
  refine ⟨rfl, jx h1, (xE (inR := true) (r := some l) (Y := none) (G := fun _ _ => True) (k := σ.next) hT hH hm hN Kl n y.body _ _ q (.inl rfl) (.inl rfl) (fun _ _ _ _ _ => trivial) (fun y hy => by cases hy) h).mono fun o s2 h2 => ?_⟩
  cases o with
  | normal =>
   simp only [MK] at h2
   obtain ⟨h3, h2⟩ := bQ h2
   rw [UC] at h3
   cases h2
   exact ⟨jx h3.1, 0, 0, rfl, s2.mem, .inl ⟨rfl, rfl, h3.2, rfl⟩⟩
  | ret =>
   simp only [MK] at h2
   obtain ⟨h3, h2⟩ := bQ h2
   rw [UC] at h3
   split at h2
   ·rename_i cs hcs
    obtain ⟨h4, h2⟩ := bQ h2
    cases h2
    refine ⟨jx h3.1, 1, 0, rfl, s2.mem, .inr ⟨rfl, rfl, h3.2, ?_, rfl⟩⟩
    rw [Pm hcs, Lm h4]
   ·cases h2
  | exit i => cases h2
  | goto i => cases h2
  | pan v => cases h2
 | exit i => cases h
 | goto i => cases h
 | ret => cases h
 | pan v => cases h
theorem It (hT : aZ P T) (hH : aG P ch) (hm : P.follows .mixedOrders = true) (hN : nN P) {il : FuncId → Bool} {n ro m : Nat} {y : qm} {k : Nat} (hk : y.nm < k) (hy : scL k y.tm = true) {x : X}
  {ops : Array Oper} {K : St → Option X} {w0 : W0} {Q : Exit → Act → World → Prop} : ∀ (l pre : List Oper) (ρ : Nat → Loc) (s : St) (a : Act) (w : World), ops.toList = pre ++ l → yG y w0 ρ → bF w0 ρ s a w → k ≤ s.mem.next →
   ul T ch ro m y (Kk P T ch il n ro m y) ops.toList l s K = some x →
   (∀ s' ρ' a' w', K s' = some x → bF w0 ρ' s' a' w' → (∀ i, i < k → ρ' i = ρ i) → k ≤ s'.mem.next → Q .normal a' w') → ¬ LetsOut Q → wpOpsIn (FW none) 0 P ops Q (List.range' pre.length l.length) a w
 | [], pre, ρ, s, a, w, he, hG, h, hn, hx, hK, hQ => by
  simp only [ul] at hx
  exact hK s ρ a w hx h (fun _ _ => rfl) hn
 | o :: l, pre, ρ, s, a, w, he, hG, h, hn, hx, hK, hQ => by
  rw [UW, List.range'_succ, wpOpsIn_cons]
  have hi : ops[pre.length]? = some o := by
   rw [← UX, he, List.getElem?_append_right (Nat.le_refl _)]; simp
  have next : ∀ (s1 : St) (ρ1 : Nat → Loc) (a1 : Act) (w1 : World), bF w0 ρ1 s1 a1 w1 → (∀ i, i < k → ρ1 i = ρ i) → k ≤ s1.mem.next → ul T ch ro m y (Kk P T ch il n ro m y) ops.toList l s1 K = some x → wpOpsIn (FW none) 0 P ops Q (List.range' (pre.length + 1) l.length) a1 w1 := by
   intro s1 ρ1 a1 w1 h1 e1 l1 hx1
   have := It hT hH hm hN hk hy l (pre ++ [o]) ρ1 s1 a1 w1 (by simp [he]) (Jq hk hy w0 ρ ρ1 e1 hG) h1 l1 hx1 (fun s' ρ' a' w' q1 q2 q3 q4 => hK s' ρ' a' w' q1 q2 (fun i hi => (q3 i hi).trans (e1 i hi)) q4) hQ
   simpa using this
  simp only [ul] at hx
  split at hx
  ·rename_i vs hvs
   obtain ⟨hg, hx⟩ := lK hx
   have hw : Region.wanted o (yielded ops a.tmps) = br ops.toList o s.tm := by rw [h.tm]; exact sH hg
   unfold wpOpIn
   simp only [hi]
   rw [hw]
   cases hwa : br ops.toList o s.tm with
   | true =>
    rw [hwa] at hx
    simp only [cond_true, if_true] at hx ⊢
    obtain ⟨hlen, hx⟩ := bQ hx
    simp only [UC] at hlen
    obtain ⟨⟨hlen, hturn⟩, hout⟩ := hlen
    obtain ⟨q, hq, hx⟩ := bE_ hx
    obtain ⟨fid, D, g1, g3⟩ := hG
    obtain ⟨hex, hsv, hnd⟩ := Gl (P := P) h hvs g1
    have hfz := h.rel.frz
    obtain ⟨r1, r2⟩ := Iu (Ψ := LS s.mem y.nm ro m (vs.headD .aL) q) (UR hlen) hn hk hsv hy (Po hT hH hm hN hq) (jx hturn) hfz g3
    refine ⟨fun _ _ => trivial, ?_⟩
    have e : Oper.semAt (FW none).round a.eval o = execOp a.eval o := rfl
    rw [e, hex, r1]
    refine ⟨fun hh => (by cases hh), r2.mono ?_⟩
    rintro e' w' ⟨b, rfl, ρ', σ', ⟨s2, hΨ⟩, hp⟩
    have hgt := jx hturn
    rcases hΨ with ⟨rfl, hq1, hkeep, rfl⟩ | ⟨rfl, hq1, hkeep, hro, rfl⟩
    ·rw [hq1] at hx
     have R : Rel w0 ρ' s.mem w' := by
      refine h.rel.SB hp.rel hp.ext (fun i b hb => ?_) h.rel.lt h.rel.sco
      by_cases e1 : i = y.nm
      ·subst e1
       rw [hgt] at hb
       cases hb
       exact .inr (.inl (by rw [aT, if_pos rfl]))
      ·cases ho : b.owned with
       | false => exact .inr (.inr ⟨hb, by first | rfl | exact ho⟩)
       | true => exact .inr (.inl (by rw [aT, if_neg (Ne.symm e1)]; exact Gk hkeep hb (h.rel.lt i b hb) e1 e1 ho))
     have hp3 : bO w0 ρ s.mem.next ρ' s.mem w' := ⟨R, hp.ext, Nat.le_refl _⟩
     exact next _ ρ' _ w' ((h.congr hp3).put (v := .bool true) (by simp [sc]) o.dst) (fun i hi => hp.ext i (by omega)) hn hx
    ·rw [hq1] at hx
     simp only [Qy, UC, Bool.not_eq_true'] at hout
     obtain ⟨⟨⟨o1, o2⟩, o3⟩, o4⟩ := hout
     have o1' : ro < s.mem.next := by simpa [Nat.blt_eq] using o1
     have o2' : ro ≠ y.nm := by intro e; rw [e] at o2; simp at o2
     have hnm : y.nm < s.mem.next := by omega
     have R : Rel w0 ρ' (Ac s.mem y.nm ro m q.2 (vs.headD .aL)) w' := by
      refine h.rel.SB hp.rel hp.ext (fun i b hb => ?_) (fun i b hb => ?_) (fun i b hb => ?_)
      ·unfold Ac at hb
       rw [aT, aT] at hb
       split at hb
       ·rename_i e1
        subst e1
        cases hb
        exact .inr (.inl (by rw [aT, if_pos rfl]))
       ·rename_i e1
        split at hb
        ·rename_i e2
         subst e2
         cases hb
         exact .inr (.inl (by rw [aT, if_neg e1]; exact hro))
        ·rename_i e2
         cases ho : b.owned with
         | false => exact .inr (.inr ⟨hb, by first | rfl | exact ho⟩)
         | true => exact .inr (.inl (by rw [aT, if_neg e1]; exact Gk hkeep hb (h.rel.lt i b hb) (Ne.symm e1) (Ne.symm e2) ho))
      ·unfold Ac at hb ⊢
       rw [aT, aT] at hb
       simp only [el]
       split at hb
       ·rename_i e1; omega
       ·split at hb
        ·omega
        ·exact h.rel.lt i b hb
      ·unfold Ac at hb ⊢
       rw [aT, aT] at hb
       simp only [el]
       split at hb
       ·cases hb; rfl
       ·split at hb
        ·cases hb; exact Pn o4 o3
        ·exact h.rel.sco i b hb
     have hp3 : bO w0 ρ s.mem.next ρ' (Ac s.mem y.nm ro m q.2 (vs.headD .aL)) w' := ⟨R, hp.ext, by simp [Ac]⟩
     exact next _ ρ' _ w' ((h.congr hp3).put (v := .bool false) (by simp [sc]) o.dst) (fun i hi => hp.ext i (by omega)) (by show k ≤ (Ac s.mem y.nm ro m q.2 (vs.headD .aL)).next; simp [Ac]; omega) hx
   | false =>
    rw [hwa] at hx
    simp only [cond_false, UE, if_false] at hx ⊢
    refine ⟨fun _ _ => trivial, ?_⟩
    rw [lJ ρ]
    exact next _ ρ _ w (h.put (v := .tup []) (by simp [sc, scL]) o.dst) (fun _ _ => rfl) hn hx
  ·rcases iC hx with ⟨s', ow', h1, h2, h3⟩ | ⟨v, s', ow', h1, _⟩
   ·obtain ⟨q1, q2⟩ := bQ h1
    have hro := h3 (eW q1)
    simp only [dX] at hro
    have hst : et T ch.H ops.toList o s = some (.go s') := by
     cases hs : et T ch.H ops.toList o s with
     | none => rw [hs] at hro; cases hro
     | some q =>
      rw [hs] at hro
      cases q with
      | go s1 => simpa [dX] using hro
      | pan v s1 => simp at hro
    refine CT (K := fun a w => wpOpsIn (FW none) 0 P ops Q (List.range' (pre.length + 1) l.length) a w) hQ (.inr rfl) (fun _ _ q => q) (jw hT hH.1 h hi hst ?_)
    intro ρ1 a1 w1 h1' e1 l1
    exact next s' ρ1 a1 w1 h1' (fun i hi => e1 i (by omega)) (by omega) q2
   ·cases h1
def dC (P : Program) (T : ar) (ch : CH) (il : FuncId → Bool) (ro m : Nat) : Nat → Option qm → Code → St → (an → St → Option X) → Option X
  | 0, _, _, _, _ => none
  | n + 1, Y, c, s, K =>
    match c with
    | .seq a b => dC P T ch il ro m n Y a s fun o s' => match o with
      | .normal => dC P T ch il ro m n Y b s' K
      | o => K o s'
    | .cond c a b => match ev s.tm c with
      | some (.bool true) => dC P T ch il ro m n Y a s K
      | some (.bool false) => dC P T ch il ro m n Y b s K
      | _ => none
    | .block id b => dC P T ch il ro m n Y b s fun o s' => match o with
      | .exit i => if i = id then K .normal s' else K (.exit i) s'
      | o => K o s'
    | .loop b => dC P T ch il ro m n Y b s fun o s' => match o with
      | .normal => dC P T ch il ro m n Y (.loop b) s' K
      | o => K o s'
    | .rangeFunc g ps a b => match ev s.tm g with
      | some (.func f [] cs) => match P.funcs[f]? with
        | some fn => match fn.body with
          | some c => dC P T ch il ro m n (some ⟨s.mem.next + 1, ps, a, b, s.tm⟩) c (bG fn.ntmps (.dm (s.mem.next + 1) :: cs) ((s.mem.push .jm).push (.bM 0 0))) fun o s' => cond (Ad o)
            (match s'.df, gk T s' fn.results.toList, s'.mem.get (s.mem.next + 1) with
              | [], some _, some (.bM k i) => (match vD k i with
                | some o2 => K o2 ⟨s.tm, ⟨wG, [.dm s.mem.next], []⟩ :: s.df, s'.mem.set (s.mem.next + 1) .dead⟩
                | none => none)
              | _, _, _ => none) none
          | none => none
        | none => none
      | _ => none
    | .region _ ops false => match Y with
      | some y => ul T ch ro m y (Kk P T ch il n ro m y) ops.toList ops.toList s (K .normal)
      | none => runK T ch ops.toList ops.toList s .nil (fun s' w => cond (owB w) (K .normal s') none) (fun v s' w => cond (owB w) (K (.pan v) s') none)
    | .region _ ops true => um T ch ops.toList s .nil (fun s' w => cond (owB w) (K .normal s') none) (fun v s' w => cond (owB w) (K (.pan v) s') none)
    | .skip => K .normal s
    | .label _ => K .normal s
    | .exit id => K (.exit id) s
    | .ret => K .ret s
    | _ => none
theorem Ln (hT : aZ P T) (hH : aG P ch) (hm : P.follows .mixedOrders = true) (hN : nN P) {il : FuncId → Bool} {ro m : Nat} :
  ∀ (n : Nat) {Y : Option qm} {G : W0 → (Nat → Loc) → Prop} {k : Nat} (c : Code) (s : St) (K : an → St → Option X) (x : X), GOk k G →
   (∀ y, Y = some y → G = yG y ∧ y.nm < k ∧ scL k y.tm = true) → dC P T ch il ro m n Y c s K = some x → dY G none P k c s fun o s' => K o s' = some x := by
 intro n
 induction n using Nat.strongRecOn with
 | _ n ih =>
  cases n with
  | zero => intro Y G k c s K x _ _ h; simp [dC] at h
  | succ n =>
   intro Y G k c s K x hG hY h
   have ih' := @ih n (Nat.lt_succ_self n)
   cases c with
   | skip => exact Iv (by simpa only [dC] using h)
   | label l => exact Gm (by simpa only [dC] using h)
   | exit l => exact Iw (by simpa only [dC] using h)
   | goto l => simp [dC] at h
   | ret => exact Km (by simpa only [dC] using h)
   | seq a b =>
    simp only [dC] at h
    refine Kn hG ((ih' a s _ x hG hY h).mono fun o s' q => ?_)
    cases o with
    | normal => exact ih' b s' K x hG hY q
    | exit i => exact q
    | goto i => exact q
    | ret => exact q
    | pan v => exact q
   | cond c a b =>
    simp only [dC] at h
    split at h
    ·rename_i hc; exact wM hc (ih' a s K x hG hY h)
    ·rename_i hc; exact wM hc (ih' b s K x hG hY h)
    ·cases h
   | block id b =>
    simp only [dC] at h
    refine Gn ((ih' b s _ x hG hY h).mono fun o s' q => ?_)
    cases o with
    | exit i =>
     simp only [an.inBlock] at q ⊢
     split at q
     ·rename_i e; rw [if_pos e]; exact q
     ·rename_i e; rw [if_neg e]; exact q
    | normal => exact q
    | goto i => exact q
    | ret => exact q
    | pan v => exact q
   | scope b => simp [dC] at h
   | loop b =>
    have key : ∀ (j : Nat), j ≤ n + 1 → ∀ (s : St), dC P T ch il ro m j Y (.loop b) s K = some x → k ≤ s.mem.next → ∀ w0 ρ a w, G w0 ρ → bF w0 ρ s a w →
      Code.roundsIn (FW none) 0 P b (fun e a' w' => ∃ o s', K o s' = some x ∧ db w0 ρ k o s' e a' w') j a w := by
     intro j
     induction j with
     | zero => intro _ s h; simp [dC] at h
     | succ j ihm =>
      intro hmn s h hn w0 ρ a w hg hr
      simp only [dC] at h
      have h1 := ih j (by omega) b s _ x hG hY h hn w0 ρ a w hg hr
      rw [roundsIn_succ]
      refine wpIn_mono h1 ?_
      rintro e a' w' ⟨o, s', q, ⟨ρ', rfl, h2, h3, h4, h5⟩⟩
      cases o with
      | normal =>
       refine to ?_ j (ihm (by omega) s' q h4 w0 ρ' a' w' (hG w0 ρ ρ' h3 hg) h2)
       rintro e a w ⟨o, s', q1, q2⟩
       exact ⟨o, s', q1, q2.step h3⟩
      | exit i => exact ⟨_, s', q, ⟨ρ', rfl, h2, h3, h4, h5⟩⟩
      | goto i => exact ⟨_, s', q, ⟨ρ', rfl, h2, h3, h4, h5⟩⟩
      | ret => exact ⟨_, s', q, ⟨ρ', rfl, h2, h3, h4, h5⟩⟩
      | pan v => exact ⟨_, s', q, ⟨ρ', rfl, h2, h3, h4, h5⟩⟩
    intro hn w0 ρ a w hg hr
    exact wpIn_loop_rounds (n + 1) (key (n + 1) (Nat.le_refl _) s h hn w0 ρ a w hg hr)
   | rangeFunc g ps a b =>
    simp only [dC] at h
    split at h
    ·rename_i f cs hg
     split at h
     ·rename_i fn hf
      split at h
      ·rename_i c hb
       refine yz hT hg hf hb ⟨fn, hf, hN f fn hf, by rw [hb]; rfl⟩ fun hst => ?_
       have hsc : scL (s.mem.next + 2) s.tm = true := cf (by omega) _ hst
       refine (ih' (k := s.mem.next + 2) (G := yG ⟨s.mem.next + 1, ps, a, b, s.tm⟩) c _ _ x (Jq (by show s.mem.next + 1 < s.mem.next + 2; omega) hsc) (fun y hy => by
        cases hy
        exact ⟨rfl, by show s.mem.next + 1 < s.mem.next + 2; omega, hsc⟩) h).mono fun o s' q => ?_
       obtain ⟨ho, q⟩ := bQ q
       have ho' : o = .normal ∨ o = .ret := by cases o <;> simp_all [Ad]
       split at q
       ·rename_i k1 i1 hd hv hgt
        split at q
        ·rename_i o2 hlv
         exact ⟨ho', hd, ⟨_, hv⟩, k1, i1, o2, hgt, hlv, q⟩
        ·cases q
       ·cases q
      ·cases h
     ·cases h
    ·cases h
   | region id ops d =>
    cases d with
    | true =>
     simp only [dC] at h
     have hd : (∀ o ∈ ops.toList, mn o.op = false) ∨ (none : Option Nat) = none := .inr rfl
     intro hn w0 ρ a w hg hr
     rcases Ae hH h with ⟨s', ow', h1, h2, h3⟩ | ⟨v, s', ow', m, o, h1, h2, ho, hC, h3⟩
     ·obtain ⟨q1, q2⟩ := bQ h1
      refine wpIn_mono (wpIn_region_any hm (vE lL hd _ (Cg hT hH.1 hH.2.2 (h3 (eW q1)) (Φ := fun o s' => K o s' = some x) q2 w0 ρ a w hr))) ?_
      rintro e a' w' ⟨o, s', k1, k2⟩
      exact ⟨o, s', k1, k2.less hn⟩
     ·obtain ⟨q1, q2⟩ := bQ h1
      refine wpIn_mono (wpIn_region_any hm (vE lL hd _ (Fa hT hH.1 hH.2.2 ho hC (h3 (eW q1)) (Φ := fun o s' => K o s' = some x) q2 w0 ρ a w hr))) ?_
      rintro e a' w' ⟨o, s', k1, k2⟩
      exact ⟨o, s', k1, k2.less hn⟩
    | false =>
     simp only [dC] at h
     cases hY0 : Y with
     | none =>
      subst hY0
      simp only at h
      rcases iC h with ⟨s', ow', h1, h2, h3⟩ | ⟨v, s', ow', h1, h2, h3⟩
      ·obtain ⟨q1, q2⟩ := bQ h1
       intro hn w0 ρ a w hg hr
       have := lM (G := fun _ _ => True) (n := s.mem.next) (uk (id := id) (ops := ops) hT hH.1 (h3 (eW q1)) (Φ := fun o1 s1 => K o1 s1 = some x) q2).vF
       exact wpIn_mono (this (Nat.le_refl _) w0 ρ a w trivial hr) (by rintro e a' w' ⟨o, s1, k1, k2⟩; exact ⟨o, s1, k1, k2.less hn⟩)
      ·obtain ⟨q1, q2⟩ := bQ h1
       intro hn w0 ρ a w hg hr
       have := lM (G := fun _ _ => True) (n := s.mem.next) (uk (id := id) (ops := ops) hT hH.1 (h3 (eW q1)) (Φ := fun o1 s1 => K o1 s1 = some x) q2).vF
       exact wpIn_mono (this (Nat.le_refl _) w0 ρ a w trivial hr) (by rintro e a' w' ⟨o, s1, k1, k2⟩; exact ⟨o, s1, k1, k2.less hn⟩)
     | some y =>
      subst hY0
      obtain ⟨rfl, hk, hy⟩ := hY y rfl
      simp only at h
      intro hn w0 ρ a w hg hr
      refine wpIn_region ?_
      have := It (Q := fun e a' w' => ∃ o s', K o s' = some x ∧ db w0 ρ k o s' e a' w') hT hH hm hN hk hy (x := x) ops.toList [] ρ s a w (by simp) hg hr hn h (fun s' ρ' a' w' q1 q2 q3 q4 => ⟨.normal, s', q1, ⟨ρ', rfl, q2, q3, q4, by simp⟩⟩) lL
      rw [List.range_eq_range']
      simpa using this
   | refuse w => simp [dC] at h
theorem FD.Mt (hT : aZ P T) (hH : aG P ch) (hm : P.follows .mixedOrders = true) (hN : nN P) (d : FD) {il : FuncId → Bool} {ro m : Nat} {g : FuncId} {fn : Func} {c : Code} {fuel : Nat} {cargs : LA_} {B0 : List (Nat × am)} {x : d.X}
  (hf : P.funcs[g]? = some fn) (hb : fn.body = some c)
  (hS : shP (d.k + d.B.length) [some d.M] (dV d.k d.B) = true)
  (hx : dC P T ch il ro m fuel none c (bG fn.ntmps cargs ⟨d.k, B0⟩) (d.Jr T fn.results.toList) = some x) :
  mZ P g ∧ cE P g cargs ⟨d.k, B0⟩ (.ret (d.val x)) ⟨d.k + (d.aN x).length, cS d.k (d.aN x)⟩ := by
 have h1 := Ln (Y := none) (G := fun _ _ => True) (k := d.k) hT hH hm hN fuel c _ _ x (fun _ _ _ _ _ => trivial) (fun y hy => by cases hy) hx
 have h2 : dk P d.k c (bG fn.ntmps cargs ⟨d.k, B0⟩) fun o s' => (o = .normal ∨ o = .ret) ∧ ∃ σ' v, g7 s'.df s'.mem = some σ' ∧ gk T ⟨s'.tm, [], σ'⟩ fn.results.toList = some v ∧
   (mSt d.k (d.k + d.B.length) (d.F ⟨[v], [], σ'⟩) [some d.M] (dV d.k d.B) [] ⟨[v], [], σ'⟩).bind d.ofL = some x := by
  refine oM ?_
  intro hn w0 ρ a w hr
  refine wp_mono (h1.SC hn w0 ρ a w hr) ?_
  rintro e' a' w' ⟨o, s', q, ρ', r1, r2, r3, r4, r5⟩
  unfold FD.Jr at q
  obtain ⟨q1, q⟩ := bQ q
  have ho : o = .normal ∨ o = .ret := Ko q1
  split at q
  ·rename_i σ' ht
   obtain ⟨v, hv, q⟩ := Cj q
   refine ⟨o, s', ⟨?_, cb d.pre s', jV r4, ho, σ', v, ht, hv, q⟩, ⟨ρ', r1, r2, r3, r4, r5⟩⟩
   rintro v rfl
   rcases ho with h | h <;> cases h
  ·cases q
 refine ⟨⟨fn, hf, hN g fn hf, by rw [hb]; rfl⟩, ?_⟩
 intro w0 ρ w hr hs
 have := tp (R := fun r σ' => ∃ v, r = .ret v ∧ (mSt d.k (d.k + d.B.length) (d.F ⟨[v], [], σ'⟩) [some d.M] (dV d.k d.B) [] ⟨[v], [], σ'⟩).bind d.ofL = some x) hT hf hb (σ := ⟨d.k, B0⟩) (args := cargs)
  ((lM h2).mono fun o s' q => by
   obtain ⟨ho, σ', v, ht, hv, q⟩ := q
   refine ⟨.ret v, σ', ?_, v, rfl, q⟩
   rcases ho with rfl | rfl <;> simp only [Kp, ht, hv, US]) w0 ρ w hr hs
 refine this.mono ?_
 rintro e w' ⟨r, σ', ρ', ⟨v, rfl, q⟩, k3, k4, k5⟩
 exact d.SD hS q ⟨ρ', k3, k4, k5⟩
end
end Go.Ev
namespace Go.Ev
open Go.Proofs
def ty1 : TyI := ⟨1, 8, [.cN], false, none, .func⟩
def ty2 : TyI := ⟨1, 8, [.int .i64 0], false, none, .int .i64⟩
def ty3 : TyI := ⟨1, 8, [.int .i64 0], false, none, .int .i64⟩
def ty4 : TyI := ⟨1, 1, [.bool false], false, none, .bool⟩
def ty5 : TyI := ⟨1, 1, [.int .u8 0], false, none, .int .u8⟩
def ty9 : TyI := ⟨1, 16, [.str ⟨#[]⟩], false, none, .str⟩
def SF : TyI := ⟨1, 16, [.dr], false, none, .iface⟩
def SG : TyI := ⟨1, 24, [.aL], false, none, .slice 38⟩
def SH : TyI := ⟨1, 8, [.int .u64 0], false, none, .int .u64⟩
def SI : TyI := ⟨8, 64, [.int .u64 0, .int .u64 0, .int .u64 0, .int .u64 0, .int .u64 0, .int .u64 0, .int .u64 0, .int .u64 0], true, some [.int .u64, .int .u64, .int .u64, .int .u64, .int .u64, .int .u64, .int .u64, .int .u64], .arr 8 23⟩
def SJ : TyI := ⟨8, 64, [.int .u64 0, .int .u64 0, .int .u64 0, .int .u64 0, .int .u64 0, .int .u64 0, .int .u64 0, .int .u64 0], true, some [.int .u64, .int .u64, .int .u64, .int .u64, .int .u64, .int .u64, .int .u64, .int .u64], .struct [(0, 24)]⟩
def SK : TyI := ⟨24, 192, [.int .u64 0, .int .u64 0, .int .u64 0, .int .u64 0, .int .u64 0, .int .u64 0, .int .u64 0, .int .u64 0, .int .u64 0, .int .u64 0, .int .u64 0, .int .u64 0, .int .u64 0, .int .u64 0, .int .u64 0, .int .u64 0, .int .u64 0, .int .u64 0, .int .u64 0, .int .u64 0, .int .u64 0, .int .u64 0, .int .u64 0, .int .u64 0], true, some [.int .u64, .int .u64, .int .u64, .int .u64, .int .u64, .int .u64, .int .u64, .int .u64, .int .u64, .int .u64, .int .u64, .int .u64, .int .u64, .int .u64, .int .u64, .int .u64, .int .u64, .int .u64, .int .u64, .int .u64, .int .u64, .int .u64, .int .u64, .int .u64], .struct [(0, 26), (8, 26), (16, 26)]⟩
def SL : TyI := ⟨1, 24, [.aL], false, none, .slice 3⟩
def SM : TyI := ⟨33, 280, [.int .u64 0, .int .u64 0, .int .u64 0, .int .u64 0, .int .u64 0, .int .u64 0, .int .u64 0, .int .u64 0, .int .u64 0, .int .u64 0, .int .u64 0, .int .u64 0, .int .u64 0, .int .u64 0, .int .u64 0, .int .u64 0, .int .u64 0, .int .u64 0, .int .u64 0, .int .u64 0, .int .u64 0, .int .u64 0, .int .u64 0, .int .u64 0, .int .u64 0, .int .u64 0, .int .u64 0, .int .u64 0, .int .u64 0, .int .u64 0, .int .u64 0, .int .u64 0, .aL], true, none, .struct [(0, 28), (24, 26), (32, 29)]⟩
def SN : TyI := ⟨1, 8, [.int .i64 0], false, none, .int .i64⟩
def SO : TyI := ⟨3, 24, [.int .i64 0, .int .i64 0, .int .i64 0], true, some [.int .i64, .int .i64, .int .i64], .struct [(0, 2), (1, 2), (2, 2)]⟩
def SP : TyI := ⟨1, 8, [.cN], false, none, .func⟩
def SQ : TyI := ⟨1, 8, [.cN], false, none, .func⟩
def SR : TyI := ⟨3, 24, [.int .i64 0, .int .i64 0, .int .i64 0], true, some [.int .i64, .int .i64, .int .i64], .arr 3 2⟩
def SS : TyI := ⟨8, 64, [.int .u64 0, .int .u64 0, .int .u64 0, .int .u64 0, .int .u64 0, .int .u64 0, .int .u64 0, .int .u64 0], true, some [.int .u64, .int .u64, .int .u64, .int .u64, .int .u64, .int .u64, .int .u64, .int .u64], .arr 8 23⟩
def ST : TyI := ⟨1, 8, [.int .u64 0], false, none, .int .u64⟩
def SU : TyI := ⟨1, 8, [.cN], false, none, .func⟩
def SV : TyI := ⟨1, 8, [.cN], false, none, .func⟩
def SW : TyI := ⟨1, 24, [.aL], true, none, .struct [(0, 22)]⟩
def SX : TyI := ⟨1, 8, [.cN], false, none, .func⟩
def SY : TyI := ⟨1, 8, [.cN], false, none, .func⟩
def SZ : TyI := ⟨1, 24, [.aL], false, none, .slice 29⟩
def S0 : TyI := ⟨1, 24, [.aL], false, none, .slice 26⟩
def S1 : TyI := ⟨1, 8, [.cN], false, none, .func⟩
def QD : TyI := ⟨0, 0, [], true, some [], .struct []⟩
def QE : TyI := ⟨1, 8, [.cN], false, none, .func⟩
def QF : TyI := ⟨0, 0, [], true, some [], .struct []⟩
def QG : TyI := ⟨1, 8, [.dR], false, none, .ptr 84⟩
def QH : TyI := ⟨9, 72, [.int .i64 0, .int .i64 0, .int .i64 0, .int .i64 0, .int .i64 0, .int .i64 0, .int .i64 0, .int .i64 0, .int .i64 0], true, some [.int .i64, .int .i64, .int .i64, .int .i64, .int .i64, .int .i64, .int .i64, .int .i64, .int .i64], .arr 3 38⟩
def QI : TyI := ⟨1, 8, [.cN], false, none, .func⟩
def QJ : TyI := ⟨24, 192, [.int .u64 0, .int .u64 0, .int .u64 0, .int .u64 0, .int .u64 0, .int .u64 0, .int .u64 0, .int .u64 0, .int .u64 0, .int .u64 0, .int .u64 0, .int .u64 0, .int .u64 0, .int .u64 0, .int .u64 0, .int .u64 0, .int .u64 0, .int .u64 0, .int .u64 0, .int .u64 0, .int .u64 0, .int .u64 0, .int .u64 0, .int .u64 0], true, some [.int .u64, .int .u64, .int .u64, .int .u64, .int .u64, .int .u64, .int .u64, .int .u64, .int .u64, .int .u64, .int .u64, .int .u64, .int .u64, .int .u64, .int .u64, .int .u64, .int .u64, .int .u64, .int .u64, .int .u64, .int .u64, .int .u64, .int .u64, .int .u64], .arr 3 26⟩
def QK : TyI := ⟨1, 8, [.cN], false, none, .func⟩
def QL : TyI := ⟨1, 8, [.cN], false, none, .func⟩
def QM : TyI := ⟨3, 24, [.int .i64 0, .int .i64 0, .int .i64 0], true, some [.int .i64, .int .i64, .int .i64], .arr 3 32⟩
def QN : TyI := ⟨1, 4, [.int .u32 0], false, none, .int .u32⟩
def QO : TyI := ⟨1, 8, [.cN], false, none, .func⟩
def QP : TyI := ⟨1, 8, [.int .i64 0], false, none, .int .i64⟩
def QQ : TyI := ⟨1, 8, [.int .u64 0], false, none, .int .u64⟩
def QR : TyI := ⟨1, 8, [.dR], false, none, .ptr 3⟩
def QS : TyI := ⟨1, 8, [.dR], false, none, .ptr 142⟩
theorem aS {P : Program} {k : Nat} {ty : TyI} (h : bH P k ty) {t : Nat} {i : TyI} (e : cond (Nat.beq t k) (some ty) none = some i) : bH P t i := by
 cases hb : Nat.beq t k with
 | false => rw [hb] at e; cases e
 | true => rw [hb] at e; cases e; rw [UR hb]; exact h
theorem aV {P : Program} {a b : Option TyI} {c : Bool} {t : Nat} {i : TyI} (h1 : a = some i → bH P t i) (h2 : b = some i → bH P t i) (e : cond c a b = some i) : bH P t i := by
 cases c with
 | true => exact h1 e
 | false => exact h2 e
def iQ : ar := fun t => (cond (Nat.blt t 77) (cond (Nat.blt t 28) (cond (Nat.blt t 9) (cond (Nat.blt t 3) (cond (Nat.blt t 2) (cond (Nat.beq t 1) (some ty1) none) (cond (Nat.beq t 2) (some ty2) none)) (cond (Nat.blt t 4) (cond (Nat.beq t 3) (some ty3) none) (cond (Nat.blt t 5) (cond (Nat.beq t 4) (some ty4) none) (cond (Nat.beq t 5) (some ty5) none)))) (cond (Nat.blt t 23) (cond (Nat.blt t 20) (cond (Nat.beq t 9) (some ty9) none) (cond (Nat.blt t 22) (cond (Nat.beq t 20) (some SF) none) (cond (Nat.beq t 22) (some SG) none))) (cond (Nat.blt t 24) (cond (Nat.beq t 23) (some SH) none) (cond (Nat.blt t 26) (cond (Nat.beq t 24) (some SI) none) (cond (Nat.beq t 26) (some SJ) none))))) (cond (Nat.blt t 61) (cond (Nat.blt t 31) (cond (Nat.blt t 29) (cond (Nat.beq t 28) (some SK) none) (cond (Nat.beq t 29) (some SL) none)) (cond (Nat.blt t 32) (cond (Nat.beq t 31) (some SM) none) (cond (Nat.blt t 38) (cond (Nat.beq t 32) (some SN) none) (cond (Nat.beq t 38) (some SO) none)))) (cond (Nat.blt t 74) (cond (Nat.blt t 62) (cond (Nat.beq t 61) (some SP) none) (cond (Nat.blt t 66) (cond (Nat.beq t 62) (some SQ) none) (cond (Nat.beq t 66) (some SR) none))) (cond (Nat.blt t 75) (cond (Nat.beq t 74) (some SS) none) (cond (Nat.blt t 76) (cond (Nat.beq t 75) (some ST) none) (cond (Nat.beq t 76) (some SU) none)))))) (cond (Nat.blt t 116) (cond (Nat.blt t 90) (cond (Nat.blt t 85) (cond (Nat.blt t 84) (cond (Nat.beq t 77) (some SV) none) (cond (Nat.beq t 84) (some SW) none)) (cond (Nat.blt t 87) (cond (Nat.beq t 85) (some SX) none) (cond (Nat.blt t 88) (cond (Nat.beq t 87) (some SY) none) (cond (Nat.beq t 88) (some SZ) none)))) (cond (Nat.blt t 106) (cond (Nat.blt t 99) (cond (Nat.beq t 90) (some S0) none) (cond (Nat.blt t 101) (cond (Nat.beq t 99) (some S1) none) (cond (Nat.beq t 101) (some QD) none))) (cond (Nat.blt t 110) (cond (Nat.beq t 106) (some QE) none) (cond (Nat.blt t 111) (cond (Nat.beq t 110) (some QF) none) (cond (Nat.beq t 111) (some QG) none))))) (cond (Nat.blt t 130) (cond (Nat.blt t 122) (cond (Nat.blt t 119) (cond (Nat.beq t 116) (some QH) none) (cond (Nat.blt t 121) (cond (Nat.beq t 119) (some QI) none) (cond (Nat.beq t 121) (some QJ) none))) (cond (Nat.blt t 125) (cond (Nat.beq t 122) (some QK) none) (cond (Nat.blt t 128) (cond (Nat.beq t 125) (some QL) none) (cond (Nat.beq t 128) (some QM) none)))) (cond (Nat.blt t 142) (cond (Nat.blt t 132) (cond (Nat.beq t 130) (some QN) none) (cond (Nat.blt t 134) (cond (Nat.beq t 132) (some QO) none) (cond (Nat.beq t 134) (some QP) none))) (cond (Nat.blt t 146) (cond (Nat.beq t 142) (some QQ) none) (cond (Nat.blt t 149) (cond (Nat.beq t 146) (some QR) none) (cond (Nat.beq t 149) (some QS) none)))))))
theorem S2 : bH Try.prog 1 ty1 :=
 ⟨⟨Try.t1, by kernel_rfl, rfl, rfl, _, rfl, fun _ => rfl⟩, rfl, by decide, rfl, ⟨_, _, _, Try.underlying1⟩, rfl, nofun⟩
theorem S3 : bH Try.prog 2 ty2 :=
 ⟨⟨Try.t2, by kernel_rfl, rfl, rfl, _, rfl, fun _ => rfl⟩, rfl, by decide, rfl, Try.underlying2, rfl, nofun⟩
theorem S4 : bH Try.prog 3 ty3 :=
 ⟨⟨Try.t3, by kernel_rfl, rfl, rfl, _, rfl, fun _ => rfl⟩, rfl, by decide, rfl, Try.underlying3, rfl, nofun⟩
theorem S5 : bH Try.prog 4 ty4 :=
 ⟨⟨Try.t4, by kernel_rfl, rfl, rfl, _, rfl, fun _ => rfl⟩, rfl, by decide, rfl, Try.underlying4, rfl, nofun⟩
theorem S6 : bH Try.prog 5 ty5 :=
 ⟨⟨Try.t5, by kernel_rfl, rfl, rfl, _, rfl, fun _ => rfl⟩, rfl, by decide, rfl, Try.underlying5, rfl, nofun⟩
theorem S7 : bH Try.prog 9 ty9 :=
 ⟨⟨Try.t9, by kernel_rfl, rfl, rfl, _, rfl, fun _ => rfl⟩, rfl, by decide, rfl, Try.underlying9, rfl, nofun⟩
theorem Rp : bH Try.prog 20 SF :=
 ⟨⟨Try.t20, by kernel_rfl, rfl, rfl, _, rfl, fun _ => rfl⟩, rfl, by decide, rfl, ⟨_, Try.underlying20⟩, rfl, nofun⟩
theorem Rq : bH Try.prog 22 SG :=
 ⟨⟨Try.t22, by kernel_rfl, rfl, rfl, _, rfl, fun _ => rfl⟩, rfl, by decide, rfl, Try.underlying22, rfl, nofun⟩
theorem Rr : bH Try.prog 23 SH :=
 ⟨⟨Try.t23, by kernel_rfl, rfl, rfl, _, rfl, fun _ => rfl⟩, rfl, by decide, rfl, Try.underlying23, rfl, nofun⟩
theorem Rt : bH Try.prog 24 SI :=
 ⟨⟨Try.t24, by kernel_rfl, rfl, rfl, _, rfl, fun _ => rfl⟩, rfl, by decide, rfl, Try.underlying24, rfl, fun ks h => fJ (d := 12) (by decide) (by cases h; kernel_rfl) Try.eqGuardType24 (by rw [Try.underlying24])⟩
theorem Ru : bH Try.prog 26 SJ :=
 ⟨⟨Try.t26, by kernel_rfl, rfl, rfl, _, rfl, fun _ => rfl⟩, rfl, by decide, rfl, ⟨_, Try.underlying26, rfl⟩, rfl, fun ks h => fJ (d := 12) (by decide) (by cases h; kernel_rfl) Try.eqGuardType26 (by rw [Try.underlying26])⟩
theorem Rv : bH Try.prog 28 SK :=
 ⟨⟨Try.t28, by kernel_rfl, rfl, rfl, _, rfl, fun _ => rfl⟩, rfl, by decide, rfl, ⟨_, Try.underlying28, rfl⟩, rfl, fun ks h => fJ (d := 12) (by decide) (by cases h; kernel_rfl) Try.eqGuardType28 (by rw [Try.underlying28])⟩
theorem Rw : bH Try.prog 29 SL :=
 ⟨⟨Try.t29, by kernel_rfl, rfl, rfl, _, rfl, fun _ => rfl⟩, rfl, by decide, rfl, Try.underlying29, rfl, nofun⟩
theorem Rx : bH Try.prog 31 SM :=
 ⟨⟨Try.t31, by kernel_rfl, rfl, rfl, _, rfl, fun _ => rfl⟩, rfl, by decide, rfl, ⟨_, Try.underlying31, rfl⟩, rfl, nofun⟩
theorem Ry : bH Try.prog 32 SN :=
 ⟨⟨Try.t32, by kernel_rfl, rfl, rfl, _, rfl, fun _ => rfl⟩, rfl, by decide, rfl, Try.underlying32, rfl, nofun⟩
theorem Rz : bH Try.prog 38 SO :=
 ⟨⟨Try.t38, by kernel_rfl, rfl, rfl, _, rfl, fun _ => rfl⟩, rfl, by decide, rfl, ⟨_, Try.underlying38, rfl⟩, rfl, fun ks h => fJ (d := 12) (by decide) (by cases h; kernel_rfl) Try.eqGuardType38 (by rw [Try.underlying38])⟩
theorem RA : bH Try.prog 61 SP :=
 ⟨⟨Try.t61, by kernel_rfl, rfl, rfl, _, rfl, fun _ => rfl⟩, rfl, by decide, rfl, ⟨_, _, _, Try.underlying61⟩, rfl, nofun⟩
theorem RB : bH Try.prog 62 SQ :=
 ⟨⟨Try.t62, by kernel_rfl, rfl, rfl, _, rfl, fun _ => rfl⟩, rfl, by decide, rfl, ⟨_, _, _, Try.underlying62⟩, rfl, nofun⟩
theorem RC : bH Try.prog 66 SR :=
 ⟨⟨Try.t66, by kernel_rfl, rfl, rfl, _, rfl, fun _ => rfl⟩, rfl, by decide, rfl, Try.underlying66, rfl, fun ks h => fJ (d := 12) (by decide) (by cases h; kernel_rfl) Try.eqGuardType66 (by rw [Try.underlying66])⟩
theorem RD : bH Try.prog 74 SS :=
 ⟨⟨Try.t74, by kernel_rfl, rfl, rfl, _, rfl, fun _ => rfl⟩, rfl, by decide, rfl, Try.underlying74, rfl, fun ks h => fJ (d := 12) (by decide) (by cases h; kernel_rfl) Try.eqGuardType74 (by rw [Try.underlying74])⟩
theorem RE : bH Try.prog 75 ST :=
 ⟨⟨Try.t75, by kernel_rfl, rfl, rfl, _, rfl, fun _ => rfl⟩, rfl, by decide, rfl, Try.underlying75, rfl, nofun⟩
theorem RF : bH Try.prog 76 SU :=
 ⟨⟨Try.t76, by kernel_rfl, rfl, rfl, _, rfl, fun _ => rfl⟩, rfl, by decide, rfl, ⟨_, _, _, Try.underlying76⟩, rfl, nofun⟩
theorem RG : bH Try.prog 77 SV :=
 ⟨⟨Try.t77, by kernel_rfl, rfl, rfl, _, rfl, fun _ => rfl⟩, rfl, by decide, rfl, ⟨_, _, _, Try.underlying77⟩, rfl, nofun⟩
theorem RH : bH Try.prog 84 SW :=
 ⟨⟨Try.t84, by kernel_rfl, rfl, rfl, _, rfl, fun _ => rfl⟩, rfl, by decide, rfl, ⟨_, Try.underlying84, rfl⟩, rfl, nofun⟩
theorem RK : bH Try.prog 85 SX :=
 ⟨⟨Try.t85, by kernel_rfl, rfl, rfl, _, rfl, fun _ => rfl⟩, rfl, by decide, rfl, ⟨_, _, _, Try.underlying85⟩, rfl, nofun⟩
theorem RL : bH Try.prog 87 SY :=
 ⟨⟨Try.t87, by kernel_rfl, rfl, rfl, _, rfl, fun _ => rfl⟩, rfl, by decide, rfl, ⟨_, _, _, Try.underlying87⟩, rfl, nofun⟩
theorem RM : bH Try.prog 88 SZ :=
 ⟨⟨Try.t88, by kernel_rfl, rfl, rfl, _, rfl, fun _ => rfl⟩, rfl, by decide, rfl, Try.underlying88, rfl, nofun⟩
theorem RN : bH Try.prog 90 S0 :=
 ⟨⟨Try.t90, by kernel_rfl, rfl, rfl, _, rfl, fun _ => rfl⟩, rfl, by decide, rfl, Try.underlying90, rfl, nofun⟩
theorem RO : bH Try.prog 99 S1 :=
 ⟨⟨Try.t99, by kernel_rfl, rfl, rfl, _, rfl, fun _ => rfl⟩, rfl, by decide, rfl, ⟨_, _, _, Try.underlying99⟩, rfl, nofun⟩
theorem PA : bH Try.prog 101 QD :=
 ⟨⟨Try.t101, by kernel_rfl, rfl, rfl, _, rfl, fun _ => rfl⟩, rfl, by decide, rfl, ⟨_, Try.underlying101, rfl⟩, rfl, fun ks h => fJ (d := 12) (by decide) (by cases h; kernel_rfl) Try.eqGuardType101 (by rw [Try.underlying101])⟩
theorem PB : bH Try.prog 106 QE :=
 ⟨⟨Try.t106, by kernel_rfl, rfl, rfl, _, rfl, fun _ => rfl⟩, rfl, by decide, rfl, ⟨_, _, _, Try.underlying106⟩, rfl, nofun⟩
theorem PC : bH Try.prog 110 QF :=
 ⟨⟨Try.t110, by kernel_rfl, rfl, rfl, _, rfl, fun _ => rfl⟩, rfl, by decide, rfl, ⟨_, Try.underlying110, rfl⟩, rfl, fun ks h => fJ (d := 12) (by decide) (by cases h; kernel_rfl) Try.eqGuardType110 (by rw [Try.underlying110])⟩
theorem PD : bH Try.prog 111 QG :=
 ⟨⟨Try.t111, by kernel_rfl, rfl, rfl, _, rfl, fun _ => rfl⟩, rfl, by decide, rfl, Try.underlying111, rfl, nofun⟩
theorem PF : bH Try.prog 116 QH :=
 ⟨⟨Try.t116, by kernel_rfl, rfl, rfl, _, rfl, fun _ => rfl⟩, rfl, by decide, rfl, Try.underlying116, rfl, fun ks h => fJ (d := 12) (by decide) (by cases h; kernel_rfl) Try.eqGuardType116 (by rw [Try.underlying116])⟩
theorem PG : bH Try.prog 119 QI :=
 ⟨⟨Try.t119, by kernel_rfl, rfl, rfl, _, rfl, fun _ => rfl⟩, rfl, by decide, rfl, ⟨_, _, _, Try.underlying119⟩, rfl, nofun⟩
theorem PH : bH Try.prog 121 QJ :=
 ⟨⟨Try.t121, by kernel_rfl, rfl, rfl, _, rfl, fun _ => rfl⟩, rfl, by decide, rfl, Try.underlying121, rfl, fun ks h => fJ (d := 12) (by decide) (by cases h; kernel_rfl) Try.eqGuardType121 (by rw [Try.underlying121])⟩
theorem PI : bH Try.prog 122 QK :=
 ⟨⟨Try.t122, by kernel_rfl, rfl, rfl, _, rfl, fun _ => rfl⟩, rfl, by decide, rfl, ⟨_, _, _, Try.underlying122⟩, rfl, nofun⟩
theorem PJ : bH Try.prog 125 QL :=
 ⟨⟨Try.t125, by kernel_rfl, rfl, rfl, _, rfl, fun _ => rfl⟩, rfl, by decide, rfl, ⟨_, _, _, Try.underlying125⟩, rfl, nofun⟩
theorem PK : bH Try.prog 128 QM :=
 ⟨⟨Try.t128, by kernel_rfl, rfl, rfl, _, rfl, fun _ => rfl⟩, rfl, by decide, rfl, Try.underlying128, rfl, fun ks h => fJ (d := 12) (by decide) (by cases h; kernel_rfl) Try.eqGuardType128 (by rw [Try.underlying128])⟩
theorem PL : bH Try.prog 130 QN :=
 ⟨⟨Try.t130, by kernel_rfl, rfl, rfl, _, rfl, fun _ => rfl⟩, rfl, by decide, rfl, Try.underlying130, rfl, nofun⟩
theorem PM : bH Try.prog 132 QO :=
 ⟨⟨Try.t132, by kernel_rfl, rfl, rfl, _, rfl, fun _ => rfl⟩, rfl, by decide, rfl, ⟨_, _, _, Try.underlying132⟩, rfl, nofun⟩
theorem PN : bH Try.prog 134 QP :=
 ⟨⟨Try.t134, by kernel_rfl, rfl, rfl, _, rfl, fun _ => rfl⟩, rfl, by decide, rfl, Try.underlying134, rfl, nofun⟩
theorem PO : bH Try.prog 142 QQ :=
 ⟨⟨Try.t142, by kernel_rfl, rfl, rfl, _, rfl, fun _ => rfl⟩, rfl, by decide, rfl, Try.underlying142, rfl, nofun⟩
theorem PP : bH Try.prog 146 QR :=
 ⟨⟨Try.t146, by kernel_rfl, rfl, rfl, _, rfl, fun _ => rfl⟩, rfl, by decide, rfl, Try.underlying146, rfl, nofun⟩
theorem PQ : bH Try.prog 149 QS :=
 ⟨⟨Try.t149, by kernel_rfl, rfl, rfl, _, rfl, fun _ => rfl⟩, rfl, by decide, rfl, Try.underlying149, rfl, nofun⟩
theorem aJ : aZ Try.prog iQ := fun t i => (aV (aV (aV (aV (aV (aS S2) (aS S3)) (aV (aS S4) (aV (aS S5) (aS S6)))) (aV (aV (aS S7) (aV (aS Rp) (aS Rq))) (aV (aS Rr) (aV (aS Rt) (aS Ru))))) (aV (aV (aV (aS Rv) (aS Rw)) (aV (aS Rx) (aV (aS Ry) (aS Rz)))) (aV (aV (aS RA) (aV (aS RB) (aS RC))) (aV (aS RD) (aV (aS RE) (aS RF)))))) (aV (aV (aV (aV (aS RG) (aS RH)) (aV (aS RK) (aV (aS RL) (aS RM)))) (aV (aV (aS RN) (aV (aS RO) (aS PA))) (aV (aS PB) (aV (aS PC) (aS PD))))) (aV (aV (aV (aS PF) (aV (aS PG) (aS PH))) (aV (aS PI) (aV (aS PJ) (aS PK)))) (aV (aV (aS PL) (aV (aS PM) (aS PN))) (aV (aS PO) (aV (aS PP) (aS PQ)))))))
theorem mixed : Try.prog.follows .mixedOrders = true := by kernel_rfl
theorem bK : nN Try.prog := by
 intro g fn h
 have e : Try.prog.funcs.all (fun fn => !(fn.name == "runtime.NumGoroutine")) = true := by kernel_rfl
 rw [Array.all_eq_true_iff_forall_mem] at e
 have := e fn (Array.mem_of_getElem? h)
 simpa using this
abbrev U2 : Program := Try.prog
def uJ (P : Program) (T : ar) (l : List FuncId) (f : Nat) (c : CH) : Nat → CH
 | 0 => c
 | n + 1 => CH.inl P T l f (uJ P T l f c n) c
theorem ik {P : Program} {T : ar} {l : List FuncId} {f : Nat} {c : CH} (hT : aZ P T) (hm : P.follows .mixedOrders = true) (hN : nN P) (hc : aG P c) : ∀ n, aG P (uJ P T l f c n)
 | 0 => hc
 | n + 1 => CH.Td hT hm hN (ik hT hm hN hc n) hc
def rl {A : Type} (a : A) : Nat → List A → List A
 | 0, l => l
 | n + 1, l => a :: rl a n l
abbrev v8 (a b c d e f g h : Int) (r : LA_) : LA_ := .int .u64 a :: .int .u64 b :: .int .u64 c :: .int .u64 d :: .int .u64 e :: .int .u64 f :: .int .u64 g :: .int .u64 h :: r
abbrev bI (a b c d e f g h : Int) : LA_ := [.int .u64 a, .int .u64 b, .int .u64 c, .int .u64 d, .int .u64 e, .int .u64 f, .int .u64 g, .int .u64 h]
abbrev _root_.Prod.s4 {a0 a1 a2 a3 R : Type} (x : a0 × a1 × a2 × a3 × R) : R := x.2.2.2.2
abbrev _root_.Prod.s8 {a0 a1 a2 a3 a4 a5 a6 a7 R : Type} (x : a0 × a1 × a2 × a3 × a4 × a5 × a6 × a7 × R) : R := x.2.2.2.2.2.2.2.2
abbrev _root_.Prod.s16 {a0 a1 a2 a3 a4 a5 a6 a7 b0 b1 b2 b3 b4 b5 b6 b7 R : Type} (x : a0 × a1 × a2 × a3 × a4 × a5 × a6 × a7 × b0 × b1 × b2 × b3 × b4 × b5 × b6 × b7 × R) : R := x.2.2.2.2.2.2.2.2.2.2.2.2.2.2.2.2
abbrev fE {R : Type} (d : Nat → Int) (r : R) : Int × Int × Int × Int × Int × Int × Int × Int × Int × Int × Int × Int × Int × Int × Int × Int × Int × Int × Int × Int × Int × Int × Int × Int × Int × Int × Int × Int × Int × Int × Int × Int × R := (d 0, d 1, d 2, d 3, d 4, d 5, d 6, d 7, d 8, d 9, d 10, d 11, d 12, d 13, d 14, d 15, d 16, d 17, d 18, d 19, d 20, d 21, d 22, d 23, d 24, d 25, d 26, d 27, d 28, d 29, d 30, d 31, r)
abbrev bg (P : Program) (g : FuncId) (k : Nat) (args : LA_) (ls : List am) (d : FD) (x : d.X) : Prop := mZ P g ∧ cE P g args ⟨k, cS 0 ls⟩ (.ret (d.val x)) ⟨k + (d.aN x).length, cS k (d.aN x)⟩
theorem FD.semA (d : FD) {ch : CH} (hH : aG U2 ch) {g : FuncId} {fn : Func} (hf : Try.prog.funcs[g]? = some fn) {fuel : Nat} {cargs : LA_} {B0 : List (Nat × am)} {x : d.X} (hb : fn.body = some (bu fn)) (hl : bm (bu fn) = [])
  (hS : shP (d.k + d.B.length) [some d.M] (dV d.k d.B) = true)
  (hx : bh iQ ch bD fuel (bu fn) (bG fn.ntmps cargs ⟨d.k, B0⟩) .nil (d.leaf iQ fn.results.toList) = some x) :
  mZ U2 g ∧ cE U2 g cargs ⟨d.k, B0⟩ (.ret (d.val x)) ⟨d.k + (d.aN x).length, cS d.k (d.aN x)⟩ :=
 FD.sem aJ hH mixed bK d hf hb (aK (l := []) hl trivial) hS hx
end Go.Ev
namespace Go.Ev
open Go.Proofs
abbrev E3 := Int × Int × Int × Int × Int × Int × Int × Int
def B2 : CH := CH.none
theorem F5 : aG U2 B2 := CH.aF
def su (a0 : Int) : Option (E3) :=
 (some ((IntKind.wrap .u64 a0), (IntKind.wrap .u64 (aD .i64 a0 63)), (IntKind.wrap .u64 (aD .i64 a0 63)), (IntKind.wrap .u64 (aD .i64 a0 63)), (IntKind.wrap .u64 (aD .i64 a0 63)), (IntKind.wrap .u64 (aD .i64 a0 63)), (IntKind.wrap .u64 (aD .i64 a0 63)), (IntKind.wrap .u64 (aD .i64 a0 63))))
def rN : FD where
 X := E3
 k := 0
 pre := []
 F := fun s => []
 M := .agg (rl (.int .u64) 8 [])
 B := []
 toL := fun x => [.I x.1, .I x.2.1, .I x.2.2.1, .I x.2.2.2.1, .I x.s4.1, .I x.s4.2.1, .I x.s4.2.2.1, .I x.s4.2.2.2]
 ofL := fun ls => match ls with
  | [.I x0, .I x1, .I x2, .I x3, .I x4, .I x5, .I x6, .I x7] => some (x0, x1, x2, x3, x4, x5, x6, x7)
  | _ => none
 au := fun ls x h => by
  split at h
  ·cases h; rfl
  ·cases h
theorem Jb (a0 : Int) (x : E3) (h : su a0 = some x) : bg U2 19 0 [.int .i64 a0] [] rN x :=
 FD.sem (ch := B2) (A := bD) (fn := Try.f19) (c := bu Try.f19) (fuel := 60) aJ F5 mixed bK rN Try.func19 (by kernel_rfl) (aK (l := [aO Try.f19 0]) (by kernel_rfl) ⟨(eh (by kernel_rfl)), trivial⟩)
  (by kernel_rfl) (Eq.trans (by kernel_rfl) h)
def B3 : HK where
 call := fun args σ k => match args with
  | [.int .i64 a0] => Option.bind (su a0) fun y => aC σ 0 (rN.val y) (rN.aN y) k
  | _ => none
 nat := fun args σ k => by
  repeat' split
  all_goals simp only [av, ai, UA, Uz, aC, Uy]
 pure := true
 pok := fun _ args σ r σ' h => by
  split at h
  ·exact bq h (fun y => rfl) (fun y f => rfl)
  ·cases h
theorem JM : aX U2 19 B3 := by
 intro args σ r σ' h
 simp only [B3] at h
 split at h
 ·rename_i a0
  obtain ⟨y, hy, h⟩ := bE_ h
  exact lifted (xs := []) (ls := []) (cargs := [.int .i64 a0]) (bC.of trivial) rfl (Jb a0 y hy) rfl rfl rfl rfl h
 ·cases h
end Go.Ev
