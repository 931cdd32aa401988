import Derived.Test.YtcgajpdhbanhaaaGreatEvZ
namespace Go.Ev
abbrev Told := AVal × Mem
def eqT (x y : Told) : Bool := aeq x.1 y.1 && Nat.beq x.2.next y.2.next && eqBs x.2.bs y.2.bs
theorem eqT_eq {x y : Told} (h : eqT x y = true) : x = y := by
  obtain ⟨a, n, b⟩ := x
  obtain ⟨c, m, d⟩ := y
  simp only [eqT, Bool.and_eq_true] at h
  rw [aeq_eq _ _ h.1.1, Nat.eq_of_beq_eq_true h.1.2, eqBs_eq h.2]
def allSame {X : Type} (eq : X → X → Bool) : List (Option X) → Option X
  | [] => none
  | [x] => x
  | some x :: r => match allSame eq r with
    | some y => cond (eq x y) (some x) none
    | none => none
  | none :: _ => none
theorem allSame_mem {X : Type} {eq : X → X → Bool} (he : ∀ {x y}, eq x y = true → x = y) : ∀ {l : List (Option X)} {x : X}, allSame eq l = some x → ∀ y ∈ l, y = some x
  | [], _, h, _, _ => by simp [allSame] at h
  | [a], x, h, y, hy => by
    simp only [allSame] at h
    simp only [List.mem_singleton] at hy
    rw [hy, h]
  | none :: _ :: _, _, h, _, _ => by simp [allSame] at h
  | some a :: b :: r, x, h, y, hy => by
    simp only [allSame] at h
    split at h
    · rename_i z hz
      cases e : eq a z with
      | false => rw [e] at h; cases h
      | true =>
        rw [e] at h
        obtain rfl : a = x := by simpa using h
        obtain rfl := he e
        rcases List.mem_cons.1 hy with rfl | hy
        · rfl
        · exact allSame_mem he hz y hy
    · cases h
def nextOp : List Oper → Option (Operand × Oper × List Oper)
  | o :: l => match o.op, o.guard with
    | .next x false, none => some (x, o, l)
    | _, _ => none
  | [] => none
theorem nextOp_eq {l : List Oper} {x : Operand} {o : Oper} {r : List Oper} (h : nextOp l = some (x, o, r)) : l = o :: r ∧ o.op = .next x false ∧ o.guard = none := by
  cases l with
  | nil => cases h
  | cons a l =>
    simp only [nextOp] at h
    split at h
    · rename_i h1 h2
      simp only [Option.some.injEq, Prod.mk.injEq] at h
      obtain ⟨rfl, rfl, rfl⟩ := h
      exact ⟨rfl, h1, h2⟩
    · cases h
noncomputable def evalN {X : Type} (eq : X → X → Bool) (T : TTab) (ch : CH) : Nat → Code → St → (AOut → St → Option X) → Option X
  | 0, _, _, _ => none
  | n + 1, c, s, K =>
    match c with
    | .seq a b => evalN eq T ch n a s fun o s' => match o with
      | .normal => evalN eq T ch n b s' K
      | o => K o s'
    | .cond c a b => match ev s.tm c with
      | some (.bool true) => evalN eq T ch n a s K
      | some (.bool false) => evalN eq T ch n b s K
      | _ => none
    | .block id b => evalN eq T ch n b s fun o s' => match o with
      | .exit i => if i = id then K .normal s' else K (.exit i) s'
      | o => K o s'
    | .loop b => evalN eq T ch n b s fun o s' => match o with
      | .normal => evalN eq T ch n (.loop b) s' K
      | o => K o s'
    | .scope b => evalN eq T ch n b s fun o s' => match o with
      | .goto _ => none
      | o => K o s'
    | .region _ ops false => match nextOp ops.toList with
      | some (x, o, l) => match ev s.tm x with
        | some v => match iterA s.mem v with
          | some (i, m, since, seen, es, clock) =>
            let go : St → Option X := fun s1 => runK T ch ops.toList l s1 .nil (fun s' w => cond (owB w) (K .normal s') none) (fun v s' w => cond (owB w) (K (.pan v) s') none)
            match leftA es seen with
            | [] => go ⟨setD s.tm o.dst (.tup [.bool false]), s.df, s.mem⟩
            | ls => allSame eq (ls.map fun e => go ⟨setD s.tm o.dst (.tup [.bool true, e.1, e.2.1]), s.df, s.mem.set i (.iter m since (seen ++ [e.2.2]) clock)⟩)
          | none => none
        | none => none
      | none => runK T ch ops.toList ops.toList s .nil (fun s' w => cond (owB w) (K .normal s') none) (fun v s' w => cond (owB w) (K (.pan v) s') none)
    | .region _ ops true => drawK T ch ops.toList s .nil (fun s' w => cond (owB w) (K .normal s') none) (fun v s' w => cond (owB w) (K (.pan v) s') none)
    | .skip => K .normal s
    | .label _ => K .normal s
    | .exit id => K (.exit id) s
    | .goto l => K (.goto l) s
    | .ret => K .ret s
    | _ => none
theorem cond_some {R : Type} {c : Bool} {x : Option R} {r : R} (h : cond c x none = some r) : c = true ∧ x = some r := by
  cases c with
  | true => exact ⟨rfl, h⟩
  | false => cases h
section
variable {P : Program} {T : TTab} {ch : CH} {k : Nat} {X : Type} {eq : X → X → Bool}
theorem runs_of {ops : Array Oper} {l pre : List Oper} {K : AOut → St → Option X} {x : X} {s : St} (hT : TabOk P T) (hH : CHOk P ch) (he : ops.toList = pre ++ l)
    (h : runK T ch ops.toList l s .nil (fun s' w => cond (owB w) (K .normal s') none) (fun v s' w => cond (owB w) (K (.pan v) s') none) = some x)
    {w0 : W0} {ρ : Nat → Loc} {a : Act} {w : World} (hr : SRel w0 ρ s a w) (hk : k ≤ s.mem.next) :
    wpOps P ops (fun e a' w' => ∃ o s', K o s' = some x ∧ After w0 ρ k o s' e a' w') (List.range' pre.length l.length) a w := by
  rcases runK_spec h with ⟨s', ow', h1, h2, h3⟩ | ⟨v, s', ow', h1, h2, h3⟩
  · obtain ⟨q1, q2⟩ := cond_some h1
    exact runOps_wp hT hH.1 l pre ρ s a w _ he hr (h3 (owB_ok q1)) fun ρ' a' w' h' e' l' => ⟨.normal, s', q2, ⟨ρ', rfl, h', fun i hi => e' i (by omega), by omega, by simp⟩⟩
  · obtain ⟨q1, q2⟩ := cond_some h1
    exact runOps_wp hT hH.1 l pre ρ s a w _ he hr (h3 (owB_ok q1)) fun ρ' a' w' h' e' l' hv => ⟨.pan v, s', q2, ⟨ρ', rfl, h', fun i hi => e' i (by omega), by omega, by simpa using hv⟩⟩
theorem rounds_mono {b : Code} {Q Q' : Exit → Act → World → Prop} (hQ : ∀ e a w, Q e a w → Q' e a w) : ∀ (m : Nat) {a : Act} {w : World}, Code.rounds P b Q m a w → Code.rounds P b Q' m a w
  | 0, _, _, h => h
  | m + 1, a, w, h => by
    rw [rounds_succ] at h ⊢
    refine wp_mono h fun e a' w' q => ?_
    cases e with
    | normal => exact rounds_mono hQ m q
    | _ => exact hQ _ _ _ q
theorem evalN_sound (hT : TabOk P T) (hH : CHOk P ch) (hm : P.follows .mixedOrders = true) (heq : ∀ {x y}, eq x y = true → x = y) :
    ∀ (n : Nat) (c : Code) (s : St) (K : AOut → St → Option X) (x : X), evalN eq T ch n c s K = some x → AWPn P k c s fun o s' => K o s' = some x := by
  intro n
  induction n using Nat.strongRecOn with
  | _ n ih =>
    cases n with
    | zero => intro c s K x h; simp [evalN] at h
    | succ n =>
      intro c s K x h
      cases c with
      | skip => exact (awp_skip (by simpa only [evalN] using h)).to_n
      | label l => exact (awp_label (by simpa only [evalN] using h)).to_n
      | exit l => exact (awp_exit (by simpa only [evalN] using h)).to_n
      | goto l => exact (awp_goto (by simpa only [evalN] using h)).to_n
      | ret => exact (awp_ret (by simpa only [evalN] using h)).to_n
      | seq a b =>
        simp only [evalN] at h
        refine awpn_seq ((ih n (Nat.lt_succ_self n) a s _ x h).mono fun o s' q => ?_)
        cases o with
        | normal => exact ih n (Nat.lt_succ_self n) b s' K x q
        | exit i => exact q
        | goto i => exact q
        | ret => exact q
        | pan v => exact q
      | cond c a b =>
        simp only [evalN] at h
        split at h
        · rename_i hc; exact awpn_cond hc (ih n (Nat.lt_succ_self n) a s K x h)
        · rename_i hc; exact awpn_cond hc (ih n (Nat.lt_succ_self n) b s K x h)
        · cases h
      | block id b =>
        simp only [evalN] at h
        refine awpn_block ((ih n (Nat.lt_succ_self n) b s _ x h).mono fun o s' q => ?_)
        cases o with
        | exit i =>
          simp only [AOut.inBlock] at q ⊢
          split at q
          · rename_i e; rw [if_pos e]; exact q
          · rename_i e; rw [if_neg e]; exact q
        | normal => exact q
        | goto i => exact q
        | ret => exact q
        | pan v => exact q
      | scope b =>
        simp only [evalN] at h
        refine awpn_scope ((ih n (Nat.lt_succ_self n) b s _ x h).mono fun o s' q => ?_)
        cases o with
        | goto i => cases q
        | exit i => exact ⟨by simp, q⟩
        | normal => exact ⟨by simp, q⟩
        | ret => exact ⟨by simp, q⟩
        | pan v => exact ⟨by simp, q⟩
      | loop b =>
        have key : ∀ (m : Nat), m ≤ n + 1 → ∀ (s : St), evalN eq T ch m (.loop b) s K = some x → k ≤ s.mem.next → ∀ w0 ρ a w, SRel w0 ρ s a w →
            Code.rounds P b (fun e a' w' => ∃ o s', K o s' = some x ∧ After w0 ρ k o s' e a' w') m a w := by
          intro m
          induction m with
          | zero => intro _ s h; simp [evalN] at h
          | succ m ihm =>
            intro hmn s h hn w0 ρ a w hr
            simp only [evalN] at h
            have h1 := ih m (by omega) b s _ x h hn w0 ρ a w hr
            rw [rounds_succ]
            refine wp_mono h1 ?_
            rintro e a' w' ⟨o, s', q, ⟨ρ', rfl, h2, h3, h4, h5⟩⟩
            cases o with
            | normal =>
              refine rounds_mono ?_ m (ihm (by omega) s' q h4 w0 ρ' a' w' h2)
              rintro e a w ⟨o, s', q1, q2⟩
              exact ⟨o, s', q1, q2.step h3⟩
            | exit i => exact ⟨_, s', q, ⟨ρ', rfl, h2, h3, h4, h5⟩⟩
            | goto i => exact ⟨_, s', q, ⟨ρ', rfl, h2, h3, h4, h5⟩⟩
            | ret => exact ⟨_, s', q, ⟨ρ', rfl, h2, h3, h4, h5⟩⟩
            | pan v => exact ⟨_, s', q, ⟨ρ', rfl, h2, h3, h4, h5⟩⟩
        intro hn w0 ρ a w hr
        exact wp_loop_rounds (n + 1) (key (n + 1) (Nat.le_refl _) s h hn w0 ρ a w hr)
      | region id ops d =>
        cases d with
        | true =>
          simp only [evalN] at h
          rcases drawK_spec hH h with ⟨s', ow', h1, h2, hst, h3⟩ | ⟨v, s', ow', m, o, h1, h2, ho, hC, hst, h3⟩
          · obtain ⟨q1, q2⟩ := cond_some h1
            exact (awp_draw hT hH.1 hH.2.2 hm hst (h3 (owB_ok q1)) q2).to_n
          · obtain ⟨q1, q2⟩ := cond_some h1
            obtain ⟨s1, r1, r2⟩ := h3 (owB_ok q1)
            exact (awp_draw_pan hT hH.1 hH.2.2 hm ho hst hC r1 r2 q2).to_n
        | false =>
          simp only [evalN] at h
          intro hn w0 ρ a w hr
          refine wp_region ?_
          split at h
          · rename_i xo o l hno
            obtain ⟨e1, e2, e3⟩ := nextOp_eq hno
            split at h
            · rename_i v hv
              split at h
              · rename_i i m since seen es clock hit
                have E := ev_γ hr.tm hr.sct hv
                rw [List.range_eq_range']
                have hsz : ops.size = l.length + 1 := by rw [← Array.length_toList, e1, List.length_cons]
                rw [hsz, List.range'_succ, wpOps_cons]
                have hi : ops[0]? = some o := by rw [← Array.getElem?_toList, e1]; rfl
                unfold wpOp
                simp only [hi]
                have hg : gj ops.toList o s.tm = false := by simp only [gj, e3]
                have hw : Region.wanted o (yielded ops a.tmps) = true := by
                  rw [hr.tm, wanted_γ hg]; simp only [wantedA, e3]
                rw [hw]
                simp only [if_true]
                refine .inl ?_
                obtain ⟨dst, op, type, pos, after, guard⟩ := o
                simp only at e2 e3
                subst e2 e3
                have fin : ∀ (s1 : St) (a1 : Act) (w1 : World), SRel w0 ρ s1 a1 w1 → s1.mem.next = s.mem.next →
                    runK T ch ops.toList l s1 .nil (fun s' w => cond (owB w) (K .normal s') none) (fun v s' w => cond (owB w) (K (.pan v) s') none) = some x →
                    wpOps P ops (fun e a' w' => ∃ o s', K o s' = some x ∧ After w0 ρ k o s' e a' w') (List.range' 1 l.length) a1 w1 := fun s1 a1 w1 hr1 hs1 hx =>
                  runs_of (pre := [_]) hT hH (by simpa using e1) hx hr1 (by omega)
                rcases next_run (P := P) hr.rel hit type with ⟨q1, q2⟩ | ⟨e, q1, w', q2, q3, q4⟩
                · rw [q1] at h
                  refine wp_val (v := .tup [.bool false]) (ρ' := ρ) (w' := w) ?_ (fin _ _ _ (hr.put (v := .tup [.bool false]) (by simp [sc, scL]) dst) rfl h)
                  simp only [execOp, E.1, Sem.run_bind, q2, Result.andThen_ok, Sem.run_pure]
                · have hx2 : runK T ch ops.toList l ⟨setD s.tm dst (.tup [.bool true, e.1, e.2.1]), s.df, s.mem.set i (.iter m since (seen ++ [e.2.2]) clock)⟩ .nil (fun s' w => cond (owB w) (K .normal s') none) (fun v s' w => cond (owB w) (K (.pan v) s') none) = some x := by
                    split at h
                    · rename_i hl; rw [hl] at q1; cases q1
                    · exact allSame_mem heq h _ (List.mem_map.2 ⟨e, q1, rfl⟩)
                  have hr1 : SRel w0 ρ ⟨s.tm, s.df, s.mem.set i (.iter m since (seen ++ [e.2.2]) clock)⟩ a w' := hr.congr ⟨q3, fun _ _ => rfl, Nat.le_refl _⟩
                  refine wp_val (v := .tup [.bool true, e.1, e.2.1]) (ρ' := ρ) (w' := w') ?_ (fin _ _ _ (hr1.put (v := .tup [.bool true, e.1, e.2.1]) q4 dst) rfl hx2)
                  simp only [execOp, E.1, Sem.run_bind, q2, Result.andThen_ok, Sem.run_pure]
              · cases h
            · cases h
          · have := runs_of (pre := []) (k := k) hT hH (by simp) h hr hn
            rw [List.range_eq_range']
            simpa using this
      | rangeFunc f ps a b => simp [evalN] at h
      | refuse w => simp [evalN] at h
end
mutual
def freshV (n : Nat) : AVal → List Nat
  | .ptr i _ | .slice i _ _ _ _ | .emp i | .map i | .junk i | .vec i => cond (Nat.ble n i) [i] []
  | .func _ a b => freshL n a ++ freshL n b
  | .iface _ v => freshV n v
  | .agg l | .tup l => freshL n l
  | _ => []
def freshL (n : Nat) : List AVal → List Nat
  | [] => []
  | v :: l => freshV n v ++ freshL n l
end
def freshB (n : Nat) : ABlk → List Nat
  | .cells cs _ _ => freshL n cs
  | .iter m _ _ _ => cond (Nat.ble n m) [m] []
  | _ => []
def reach (n : Nat) (σ : Mem) : Nat → List Nat → List Nat → List Nat
  | 0, done, _ => done
  | _ + 1, done, [] => done
  | f + 1, done, i :: todo => cond (done.any (Nat.beq i)) (reach n σ f done todo) (reach n σ f (done ++ [i]) (todo ++ match σ.get i with | some b => freshB n b | none => []))
def idxOf (n : Nat) : List Nat → Nat → Nat → Nat
  | [], _, i => i
  | j :: r, k, i => cond (Nat.beq j i) (n + k) (idxOf n r (k + 1) i)
def upto : Nat → Nat → List Nat
  | 0, _ => []
  | n + 1, i => i :: upto n (i + 1)
def gcChk (n : Nat) (v : AVal) (σ : Mem) (F : List Nat) (inv : Nat → Nat) (B : List (Nat × ABlk)) : Option Told :=
  cond (nodupB F && prefB n 0 F && sc F.length (rn inv v) && aeq (rn (fun i => F.getD i 0) (rn inv v)) v && B.all fun p => Nat.blt p.1 F.length && scX F.length p.2 && scB F.length p.2 && (match σ.get (F.getD p.1 0) with | some b => eqB (rnB (fun i => F.getD i 0) p.2) b | none => false))
    (some (rn inv v, ⟨F.length, B⟩)) none
def gcA (n fuel : Nat) (v : AVal) (σ : Mem) : Option Told :=
  let old := (upto n 0).filterMap fun i => (σ.get i).map fun b => (i, b)
  let js := reach n σ fuel [] (freshV n v ++ old.flatMap fun p => freshB n p.2)
  let inv : Nat → Nat := fun i => cond (Nat.ble n i) (idxOf n js 0 i) i
  gcChk n v σ (upto n 0 ++ js) inv (old.map (fun p => (p.1, rnB inv p.2)) ++ js.filterMap fun j => (σ.get j).map fun b => (inv j, rnB inv b))
section
variable {P : Program}
theorem gcChk_spec {σ0 σ : Mem} {x : Told} {v : AVal} {F : List Nat} {inv : Nat → Nat} {B : List (Nat × ABlk)} (hx : gcChk σ0.next v σ F inv B = some x) :
    x.2.next ≥ σ0.next ∧ ∀ w0 ρ w, ∀ ρ' : Nat → Loc, Post w0 ρ σ0.next ρ' σ w → sc σ.next v = true → ∃ ρ2, γ ρ2 x.1 = γ ρ' v ∧ Post w0 ρ σ0.next ρ2 x.2 w ∧ sc x.2.next x.1 = true := by
  obtain ⟨hc, hx⟩ := cond_some hx
  simp only [Bool.and_eq_true] at hc
  obtain ⟨⟨⟨⟨h1, h2⟩, h3⟩, h4⟩, h5⟩ := hc
  obtain ⟨p1, p2⟩ := prefB_spec h2
  have hall := List.all_eq_true.1 h5
  simp only [Option.some.injEq] at hx
  subst hx
  have hcov : CovOk σ0.next F [some (rn inv v)] B [] ⟨[v], [], σ⟩ := by
    refine ⟨rfl, ⟨(aeq_eq _ _ h4).symm, h3, trivial⟩, ?_, fun i j hi hj e => nodupB_spec h1 i j hi hj e, fun i hi => by rw [p2 i hi]; omega, p1⟩
    intro i b hb
    have := hall _ (look_mem hb)
    simp only [Bool.and_eq_true, Nat.blt_eq] at this
    obtain ⟨⟨⟨q1, q2⟩, q3⟩, q4⟩ := this
    refine ⟨q1, ?_, q2⟩
    show σ.get (F.getD i 0) = _
    split at q4
    · rename_i b2 hb2
      rw [hb2, eqB_eq q4]
    · cases q4
  refine ⟨p1, fun w0 ρ w ρ' k4 k5 => ?_⟩
  have hSR : SRel w0 ρ' ⟨[v], [], σ⟩ { tmps := (γL ρ' [v]).toArray, defers := [] } w :=
    ⟨k4.rel, rfl, by simp only [scL, Bool.and_true]; exact k5, rfl, by simp⟩
  obtain ⟨ρ2, c1, c2⟩ := hcov.cov.2 w0 ρ' _ w hSR
  have e1 : γ ρ2 (rn inv v) = γ ρ' v := by
    have := c1.tm
    simp only [canonSt, mkTm, γL] at this
    have h2 := congrArg Array.toList this
    simp at h2
    exact h2.symm
  have R := c1.rel
  refine ⟨ρ2, e1, ⟨R.weaken (fun i b hb _ => hb) ?_ ?_, fun i hi => (c2 i hi).trans (k4.ext i hi), p1⟩, h3⟩
  · intro i b hb
    have := hall _ (look_mem hb)
    simp only [Bool.and_eq_true, Nat.blt_eq] at this
    exact this.1.1.1
  · intro i b hb
    have := hall _ (look_mem hb)
    simp only [Bool.and_eq_true, Nat.blt_eq] at this
    exact this.1.2
def stillA (σ σ' : Mem) : Bool := Nat.ble σ.next σ'.next && (upto σ.next 0).all fun i => match σ.get i, σ'.get i with
  | some a, some b => eqB a b
  | none, none => true
  | _, _ => false
theorem upto_mem : ∀ {n i j : Nat}, i ≤ j → j < i + n → j ∈ upto n i
  | 0, i, j, h1, h2 => by omega
  | n + 1, i, j, h1, h2 => by
    simp only [upto, List.mem_cons]
    by_cases e : j = i
    · exact .inl e
    · exact .inr (upto_mem (by omega) (by omega))
theorem stillA_ext {σ σ' : Mem} (h : stillA σ σ' = true) : Ext σ σ' := by
  simp only [stillA, Bool.and_eq_true, Nat.ble_eq, List.all_eq_true] at h
  refine ⟨h.1, fun i hi => ?_⟩
  have := h.2 i (upto_mem (Nat.zero_le i) (by omega))
  split at this
  · rename_i a b h1 h2
    rw [h1, h2, eqB_eq this]
  · rename_i h1 h2
    rw [h1, h2]
  · cases this
def isNil {A : Type} : List A → Bool
  | [] => true
  | _ => false
end
end Go.Ev

