import Derived.Test.YtcgajpdhbanhaaaGreatEvP
import Derived.Test.YtcgajpdhbanhaaaGreatEvN
namespace Go.Ev
set_option linter.unusedVariables false
set_option linter.unusedSimpArgs false
def scX (n : Nat) : ABlk → Bool
  | .cells cs _ _ => scC n cs
  | .iter m _ _ _ => decide (m < n)
  | _ => true
def mkTm (K : Nat) : Nat → List (Option AVal) → List AVal
  | _, [] => []
  | t, some v :: M => v :: mkTm K (t + 1) M
  | t, none :: M => .junk (K + t) :: mkTm K (t + 1) M
def dfOf (tm : List AVal) (D : List (FuncId × List Nat)) : List ADef := D.map fun p => ⟨p.1, p.2.map fun t => tm.getD t (.tup []), []⟩
def canonSt (K : Nat) (M : List (Option AVal)) (B : List (Nat × ABlk)) (D : List (FuncId × List Nat)) : St := ⟨mkTm K 0 M, dfOf (mkTm K 0 M) D, ⟨K + M.length, B⟩⟩
def Cov (n : Nat) (s s' : St) : Prop := n ≤ s'.mem.next ∧ ∀ w0 ρ a w, SRel w0 ρ s a w → ∃ ρ', SRel w0 ρ' s' a w ∧ ∀ i, i < n → ρ' i = ρ i
theorem Cov.refl {n : Nat} {s : St} (h : n ≤ s.mem.next) : Cov n s s := ⟨h, fun _ ρ _ _ hr => ⟨ρ, hr, fun _ _ => rfl⟩⟩
def fits (f : Nat → Nat) (K : Nat) : List (Option AVal) → List AVal → Prop
  | [], [] => True
  | some v :: M, x :: vs => x = rn f v ∧ sc K v = true ∧ fits f K M vs
  | none :: M, _ :: vs => fits f K M vs
  | _, _ => False
structure CovOk (n : Nat) (F : List Nat) (M : List (Option AVal)) (B : List (Nat × ABlk)) (D : List (FuncId × List Nat)) (s : St) : Prop where
  df : s.df = dfOf s.tm D
  tm : fits (fun i => F.getD i 0) F.length M s.tm
  bs : ∀ i b, look B i = some b → i < F.length ∧ s.mem.get (F.getD i 0) = some (rnB (fun i => F.getD i 0) b) ∧ scX F.length b = true
  inj : ∀ i j, i < F.length → j < F.length → F.getD i 0 = F.getD j 0 → i = j
  fix : ∀ i, i < n → F.getD i 0 = i
  nK : n ≤ F.length
theorem mkTm_γ {ρ ρ' : Nat → Loc} {f : Nat → Nat} {K : Nat} (hρ : ∀ i, i < K → ρ' i = ρ (f i)) : ∀ (M : List (Option AVal)) (vs : List AVal) (t : Nat), fits f K M vs →
    (∀ j, j < vs.length → (ρ' (K + t + j)).val = γ ρ (vs.getD j (.tup []))) → γL ρ' (mkTm K t M) = γL ρ vs
  | [], [], t, _, _ => rfl
  | [], _ :: _, t, h, _ => by simp [fits] at h
  | some v :: M, [], t, h, _ => by simp [fits] at h
  | none :: M, [], t, h, _ => by simp [fits] at h
  | some v :: M, x :: vs, t, h, hj => by
    obtain ⟨rfl, h2, h3⟩ := h
    simp only [mkTm, γL, List.cons.injEq]
    refine ⟨?_, mkTm_γ hρ M vs (t + 1) h3 ?_⟩
    · rw [γ_rn]; exact γ_congr hρ v h2
    · intro j hjl
      have := hj (j + 1) (by simp; omega)
      simpa [Nat.add_assoc, Nat.add_comm 1 j] using this
  | none :: M, x :: vs, t, h, hj => by
    have h3 : fits f K M vs := h
    simp only [mkTm, γL, List.cons.injEq]
    refine ⟨?_, mkTm_γ hρ M vs (t + 1) h3 ?_⟩
    · simpa [γ] using hj 0 (by simp)
    · intro j hjl
      have := hj (j + 1) (by simp; omega)
      simpa [Nat.add_assoc, Nat.add_comm 1 j] using this
theorem mkTm_sc {f : Nat → Nat} {K n : Nat} : ∀ (M : List (Option AVal)) (vs : List AVal) (t : Nat), fits f K M vs → K + t + M.length ≤ n → K ≤ n → scL n (mkTm K t M) = true
  | [], _, t, _, _, _ => rfl
  | some v :: M, [], t, h, _, _ => by simp [fits] at h
  | none :: M, [], t, h, _, _ => by simp [fits] at h
  | some v :: M, x :: vs, t, h, hn, hk => by
    obtain ⟨_, h2, h3⟩ := h
    simp only [List.length_cons] at hn
    simp only [mkTm, scL, Bool.and_eq_true]
    exact ⟨sc_mono hk _ h2, mkTm_sc M vs (t + 1) h3 (by omega) hk⟩
  | none :: M, x :: vs, t, h, hn, hk => by
    have h3 : fits f K M vs := h
    simp only [List.length_cons] at hn
    simp only [mkTm, scL, Bool.and_eq_true]
    refine ⟨?_, mkTm_sc M vs (t + 1) h3 (by omega) hk⟩
    simp only [sc, decide_eq_true_eq]; omega
theorem getD_γ {ρ : Nat → Loc} {l : List AVal} (t : Nat) : γ ρ (l.getD t (.tup [])) = (γL ρ l).getD t (γ ρ (.tup [])) := by
  simp only [List.getD_eq_getElem?_getD, γL_get]
  cases l[t]? <;> rfl
theorem getD_sc {n : Nat} {l : List AVal} (h : scL n l = true) (t : Nat) : sc n (l.getD t (.tup [])) = true := by
  rw [List.getD_eq_getElem?_getD]
  cases hx : l[t]? with
  | none => rfl
  | some v => exact (scL_iff _ _).1 h v (List.mem_of_getElem? hx)
theorem dfOf_γ {ρ ρ' : Nat → Loc} {l l' : List AVal} (h : γL ρ' l' = γL ρ l) (D : List (FuncId × List Nat)) : (dfOf l' D).map (γD ρ') = (dfOf l D).map (γD ρ) := by
  simp only [dfOf, List.map_map]
  apply List.map_congr_left
  intro p _
  simp only [Function.comp, γD, γL]
  have : ∀ ts : List Nat, γL ρ' (ts.map fun t => l'.getD t (.tup [])) = γL ρ (ts.map fun t => l.getD t (.tup [])) := by
    intro ts
    induction ts with
    | nil => rfl
    | cons t ts ih => simp only [List.map_cons, γL, ih, getD_γ, h]; simp [γ, γL]
  rw [this]
theorem dfOf_sc {n : Nat} {l : List AVal} (h : scL n l = true) (D : List (FuncId × List Nat)) : ∀ d ∈ dfOf l D, scL n d.cap = true ∧ scL n d.args = true := by
  intro d hd
  simp only [dfOf, List.mem_map] at hd
  obtain ⟨p, _, rfl⟩ := hd
  refine ⟨(scL_iff _ _).2 ?_, rfl⟩
  intro v hv
  simp only [List.mem_map] at hv
  obtain ⟨t, _, rfl⟩ := hv
  exact getD_sc h t
theorem CovOk.cov {n : Nat} {F : List Nat} {M : List (Option AVal)} {B : List (Nat × ABlk)} {D : List (FuncId × List Nat)} {s : St} (h : CovOk n F M B D s) : Cov n s (canonSt F.length M B D) := by
  refine ⟨Nat.le_trans h.nK (by simp [canonSt]), ?_⟩
  intro w0 ρ a w hr
  let ρ' : Nat → Loc := fun i => if i < F.length then ρ (F.getD i 0) else { blk := 0, base := 0, capE := 0, val := γ ρ (s.tm.getD (i - F.length) (.tup [])) }
  have hρ : ∀ i, i < F.length → ρ' i = ρ (F.getD i 0) := fun i hi => by simp only [ρ', if_pos hi]
  have R := hr.rel
  have hsc : ∀ i b, look B i = some b → scB F.length b = true := by
    intro i b hi
    obtain ⟨_, q2, q3⟩ := h.bs i b hi
    have := R.sco _ _ q2
    cases b <;> first | exact q3 | exact this
  have htm : γL ρ' (mkTm F.length 0 M) = γL ρ s.tm := by
    refine mkTm_γ (f := fun i => F.getD i 0) hρ M s.tm 0 h.tm ?_
    intro j hj
    simp only [ρ', Nat.add_zero]
    rw [if_neg (by omega), show F.length + j - F.length = j by omega]
  have hsm : scL (F.length + M.length) (mkTm F.length 0 M) = true := mkTm_sc M s.tm 0 h.tm (by simp) (by simp)
  refine ⟨ρ', ⟨⟨?_, ?_, ?_, ?_, ?_, ?_, R.os, R.tape, R.output, R.size, R.old⟩, ?_, ?_, ?_, ?_⟩, ?_⟩
  · intro i b hi
    have := (h.bs i b hi).1
    simp only [canonSt]; omega
  · intro i b hi
    exact scB_mono (by simp [canonSt]) b (hsc i b hi)
  · intro i b hi
    obtain ⟨q1, q2, q3⟩ := h.bs i b hi
    rw [hρ i q1]
    exact BOk_congr (fun i hi => hρ i hi) rfl b (hsc i b hi) (BOk_rn (R.sco _ _ q2) (R.ok _ _ q2))
  · intro i b hi ha
    obtain ⟨q1, q2, q3⟩ := h.bs i b hi
    rw [hρ i q1]
    exact R.inb _ _ q2 (by rw [rnB_alive]; exact ha)
  · intro i j bi bj hi hj hij hoi haj
    obtain ⟨q1, q2, q3⟩ := h.bs i bi hi
    obtain ⟨p1, p2, p3⟩ := h.bs j bj hj
    rw [hρ i q1, hρ j p1]
    exact R.ap _ _ _ _ q2 p2 (fun e => hij (h.inj i j q1 p1 e)) (by rw [rnB_owned]; exact hoi) (by rw [rnB_alive]; exact haj)
  · intro i b hi ho
    obtain ⟨q1, q2, q3⟩ := h.bs i b hi
    rw [hρ i q1]
    exact R.own _ _ q2 (by rw [rnB_owned]; exact ho)
  · rw [hr.tm]; exact congrArg List.toArray htm.symm
  · exact hsm
  · rw [hr.df, h.df]; exact (dfOf_γ htm D).symm
  · exact dfOf_sc hsm D
  · intro i hi
    rw [hρ i (Nat.lt_of_lt_of_le hi h.nK), h.fix i hi]
def AWPn (P : Program) (n : Nat) (c : Code) (s : St) (Φ : AOut → St → Prop) : Prop :=
  n ≤ s.mem.next → ∀ w0 ρ a w, SRel w0 ρ s a w → c.wp P (fun e a' w' => ∃ o s', Φ o s' ∧ After w0 ρ n o s' e a' w') a w
section
variable {P : Program} {T : TTab} {H : Hooks} {n : Nat} {s : St}
theorem After.less {w0 : W0} {ρ : Nat → Loc} {n m : Nat} {o : AOut} {s' : St} {e : Exit} {a' : Act} {w' : World} (h : After w0 ρ m o s' e a' w') (hn : n ≤ m) : After w0 ρ n o s' e a' w' := by
  obtain ⟨ρ', h1, h2, h3, h4, h5⟩ := h.out
  exact ⟨ρ', h1, h2, fun i hi => h3 i (by omega), by omega, h5⟩
theorem After.step {w0 : W0} {ρ ρ1 : Nat → Loc} {n : Nat} {o : AOut} {s' : St} {e : Exit} {a' : Act} {w' : World} (he : ∀ i, i < n → ρ1 i = ρ i) (h : After w0 ρ1 n o s' e a' w') : After w0 ρ n o s' e a' w' := by
  obtain ⟨ρ', h1, h2, h3, h4, h5⟩ := h.out
  exact ⟨ρ', h1, h2, fun i hi => (h3 i hi).trans (he i hi), h4, h5⟩
theorem AWP.to_n {c : Code} {Φ : AOut → St → Prop} (h : AWP P c s Φ) : AWPn P n c s Φ :=
  fun hn w0 ρ a w hr => wp_mono (h w0 ρ a w hr) fun _ _ _ ⟨o, s', h1, h2⟩ => ⟨o, s', h1, h2.less hn⟩
theorem AWPn.to_awp {c : Code} {Φ : AOut → St → Prop} (h : AWPn P s.mem.next c s Φ) : AWP P c s Φ := h (Nat.le_refl _)
theorem AWPn.mono {c : Code} {Φ Ψ : AOut → St → Prop} (h : AWPn P n c s Φ) (hm : ∀ o s', Φ o s' → Ψ o s') : AWPn P n c s Ψ :=
  fun hn w0 ρ a w hr => wp_mono (h hn w0 ρ a w hr) fun _ _ _ ⟨o, s', h1, h2⟩ => ⟨o, s', hm o s' h1, h2⟩
theorem awpn_cov {c : Code} {s' : St} {Φ : AOut → St → Prop} (hc : Cov n s s') (h : AWPn P n c s' Φ) : AWPn P n c s Φ := by
  intro _ w0 ρ a w hr
  obtain ⟨ρ', h1, h2⟩ := hc.2 w0 ρ a w hr
  exact wp_mono (h hc.1 w0 ρ' a w h1) fun _ _ _ ⟨o, s'', q1, q2⟩ => ⟨o, s'', q1, q2.step h2⟩
theorem awpn_post {c : Code} {Φ : AOut → St → Prop} (h : AWPn P n c s fun o s' => (∀ v, o = .pan v → sc 0 v = true) ∧ ∃ s'', Cov n s' s'' ∧ Φ o s'') : AWPn P n c s Φ := by
  intro hn w0 ρ a w hr
  refine wp_mono (h hn w0 ρ a w hr) ?_
  rintro e a' w' ⟨o, s', ⟨hp, s'', h1, h1'⟩, ⟨ρ', rfl, h2, h3, h4, h5⟩⟩
  obtain ⟨ρ2, k1, k2⟩ := h1.2 w0 ρ' a' w' h2
  refine ⟨o, s'', h1', ⟨ρ2, ?_, k1, fun i hi => (k2 i hi).trans (h3 i hi), h1.1, fun v hv => sc_mono (Nat.zero_le _) v (hp v hv)⟩⟩
  cases o with
  | pan v => simp only [exitOf, γ_congr (ρ := ρ') (ρ' := ρ2) (n := 0) (fun i hi => by omega) v (hp v rfl)]
  | _ => rfl
theorem awpn_seq {x y : Code} {Φ : AOut → St → Prop} (h : AWPn P n x s (AOut.andThen (fun s' => AWPn P n y s' Φ) Φ)) : AWPn P n (.seq x y) s Φ := by
  intro hn w0 ρ a w hr
  refine wp_seq (wp_mono (h hn w0 ρ a w hr) ?_)
  rintro e a' w' ⟨o, s', h1, ⟨ρ', rfl, h2, h3, h4, h5⟩⟩
  cases o with
  | normal => exact wp_mono (h1 h4 w0 ρ' a' w' h2) fun _ _ _ ⟨o, s'', q1, q2⟩ => ⟨o, s'', q1, q2.step h3⟩
  | exit id => exact ⟨.exit id, s', h1, ⟨ρ', rfl, h2, h3, h4, h5⟩⟩
  | goto id => exact ⟨.goto id, s', h1, ⟨ρ', rfl, h2, h3, h4, h5⟩⟩
  | ret => exact ⟨.ret, s', h1, ⟨ρ', rfl, h2, h3, h4, h5⟩⟩
  | pan v => exact ⟨.pan v, s', h1, ⟨ρ', rfl, h2, h3, h4, h5⟩⟩
theorem awpn_cond {c : Operand} {x y : Code} {b : Bool} {Φ : AOut → St → Prop} (hc : ev s.tm c = some (.bool b)) (h : AWPn P n (if b then x else y) s Φ) : AWPn P n (.cond c x y) s Φ :=
  fun hn w0 ρ a w hr => wp_cond (t := b) (by have := (ev_γ hr.tm hr.sct hc).1; simpa only [γ] using this) (h hn w0 ρ a w hr)
theorem awpn_block {id : Nat} {c : Code} {Φ : AOut → St → Prop} (h : AWPn P n c s (AOut.inBlock id Φ)) : AWPn P n (.block id c) s Φ := by
  intro hn w0 ρ a w hr
  refine wp_block (wp_mono (h hn w0 ρ a w hr) ?_)
  rintro e a' w' ⟨o, s', h1, ⟨ρ', rfl, h2, h3, h4, h5⟩⟩
  cases o with
  | normal => exact ⟨.normal, s', h1, ⟨ρ', rfl, h2, h3, h4, h5⟩⟩
  | exit id' =>
    simp only [AOut.inBlock] at h1
    simp only [exitOf, Exit.inBlock]
    split
    · rename_i hid
      rw [if_pos hid] at h1
      exact ⟨.normal, s', h1, ⟨ρ', rfl, h2, h3, h4, by simp⟩⟩
    · rename_i hid
      rw [if_neg hid] at h1
      exact ⟨.exit id', s', h1, ⟨ρ', rfl, h2, h3, h4, by simp⟩⟩
  | goto id => exact ⟨.goto id, s', h1, ⟨ρ', rfl, h2, h3, h4, h5⟩⟩
  | ret => exact ⟨.ret, s', h1, ⟨ρ', rfl, h2, h3, h4, h5⟩⟩
  | pan v => exact ⟨.pan v, s', h1, ⟨ρ', rfl, h2, h3, h4, h5⟩⟩
end
end Go.Ev

