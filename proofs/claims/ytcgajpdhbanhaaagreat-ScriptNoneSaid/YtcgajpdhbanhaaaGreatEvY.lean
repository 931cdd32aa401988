import Derived.Test.YtcgajpdhbanhaaaGreatEvX
import Derived.Test.YtcgajpdhbanhaaaGreatEvO
namespace Go.Ev
set_option linter.unusedVariables false
set_option linter.unusedSimpArgs false
structure HK where
  call : {R : Type} → List AVal → Mem → (ARes → Mem → Option R) → Option R
  nat : ∀ {R : Type} (args : List AVal) (σ : Mem) (k : ARes → Mem → Option R), call args σ k = (call args σ fun r σ' => some (r, σ')).bind fun x => k x.1 x.2
  pure : Bool
  pok : pure = true → ∀ args σ r σ', (call args σ fun r σ' => some (r, σ')) = some (r, σ') → σ' = σ ∧ (∃ v, r = .ret v) ∧ ∀ σ2, (call args σ2 fun r σ' => some (r, σ')) = some (r, σ2)
def HKOk (P : Program) (g : FuncId) (h : HK) : Prop :=
  ∀ args σ r σ', (h.call args σ fun r σ' => some (r, σ')) = some (r, σ') → CallOk P g args σ r σ' ∧ Ext σ σ'
def CH.none : CH := ⟨fun _ _ _ _ => Option.none, fun _ _ _ _ => rfl, fun _ => false, fun _ => 2⟩
def CH.add (g : FuncId) (h : HK) (c : CH) : CH where
  call := fun f args σ k => if f = g then h.call args σ fun r σ' => k r σ' .nil else c.call f args σ k
  nat := fun f args σ k => by
    split
    · conv => lhs; rw [h.nat]
      conv => rhs; rw [h.nat, Option.bind_assoc]
      rfl
    · exact c.nat f args σ k
  ext := fun f => if f = g then true else c.ext f
  pf := fun f => if f = g then (cond h.pure 0 2) else c.pf f
section
variable {P : Program} {T : TTab}
theorem CH.none_ok : CHOk P CH.none := by
  refine ⟨?_, ?_, ?_⟩
  · intro f args σ r σ' h
    simp [CH.H, CH.none] at h
  · intro f args σ r σ' _ h
    simp [CH.H, CH.none] at h
  · exact ⟨fun f args σ r σ' _ h => by simp [CH.H, CH.none] at h, fun f args σ r σ' _ h => by simp [CH.H, CH.none] at h⟩
theorem CH.add_ok {g : FuncId} {h : HK} {c : CH} (hh : HKOk P g h) (hc : CHOk P c) : CHOk P (CH.add g h c) := by
  have key : ∀ f args σ r σ', (CH.add g h c).H f args σ = some (r, σ') → (f = g ∧ CallOk P g args σ r σ' ∧ Ext σ σ') ∨ (f ≠ g ∧ c.H f args σ = some (r, σ')) := by
    intro f args σ r σ' hr
    by_cases e : f = g
    · subst e
      refine .inl ⟨rfl, hh args σ r σ' ?_⟩
      simp only [CH.H, CH.add, if_true] at hr
      rw [h.nat] at hr
      cases hx : (h.call args σ fun r σ' => some (r, σ')) with
      | none => rw [hx] at hr; simp at hr
      | some q =>
        rw [hx] at hr
        obtain ⟨q1, q2⟩ := q
        simp only [Option.bind_some] at hr
        rw [if_pos Ow.ok_nil] at hr
        exact hr
    · refine .inr ⟨e, ?_⟩
      simpa only [CH.H, CH.add, if_neg e] using hr
  refine ⟨?_, ?_, ?_⟩
  · intro f args σ r σ' hr
    rcases key f args σ r σ' hr with ⟨rfl, h1, _⟩ | ⟨_, h1⟩
    · exact h1
    · exact hc.1 f args σ r σ' h1
  · intro f args σ r σ' he hr
    rcases key f args σ r σ' hr with ⟨rfl, _, h2⟩ | ⟨h1, h2⟩
    · exact h2
    · refine hc.2.1 f args σ r σ' ?_ h2
      simpa only [CH.add, if_neg h1] using he
  · refine ⟨fun f args σ r σ' he hr => ?_, fun f args σ r σ' he hr => ?_⟩
    · by_cases e : f = g
      · subst e
        have hp : h.pure = true := by
          have he' : cond h.pure 0 2 = 0 := by simpa only [CH.add, if_true] using he
          cases hh : h.pure with
          | true => rfl
          | false => rw [hh] at he'; cases he'
        have hx : (h.call args σ fun r σ' => some (r, σ')) = some (r, σ') := by
          simp only [CH.H, CH.add, if_true] at hr
          rw [h.nat] at hr
          cases hx : (h.call args σ fun r σ' => some (r, σ')) with
          | none => rw [hx] at hr; simp at hr
          | some q =>
            rw [hx] at hr
            obtain ⟨q1, q2⟩ := q
            simp only [Option.bind_some] at hr
            rw [if_pos Ow.ok_nil] at hr
            exact hr
        obtain ⟨h1, h2, h3⟩ := h.pok hp args σ r σ' hx
        refine ⟨h1, h2, fun σ2 => ?_⟩
        simp only [CH.H, CH.add, if_true]
        rw [h.nat, h3 σ2]
        simp only [Option.bind_some]
        rw [if_pos Ow.ok_nil]
      · have hr' : c.H f args σ = some (r, σ') := by simpa only [CH.H, CH.add, if_neg e] using hr
        obtain ⟨h1, h2, h3⟩ := hc.2.2.1 f args σ r σ' (by simpa only [CH.add, if_neg e] using he) hr'
        exact ⟨h1, h2, fun σ2 => by simpa only [CH.H, CH.add, if_neg e] using h3 σ2⟩
    · by_cases e : f = g
      · subst e
        have he' : cond h.pure 0 2 = 1 := by simpa only [CH.add, if_true] using he
        cases hh : h.pure with
        | true => rw [hh] at he'; cases he'
        | false => rw [hh] at he'; cases he'
      · exact hc.2.2.2 f args σ r σ' (by simpa only [CH.add, if_neg e] using he) (by simpa only [CH.H, CH.add, if_neg e] using hr)
def extO (ch : CH) (o : Oper) : Bool :=
  match o.op with
  | .alloc _ | .box .. | .buildSlice .. => true
  | .makeMap _ none => true
  | .panic _ => true
  | .call { callee := .value (.func g), .. } => ch.ext g
  | .call { callee := .value _, .. } => false
  | _ => !isMem ch.pf o
theorem extO_op {ch : CH} {o : Oper} (h : extO ch o = true) (tm : List AVal) : extOp ch o tm = true := by
  unfold extO at h
  unfold extOp
  split at h
  · rename_i e; simp only [e]
  · rename_i e; simp only [e]
  · rename_i e; simp only [e]
  · rename_i e; simp only [e]
  · rename_i e; simp only [e]
  · rename_i g args ats e
    simp only [e, ev]
    exact h
  · cases h
  · rename_i h1 h2 h3 h4 h7 h5 h6
    split
    · rename_i e; exact absurd e (h1 _)
    · rename_i e; exact absurd e (h2 _ _)
    · rename_i e; exact absurd e (h3 _ _ _)
    · rename_i e; exact absurd e (h4 _)
    · rename_i e; exact absurd e (h7 _)
    · rename_i e; exact absurd e (h6 _ _ _)
    · exact h
def extC (ch : CH) : Code → Bool
  | .skip | .label _ | .exit _ | .goto _ | .ret => true
  | .region _ ops _ => ops.toList.all (extO ch)
  | .seq a b | .cond _ a b => extC ch a && extC ch b
  | .block _ b | .loop b | .scope b => extC ch b
  | _ => false
section
variable {T : TTab} {ch : CH}
def OOut.mem : OOut → Mem
  | .go s => s.mem
  | .pan _ s => s.mem
theorem stepOp_ext {P : Program} (hH : CHOk P ch) {all : List Oper} {o : Oper} {s : St} {x : OOut} (h : stepOp T ch.H all o s = some x) (he : extO ch o = true) : Ext s.mem x.mem := by
  have hx : ∀ r σ, aexec T ch.H o.op s.tm s.mem = some (r, σ) → Ext s.mem σ := fun r σ hr => aexec_ext hH hr (extO_op he _)
  unfold stepOp at h
  split at h
  · cases h
  · split at h
    · split at h
      · rename_i hr; cases h; exact hx _ _ hr
      · rename_i hr; cases h; exact hx _ _ hr
      · rename_i hr; cases h; exact hx _ _ hr
      · rename_i hr; cases h; exact hx _ _ hr
      · cases h
    · cases h; exact .refl _
theorem runOps_ext {P : Program} (hH : CHOk P ch) {all : List Oper} : ∀ {l : List Oper} {s : St} {x : OOut}, runOps T ch.H all l s = some x → l.all (extO ch) = true → Ext s.mem x.mem
  | [], s, x, h, _ => by simp only [runOps, Option.some.injEq] at h; subst h; exact .refl _
  | o :: l, s, x, h, he => by
    simp only [List.all_cons, Bool.and_eq_true] at he
    simp only [runOps] at h
    split at h
    · rename_i s' hs
      exact (stepOp_ext hH hs he.1).trans (runOps_ext (s := s') hH h he.2)
    · rename_i y hy
      exact stepOp_ext hH h he.1
theorem trace_ext {P : Program} (hH : CHOk P ch) {all : List Oper} : ∀ {l : List Oper} {s : St} {tr : List (St × AVal)} {e : St}, trace T ch.H all l s = some (tr, e) → l.all (extO ch) = true → Ext s.mem e.mem
  | [], s, tr, e, h, _ => by simp only [trace, Option.some.injEq, Prod.mk.injEq] at h; obtain ⟨_, rfl⟩ := h; exact .refl _
  | o :: l, s, tr, e, h, he => by
    simp only [List.all_cons, Bool.and_eq_true] at he
    simp only [trace] at h
    split at h
    · rename_i v σ hv
      split at h
      · rename_i tr1 e1 hl
        simp only [Option.some.injEq, Prod.mk.injEq] at h
        obtain ⟨_, rfl⟩ := h
        exact (stepV_ext hH hv (by rw [extO_op he.1]; simp)).trans (trace_ext hH (s := ⟨setD s.tm o.dst v, s.df, σ⟩) hl he.2)
      · cases h
    · cases h
theorem evalK_ext {P : Program} (hH : CHOk P ch) : ∀ (n : Nat) {R : Type} (c : Code) (s : St) (ow : Ow) (K : AOut → St → Ow → Option R) (r : R), extC ch c = true → evalK T ch noAnns n c s ow K = some r →
    ∃ o s' ow', K o s' ow' = some r ∧ ow.le ow' ∧ (ow'.ok → Ext s.mem s'.mem) := by
  intro n
  induction n with
  | zero => intro R c s ow K r _ h; simp [evalK] at h
  | succ n ih =>
    intro R c s ow K r he h
    cases c with
    | skip => exact ⟨_, _, _, by simpa only [evalK] using h, .refl _, fun _ => .refl _⟩
    | label l => exact ⟨_, _, _, by simpa only [evalK] using h, .refl _, fun _ => .refl _⟩
    | exit l => exact ⟨_, _, _, by simpa only [evalK] using h, .refl _, fun _ => .refl _⟩
    | goto l => exact ⟨_, _, _, by simpa only [evalK] using h, .refl _, fun _ => .refl _⟩
    | ret => exact ⟨_, _, _, by simpa only [evalK] using h, .refl _, fun _ => .refl _⟩
    | region id ops d =>
      simp only [extC] at he
      cases d with
      | false =>
        simp only [evalK] at h
        rcases runK_spec h with ⟨s', ow', h1, h2, h3⟩ | ⟨v, s', ow', h1, h2, h3⟩
        · exact ⟨_, _, _, h1, h2, fun ho => runOps_ext hH (h3 ho) he⟩
        · exact ⟨_, _, _, h1, h2, fun ho => runOps_ext hH (h3 ho) he⟩
      | true =>
        simp only [evalK] at h
        rcases trK_spec h with ⟨tr, e, ow', h0, h2, h3⟩ | ⟨tr, e, v, σ, ow', h0, h2, oo, h3, h4⟩
        · obtain ⟨_, h1⟩ := need_some h0
          exact ⟨_, _, _, h1, h2.trans (Ow.le_app _ _), fun ho => trace_ext hH (h3 ((Ow.le_app _ _).ok ho)) he⟩
        · obtain ⟨_, h1⟩ := need_some h0
          refine ⟨_, _, _, h1, h2.trans (Ow.le_app _ _), fun ho => ?_⟩
          obtain ⟨q1, q2⟩ := h4 ((Ow.le_app _ _).ok ho)
          have e1 : (ops.toList.take tr.length).all (extO ch) = true := by
            rw [List.all_eq_true] at he ⊢
            exact fun x hx => he x (List.mem_of_mem_take hx)
          exact (trace_ext hH q1 e1).trans (stepOp_ext hH q2 ((List.all_eq_true.1 he) oo (List.mem_of_getElem? h3)))
    | seq a b =>
      simp only [evalK] at h
      simp only [extC, Bool.and_eq_true] at he
      obtain ⟨o, s1, ow1, h1, h2, h3⟩ := ih a s ow _ r he.1 h
      cases o with
      | normal =>
        obtain ⟨o2, s2, ow2, k1, k2, k3⟩ := ih b s1 ow1 K r he.2 h1
        exact ⟨o2, s2, ow2, k1, h2.trans k2, fun ho => (h3 (k2.ok ho)).trans (k3 ho)⟩
      | exit i => exact ⟨_, _, _, h1, h2, h3⟩
      | goto i => exact ⟨_, _, _, h1, h2, h3⟩
      | ret => exact ⟨_, _, _, h1, h2, h3⟩
      | pan v => exact ⟨_, _, _, h1, h2, h3⟩
    | cond c a b =>
      simp only [evalK] at h
      simp only [extC, Bool.and_eq_true] at he
      split at h
      · exact ih a s ow _ r he.1 h
      · exact ih b s ow _ r he.2 h
      · cases h
    | block id b =>
      simp only [evalK] at h
      simp only [extC] at he
      obtain ⟨o, s1, ow1, h1, h2, h3⟩ := ih b s ow _ r he h
      cases o with
      | exit i =>
        simp only at h1
        split at h1
        · exact ⟨_, _, _, h1, h2, h3⟩
        · exact ⟨_, _, _, h1, h2, h3⟩
      | normal => exact ⟨_, _, _, h1, h2, h3⟩
      | goto i => exact ⟨_, _, _, h1, h2, h3⟩
      | ret => exact ⟨_, _, _, h1, h2, h3⟩
      | pan v => exact ⟨_, _, _, h1, h2, h3⟩
    | loop b =>
      simp only [extC] at he
      simp only [evalK, noAnns] at h
      obtain ⟨o, s1, ow1, h1, h2, h3⟩ := ih b s ow _ r he h
      cases o with
      | normal =>
        obtain ⟨o2, s2, ow2, k1, k2, k3⟩ := ih (.loop b) s1 ow1 K r (by simpa only [extC] using he) h1
        exact ⟨o2, s2, ow2, k1, h2.trans k2, fun ho => (h3 (k2.ok ho)).trans (k3 ho)⟩
      | exit i => exact ⟨_, _, _, h1, h2, h3⟩
      | goto i => exact ⟨_, _, _, h1, h2, h3⟩
      | ret => exact ⟨_, _, _, h1, h2, h3⟩
      | pan v => exact ⟨_, _, _, h1, h2, h3⟩
    | scope b =>
      simp only [evalK] at h
      simp only [extC] at he
      obtain ⟨o, s1, ow1, h1, h2, h3⟩ := ih b s ow _ r he h
      cases o with
      | goto i => cases h1
      | normal => exact ⟨_, _, _, h1, h2, h3⟩
      | exit i => exact ⟨_, _, _, h1, h2, h3⟩
      | ret => exact ⟨_, _, _, h1, h2, h3⟩
      | pan v => exact ⟨_, _, _, h1, h2, h3⟩
    | rangeFunc f ps a b => simp [evalK] at h
    | refuse w => simp [evalK] at h
end
noncomputable def CH.inl (P : Program) (T : TTab) (gs : List FuncId) (fuel : Nat) (lo : CH) (c : CH) : CH where
  call := fun g args σ k => if gs.contains g then (match P.funcs[g]? with
    | some fn => match fn.body with
      | some b => evalK T lo noAnns fuel b (initSt fn.ntmps args σ) .nil fun o s ow => match endA T fn.results.toList o s with
        | some (r, σ') => k r σ' ow
        | .none => .none
      | .none => .none
    | .none => .none) else c.call g args σ k
  nat := fun g args σ k => by
    split
    · split
      · split
        · conv => lhs; rw [evalK_nat]
          conv => rhs; rw [evalK_nat, Option.bind_assoc]
          congr 1
          funext q
          obtain ⟨o, s, w⟩ := q
          simp only
          split <;> rfl
        · rfl
      · rfl
    · exact c.nat g args σ k
  ext := fun g => if gs.contains g then (match P.funcs[g]? with
    | some fn => match fn.body with
      | some b => extC lo b
      | .none => false
    | .none => false) else c.ext g
  pf := fun g => if gs.contains g then 2 else c.pf g
theorem CH.inl_ok (hT : TabOk P T) (hm : P.follows .mixedOrders = true) (hN : NoNum P) {gs : List FuncId} {fuel : Nat} {lo c : CH} (hl : CHOk P lo) (hc : CHOk P c) : CHOk P (CH.inl P T gs fuel lo c) := by
  refine ⟨?_, fun g args σ r σ' he hr => ?_, ?_⟩
  rotate_left
  rotate_left
  · refine ⟨fun g args σ r σ' he hr => ?_, fun g args σ r σ' he hr => ?_⟩
    · by_cases e : gs.contains g = true
      · simp only [CH.inl, e, if_true] at he; cases he
      · obtain ⟨h1, h2, h3⟩ := hc.2.2.1 g args σ r σ' (by simpa only [CH.inl, if_neg e] using he) (by simpa only [CH.H, CH.inl, if_neg e] using hr)
        exact ⟨h1, h2, fun σ2 => by simpa only [CH.H, CH.inl, if_neg e] using h3 σ2⟩
    · by_cases e : gs.contains g = true
      · simp only [CH.inl, e, if_true] at he; cases he
      · exact hc.2.2.2 g args σ r σ' (by simpa only [CH.inl, if_neg e] using he) (by simpa only [CH.H, CH.inl, if_neg e] using hr)
  rotate_left
  · by_cases e : gs.contains g = true
    · simp only [CH.inl, e, if_true] at he
      simp only [CH.H, CH.inl, e, if_true] at hr
      cases hf : P.funcs[g]? with
      | none => rw [hf] at he; cases he
      | some fn =>
        rw [hf] at he hr
        simp only at he hr
        cases hb : fn.body with
        | none => rw [hb] at he; cases he
        | some b =>
          rw [hb] at he hr
          simp only at he hr
          split at hr
          · rename_i r1 σ1 ow hx
            split at hr
            · rename_i hok
              simp only [Option.some.injEq, Prod.mk.injEq] at hr
              obtain ⟨rfl, rfl⟩ := hr
              obtain ⟨o, s, w, h1, h2, h3⟩ := evalK_ext hl fuel b _ _ _ _ he hx
              split at h1
              · rename_i r2 σ2 hend
                simp only [Option.some.injEq, Prod.mk.injEq] at h1
                obtain ⟨rfl, rfl, rfl⟩ := h1
                have h4 := h3 hok
                unfold endA at hend
                split at hend
                · split at hend
                  · obtain ⟨v, _, hv⟩ := Option.map_eq_some_iff.1 hend
                    cases hv; exact h4
                  · cases hend
                · split at hend
                  · obtain ⟨v, _, hv⟩ := Option.map_eq_some_iff.1 hend
                    cases hv; exact h4
                  · cases hend
                · split at hend
                  · cases hend; exact h4
                  · cases hend
                · cases hend
              · cases h1
            · cases hr
          · cases hr
    · refine hc.2.1 g args σ r σ' (by simpa only [CH.inl, if_neg e] using he) ?_
      simpa only [CH.H, CH.inl, if_neg e] using hr
  intro g args σ r σ' hr
  by_cases e : gs.contains g = true
  · simp only [CH.H, CH.inl, e, if_true] at hr
    cases hf : P.funcs[g]? with
    | none => rw [hf] at hr; simp at hr
    | some fn =>
      rw [hf] at hr
      simp only at hr
      cases hb : fn.body with
      | none => rw [hb] at hr; simp at hr
      | some b =>
        rw [hb] at hr
        simp only at hr
        split at hr
        · rename_i r1 σ1 ow hx
          split at hr
          · rename_i hok
            simp only [Option.some.injEq, Prod.mk.injEq] at hr
            obtain ⟨rfl, rfl⟩ := hr
            obtain ⟨o, s, w, h1, h2, h3⟩ := evalK_sound (k := σ.next) hT hl hm fuel b _ _ _ _ (fun _ _ la h => by simp [noAnns] at h) hx
            split at h1
            · rename_i r2 σ2 he
              simp only [Option.some.injEq, Prod.mk.injEq] at h1
              obtain ⟨rfl, rfl, rfl⟩ := h1
              refine .inl ⟨⟨fn, hf, hN g fn hf, by rw [hb]; rfl⟩, ?_⟩
              intro w0 ρ w hrr hs
              have key : AWP P b (initSt fn.ntmps args σ) fun o' s' => o' = o ∧ s' = s := AWPn.to_awp (s := initSt fn.ntmps args σ) (h3 hok)
              have := call_of_body (R := fun r3 σ3 => r3 = r2 ∧ σ3 = σ2) hT hf hb (key.mono fun o1 s1 hh => by
                obtain ⟨rfl, rfl⟩ := hh
                exact ⟨r2, σ2, he, rfl, rfl⟩) w0 ρ w hrr hs
              refine this.mono ?_
              rintro e w' ⟨r3, σ3, ρ', ⟨rfl, rfl⟩, k1, k2, k3⟩
              exact ⟨ρ', k1, k2, k3⟩
            · cases h1
          · cases hr
        · cases hr
  · refine hc.1 g args σ r σ' ?_
    simpa only [CH.H, CH.inl, if_neg e] using hr
end
def numB : Nat → List ABlk → List (Nat × ABlk)
  | _, [] => []
  | k, b :: r => (k, b) :: numB (k + 1) r
def numP : Nat → List BPat → List (Nat × BPat)
  | _, [] => []
  | k, b :: r => (k, b) :: numP (k + 1) r
def iBl : List BPat → List Leaf → List ABlk
  | [], _ => []
  | p :: B, r => (iBk p r).1 :: iBl B (iBk p r).2
theorem iB_num : ∀ {k : Nat} {B : List BPat} {r : List Leaf}, (iB (numP k B) r).1 = numB k (iBl B r)
  | k, [], r => rfl
  | k, p :: B, r => by simp only [numP, iB, iBl, numB, iB_num]
theorem iBl_length : ∀ {B : List BPat} {r : List Leaf}, (iBl B r).length = B.length
  | [], r => rfl
  | p :: B, r => by simp [iBl, iBl_length]
structure FD where
  X : Type
  k : Nat
  pre : List (Tmp × Nat)
  F : St → List Nat
  M : Pat
  B : List BPat
  toL : X → List Leaf
  ofL : List Leaf → Option X
  ofL_ok : ∀ ls x, ofL ls = some x → ls = toL x
def FD.val (d : FD) (x : d.X) : AVal := (ip d.M (d.toL x)).1
def FD.blks (d : FD) (x : d.X) : List ABlk := iBl d.B (ip d.M (d.toL x)).2
def finS (T : TTab) (rs : List ResultVar) (pre : List (Tmp × Nat)) (o : AOut) (s : St) : Option St :=
  match o with
  | .normal | .ret => match (vecify pre s).df with
    | [] => (resA T (vecify pre s) rs).map fun v => ⟨[v], [], (vecify pre s).mem⟩
    | _ => none
  | _ => none
def resLK {R : Type} (T : TTab) (s : St) : List ResultVar → (List AVal → Option R) → Option R
  | [], k => k []
  | .tmp t :: r, k => resLK T s r fun vs => k (s.tm.getD t (.tup []) :: vs)
  | .cell a t :: r, k => loadK T s.mem t (s.tm.getD a (.tup [])) fun v => resLK T s r fun vs => k (v :: vs)
theorem resLK_spec {R : Type} {T : TTab} {s : St} : ∀ {rs : List ResultVar} {k : List AVal → Option R} {x : R}, resLK T s rs k = some x → ∃ vs, resL T s rs = some vs ∧ k vs = some x
  | [], k, x, h => ⟨[], rfl, h⟩
  | .tmp t :: r, k, x, h => by
    obtain ⟨vs, h1, h2⟩ := resLK_spec (rs := r) (show resLK T s r _ = some x from h)
    exact ⟨_, by simp only [resL, h1, Option.map_some], h2⟩
  | .cell a t :: r, k, x, h => by
    obtain ⟨v, q1, q2⟩ := loadK_spec (show loadK T s.mem t (s.tm.getD a (.tup [])) _ = some x from h)
    obtain ⟨vs, h1, h2⟩ := resLK_spec (rs := r) q2
    exact ⟨_, by simp only [resL, q1, h1], h2⟩
def resK {R : Type} (T : TTab) (s : St) (rs : List ResultVar) (k : AVal → Option R) : Option R :=
  resLK T s rs fun vs => match vs with
    | [v] => k v
    | vs => k (.tup vs)
theorem resK_spec {R : Type} {T : TTab} {s : St} {rs : List ResultVar} {k : AVal → Option R} {x : R} (h : resK T s rs k = some x) : ∃ v, resA T s rs = some v ∧ k v = some x := by
  obtain ⟨vs, h1, h2⟩ := resLK_spec h
  unfold resA
  rw [h1]
  split at h2
  · exact ⟨_, rfl, h2⟩
  · rename_i hn
    refine ⟨_, ?_, h2⟩
    split
    · rename_i e; cases e; exact absurd rfl (hn _)
    · rename_i e; cases e; rfl
    · rename_i e; cases e
def finK {R : Type} (T : TTab) (rs : List ResultVar) (pre : List (Tmp × Nat)) (o : AOut) (s : St) (k : St → Option R) : Option R :=
  match o with
  | .normal | .ret => match (vecify pre s).df with
    | [] => resK T (vecify pre s) rs fun v => k ⟨[v], [], (vecify pre s).mem⟩
    | _ => none
  | _ => none
theorem finK_spec {R : Type} {T : TTab} {rs : List ResultVar} {pre : List (Tmp × Nat)} {o : AOut} {s : St} {k : St → Option R} {x : R} (h : finK T rs pre o s k = some x) : ∃ s2, finS T rs pre o s = some s2 ∧ k s2 = some x := by
  unfold finK at h
  split at h <;> first | (cases h; done) | skip
  all_goals
    split at h
    · rename_i hd
      obtain ⟨v, h1, h2⟩ := resK_spec h
      exact ⟨_, by simp only [finS, hd, h1, Option.map_some], h2⟩
    · cases h
def FD.leaf (d : FD) (T : TTab) (rs : List ResultVar) (o : AOut) (s : St) (w : Ow) : Option d.X :=
  match owB w with
  | true => finK T rs d.pre o s fun s2 => (mSt d.k (d.k + d.B.length) (d.F s2) [some d.M] (numP d.k d.B) [] s2).bind d.ofL
  | false => none
def recOf : AOut → Option AVal
  | .normal | .ret => some .nili
  | .pan v => some v
  | _ => none
noncomputable def FD.leafD (d : FD) (T : TTab) (rs : List ResultVar) (ch : CH) (fuel : Nat) (gd nt : Nat) (rest : Code) (t3 t2 : Tmp) (o : AOut) (s : St) (w : Ow) : Option d.X :=
  match owB w with
  | true => match s.df with
    | [⟨g, cap, []⟩] => if g = gd then (match recOf o with
      | some r => evalK T ch noAnns fuel rest (recSt nt cap s.mem t3 t2 r) .nil fun o' s2 w' => match owB w' with
        | true => match o', s2.df with
          | .normal, [] => finK T rs [] .ret ⟨s.tm, [], s2.mem⟩ fun s3 => (mSt d.k (d.k + d.B.length) (d.F s3) [some d.M] (numP d.k d.B) [] s3).bind d.ofL
          | .ret, [] => finK T rs [] .ret ⟨s.tm, [], s2.mem⟩ fun s3 => (mSt d.k (d.k + d.B.length) (d.F s3) [some d.M] (numP d.k d.B) [] s3).bind d.ofL
          | _, _ => none
        | false => none
      | none => none) else none
    | [] => finK T rs [] o s fun s3 => (mSt d.k (d.k + d.B.length) (d.F s3) [some d.M] (numP d.k d.B) [] s3).bind d.ofL
    | _ => none
  | false => none
theorem scB_of_X {n m : Nat} {b : ABlk} (h : scB m b = true) (hx : scX n b = true) : scB n b = true := by
  cases b <;> first | exact hx | exact h
theorem numB_len : ∀ {k : Nat} {bs : List ABlk}, ∀ x ∈ numB k bs, k ≤ x.1 ∧ x.1 < k + bs.length ∧ bs[x.1 - k]? = some x.2
  | _, [], x, h => by simp [numB] at h
  | k, b :: r, x, h => by
    simp only [numB, List.mem_cons] at h
    rcases h with rfl | h
    · simp
    · obtain ⟨h1, h2, h3⟩ := numB_len x h
      refine ⟨by omega, by simp; omega, ?_⟩
      rw [show x.1 - k = (x.1 - (k + 1)) + 1 by omega]; simpa using h3
theorem look_numB : ∀ {k : Nat} {bs : List ABlk} {j : Nat} {b : ABlk}, bs[j]? = some b → look (numB k bs) (k + j) = some b
  | k, [], j, b, h => by simp at h
  | k, c :: r, 0, b, h => by simp only [List.getElem?_cons_zero, Option.some.injEq] at h; subst h; simp [numB, look]
  | k, c :: r, j + 1, b, h => by
    simp only [List.getElem?_cons_succ] at h
    have := look_numB (k := k + 1) h
    simp only [numB, look]
    rw [if_neg (by simp)]
    rw [show k + (j + 1) = k + 1 + j by omega]; exact this
section
variable {P : Program} {T : TTab} {ch : CH} {A : Anns}
theorem FD.fin (d : FD) {g : FuncId} {cargs : List AVal} {B0 : List (Nat × ABlk)} {x : d.X} {v : AVal} {σ2 : Mem} (hg : IsFn P g)
    (hS : shP (d.k + d.B.length) [some d.M] (numP d.k d.B) = true)
    (q2 : (mSt d.k (d.k + d.B.length) (d.F ⟨[v], [], σ2⟩) [some d.M] (numP d.k d.B) [] ⟨[v], [], σ2⟩).bind d.ofL = some x)
    (hc : SemCall P g cargs ⟨d.k, B0⟩ (.ret v) σ2) :
    IsFn P g ∧ SemCall P g cargs ⟨d.k, B0⟩ (.ret (d.val x)) ⟨d.k + (d.blks x).length, numB d.k (d.blks x)⟩ := by
  refine ⟨hg, ?_⟩
  obtain ⟨ls, q3, q4⟩ := Option.bind_eq_some_iff.1 q2
  have hls := d.ofL_ok _ _ q4
  subst hls
  have hcov := cov_of_mSt hS q3
  intro w0 ρ w hr hs
  refine (hc w0 ρ w hr hs).mono ?_
  rintro e w' ⟨ρ', k3, k4, k5⟩
  have hSR : SRel w0 ρ' ⟨[v], [], σ2⟩ { tmps := (γL ρ' [v]).toArray, defers := [] } w' :=
    ⟨k4.rel, rfl, by simp only [scL, Bool.and_true]; exact k5, rfl, by simp⟩
  obtain ⟨ρ2, c1, c2⟩ := hcov.2 w0 ρ' _ w' hSR
  have eB : (iB (numP d.k d.B) (iM [some d.M] (d.toL x)).2).1 = numB d.k (d.blks x) := iB_num
  have eM : (iM [some d.M] (d.toL x)).1 = [some (d.val x)] := rfl
  rw [iSt, eB, eM] at c1
  have hlen : (d.blks x).length = d.B.length := iBl_length
  have e1 : γ ρ2 (d.val x) = γ ρ' v := by
    have := c1.tm
    simp only [canonSt, mkTm, γL, List.toArray_inj] at this
    have h2 := congrArg Array.toList this
    simp at h2
    exact h2.symm
  unfold mSt at q3
  split at q3
  · rename_i hf0
    simp only [fOk, Bool.and_eq_true, beq_iff_eq] at hf0
    split at q3
    · rename_i a b ha hb'
      simp only [shP, Bool.and_eq_true] at hS
      obtain ⟨M0, m1, m2⟩ := mM_spec (n := d.k + d.B.length) _ _ a ha hS.1
      obtain ⟨B1, b1, b2⟩ := mB_spec (n := d.k + d.B.length) _ b hb' hS.2
      simp only [Option.some.injEq] at q3
      have f1 : iM [some d.M] (a ++ b) = (M0, b) := m1 b
      have f2 : (iB (numP d.k d.B) b).1 = B1 := by have := b1 []; rw [List.append_nil] at this; rw [this]
      rw [q3] at f1
      have f3 : M0 = [some (d.val x)] := by rw [← eM, f1]
      have f4 : B1 = numB d.k (d.blks x) := by rw [← eB, f1, ← f2]
      subst f3 f4
      have hsv : sc (d.k + d.B.length) (d.val x) = true := m2.2.1
      have hget : ∀ i b, (⟨d.k + (d.blks x).length, numB d.k (d.blks x)⟩ : Mem).get i = some b → (canonSt (d.k + d.B.length) [some (d.val x)] (numB d.k (d.blks x)) []).mem.get i = some b := fun i b h => h
      have R := c1.rel
      refine ⟨ρ2, by rw [k3]; simp only [endOf, e1], ⟨R.weaken (fun i b hb _ => hget i b hb) ?_ ?_, fun i hi => (c2 i hi).trans (k4.ext i hi), by simp⟩, ?_⟩
      · intro i b hb
        show i < d.k + (d.blks x).length
        rw [hlen]
        exact (b2 _ (look_mem hb)).1
      · intro i b hb
        show scB (d.k + (d.blks x).length) b = true
        rw [hlen]
        exact scB_of_X (R.sco i b (hget i b hb)) (b2 _ (look_mem hb)).2.2
      · show sc (d.k + (d.blks x).length) (d.val x) = true
        rw [hlen]; exact hsv
    · cases q3
  · cases q3
theorem FD.sem (hT : TabOk P T) (hH : CHOk P ch) (hm : P.follows .mixedOrders = true) (hN : NoNum P) (d : FD) {g : FuncId} {fn : Func} {c : Code} {fuel : Nat} {cargs : List AVal} {B0 : List (Nat × ABlk)} {x : d.X}
    (hf : P.funcs[g]? = some fn) (hb : fn.body = some c) (hA : ∀ b ∈ loopsOf c, ∀ la, A (regOf b) = some la → LaOk P d.k la b)
    (hS : shP (d.k + d.B.length) [some d.M] (numP d.k d.B) = true)
    (hx : evalK T ch A fuel c (initSt fn.ntmps cargs ⟨d.k, B0⟩) .nil (d.leaf T fn.results.toList) = some x) :
    IsFn P g ∧ SemCall P g cargs ⟨d.k, B0⟩ (.ret (d.val x)) ⟨d.k + (d.blks x).length, numB d.k (d.blks x)⟩ := by
  rw [evalK_nat] at hx
  obtain ⟨⟨o, s, w1⟩, k1, k2⟩ := Option.bind_eq_some_iff.1 hx
  obtain ⟨o2, s2, w2, j1, j2, j3⟩ := evalK_sound (k := d.k) hT hH hm fuel c _ _ _ _ hA k1
  simp only [Option.some.injEq, Prod.mk.injEq] at j1
  obtain ⟨rfl, rfl, rfl⟩ := j1
  simp only [FD.leaf] at k2
  split at k2
  · rename_i how
    have hAW := j3 (owB_ok how)
    obtain ⟨s3, q1, q2⟩ := finK_spec k2
    have hfin : (o2 = .normal ∨ o2 = .ret) ∧ (vecify d.pre s2).df = [] ∧ ∃ v, resA T (vecify d.pre s2) fn.results.toList = some v ∧ s3 = ⟨[v], [], (vecify d.pre s2).mem⟩ := by
      unfold finS at q1
      cases o2 with
      | normal =>
        simp only at q1
        split at q1
        · rename_i hd
          obtain ⟨v, hv, rfl⟩ := Option.map_eq_some_iff.1 q1
          exact ⟨.inl rfl, hd, v, hv, rfl⟩
        · cases q1
      | ret =>
        simp only at q1
        split at q1
        · rename_i hd
          obtain ⟨v, hv, rfl⟩ := Option.map_eq_some_iff.1 q1
          exact ⟨.inr rfl, hd, v, hv, rfl⟩
        · cases q1
      | exit i => cases q1
      | goto i => cases q1
      | pan v => cases q1
    obtain ⟨ho, hdf, v, hres, rfl⟩ := hfin
    refine d.fin ⟨fn, hf, hN g fn hf, by rw [hb]; rfl⟩ hS q2 ?_
    intro w0 ρ w hr hs
    have key : AWP P c (initSt fn.ntmps cargs ⟨d.k, B0⟩) fun o' s' => o' = o2 ∧ s' = vecify d.pre s2 := by
      refine AWPn.to_awp (s := initSt fn.ntmps cargs ⟨d.k, B0⟩) (awpn_post ?_)
      intro hn w0 ρ a w hr
      refine wp_mono (hAW hn w0 ρ a w hr) ?_
      rintro e' a' w' ⟨o3, s3, ⟨h1, h2⟩, hq⟩
      subst h1 h2
      obtain ⟨ρ', r1, r2, r3, r4, r5⟩ := hq
      refine ⟨_, _, ⟨?_, _, vecify_cov r4, rfl, rfl⟩, ⟨ρ', r1, r2, r3, r4, r5⟩⟩
      rintro v rfl
      rcases ho with h | h <;> cases h
    have := call_of_body (R := fun r3 σ3 => r3 = .ret v ∧ σ3 = (vecify d.pre s2).mem) hT hf hb (key.mono fun o1 s1 hh => by
      obtain ⟨rfl, rfl⟩ := hh
      refine ⟨.ret v, (vecify d.pre s2).mem, ?_, rfl, rfl⟩
      rcases ho with rfl | rfl <;> simp [endA, hdf, hres]) w0 ρ w hr hs
    refine this.mono ?_
    rintro e w' ⟨r3, σ3, ρ', ⟨rfl, rfl⟩, k3, k4, k5⟩
    exact ⟨ρ', k3, k4, k5⟩
  · cases k2
theorem FD.semD (hT : TabOk P T) (hH : CHOk P ch) (hm : P.follows .mixedOrders = true) (hN : NoNum P) (d : FD) {g : FuncId} {fn : Func} {c : Code} {fuel : Nat} {cargs : List AVal} {B0 : List (Nat × ABlk)} {x : d.X}
    (hf : P.funcs[g]? = some fn) (hb : fn.body = some c) (hA : ∀ b ∈ loopsOf c, ∀ la, A (regOf b) = some la → LaOk P d.k la b)
    (hS : shP (d.k + d.B.length) [some d.M] (numP d.k d.B) = true)
    {gd : FuncId} {fd : Func} {id : Nat} {ops : Array Oper} {o0 o1 : Oper} {rest : Code} {t3 t2 : Tmp} (hk : RecOk P gd fd id ops o0 o1 rest t3 t2) (hl : loopsOf rest = [])
    (hx : evalK T ch A fuel c (initSt fn.ntmps cargs ⟨d.k, B0⟩) .nil (d.leafD T fn.results.toList ch fuel gd fd.ntmps rest t3 t2) = some x) :
    IsFn P g ∧ SemCall P g cargs ⟨d.k, B0⟩ (.ret (d.val x)) ⟨d.k + (d.blks x).length, numB d.k (d.blks x)⟩ := by
  rw [evalK_nat] at hx
  obtain ⟨⟨o, s, w1⟩, k1, k2⟩ := Option.bind_eq_some_iff.1 hx
  obtain ⟨o2, s2, w2, j1, j2, j3⟩ := evalK_sound (k := d.k) hT hH hm fuel c _ _ _ _ hA k1
  simp only [Option.some.injEq, Prod.mk.injEq] at j1
  obtain ⟨rfl, rfl, rfl⟩ := j1
  simp only [FD.leafD] at k2
  split at k2
  rotate_left
  · cases k2
  rename_i how
  have hAW := j3 (owB_ok how)
  split at k2
  rotate_left
  · rename_i hdf
    obtain ⟨s4, q1, q2⟩ := finK_spec k2
    have hend : (o2 = .normal ∨ o2 = .ret) ∧ ∃ v, resA T s2 fn.results.toList = some v ∧ (mSt d.k (d.k + d.B.length) (d.F ⟨[v], [], s2.mem⟩) [some d.M] (numP d.k d.B) [] ⟨[v], [], s2.mem⟩).bind d.ofL = some x := by
      unfold finS at q1
      split at q1
      · simp only [vecify, hdf] at q1
        obtain ⟨v, hv, rfl⟩ := Option.map_eq_some_iff.1 q1
        exact ⟨.inl rfl, v, hv, q2⟩
      · simp only [vecify, hdf] at q1
        obtain ⟨v, hv, rfl⟩ := Option.map_eq_some_iff.1 q1
        exact ⟨.inr rfl, v, hv, q2⟩
      · cases q1
    obtain ⟨ho, v, hres, q2⟩ := hend
    refine d.fin ⟨fn, hf, hN g fn hf, by rw [hb]; rfl⟩ hS q2 ?_
    intro w0 ρ w hr hs
    have key : AWP P c (initSt fn.ntmps cargs ⟨d.k, B0⟩) fun o1 s1 => o1 = o2 ∧ s1 = s2 := AWPn.to_awp (s := initSt fn.ntmps cargs ⟨d.k, B0⟩) hAW
    have := call_of_body_defer (R := fun v3 σ3 => v3 = v ∧ σ3 = s2.mem) hT hf hb hk (key.mono fun o1 s1 hh => by
      obtain ⟨rfl, rfl⟩ := hh
      exact .inl ⟨hdf, ho, v, hres, rfl, rfl⟩) w0 ρ w hr hs
    refine this.mono ?_
    rintro e w' ⟨v3, σ3, ρ', ⟨rfl, rfl⟩, k3, k4, k5⟩
    exact ⟨ρ', k3, k4, k5⟩
  · cases k2
  rename_i g' cap hdf
  split at k2
  rotate_left
  · cases k2
  rename_i hgd
  subst hgd
  split at k2
  rotate_left
  · cases k2
  rename_i r hrec
  rw [evalK_nat] at k2
  obtain ⟨⟨o', s', w'⟩, k3, k4⟩ := Option.bind_eq_some_iff.1 k2
  obtain ⟨o3, s3, w3, j4, j5, j6⟩ := evalK_sound (k := (recSt fd.ntmps cap s2.mem t3 t2 r).mem.next) hT hH hm fuel rest _ _ _ _ (fun b hb => by rw [hl] at hb; cases hb) k3
  simp only [Option.some.injEq, Prod.mk.injEq] at j4
  obtain ⟨rfl, rfl, rfl⟩ := j4
  simp only at k4
  split at k4
  rotate_left
  · cases k4
  rename_i how3
  have hAR := j6 (owB_ok how3)
  have hend : (o3 = .normal ∨ o3 = .ret) ∧ s3.df = [] ∧ ∃ v, resA T ⟨s2.tm, [], s3.mem⟩ fn.results.toList = some v ∧ (mSt d.k (d.k + d.B.length) (d.F ⟨[v], [], s3.mem⟩) [some d.M] (numP d.k d.B) [] ⟨[v], [], s3.mem⟩).bind d.ofL = some x := by
    split at k4
    · rename_i hd
      obtain ⟨s4, q1, q2⟩ := finK_spec k4
      simp only [finS, vecify] at q1
      obtain ⟨v, hv, rfl⟩ := Option.map_eq_some_iff.1 q1
      exact ⟨.inl rfl, hd, v, hv, q2⟩
    · rename_i hd
      obtain ⟨s4, q1, q2⟩ := finK_spec k4
      simp only [finS, vecify] at q1
      obtain ⟨v, hv, rfl⟩ := Option.map_eq_some_iff.1 q1
      exact ⟨.inr rfl, hd, v, hv, q2⟩
    · cases k4
  obtain ⟨ho3, hd3, v, hres, q2⟩ := hend
  refine d.fin ⟨fn, hf, hN g fn hf, by rw [hb]; rfl⟩ hS q2 ?_
  intro w0 ρ w hr hs
  have key : AWP P c (initSt fn.ntmps cargs ⟨d.k, B0⟩) fun o1 s1 => o1 = o2 ∧ s1 = s2 := AWPn.to_awp (s := initSt fn.ntmps cargs ⟨d.k, B0⟩) hAW
  have := call_of_body_defer (R := fun v3 σ3 => v3 = v ∧ σ3 = s3.mem) hT hf hb hk (key.mono fun o1 s1 hh => by
    obtain ⟨rfl, rfl⟩ := hh
    refine .inr ⟨cap, r, hdf, ?_, (AWPn.to_awp hAR).mono fun o5 s5 h5 => ?_⟩
    · cases o1 <;> simp only [recOf, Option.some.injEq, reduceCtorEq] at hrec
      · exact .inl ⟨.inl rfl, hrec.symm⟩
      · exact .inl ⟨.inr rfl, hrec.symm⟩
      · exact .inr (by rw [hrec])
    · obtain ⟨rfl, rfl⟩ := h5
      exact ⟨ho3, hd3, v, hres, rfl, rfl⟩) w0 ρ w hr hs
  refine this.mono ?_
  rintro e w' ⟨v3, σ3, ρ', ⟨rfl, rfl⟩, k3, k4, k5⟩
  exact ⟨ρ', k3, k4, k5⟩
mutual
def onlyV (ks : List Bool) : AVal → Bool
  | .vec i => ks[i]? == some true
  | .ptr i _ => ks[i]? == some false
  | .slice .. | .emp _ | .map _ | .junk _ => false
  | .func _ fs cs => onlyVL ks fs && onlyVL ks cs
  | .iface _ v => onlyV ks v
  | .agg cs => onlyVC ks cs
  | .tup vs => onlyVL ks vs
  | _ => true
def onlyVL (ks : List Bool) : List AVal → Bool
  | [] => true
  | v :: vs => onlyV ks v && onlyVL ks vs
def onlyVC (ks : List Bool) : List AVal → Bool
  | [] => true
  | v :: vs => v.isCell && onlyV ks v && onlyVC ks vs
end
mutual
def sub (xs : List AVal) : AVal → AVal
  | .vec i => xs.getD i .nils
  | .ptr i o => match xs.getD i .nils with
    | .ptr b o' => .ptr b (o' + o)
    | _ => .nilp
  | .func f fs cs => .func f (subL xs fs) (subL xs cs)
  | .iface t v => .iface t (sub xs v)
  | .agg cs => .agg (subL xs cs)
  | .tup vs => .tup (subL xs vs)
  | v => v
def subL (xs : List AVal) : List AVal → List AVal
  | [] => []
  | v :: vs => sub xs v :: subL xs vs
end
mutual
theorem onlyV_sc {ks : List Bool} : ∀ v, onlyV ks v = true → sc ks.length v = true
  | .vec i, h => by
    simp only [onlyV, beq_iff_eq] at h; simp only [sc, decide_eq_true_eq]; exact (List.getElem?_eq_some_iff.1 h).1
  | .ptr i o, h => by
    simp only [onlyV, beq_iff_eq] at h; simp only [sc, decide_eq_true_eq]; exact (List.getElem?_eq_some_iff.1 h).1
  | .func f a b, h => by simp only [onlyV, Bool.and_eq_true] at h; simp only [sc, onlyVL_sc a h.1, onlyVL_sc b h.2, Bool.and_self]
  | .iface t v, h => by simp only [onlyV] at h; simp only [sc, onlyV_sc v h]
  | .agg cs, h => by simp only [onlyV] at h; simp only [sc, onlyVC_sc cs h]
  | .tup vs, h => by simp only [onlyV] at h; simp only [sc, onlyVL_sc vs h]
  | .slice _ _ _ _ _, h | .emp _, h | .map _, h | .junk _, h => by simp [onlyV] at h
  | .bool _, _ | .int _ _, _ | .str _, _ | .nilp, _ | .nils, _ | .nilm, _ | .nilf, _ | .nili, _ => rfl
theorem onlyVL_sc {ks : List Bool} : ∀ l, onlyVL ks l = true → scL ks.length l = true
  | [], _ => rfl
  | v :: vs, h => by simp only [onlyVL, Bool.and_eq_true] at h; simp only [scL, onlyV_sc v h.1, onlyVL_sc vs h.2, Bool.and_self]
theorem onlyVC_sc {ks : List Bool} : ∀ l, onlyVC ks l = true → scC ks.length l = true
  | [], _ => rfl
  | v :: vs, h => by simp only [onlyVC, Bool.and_eq_true] at h; simp only [scC, h.1.1, onlyV_sc v h.1.2, onlyVC_sc vs h.2, Bool.and_self]
end
theorem onlyVC_L {ks : List Bool} : ∀ {l : List AVal}, onlyVC ks l = true → onlyVL ks l = true
  | [], _ => rfl
  | v :: vs, h => by simp only [onlyVC, Bool.and_eq_true] at h; simp only [onlyVL, h.1.2, onlyVC_L h.2, Bool.and_self]
mutual
def fr (k : Nat) : AVal → Bool
  | .ptr i _ | .slice i _ _ _ _ | .emp i | .map i | .junk i | .vec i => decide (k ≤ i)
  | .func _ fs cs => frL k fs && frL k cs
  | .iface _ v => fr k v
  | .agg cs => frL k cs
  | .tup vs => frL k vs
  | _ => true
def frL (k : Nat) : List AVal → Bool
  | [] => true
  | v :: vs => fr k v && frL k vs
end
def frB (k : Nat) : ABlk → Bool
  | .cells cs own _ => own && frL k cs
  | .vec _ _ _ own => own
  | .map _ _ => true
  | .iter _ _ _ _ => false
  | .coll => false
  | .turn _ _ => false
  | .dead => true
mutual
theorem γ_fr {k : Nat} {ρ ρ' : Nat → Loc} (h : ∀ i, k ≤ i → ρ' i = ρ i) : ∀ v, fr k v = true → γ ρ' v = γ ρ v
  | .ptr i o, hv | .slice i o l e c, hv | .emp i, hv | .map i, hv | .junk i, hv | .vec i, hv => by simp only [fr, decide_eq_true_eq] at hv; simp only [γ, h i hv]
  | .func f a b, hv => by simp only [fr, Bool.and_eq_true] at hv; simp only [γ, γL_fr h a hv.1, γL_fr h b hv.2]
  | .iface t v, hv => by simp only [fr] at hv; simp only [γ, γ_fr h v hv]
  | .agg cs, hv => by simp only [fr] at hv; simp only [γ, γL_fr h cs hv]
  | .tup vs, hv => by simp only [fr] at hv; simp only [γ, γL_fr h vs hv]
  | .bool _, _ | .int _ _, _ | .str _, _ | .nilp, _ | .nils, _ | .nilm, _ | .nilf, _ | .nili, _ => by simp only [γ]
theorem γL_fr {k : Nat} {ρ ρ' : Nat → Loc} (h : ∀ i, k ≤ i → ρ' i = ρ i) : ∀ l, frL k l = true → γL ρ' l = γL ρ l
  | [], _ => rfl
  | v :: vs, hv => by simp only [frL, Bool.and_eq_true] at hv; simp only [γL, γ_fr h v hv.1, γL_fr h vs hv.2]
end
mutual
theorem sc_rn {k m N : Nat} {f : Nat → Nat} (h : ∀ i, k ≤ i → i < m → f i < N) : ∀ v, fr k v = true → sc m v = true → sc N (rn f v) = true
  | .ptr i o, hv, hs | .slice i o l e c, hv, hs | .emp i, hv, hs | .map i, hv, hs | .junk i, hv, hs | .vec i, hv, hs => by
    simp only [fr, sc, decide_eq_true_eq] at hv hs; simp only [rn, sc, decide_eq_true_eq]; exact h i hv hs
  | .func g a b, hv, hs => by simp only [fr, sc, Bool.and_eq_true] at hv hs; simp only [rn, sc, Bool.and_eq_true]; exact ⟨scL_rn h a hv.1 hs.1, scL_rn h b hv.2 hs.2⟩
  | .iface t v, hv, hs => by simp only [fr, sc] at hv hs; simp only [rn, sc]; exact sc_rn h v hv hs
  | .agg cs, hv, hs => by simp only [fr, sc] at hv hs; simp only [rn, sc]; exact scC_rn h cs hv hs
  | .tup vs, hv, hs => by simp only [fr, sc] at hv hs; simp only [rn, sc]; exact scL_rn h vs hv hs
  | .bool _, _, _ | .int _ _, _, _ | .str _, _, _ | .nilp, _, _ | .nils, _, _ | .nilm, _, _ | .nilf, _, _ | .nili, _, _ => rfl
theorem scL_rn {k m N : Nat} {f : Nat → Nat} (h : ∀ i, k ≤ i → i < m → f i < N) : ∀ l, frL k l = true → scL m l = true → scL N (rnL f l) = true
  | [], _, _ => rfl
  | v :: vs, hv, hs => by simp only [frL, scL, Bool.and_eq_true] at hv hs; simp only [rnL, scL, Bool.and_eq_true]; exact ⟨sc_rn h v hv.1 hs.1, scL_rn h vs hv.2 hs.2⟩
theorem scC_rn {k m N : Nat} {f : Nat → Nat} (h : ∀ i, k ≤ i → i < m → f i < N) : ∀ l, frL k l = true → scC m l = true → scC N (rnL f l) = true
  | [], _, _ => rfl
  | v :: vs, hv, hs => by
    simp only [frL, scC, Bool.and_eq_true] at hv hs; simp only [rnL, scC, Bool.and_eq_true]
    refine ⟨⟨?_, sc_rn h v hv.1 hs.1.2⟩, scC_rn h vs hv.2 hs.2⟩
    have := hs.1.1
    cases v <;> first | exact this | rfl
end
def locOf (ρ : Nat → Loc) : AVal → Loc
  | .emp i => { blk := 0, base := 0, capE := 0, sp := some (ρ i).odd }
  | .slice b o l ex c => { blk := (ρ b).blk, base := (ρ b).base + o, capE := 0, sp := some ⟨(ρ b).blk, (ρ b).base + o, none⟩, sl := l, sk := if ex then c else (ρ b).capE - c }
  | .ptr b o => { blk := (ρ b).blk, base := (ρ b).base + o, capE := 0 }
  | .vec j => ρ j
  | _ => { blk := 0, base := 0, capE := 0 }
def LentAt (σ : Mem) (xs : List AVal) (ks : List Bool) (x : AVal) : ABlk → Prop
  | .vec cs n sz own => own = false ∧ elemsA σ sz x = some (cs, n) ∧ flatA σ sz x = true ∧ sz ≠ 0
  | .cells cs own gr => own = false ∧ gr = none ∧ cs ≠ [] ∧ onlyVC ks cs = true ∧ ∃ b o, x = .ptr b o ∧ cellsAt σ b o cs.length = some (subL xs cs)
  | _ => False
def isVecB : ABlk → Bool
  | .vec .. => true
  | _ => false
structure Lent (σ : Mem) (xs : List AVal) (bs : List ABlk) : Prop where
  len : xs.length = bs.length
  at_ : ∀ (i : Nat) (x : AVal) (b : ABlk), xs[i]? = some x → bs[i]? = some b → LentAt σ xs (bs.map isVecB) x b
theorem lent_slice {w0 : W0} {ρ : Nat → Loc} {σ : Mem} {w : World} (hr : Rel w0 ρ σ w) {x : AVal} {cs : List AVal} {n sz : Nat} (he : elemsA σ sz x = some (cs, n)) (hf : flatA σ sz x = true) (hz : sz ≠ 0) (ρs : Nat → Loc) :
    γ ρ x = .slice (locOf ρ x).sp (locOf ρ x).sl (locOf ρ x).sk ∧ BOk ρs (locOf ρ x) w (.vec cs n sz false) ∧ (cs ≠ [] → (locOf ρ x).blk < w.heap.size) ∧ scC 0 cs = true := by
  have hflat := flatA_sc hr he hf
  unfold elemsA at he
  split at he
  · cases he; exact ⟨rfl, ⟨rfl, .inl ⟨rfl, rfl, by simp⟩⟩, by simp, rfl⟩
  · cases he; exact ⟨rfl, ⟨rfl, .inl ⟨rfl, rfl, by simp⟩⟩, by simp, rfl⟩
  · rename_i b o l ex c
    cases hc : cellsAt σ b o (l * sz) with
    | none => rw [hc] at he; cases he
    | some ds =>
      rw [hc] at he; cases he
      refine ⟨rfl, ?_, ?_, hflat⟩
      · refine ⟨rfl, ?_⟩
        obtain ⟨bs, bk, hg, hbk, hl, rfl⟩ := cellsAt_some hc
        by_cases hn : n = 0
        · subst hn; exact .inl ⟨rfl, by simp, by simp⟩
        · have hlen : ((bs.drop o).take (n * sz)).length = n * sz := by simp; omega
          have hpos := Nat.mul_pos (Nat.pos_of_ne_zero hn) (Nat.pos_of_ne_zero hz)
          refine .inr ⟨by rw [← List.length_pos_iff, hlen]; exact hpos, rfl, hlen, ?_⟩
          obtain ⟨cc, e, fz, h1, pre, post, h2, h3⟩ := hr.row hg hbk (by rintro rfl; simp at hl; omega)
          refine ⟨cc, e, fz, h1, ⟨pre ++ γL ρ (bs.take o), γL ρ (bs.drop (o + n * sz)) ++ post, ?_, ?_⟩, by simp⟩
          · rw [h2]
            have e0 : γL ρs ((bs.drop o).take (n * sz)) = γL ρ ((bs.drop o).take (n * sz)) := γC_congr (n := 0) (fun i hi => by omega) _ hflat
            rw [e0]
            have e1 : bs = bs.take o ++ ((bs.drop o).take (n * sz) ++ bs.drop (o + n * sz)) := by
              rw [← List.drop_drop, List.take_append_drop, List.take_append_drop]
            conv => lhs; rw [e1]
            simp only [γL_append, List.append_assoc]
          · simp only [List.length_append, γL_length, List.length_take, h3, locOf]; omega
      · intro hne
        obtain ⟨bs, bk, hg, hbk, hl, rfl⟩ := cellsAt_some hc
        obtain ⟨cc, e, fz, h1, _⟩ := hr.row hg hbk (by rintro rfl; simp at hne)
        show (ρ b).blk < _
        have := Array.getElem?_eq_some_iff.1 h1
        exact this.1
  · rename_i j
    split at he
    · rename_i cs' n' sz' own hg
      split at he
      · rename_i hsz
        cases he
        subst hsz
        obtain ⟨g0, g1⟩ := hr.ok j _ hg
        refine ⟨rfl, ⟨g0, ?_⟩, ?_, hflat⟩
        · rcases g1 with ⟨q1, q2, q3⟩ | ⟨q1, q2, q3, c, e, fz, h1, ⟨pre, post, h2, h3⟩, h4⟩
          · exact .inl ⟨q1, q2, by simp⟩
          · exact .inr ⟨q1, q2, q3, c, e, fz, h1, ⟨pre, post, by rw [γC_congr (n := 0) (ρ := ρ) (fun i hi => by omega) _ hflat]; exact h2, h3⟩, by simp⟩
        · intro hne
          exact hr.inb j _ hg (by simp only [ABlk.alive, Bool.not_eq_true', List.isEmpty_eq_false_iff]; exact hne)
      · cases he
    · cases he
  · cases he
structure SubOk (ρ ρs : Nat → Loc) (xs : List AVal) (ks : List Bool) : Prop where
  v : ∀ i, ks[i]? = some true → γ ρ (xs.getD i .nils) = .slice (ρs i).sp (ρs i).sl (ρs i).sk
  p : ∀ i, ks[i]? = some false → ∃ b o, xs.getD i .nils = .ptr b o ∧ (ρs i).blk = (ρ b).blk ∧ (ρs i).base = (ρ b).base + o
mutual
theorem γ_sub {ρ ρs : Nat → Loc} {xs : List AVal} {ks : List Bool} (h : SubOk ρ ρs xs ks) : ∀ v, onlyV ks v = true → γ ρ (sub xs v) = γ ρs v
  | .vec i, hv => by simp only [onlyV, beq_iff_eq] at hv; simp only [sub, γ, h.v i hv]
  | .ptr i o, hv => by
    simp only [onlyV, beq_iff_eq] at hv
    obtain ⟨b, o', h1, h2, h3⟩ := h.p i hv
    simp only [sub, h1, γ, h2, h3, Nat.add_assoc]
  | .func f a b, hv => by simp only [onlyV, Bool.and_eq_true] at hv; simp only [sub, γ, γL_sub h a hv.1, γL_sub h b hv.2]
  | .iface t v, hv => by simp only [onlyV] at hv; simp only [sub, γ, γ_sub h v hv]
  | .agg cs, hv => by simp only [onlyV] at hv; simp only [sub, γ, γL_sub h cs (onlyVC_L hv)]
  | .tup vs, hv => by simp only [onlyV] at hv; simp only [sub, γ, γL_sub h vs hv]
  | .slice _ _ _ _ _, hv | .emp _, hv | .map _, hv | .junk _, hv => by simp [onlyV] at hv
  | .bool _, _ | .int _ _, _ | .str _, _ | .nilp, _ | .nils, _ | .nilm, _ | .nilf, _ | .nili, _ => by simp only [sub, γ]
theorem γL_sub {ρ ρs : Nat → Loc} {xs : List AVal} {ks : List Bool} (h : SubOk ρ ρs xs ks) : ∀ l, onlyVL ks l = true → γL ρ (subL xs l) = γL ρs l
  | [], _ => rfl
  | v :: vs, hv => by simp only [onlyVL, Bool.and_eq_true] at hv; simp only [subL, γL, γ_sub h v hv.1, γL_sub h vs hv.2]
end
theorem Lent.rel {w0 : W0} {ρ : Nat → Loc} {σ : Mem} {w : World} (hr : Rel w0 ρ σ w) {xs : List AVal} {ls : List ABlk} (hL : Lent σ xs ls) :
    SubOk ρ (fun i => locOf ρ (xs.getD i .nils)) xs (ls.map isVecB) ∧ Rel (W0.all w) (fun i => locOf ρ (xs.getD i .nils)) ⟨ls.length, numB 0 ls⟩ w := by
  have hget : ∀ {i : Nat} {b : ABlk}, ls[i]? = some b → ∃ x, xs[i]? = some x ∧ xs.getD i .nils = x ∧ LentAt σ xs (ls.map isVecB) x b := by
    intro i b hb
    have hi : i < xs.length := by rw [hL.len]; exact (List.getElem?_eq_some_iff.1 hb).1
    have hx : xs[i]? = some xs[i] := List.getElem?_eq_getElem hi
    exact ⟨_, hx, by simp only [List.getD_eq_getElem?_getD, hx, Option.getD_some], hL.at_ i _ b hx hb⟩
  have hbk : ∀ i b, (⟨ls.length, numB 0 ls⟩ : Mem).get i = some b → i < ls.length ∧ ls[i]? = some b := by
    intro i b hi
    obtain ⟨_, h2, h3⟩ := numB_len _ (look_mem hi)
    simp only [Nat.zero_add, Nat.sub_zero] at h2 h3
    exact ⟨h2, h3⟩
  have hks : ∀ {i : Nat} {q : Bool}, (ls.map isVecB)[i]? = some q → ∃ b, ls[i]? = some b ∧ isVecB b = q := by
    intro i q hq
    rw [List.getElem?_map, Option.map_eq_some_iff] at hq
    exact hq
  have hS : SubOk ρ (fun i => locOf ρ (xs.getD i .nils)) xs (ls.map isVecB) := by
    constructor
    · intro i hi
      obtain ⟨b, hb, hq⟩ := hks hi
      obtain ⟨x, h1, h2, h3⟩ := hget hb
      rw [h2]
      cases b <;> simp only [isVecB, Bool.false_eq_true, reduceCtorEq] at hq
      obtain ⟨_, q1, q2, q3⟩ := h3
      exact (lent_slice hr q1 q2 q3 ρ).1
    · intro i hi
      obtain ⟨b, hb, hq⟩ := hks hi
      obtain ⟨x, h1, h2, h3⟩ := hget hb
      rw [h2]
      cases b <;> simp only [LentAt, isVecB, Bool.true_eq_false, reduceCtorEq] at hq h3
      obtain ⟨_, _, _, _, bb, o, rfl, _⟩ := h3
      exact ⟨bb, o, rfl, rfl, rfl⟩
  have hown : ∀ i b, (⟨ls.length, numB 0 ls⟩ : Mem).get i = some b → b.owned = true → False := by
    intro i b hi ho
    obtain ⟨x, h1, h2, h3⟩ := hget (hbk i b hi).2
    cases b <;> simp only [LentAt] at h3
    · obtain ⟨rfl, _⟩ := h3; simp [ABlk.owned] at ho
    · obtain ⟨rfl, _⟩ := h3; simp [ABlk.owned] at ho
  refine ⟨hS, fun i b hi => (hbk i b hi).1, ?_, ?_, ?_, fun i j bi bj hi hj hij hoi haj => (hown i bi hi hoi).elim, fun i b hi ho => (hown i b hi ho).elim, rfl, rfl, rfl, Nat.le_refl _, fun _ _ => rfl⟩
  · intro i b hi
    obtain ⟨x, h1, h2, h3⟩ := hget (hbk i b hi).2
    cases b <;> simp only [LentAt] at h3
    · obtain ⟨_, _, _, q, _⟩ := h3
      have := onlyVC_sc _ q
      rw [List.length_map] at this
      exact this
    · obtain ⟨_, q1, q2, q3⟩ := h3
      exact (lent_slice hr q1 q2 q3 ρ).2.2.2
  · intro i b hi
    obtain ⟨x, h1, h2, h3⟩ := hget (hbk i b hi).2
    rw [h2]
    cases b <;> simp only [LentAt] at h3
    · rename_i cs own gr
      obtain ⟨rfl, rfl, hne, q, bb, o, rfl, hc⟩ := h3
      obtain ⟨bs, bk, hg, hbk, hl, he⟩ := cellsAt_some hc
      obtain ⟨cc, e, fz, r1, pre, post, r2, r3⟩ := hr.row hg hbk (by rintro rfl; simp at hl; exact hne hl.2)
      refine ⟨cc, e, fz, r1, ⟨pre ++ γL ρ (bs.take o), γL ρ (bs.drop (o + cs.length)) ++ post, ?_, ?_⟩, by simp, by simp⟩
      · rw [r2, ← γL_sub hS cs (onlyVC_L q), he]
        have e1 : bs = bs.take o ++ ((bs.drop o).take cs.length ++ bs.drop (o + cs.length)) := by
          rw [← List.drop_drop, List.take_append_drop, List.take_append_drop]
        conv => lhs; rw [e1]
        simp only [γL_append, List.append_assoc]
      · simp only [List.length_append, γL_length, List.length_take, r3, locOf]; omega
    · obtain ⟨rfl, q1, q2, q3⟩ := h3
      exact (lent_slice hr q1 q2 q3 _).2.1
  · intro i b hi ha
    obtain ⟨x, h1, h2, h3⟩ := hget (hbk i b hi).2
    rw [h2]
    cases b <;> simp only [LentAt] at h3
    · rename_i cs own gr
      obtain ⟨rfl, rfl, hne, q, bb, o, rfl, hc⟩ := h3
      obtain ⟨bs, bk, hg, hbk, hl, he⟩ := cellsAt_some hc
      obtain ⟨cc, e, fz, r1, _⟩ := hr.row hg hbk (by rintro rfl; simp at hl; exact hne hl.2)
      exact (Array.getElem?_eq_some_iff.1 r1).1
    · obtain ⟨rfl, q1, q2, q3⟩ := h3
      exact (lent_slice hr q1 q2 q3 ρ).2.2.1 (by rintro rfl; simp [ABlk.alive] at ha)
def pushAll : Mem → List ABlk → Mem
  | σ, [] => σ
  | σ, b :: r => pushAll (σ.push b) r
theorem pushAll_next : ∀ {σ : Mem} {bs : List ABlk}, (pushAll σ bs).next = σ.next + bs.length
  | σ, [] => rfl
  | σ, b :: r => by simp only [pushAll, pushAll_next, next_push, List.length_cons]; omega
theorem pushAll_ext : ∀ {σ : Mem} {bs : List ABlk}, Ext σ (pushAll σ bs)
  | σ, [] => .refl σ
  | σ, b :: r => (Ext.push σ b).trans pushAll_ext
theorem pushAll_get : ∀ {σ : Mem} {bs : List ABlk} {i : Nat} {b : ABlk}, (pushAll σ bs).get i = some b → (∃ j, i = σ.next + j ∧ bs[j]? = some b) ∨ ((∀ j, j < bs.length → i ≠ σ.next + j) ∧ σ.get i = some b)
  | σ, [], i, b, h => .inr ⟨fun j hj => by simp at hj, h⟩
  | σ, c :: r, i, b, h => by
    simp only [pushAll] at h
    rcases pushAll_get h with ⟨j, h1, h2⟩ | ⟨h1, h2⟩
    · exact .inl ⟨j + 1, by simp only [next_push] at h1; omega, by simpa using h2⟩
    · rw [get_push] at h2
      split at h2
      · rename_i e; exact .inl ⟨0, e.symm, by simpa using h2⟩
      · rename_i e
        refine .inr ⟨fun j hj => ?_, h2⟩
        cases j with
        | zero => exact fun q => e q.symm
        | succ j => have := h1 j (by simpa using hj); simp only [next_push] at this; omega
theorem SemCall.lift {g : FuncId} {cargs xs : List AVal} {ls bs : List ABlk} {v : AVal} {σ : Mem} (hL : Lent σ xs ls) (h : SemCall P g cargs ⟨ls.length, numB 0 ls⟩ (.ret v) ⟨ls.length + bs.length, numB ls.length bs⟩)
    (ho : onlyVL (ls.map isVecB) cargs = true) (hv : fr ls.length v = true) (hb : bs.all (frB ls.length) = true) :
    SemCall P g (subL xs cargs) σ (.ret (rn (fun i => σ.next + (i - ls.length)) v)) (pushAll σ (bs.map (rnB fun i => σ.next + (i - ls.length)))) := by
  have hs : scL ls.length cargs = true := by have := onlyVL_sc _ ho; simpa only [List.length_map] using this
  intro w0 ρ w hr _
  obtain ⟨hS, Rs⟩ := hL.rel hr
  generalize (fun i => locOf ρ (xs.getD i .nils)) = ρs at hS Rs
  have hargs : γL ρ (subL xs cargs) = γL ρs cargs := γL_sub hS cargs ho
  have := h (W0.all w) ρs w Rs hs
  rw [hargs]
  refine this.mono ?_
  rintro e w' ⟨ρ', k1, k2, k3⟩
  have R := k2.rel
  have hsz : w.heap.size ≤ w'.heap.size := R.size
  have hold : ∀ q, q < w.heap.size → w'.heap[q]? = w.heap[q]? := fun q hq => R.old q hq
  let ρn : Nat → Loc := fun i => if i < σ.next then ρ i else ρ' (ls.length + (i - σ.next))
  have n1 : ∀ i, i < σ.next → ρn i = ρ i := fun i hi => by simp only [ρn, if_pos hi]
  have n2 : ∀ j, ρn (σ.next + j) = ρ' (ls.length + j) := fun j => by simp only [ρn, if_neg (show ¬ σ.next + j < σ.next by omega), Nat.add_sub_cancel_left]
  have n3 : ∀ i, ls.length ≤ i → ρn (σ.next + (i - ls.length)) = ρ' i := fun i hi => by rw [n2, show ls.length + (i - ls.length) = i by omega]
  have fresh : ∀ j b, bs[j]? = some b → (⟨ls.length + bs.length, numB ls.length bs⟩ : Mem).get (ls.length + j) = some b := fun j b hj => look_numB hj
  have hfr : ∀ j b, bs[j]? = some b → frB ls.length b = true := fun j b hj => (List.all_eq_true.1 hb) b (List.mem_of_getElem? hj)
  have hown : ∀ b, frB ls.length b = true → b.alive = true → b.owned = true := by
    intro b h1 h2
    cases b <;> simp_all [frB, ABlk.alive, ABlk.owned]
  have al : ∀ b, (rnB (fun i => σ.next + (i - ls.length)) b).alive = b.alive := fun b => rnB_alive _ b
  have ow : ∀ b, (rnB (fun i => σ.next + (i - ls.length)) b).owned = b.owned := fun b => rnB_owned _ b
  have cases' : ∀ i b, (pushAll σ (bs.map (rnB fun i => σ.next + (i - ls.length)))).get i = some b →
      (∃ j c, i = σ.next + j ∧ bs[j]? = some c ∧ b = rnB (fun i => σ.next + (i - ls.length)) c) ∨ (i < σ.next ∧ σ.get i = some b) := by
    intro i b hi
    rcases pushAll_get hi with ⟨j, h1, h2⟩ | ⟨_, h2⟩
    · rw [List.getElem?_map, Option.map_eq_some_iff] at h2
      obtain ⟨c, h3, h4⟩ := h2
      exact .inl ⟨j, c, h1, h3, h4.symm⟩
    · exact .inr ⟨hr.lt i b h2, h2⟩
  have hnext : (pushAll σ (bs.map (rnB fun i => σ.next + (i - ls.length)))).next = σ.next + bs.length := by rw [pushAll_next, List.length_map]
  have hbnd : ∀ i, ls.length ≤ i → i < ls.length + bs.length → σ.next + (i - ls.length) < σ.next + bs.length := fun i h1 h2 => by omega
  have jlt : ∀ {j : Nat} {c : ABlk}, bs[j]? = some c → j < bs.length := fun hj => (List.getElem?_eq_some_iff.1 hj).1
  refine ⟨ρn, ?_, ⟨⟨?_, ?_, ?_, ?_, ?_, ?_, R.os.trans hr.os, R.tape.trans hr.tape, R.output.trans hr.output, Nat.le_trans hr.size hsz, fun q hq => (hold q (by have := w0.lt q hq; have := hr.size; omega)).trans (hr.old q hq)⟩, fun i hi => n1 i hi, by rw [hnext]; omega⟩, ?_⟩
  · rw [k1]
    simp only [endOf, γ_rn]
    rw [γ_fr (k := ls.length) (ρ := ρ') (fun i hi => n3 i hi) v hv]
  · intro i b hi
    rw [hnext]
    rcases cases' i b hi with ⟨j, c, rfl, h2, _⟩ | ⟨h1, _⟩
    · have := jlt h2; omega
    · omega
  · intro i b hi
    rw [hnext]
    rcases cases' i b hi with ⟨j, c, rfl, h2, rfl⟩ | ⟨_, h1⟩
    · have hsc := R.sco _ _ (fresh j c h2)
      have hf := hfr j c h2
      cases c with
      | cells cs own gr =>
        simp only [frB, Bool.and_eq_true] at hf
        exact scC_rn hbnd cs hf.2 hsc
      | vec cs n sz own => exact hsc
      | map es c => exact hsc
      | iter m a b d => simp [frB] at hf
      | coll => simp [frB] at hf
      | turn a b => simp [frB] at hf
      | dead => rfl
    · exact scB_mono (by omega) b (hr.sco i b h1)
  · intro i b hi
    rcases cases' i b hi with ⟨j, c, rfl, h2, rfl⟩ | ⟨h0, h1⟩
    · have hok := R.ok _ _ (fresh j c h2)
      have hsc := R.sco _ _ (fresh j c h2)
      have hf := hfr j c h2
      rw [n2]
      cases c with
      | cells cs own gr =>
        simp only [frB, Bool.and_eq_true] at hf
        obtain ⟨cc, e, fz, q1, ⟨pre, post, q2, q3⟩, q4, q5⟩ := hok
        refine ⟨cc, e, fz, q1, ⟨pre, post, ?_, q3⟩, q4, ?_⟩
        · rw [γL_rn, γL_fr (k := ls.length) (ρ := ρ') (fun i hi => n3 i hi) cs hf.2]; exact q2
        · rw [rnL_length]; exact q5
      | vec cs n sz own => exact BOk_congr (n := 0) (fun i hi => by omega) rfl (.vec cs n sz own) hsc hok
      | map es c => exact BOk_congr (n := 0) (fun i hi => by omega) rfl (.map es c) hsc hok
      | iter m a b d => simp [frB] at hf
      | coll => simp [frB] at hf
      | turn a b => simp [frB] at hf
      | dead => trivial
    · rw [n1 i h0]
      by_cases ha : b.alive = true
      · exact BOk_congr n1 (hold _ (hr.inb i b h1 ha)) b (hr.sco i b h1) (hr.ok i b h1)
      · exact BOk_still ha (hr.ok i b h1)
  · intro i b hi ha
    rcases cases' i b hi with ⟨j, c, rfl, h2, rfl⟩ | ⟨h0, h1⟩
    · rw [n2]; exact R.inb _ _ (fresh j c h2) (by rw [← al c]; exact ha)
    · rw [n1 i h0]; have := hr.inb i b h1 ha; omega
  · intro i j bi bj hi hj hij hoi haj
    rcases cases' i bi hi with ⟨a, c, rfl, h2, rfl⟩ | ⟨h0, h1⟩ <;> rcases cases' j bj hj with ⟨a', c', rfl, h2', rfl⟩ | ⟨h0', h1'⟩
    · rw [n2, n2]
      exact R.ap _ _ _ _ (fresh a c h2) (fresh a' c' h2') (by omega) (by rw [← ow c]; exact hoi) (by rw [← al c']; exact haj)
    · rw [n2, n1 j h0']
      have h3 := R.own _ _ (fresh a c h2) (by rw [← ow c]; exact hoi)
      have h4 := hr.inb j bj h1' haj
      intro q
      exact h3 (by rw [q]; exact h4)
    · rw [n2, n1 i h0]
      have hal : c'.alive = true := by rw [← al c']; exact haj
      have h3 := R.own _ _ (fresh a' c' h2') (hown c' (hfr a' c' h2') hal)
      have h4 := hr.inb i bi h1 (ABlk.owned_alive hoi)
      intro q
      exact h3 (by rw [← q]; exact h4)
    · rw [n1 i h0, n1 j h0']; exact hr.ap i j bi bj h1 h1' hij hoi haj
  · intro i b hi hob
    rcases cases' i b hi with ⟨j, c, rfl, h2, rfl⟩ | ⟨h0, h1⟩
    · rw [n2]
      have h3 := R.own _ _ (fresh j c h2) (by rw [← ow c]; exact hob)
      intro q
      exact h3 (Nat.lt_of_lt_of_le (w0.lt _ q) hr.size)
    · rw [n1 i h0]; exact hr.own i b h1 hob
  · rw [hnext]
    simp only [ARes.value] at k3 ⊢
    exact sc_rn hbnd v hv k3
def lendK {R : Type} (σ : Mem) (sz : Nat) (x : AVal) (k : List AVal → Nat → Option R) : Option R :=
  match elemsA σ sz x with
  | some (cs, n) => if flatA σ sz x then k cs n else none
  | none => none
theorem lendK_nat {R : Type} {σ : Mem} {sz : Nat} {x : AVal} {S : Type} (k : List AVal → Nat → Option S) (f : S → Option R) : (lendK σ sz x k).bind f = lendK σ sz x fun a b => (k a b).bind f := by
  unfold lendK
  split
  · split <;> rfl
  · rfl
end
end Go.Ev

