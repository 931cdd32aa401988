import Derived.Test.YtcgajpdhbanhaaaGreatEvRf
import Derived.Test.YtcgajpdhbanhaaaGreatEvO
namespace Go.Ev
set_option linter.unusedVariables false
abbrev Teller := FuncId → List AVal → Mem → Option Told
def TellOk (P : Program) (t : Teller) : Prop := ∀ g args σ x, t g args σ = some x → IsFn P g ∧ SemCall P g args σ (.ret x.1) x.2
noncomputable def tellR (P : Program) (T : TTab) (fuel : Nat) (il : FuncId → Bool) (lo : CH) : Teller := fun g args σ =>
  match P.funcs[g]? with
  | some fn => match fn.body with
    | some b => evalR eqT P T lo il fuel noAnns false none b (initSt fn.ntmps args σ) fun o s => match endM T fn.results.toList o s with
      | some (.ret v, σ') => gcA σ.next fuel v σ'
      | _ => none
    | none => none
  | none => none
section
variable {P : Program}
theorem tellR_ok {T : TTab} (hT : TabOk P T) (hm : P.follows .mixedOrders = true) (hN : NoNum P) {fuel : Nat} {il : FuncId → Bool} {lo : CH} (hl : CHOk P lo) : TellOk P (tellR P T fuel il lo) := by
  intro g args σ x h
  unfold tellR at h
  split at h
  · rename_i fn hf
    split at h
    · rename_i b hb
      refine ⟨⟨fn, hf, hN g fn hf, by rw [hb]; rfl⟩, ?_⟩
      intro w0 ρ w hr hs
      have hA := evalR_sound (r := none) (Y := none) (G := fun _ _ => True) (k := σ.next) hT hl hm hN eqT_eq fuel b _ _ x (.inr fun _ _ _ h => by cases h) (.inr rfl) (fun _ _ _ _ _ => trivial) (fun y hy => by cases hy) h
      have := call_of_bodyM (R := fun r σ' => ∃ v, r = .ret v ∧ gcA σ.next fuel v σ' = some x) hT hf hb (σ := σ) (args := args) (hA.mono fun o s q => by
        split at q
        · rename_i v σ' he
          exact ⟨.ret v, σ', he, v, rfl, q⟩
        · cases q) w0 ρ w hr hs
      refine this.mono ?_
      rintro e w' ⟨r, σ', ρ', ⟨v, rfl, hgc⟩, k3, k4, k5⟩
      obtain ⟨q0, q1⟩ := gcChk_spec hgc
      obtain ⟨ρ2, c1, c2, c3⟩ := q1 w0 ρ w' ρ' k4 k5
      exact ⟨ρ2, by rw [k3]; simp only [endOf, c1], c2, c3⟩
    · cases h
  · cases h
end
structure RI where
  fd : Func
  id : Nat
  ops : Array Oper
  o0 : Oper
  o1 : Oper
  rest : Code
  t3 : Tmp
  t2 : Tmp
def isRec : Op → Bool
  | .call ⟨.builtin .recover, ⟨[]⟩, ⟨[]⟩⟩ => true
  | _ => false
theorem isRec_eq {o : Op} (h : isRec o = true) : o = .call ⟨.builtin .recover, #[], #[]⟩ := by
  unfold isRec at h
  split at h
  · rfl
  · cases h
def isMove (t : Tmp) : Op → Bool
  | .assign (.tmp u) => Nat.beq t u
  | _ => false
theorem isMove_eq {t : Tmp} {o : Op} (h : isMove t o = true) : o = .assign (.tmp t) := by
  unfold isMove at h
  split at h
  · rw [Nat.eq_of_beq_eq_true h]
  · cases h
def recInfo (P : Program) (gd : FuncId) : Option RI := match P.funcs[gd]? with
  | some fd => match fd.body with
    | some (.seq (.region id ops false) rest) => match ops.toList with
      | [o0, o1] => match o0.dst, o1.dst with
        | some t3, some t2 => cond (o0.guard.isNone && o1.guard.isNone && isRec o0.op && isMove t3 o1.op && fd.results.isEmpty && !Nat.beq gd markF) (some ⟨fd, id, ops, o0, o1, rest, t3, t2⟩) none
        | _, _ => none
      | _ => none
    | _ => none
  | none => none
theorem recInfo_ok {P : Program} (hN : NoNum P) {gd : FuncId} {i : RI} (h : recInfo P gd = some i) : RecOk P gd i.fd i.id i.ops i.o0 i.o1 i.rest i.t3 i.t2 := by
  unfold recInfo at h
  split at h
  rotate_left
  · cases h
  rename_i fd hf
  split at h
  rotate_left
  · cases h
  rename_i id ops rest hb
  split at h
  rotate_left
  · cases h
  rename_i o0 o1 ho
  split at h
  rotate_left
  · cases h
  rename_i t3 t2 h0 h1
  obtain ⟨h2, h3⟩ := cond_some h
  simp only [Bool.and_eq_true] at h2
  obtain ⟨⟨⟨⟨⟨g0, g1⟩, p0⟩, p1⟩, hr⟩, hm⟩ := h2
  cases h3
  refine ⟨hf, ⟨fd, hf, hN gd fd hf, by rw [hb]; rfl⟩, hb, ?_, ho, h0, Option.isNone_iff_eq_none.1 g0, isRec_eq p0, h1, Option.isNone_iff_eq_none.1 g1, isMove_eq p1, ?_⟩
  · exact Array.isEmpty_iff.1 hr
  · rintro rfl
    simp [Nat.beq_refl] at hm
def recVal : AOut → Option AVal
  | .normal => some .nili
  | .ret => some .nili
  | .pan v => some v
  | _ => none
noncomputable def tellD (P : Program) (T : TTab) (fuel : Nat) (il : FuncId → Bool) (lo : CH) : Teller := fun g args σ =>
  match P.funcs[g]? with
  | some fn => match fn.body with
    | some b => evalR eqT P T lo il fuel noAnns false none b (initSt fn.ntmps args σ) fun o s => match s.df with
      | [] => cond (isEnd o) ((resA T s fn.results.toList).bind fun v => gcA σ.next fuel v s.mem) none
      | [⟨gd, cap, []⟩] => match recInfo P gd, recVal o with
        | some i, some r => evalR eqT P T lo il fuel noAnns false none i.rest (recSt i.fd.ntmps cap s.mem i.t3 i.t2 r) fun o' s2 => cond (isEnd o') (match s2.df with
          | [] => (resA T ⟨s.tm, [], s2.mem⟩ fn.results.toList).bind fun v => gcA σ.next fuel v s2.mem
          | _ => none) none
        | _, _ => none
      | _ => none
    | none => none
  | none => none
theorem isEnd_eq {o : AOut} (h : isEnd o = true) : o = .normal ∨ o = .ret := by cases o <;> simp_all [isEnd]
theorem awp_of_awpn {P : Program} {c : Code} {s : St} {Φ : AOut → St → Prop} (h : AWPn P s.mem.next c s Φ) : AWP P c s Φ := fun w0 ρ a w hr => h (Nat.le_refl _) w0 ρ a w hr
theorem tellD_ok {P : Program} {T : TTab} (hT : TabOk P T) (hm : P.follows .mixedOrders = true) (hN : NoNum P) {fuel : Nat} {il : FuncId → Bool} {lo : CH} (hl : CHOk P lo) : TellOk P (tellD P T fuel il lo) := by
  intro g args σ x h
  unfold tellD at h
  split at h
  · rename_i fn hf
    split at h
    · rename_i b hb
      refine ⟨⟨fn, hf, hN g fn hf, by rw [hb]; rfl⟩, ?_⟩
      intro w0 ρ w hr hs
      have run : ∀ {c : Code} {s : St} {K : AOut → St → Option Told}, evalR eqT P T lo il fuel noAnns false none c s K = some x → AWP P c s fun o s' => K o s' = some x := fun {c s K} h =>
        awp_of_awpn (AWPy.awpn (evalR_sound (r := none) (Y := none) (G := fun _ _ => True) (k := s.mem.next) hT hl hm hN eqT_eq fuel c s K x (.inr fun _ _ _ h => by cases h) (.inr rfl) (fun _ _ _ _ _ => trivial) (fun y hy => by cases hy) h))
      have := call_of_body_defer' (R := fun v σ' => gcA σ.next fuel v σ' = some x) hT hf hb (σ := σ) (args := args) ((run h).mono fun o s q => by
        split at q
        · rename_i hd
          obtain ⟨ho, q⟩ := cond_some q
          obtain ⟨v, h1, h2⟩ := Option.bind_eq_some_iff.1 q
          exact .inl ⟨hd, isEnd_eq ho, v, h1, h2⟩
        · rename_i gd cap hd
          split at q
          · rename_i i r hi hv
            refine .inr ⟨gd, i.fd, i.id, i.ops, i.o0, i.o1, i.rest, i.t3, i.t2, cap, r, recInfo_ok hN hi, hd, ?_, (run q).mono fun o' s2 q2 => ?_⟩
            · cases o with
              | normal => cases hv; exact .inl ⟨.inl rfl, rfl⟩
              | ret => cases hv; exact .inl ⟨.inr rfl, rfl⟩
              | pan v => cases hv; exact .inr rfl
              | exit i => cases hv
              | goto i => cases hv
            · obtain ⟨ho, q2⟩ := cond_some q2
              split at q2
              · rename_i hd2
                obtain ⟨v, h1, h2⟩ := Option.bind_eq_some_iff.1 q2
                exact ⟨isEnd_eq ho, hd2, v, h1, h2⟩
              · cases q2
          · cases q
        · cases q) w0 ρ w hr hs
      refine this.mono ?_
      rintro e w' ⟨v, σ', ρ', hgc, k3, k4, k5⟩
      obtain ⟨q0, q1⟩ := gcChk_spec hgc
      obtain ⟨ρ2, c1, c2, c3⟩ := q1 w0 ρ w' ρ' k4 k5
      exact ⟨ρ2, by rw [k3]; simp only [endOf, c1], c2, c3⟩
    · cases h
  · cases h
noncomputable def tellRD (P : Program) (T : TTab) (fuel : Nat) (ds il : FuncId → Bool) (lo : CH) : Teller := fun g args σ => cond (ds g) (tellD P T fuel il lo g args σ) (tellR P T fuel il lo g args σ)
theorem tellRD_ok {P : Program} {T : TTab} (hT : TabOk P T) (hm : P.follows .mixedOrders = true) (hN : NoNum P) {fuel : Nat} {ds il : FuncId → Bool} {lo : CH} (hl : CHOk P lo) : TellOk P (tellRD P T fuel ds il lo) := by
  intro g args σ x h
  unfold tellRD at h
  cases hd : ds g with
  | true => rw [hd] at h; exact tellD_ok hT hm hN hl g args σ x h
  | false => rw [hd] at h; exact tellR_ok hT hm hN hl g args σ x h
section
variable {P : Program}
theorem Rel.same {w0 : W0} {ρ : Nat → Loc} {σ σ' : Mem} {w : World} (h : Rel w0 ρ σ' w) (hlt : ∀ i b, σ.get i = some b → i < σ.next) (hn : σ'.next = σ.next) (hE : ∀ i, i < σ.next → σ'.get i = σ.get i) : Rel w0 ρ σ w := by
  have key : ∀ i b, σ.get i = some b → σ'.get i = some b := fun i b hb => (hE i (hlt i b hb)).trans hb
  exact ⟨hlt, fun i b hb => hn ▸ h.sco i b (key i b hb), fun i b hb => h.ok i b (key i b hb), fun i b hb ha => h.inb i b (key i b hb) ha, fun i j bi bj hi hj => h.ap i j bi bj (key i bi hi) (key j bj hj), fun i b hb => h.own i b (key i b hb),
    h.os, h.tape, h.output, h.size, h.old⟩
theorem SemCall.same {g : FuncId} {args : List AVal} {σ σ' : Mem} {r : ARes} (h : SemCall P g args σ r σ') (he : Ext σ σ') (hn : σ'.next = σ.next) : SemCall P g args σ r σ := by
  intro w0 ρ w hr hs
  refine (h w0 ρ w hr hs).mono ?_
  rintro e w' ⟨ρ', h1, h2, h3⟩
  exact ⟨ρ', h1, ⟨h2.rel.same hr.lt hn he.2, h2.ext, Nat.le_refl _⟩, hn ▸ h3⟩
noncomputable def CH.ndT (tell : Teller) (gs xs rs : FuncId → Bool) (c : CH) : CH where
  call := fun g args σ k => cond (gs g) ((tell g args σ).bind fun x => cond (rs g) (need (stillA σ x.2 && Nat.beq x.2.next σ.next) (k (.ret x.1) σ .nil)) (need (!xs g || stillA σ x.2) (k (.ret x.1) x.2 .nil))) (c.call g args σ k)
  nat := fun g args σ k => by
    cases gs g with
    | true =>
      simp only [cond_true]
      rw [Option.bind_assoc]
      congr 1
      funext x
      cases rs g with
      | true => simp only [cond_true]; rw [need_nat]; rfl
      | false => simp only [cond_false]; rw [need_nat]; rfl
    | false => exact c.nat g args σ k
  ext := fun g => cond (gs g) (rs g || xs g) (c.ext g)
  pf := fun g => cond (gs g) (cond (rs g) 1 2) (c.pf g)
theorem CH.ndT_ok {tell : Teller} (ht : TellOk P tell) {gs xs rs : FuncId → Bool} {c : CH} (hc : CHOk P c) : CHOk P (CH.ndT tell gs xs rs c) := by
  have key : ∀ g args σ r σ', gs g = true → (CH.ndT tell gs xs rs c).H g args σ = some (r, σ') → ∃ x, tell g args σ = some x ∧ r = .ret x.1 ∧ ((rs g = true ∧ Ext σ x.2 ∧ x.2.next = σ.next ∧ σ' = σ) ∨ (rs g = false ∧ (!xs g || stillA σ x.2) = true ∧ σ' = x.2)) := by
    intro g args σ r σ' e hr
    simp only [CH.H, CH.ndT, e, cond_true] at hr
    cases htl : tell g args σ with
    | none => rw [htl] at hr; cases hr
    | some x =>
      rw [htl] at hr
      simp only [Option.bind_some] at hr
      cases er : rs g with
      | true =>
        rw [er] at hr
        simp only [cond_true] at hr
        split at hr
        · rename_i r1 σ1 ow hx
          obtain ⟨h1, h2⟩ := need_some hx
          simp only [Bool.and_eq_true] at h1
          simp only [Option.some.injEq, Prod.mk.injEq] at h2
          obtain ⟨rfl, rfl, rfl⟩ := h2
          rw [if_pos Ow.ok_nil] at hr
          simp only [Option.some.injEq, Prod.mk.injEq] at hr
          exact ⟨x, rfl, hr.1.symm, .inl ⟨rfl, stillA_ext h1.1, Nat.eq_of_beq_eq_true h1.2, hr.2.symm⟩⟩
        · cases hr
      | false =>
        rw [er] at hr
        simp only [cond_false] at hr
        split at hr
        · rename_i r1 σ1 ow hx
          obtain ⟨h1, h2⟩ := need_some hx
          simp only [Option.some.injEq, Prod.mk.injEq] at h2
          obtain ⟨rfl, rfl, rfl⟩ := h2
          rw [if_pos Ow.ok_nil] at hr
          simp only [Option.some.injEq, Prod.mk.injEq] at hr
          exact ⟨x, rfl, hr.1.symm, .inr ⟨rfl, h1, hr.2.symm⟩⟩
        · cases hr
  have other : ∀ g args σ, gs g = false → (CH.ndT tell gs xs rs c).H g args σ = c.H g args σ := by
    intro g args σ e
    simp only [CH.H, CH.ndT, e, cond_false]
  refine ⟨?_, fun g args σ r σ' he hr => ?_, fun g args σ r σ' he hr => ?_, fun g args σ r σ' he hr => ?_⟩
  · intro g args σ r σ' hr
    cases e : gs g with
    | true =>
      obtain ⟨x, h1, rfl, ⟨_, h2, h3, rfl⟩ | ⟨_, _, rfl⟩⟩ := key g args σ r σ' e hr
      · exact .inl ⟨(ht _ _ _ _ h1).1, (ht _ _ _ _ h1).2.same h2 h3⟩
      · exact .inl (ht _ _ _ _ h1)
    | false => rw [other g args σ e] at hr; exact hc.1 g args σ r σ' hr
  · cases e : gs g with
    | true =>
      simp only [CH.ndT, e, cond_true] at he
      obtain ⟨x, h1, rfl, ⟨_, h2, h3, rfl⟩ | ⟨er, h2, rfl⟩⟩ := key g args σ r σ' e hr
      · exact .refl _
      · rw [er, Bool.false_or] at he
        exact stillA_ext (by simpa [he] using h2)
    | false =>
      simp only [CH.ndT, e, cond_false] at he
      rw [other g args σ e] at hr
      exact hc.2.1 g args σ r σ' he hr
  · cases e : gs g with
    | true =>
      simp only [CH.ndT, e, cond_true] at he
      cases er : rs g with
      | true => rw [er] at he; cases he
      | false => rw [er] at he; cases he
    | false =>
      simp only [CH.ndT, e, cond_false] at he
      rw [other g args σ e] at hr
      obtain ⟨h1, h2, h3⟩ := hc.2.2.1 g args σ r σ' he hr
      exact ⟨h1, h2, fun σ2 => by rw [other g args σ2 e]; exact h3 σ2⟩
  · cases e : gs g with
    | true =>
      simp only [CH.ndT, e, cond_true] at he
      obtain ⟨x, h1, rfl, ⟨_, h2, h3, rfl⟩ | ⟨er, h2, rfl⟩⟩ := key g args σ r σ' e hr
      · exact ⟨rfl, _, rfl⟩
      · rw [er] at he; cases he
    | false =>
      simp only [CH.ndT, e, cond_false] at he
      rw [other g args σ e] at hr
      exact hc.2.2.2 g args σ r σ' he hr
def pureT (tell : Teller) (g : FuncId) (args : List AVal) : Option AVal :=
  cond (onlyVL [] args && aeqL (subL [] args) args) ((tell g args ⟨0, []⟩).bind fun x => cond (Nat.beq x.2.next 0 && isNil x.2.bs && fr 0 x.1 && sc 0 x.1) (some x.1) none) none
theorem pureT_sem {tell : Teller} (ht : TellOk P tell) {g : FuncId} {args : List AVal} {v : AVal}
    (h : pureT tell g args = some v) (σ : Mem) : IsFn P g ∧ SemCall P g args σ (.ret v) σ := by
  obtain ⟨h1, h2⟩ := cond_some h
  simp only [Bool.and_eq_true] at h1
  obtain ⟨x, h3, h4⟩ := Option.bind_eq_some_iff.1 h2
  obtain ⟨h5, h6⟩ := cond_some h4
  simp only [Bool.and_eq_true] at h5
  obtain ⟨⟨⟨q1, q2⟩, q3⟩, q4⟩ := h5
  obtain ⟨v', n, bs⟩ := x
  simp only [Option.some.injEq] at h6
  subst h6
  obtain rfl : n = 0 := Nat.eq_of_beq_eq_true q1
  obtain rfl : bs = [] := by cases bs with
    | nil => rfl
    | cons a b => cases q2
  obtain ⟨k1, k2⟩ := ht _ _ _ _ h3
  refine ⟨k1, ?_⟩
  have := SemCall.lift (σ := σ) (xs := []) (ls := []) (bs := []) (Lent.of trivial) k2 h1.1 q3 rfl
  rw [aeqL_eq _ _ h1.2, rn_zero _ _ q4] at this
  exact this
noncomputable def CH.puT (tell : Teller) (gs : FuncId → Bool) (c : CH) : CH where
  call := fun g args σ k => cond (gs g) ((pureT tell g args).bind fun v => k (.ret v) σ .nil) (c.call g args σ k)
  nat := fun g args σ k => by
    cases gs g with
    | true =>
      simp only [cond_true]
      rw [Option.bind_assoc]
      rfl
    | false => exact c.nat g args σ k
  ext := fun g => cond (gs g) true (c.ext g)
  pf := fun g => cond (gs g) 0 (c.pf g)
theorem CH.puT_ok {tell : Teller} (ht : TellOk P tell) {gs : FuncId → Bool} {c : CH} (hc : CHOk P c) : CHOk P (CH.puT tell gs c) := by
  have key : ∀ g args σ r σ', gs g = true → (CH.puT tell gs c).H g args σ = some (r, σ') → ∃ v, pureT tell g args = some v ∧ r = .ret v ∧ σ' = σ := by
    intro g args σ r σ' e hr
    simp only [CH.H, CH.puT, e, cond_true] at hr
    cases htl : pureT tell g args with
    | none => rw [htl] at hr; cases hr
    | some x =>
      rw [htl] at hr
      simp only [Option.bind_some] at hr
      rw [if_pos Ow.ok_nil] at hr
      simp only [Option.some.injEq, Prod.mk.injEq] at hr
      exact ⟨x, rfl, hr.1.symm, hr.2.symm⟩
  have back : ∀ g args v, gs g = true → pureT tell g args = some v → ∀ σ, (CH.puT tell gs c).H g args σ = some (.ret v, σ) := by
    intro g args v e hv σ
    simp only [CH.H, CH.puT, e, cond_true, hv, Option.bind_some]
    rw [if_pos Ow.ok_nil]
  have other : ∀ g args σ, gs g = false → (CH.puT tell gs c).H g args σ = c.H g args σ := by
    intro g args σ e
    simp only [CH.H, CH.puT, e, cond_false]
  refine ⟨?_, fun g args σ r σ' he hr => ?_, fun g args σ r σ' he hr => ?_, fun g args σ r σ' he hr => ?_⟩
  · intro g args σ r σ' hr
    cases e : gs g with
    | true =>
      obtain ⟨x, h1, rfl, rfl⟩ := key g args σ r σ' e hr
      exact .inl (pureT_sem ht h1 _)
    | false => rw [other g args σ e] at hr; exact hc.1 g args σ r σ' hr
  · cases e : gs g with
    | true =>
      obtain ⟨x, h1, rfl, rfl⟩ := key g args σ r σ' e hr
      exact .refl _
    | false =>
      simp only [CH.puT, e, cond_false] at he
      rw [other g args σ e] at hr
      exact hc.2.1 g args σ r σ' he hr
  · cases e : gs g with
    | true =>
      obtain ⟨x, h1, rfl, rfl⟩ := key g args σ r σ' e hr
      exact ⟨rfl, ⟨_, rfl⟩, back g args x e h1⟩
    | false =>
      simp only [CH.puT, e, cond_false] at he
      rw [other g args σ e] at hr
      obtain ⟨h1, h2, h3⟩ := hc.2.2.1 g args σ r σ' he hr
      exact ⟨h1, h2, fun σ2 => by rw [other g args σ2 e]; exact h3 σ2⟩
  · cases e : gs g with
    | true =>
      simp only [CH.puT, e, cond_true] at he
      cases he
    | false =>
      simp only [CH.puT, e, cond_false] at he
      rw [other g args σ e] at hr
      exact hc.2.2.2 g args σ r σ' he hr
end
end Go.Ev

