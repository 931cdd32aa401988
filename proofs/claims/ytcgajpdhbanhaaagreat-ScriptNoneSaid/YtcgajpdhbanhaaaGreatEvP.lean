import Derived.Test.YtcgajpdhbanhaaaGreatEvM
namespace Go.Ev
set_option linter.unusedVariables false
set_option linter.unusedSimpArgs false
def planOf (pf : FuncId → Nat) (all : List Oper) : List (List Nat) :=
  let ms := masks all []
  all.zipIdx.map fun (o, i) => if kindOf pf o.op == 1 then (cuts pf all).filter fun c => !excluded pf all ms i c else []
def readsP (pf : FuncId → Nat) (T : TTab) (H : Hooks) (all : List Oper) (mems : List Mem) : List Oper → List (List Nat) → List (St × AVal) → Bool
  | o :: r, cs :: ps, (s, v) :: tr => (!(wantedA all o s.tm) || cs.all fun c => match mems[c]? with
      | some σ => match aexec T H o.op s.tm σ with
        | some (.val u, _) => aeq u v
        | _ => false
      | none => false) && readsP pf T H all mems r ps tr
  | _, _, _ => true
theorem readsP_ok {pf : FuncId → Nat} {T : TTab} {H : Hooks} {all : List Oper} {mems : List Mem} : ∀ (l pre : List Oper) (tr : List (St × AVal)), all = pre ++ l →
    readsP pf T H all mems l ((l.zipIdx pre.length).map fun (o, i) => if kindOf pf o.op == 1 then (cuts pf all).filter fun c => !excluded pf all (masks all []) i c else []) tr = true →
      readsOk pf T H all (masks all []) mems l pre.length tr = true
  | [], pre, tr, _, _ => by cases tr <;> rfl
  | o :: r, pre, [], _, _ => rfl
  | o :: r, pre, (s, v) :: tr, he, h => by
    simp only [List.zipIdx_cons, List.map_cons, readsP, Bool.and_eq_true] at h
    obtain ⟨h1, h2⟩ := h
    simp only [readsOk, Bool.and_eq_true]
    refine ⟨?_, ?_⟩
    · unfold readOk
      cases hk : kindOf pf o.op == 1 with
      | false => rfl
      | true =>
        simp only [hk, if_true] at h1
        cases hw : wantedA all o s.tm with
        | false => rfl
        | true =>
          simp only [hw, Bool.not_true, Bool.false_or, List.all_eq_true] at h1 ⊢
          intro c hc
          cases hx : excluded pf all (masks all []) pre.length c with
          | true => rfl
          | false =>
            have := h1 c (List.mem_filter.2 ⟨hc, by rw [hx]; rfl⟩)
            simp only [Bool.false_or]
            exact this
    · have := readsP_ok (pf := pf) (T := T) (H := H) (all := all) (mems := mems) r (pre ++ [o]) tr (by rw [he]; simp) (by simpa using h2)
      simpa using this
def runPlan (pf : FuncId → Nat) (T : TTab) (H : Hooks) (all : List Oper) (pl : List (List Nat)) (s : St) : Option St :=
  match trace T H all all s with
  | some (tr, e) => if readsP pf T H all (tr.map (·.1.mem) ++ [e.mem]) all pl tr && grpDyn pf all (masks all []) (grpOf pf all (masks all [])) tr then some e else none
  | none => none
theorem runDraw_of_plan {pf : FuncId → Nat} {T : TTab} {H : Hooks} {all : List Oper} {pl : List (List Nat)} {s s' : St} (hp : planOf pf all = pl) (h : runPlan pf T H all pl s = some s') : runDraw pf T H all s = some s' := by
  unfold runPlan at h
  unfold runDraw
  split at h
  · rename_i tr e htr
    split at h
    · rename_i hr
      cases h
      rw [Bool.and_eq_true] at hr
      obtain ⟨hr, hg⟩ := hr
      rw [← hp] at hr
      rw [htr]
      have q : readsOk pf T H all (masks all []) (tr.map (·.1.mem) ++ [s'.mem]) all 0 tr = true := readsP_ok (all := all) all [] tr rfl (by simpa [planOf] using hr)
      show (if (readsOk pf T H all (masks all []) (tr.map (·.1.mem) ++ [s'.mem]) all 0 tr && grpDyn pf all (masks all []) (grpOf pf all (masks all [])) tr) = true then some s' else none) = some s'
      rw [if_pos (by rw [q, hg]; rfl)]
    · cases h
  · cases h
def readG (pf : FuncId → Nat) (T : TTab) (H : Hooks) (all : List Oper) (mems : List Mem) : List Oper → List (List Nat) → List (St × AVal) → List (Option AVal × Option AVal)
  | o :: r, cs :: ps, (s, v) :: tr => (if wantedA all o s.tm then cs.map fun c => ((mems[c]?).bind fun σ => (aexec T H o.op s.tm σ).bind fun x => match x.1 with
      | .val u => some u
      | _ => none, some v) else []) ++ readG pf T H all mems r ps tr
  | _, _, _ => []
theorem readG_ok {pf : FuncId → Nat} {T : TTab} {H : Hooks} {all : List Oper} {mems : List Mem} : ∀ (l : List Oper) (pl : List (List Nat)) (tr : List (St × AVal)),
    (∀ p ∈ readG pf T H all mems l pl tr, p.1 = p.2) → readsP pf T H all mems l pl tr = true
  | [], pl, tr, _ => by cases pl <;> cases tr <;> rfl
  | o :: r, [], tr, _ => by cases tr <;> rfl
  | o :: r, cs :: ps, [], _ => rfl
  | o :: r, cs :: ps, (s, v) :: tr, h => by
    simp only [readG, List.mem_append] at h
    simp only [readsP, Bool.and_eq_true]
    refine ⟨?_, readG_ok r ps tr fun p hp => h p (.inr hp)⟩
    cases hw : wantedA all o s.tm with
    | false => rfl
    | true =>
      simp only [hw, if_true, List.mem_map] at h
      simp only [Bool.not_true, Bool.false_or, List.all_eq_true]
      intro c hc
      have := h _ (.inl ⟨c, hc, rfl⟩)
      simp only at this
      cases hm : mems[c]? with
      | none => rw [hm] at this; cases this
      | some σ =>
        rw [hm] at this
        simp only [Option.bind_some] at this ⊢
        cases hx : aexec T H o.op s.tm σ with
        | none => rw [hx] at this; cases this
        | some x =>
          obtain ⟨x, σ'⟩ := x
          rw [hx] at this
          simp only [Option.bind_some] at this ⊢
          cases x with
          | val u => simp only [Option.some.injEq] at this; subst this; exact aeq_refl u
          | skip => cases this
          | pan u => cases this
          | dfr u => cases this
def loopsOf : Code → List Code
  | .loop b => b :: loopsOf b
  | .seq a b => loopsOf a ++ loopsOf b
  | .cond _ a b => loopsOf a ++ loopsOf b
  | .block _ b => loopsOf b
  | .scope b => loopsOf b
  | .rangeFunc _ _ a b => loopsOf a ++ loopsOf b
  | _ => []
def loopAt (fn : Func) (i : Nat) : Code := (loopsOf (fn.body.getD .skip)).getD i .skip
def readG3 (pf : FuncId → Nat) (T : TTab) (H : Hooks) (all : List Oper) (mems : List Mem) : List Oper → List (List Nat) → List (St × AVal) → List (Option AVal × Option AVal)
  | o :: r, cs :: ps, (s, _) :: tr => (if wantedA all o s.tm then cs.map fun c => ((mems[c]?).bind fun σ => (aexec T H o.op s.tm σ).bind fun x => match x.1 with
      | .val u => some u
      | _ => none, rawOf (aexec T H o.op s.tm s.mem)) else []) ++ readG3 pf T H all mems r ps tr
  | _, _, _ => []
section
variable {T : TTab} {H : Hooks} {pf : FuncId → Nat}
theorem readG3_ok {all : List Oper} {mems : List Mem} : ∀ (l : List Oper) (pl : List (List Nat)) (s : St) (tr : List (St × AVal)) (e : St), trace T H all l s = some (tr, e) →
    (∀ p ∈ readG3 pf T H all mems l pl tr, p.1 = p.2) → ∀ p ∈ readG pf T H all mems l pl tr, p.1 = p.2
  | [], pl, s, tr, e, _, _ => by cases pl <;> cases tr <;> (intro p hp; simp [readG] at hp)
  | o :: r, [], s, tr, e, _, _ => by cases tr <;> (intro p hp; simp [readG] at hp)
  | o :: r, cs :: ps, s, tr, e, ht, h => by
    simp only [trace] at ht
    split at ht
    · rename_i v σ hv
      split at ht
      · rename_i l e1 hl
        simp only [Option.some.injEq, Prod.mk.injEq] at ht
        obtain ⟨rfl, rfl⟩ := ht
        simp only [readG3, List.mem_append] at h
        intro p hp
        simp only [readG, List.mem_append] at hp
        rcases hp with hp | hp
        · cases hw : wantedA all o s.tm with
          | false => rw [hw] at hp; simp at hp
          | true =>
            rw [hw] at hp h
            simp only [if_true, List.mem_map] at hp h
            obtain ⟨c, hc, rfl⟩ := hp
            have := h _ (.inl ⟨c, hc, rfl⟩)
            refine Eq.trans this ?_
            simp only
            unfold stepV at hv
            split at hv
            · cases hv
            split at hv
            · rename_i u σ1 hx
              simp only [Option.some.injEq, Prod.mk.injEq] at hv
              rw [hx, ← hv.1]; rfl
            · rename_i σ1 hx
              simp only [Option.some.injEq, Prod.mk.injEq] at hv
              rw [hx, ← hv.1]; rfl
            · cases hv
        · exact readG3_ok r ps _ l e1 hl (fun q hq => h q (.inr hq)) p hp
      · cases ht
    · cases ht
end
end Go.Ev

