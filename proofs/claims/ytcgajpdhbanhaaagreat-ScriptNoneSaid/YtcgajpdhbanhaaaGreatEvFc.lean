import Derived.Test.YtcgajpdhbanhaaaGreatEvNd
namespace Go.Ev
def FactOk (P : Program) (g : FuncId) (a : List AVal) (v : AVal) : Prop := ∀ σ, IsFn P g ∧ SemCall P g a σ (.ret v) σ
def okL (P : Program) (g : FuncId) : List (List AVal × AVal) → Prop
  | [] => True
  | x :: r => FactOk P g x.1 x.2 ∧ okL P g r
theorem okL_mem {P : Program} {g : FuncId} : ∀ {l : List (List AVal × AVal)}, okL P g l → ∀ x ∈ l, FactOk P g x.1 x.2
  | [], _, x, hx => by cases hx
  | a :: r, h, x, hx => by
    rcases List.mem_cons.1 hx with rfl | hx
    · exact h.1
    · exact okL_mem h.2 x hx
abbrev FTab := FuncId → List (List AVal × AVal)
def FTabOk (P : Program) (t : FTab) : Prop := ∀ g, okL P g (t g)
theorem ftab_leaf {P : Program} : FTabOk P fun _ => [] := fun _ => trivial
theorem ftab_node {P : Program} {g : FuncId} {l : List (List AVal × AVal)} {t : FTab} (hl : okL P g l) (ht : FTabOk P t) : FTabOk P fun f => cond (Nat.beq f g) l (t f) := by
  intro f
  cases e : Nat.beq f g with
  | true =>
    obtain rfl := Nat.eq_of_beq_eq_true e
    simpa only [e, cond_true] using hl
  | false => simpa only [e, cond_false] using ht f
theorem okL_app {P : Program} {g : FuncId} : ∀ {a b : List (List AVal × AVal)}, okL P g a → okL P g b → okL P g (a ++ b)
  | [], _, _, h => h
  | _ :: _, _, h, k => ⟨h.1, okL_app h.2 k⟩
theorem ftab_or {P : Program} {s t : FTab} (hs : FTabOk P s) (ht : FTabOk P t) : FTabOk P fun f => s f ++ t f := fun f => okL_app (hs f) (ht f)
def findF (args : List AVal) : List (List AVal × AVal) → Option AVal
  | [] => none
  | x :: r => cond (aeqL x.1 args) (some x.2) (findF args r)
theorem findF_mem {args : List AVal} : ∀ {l : List (List AVal × AVal)} {v : AVal}, findF args l = some v → (args, v) ∈ l
  | x :: r, v, h => by
    simp only [findF] at h
    cases e : aeqL x.1 args with
    | true =>
      rw [e] at h
      obtain rfl : x.2 = v := by simpa using h
      rw [← aeqL_eq _ _ e]
      exact List.mem_cons_self ..
    | false =>
      rw [e] at h
      exact List.mem_cons_of_mem _ (findF_mem h)
noncomputable def CH.fc (t : FTab) (c : CH) : CH where
  call := fun g args σ k => match findF args (t g) with
    | some v => k (.ret v) σ .nil
    | .none => c.call g args σ k
  nat := fun g args σ k => by
    split
    · rfl
    · exact c.nat g args σ k
  ext := c.ext
  pf := c.pf
theorem CH.fc_ok {P : Program} {t : FTab} {c : CH} (ht : FTabOk P t) (hc : CHOk P c) : CHOk P (CH.fc t c) := by
  have key : ∀ g args σ r σ', (CH.fc t c).H g args σ = some (r, σ') → (∃ v, findF args (t g) = some v ∧ r = .ret v ∧ σ' = σ) ∨ (findF args (t g) = .none ∧ c.H g args σ = some (r, σ')) := by
    intro g args σ r σ' hr
    cases e : findF args (t g) with
    | some v =>
      simp only [CH.H, CH.fc, e] at hr
      rw [if_pos Ow.ok_nil] at hr
      simp only [Option.some.injEq, Prod.mk.injEq] at hr
      exact .inl ⟨v, rfl, hr.1.symm, hr.2.symm⟩
    | none =>
      simp only [CH.H, CH.fc, e] at hr
      exact .inr ⟨rfl, hr⟩
  refine ⟨?_, fun g args σ r σ' he hr => ?_, ?_⟩
  · intro g args σ r σ' hr
    rcases key g args σ r σ' hr with ⟨v, h1, rfl, rfl⟩ | ⟨_, h1⟩
    · exact .inl (okL_mem (ht g) _ (findF_mem h1) _)
    · exact hc.1 g args σ r σ' h1
  · rcases key g args σ r σ' hr with ⟨v, h1, rfl, rfl⟩ | ⟨_, h1⟩
    · exact .refl _
    · exact hc.2.1 g args σ r σ' he h1
  · refine ⟨fun g args σ r σ' he hr => ?_, fun g args σ r σ' he hr => ?_⟩
    · rcases key g args σ r σ' hr with ⟨v, h1, rfl, rfl⟩ | ⟨h0, h1⟩
      · refine ⟨rfl, ⟨v, rfl⟩, fun σ2 => ?_⟩
        simp only [CH.H, CH.fc, h1]
        rw [if_pos Ow.ok_nil]
      · obtain ⟨q1, q2, q3⟩ := hc.2.2.1 g args σ r σ' he h1
        refine ⟨q1, q2, fun σ2 => ?_⟩
        have := q3 σ2
        simp only [CH.H, CH.fc, h0]
        exact this
    · rcases key g args σ r σ' hr with ⟨v, h1, rfl, rfl⟩ | ⟨h0, h1⟩
      · exact ⟨rfl, v, rfl⟩
      · exact hc.2.2.2 g args σ r σ' he h1
structure MF where
  args : List AVal
  mem : Mem
  told : Told
def MFOk (P : Program) (g : FuncId) (x : MF) : Prop := IsFn P g ∧ SemCall P g x.args x.mem (.ret x.told.1) x.told.2
def okM (P : Program) (g : FuncId) : List MF → Prop
  | [] => True
  | x :: r => MFOk P g x ∧ okM P g r
theorem okM_mem {P : Program} {g : FuncId} : ∀ {l : List MF}, okM P g l → ∀ x ∈ l, MFOk P g x
  | [], _, x, hx => by cases hx
  | a :: r, h, x, hx => by
    rcases List.mem_cons.1 hx with rfl | hx
    · exact h.1
    · exact okM_mem h.2 x hx
abbrev MTab := FuncId → List MF
def MTabOk (P : Program) (t : MTab) : Prop := ∀ g, okM P g (t g)
theorem mtab_leaf {P : Program} : MTabOk P fun _ => [] := fun _ => trivial
theorem mtab_node {P : Program} {g : FuncId} {l : List MF} {t : MTab} (hl : okM P g l) (ht : MTabOk P t) : MTabOk P fun f => cond (Nat.beq f g) l (t f) := by
  intro f
  cases e : Nat.beq f g with
  | true =>
    obtain rfl := Nat.eq_of_beq_eq_true e
    simpa only [e, cond_true] using hl
  | false => simpa only [e, cond_false] using ht f
theorem okM_app {P : Program} {g : FuncId} : ∀ {a b : List MF}, okM P g a → okM P g b → okM P g (a ++ b)
  | [], _, _, h => h
  | _ :: _, _, h, k => ⟨h.1, okM_app h.2 k⟩
theorem mtab_or {P : Program} {s t : MTab} (hs : MTabOk P s) (ht : MTabOk P t) : MTabOk P fun f => s f ++ t f := fun f => okM_app (hs f) (ht f)
def findM (args : List AVal) (σ : Mem) : List MF → Option Told
  | [] => none
  | x :: r => cond (aeqL x.args args && eqMem x.mem σ) (some x.told) (findM args σ r)
theorem findM_mem {args : List AVal} {σ : Mem} : ∀ {l : List MF} {v : Told}, findM args σ l = some v → ⟨args, σ, v⟩ ∈ l
  | x :: r, v, h => by
    simp only [findM] at h
    cases e : (aeqL x.args args && eqMem x.mem σ) with
    | true =>
      rw [e] at h
      obtain rfl : x.told = v := by simpa using h
      simp only [Bool.and_eq_true] at e
      rw [← aeqL_eq _ _ e.1, ← eqMem_eq e.2]
      exact List.mem_cons_self ..
    | false =>
      rw [e] at h
      exact List.mem_cons_of_mem _ (findM_mem h)
noncomputable def CH.fm (t : MTab) (c : CH) : CH where
  call := fun g args σ k => cond (Nat.blt (c.pf g) 2) (c.call g args σ k) (match findM args σ (t g) with
    | some x => need (!c.ext g || stillA σ x.2) (k (.ret x.1) x.2 .nil)
    | .none => c.call g args σ k)
  nat := fun g args σ k => by
    cases Nat.blt (c.pf g) 2 with
    | true => exact c.nat g args σ k
    | false =>
      simp only [cond_false]
      split
      · rw [need_nat]; rfl
      · exact c.nat g args σ k
  ext := c.ext
  pf := c.pf
theorem CH.fm_ok {P : Program} {t : MTab} {c : CH} (ht : MTabOk P t) (hc : CHOk P c) : CHOk P (CH.fm t c) := by
  have same : ∀ g args σ, Nat.blt (c.pf g) 2 = true → (CH.fm t c).H g args σ = c.H g args σ := by
    intro g args σ e
    simp only [CH.H, CH.fm, e, cond_true]
  have key : ∀ g args σ r σ', Nat.blt (c.pf g) 2 = false → (CH.fm t c).H g args σ = some (r, σ') → (∃ x, MFOk P g ⟨args, σ, x⟩ ∧ (!c.ext g || stillA σ x.2) = true ∧ r = .ret x.1 ∧ σ' = x.2) ∨ c.H g args σ = some (r, σ') := by
    intro g args σ r σ' e0 hr
    simp only [CH.H, CH.fm, e0, cond_false] at hr
    cases e : findM args σ (t g) with
    | some x =>
      rw [e] at hr
      simp only at hr
      split at hr
      · rename_i r1 σ1 ow hx
        obtain ⟨h1, h2⟩ := need_some hx
        simp only [Option.some.injEq, Prod.mk.injEq] at h2
        obtain ⟨rfl, rfl, rfl⟩ := h2
        rw [if_pos Ow.ok_nil] at hr
        simp only [Option.some.injEq, Prod.mk.injEq] at hr
        exact .inl ⟨x, okM_mem (ht g) ⟨args, σ, x⟩ (findM_mem e), h1, hr.1.symm, hr.2.symm⟩
      · cases hr
    | none =>
      rw [e] at hr
      exact .inr hr
  refine ⟨?_, fun g args σ r σ' he hr => ?_, ?_⟩
  · intro g args σ r σ' hr
    cases e : Nat.blt (c.pf g) 2 with
    | true => rw [same g args σ e] at hr; exact hc.1 g args σ r σ' hr
    | false =>
      rcases key g args σ r σ' e hr with ⟨x, h1, h2, rfl, rfl⟩ | h1
      · exact .inl h1
      · exact hc.1 g args σ r σ' h1
  · cases e : Nat.blt (c.pf g) 2 with
    | true => rw [same g args σ e] at hr; exact hc.2.1 g args σ r σ' he hr
    | false =>
      rcases key g args σ r σ' e hr with ⟨x, h1, h2, rfl, rfl⟩ | h1
      · have he' : c.ext g = true := he
        rw [he'] at h2
        simp only [Bool.not_true, Bool.false_or] at h2
        exact stillA_ext h2
      · exact hc.2.1 g args σ r σ' he h1
  · refine ⟨fun g args σ r σ' he hr => ?_, fun g args σ r σ' he hr => ?_⟩
    · have he' : c.pf g = 0 := he
      have hs : Nat.blt (c.pf g) 2 = true := by rw [he']; rfl
      rw [same g args σ hs] at hr
      obtain ⟨q1, q2, q3⟩ := hc.2.2.1 g args σ r σ' he' hr
      exact ⟨q1, q2, fun σ2 => by rw [same g args σ2 hs]; exact q3 σ2⟩
    · have he' : c.pf g = 1 := he
      have hs : Nat.blt (c.pf g) 2 = true := by rw [he']; rfl
      rw [same g args σ hs] at hr
      exact hc.2.2.2 g args σ r σ' he' hr
end Go.Ev

