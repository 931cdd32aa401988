import Derived.Test.YtcgajpdhbanhaaaGreatEvRg
namespace Go.Ev
set_option linter.unusedVariables false
structure LSt where
  xs : List AVal
  ls : List ABlk
def LSt.add (s : LSt) (x : AVal) (b : ABlk) : Nat × LSt := (s.xs.length, ⟨s.xs ++ [x], s.ls ++ [b]⟩)
mutual
def lendV (σ : Mem) : Nat → AVal → LSt → Option (AVal × LSt)
  | 0, _, _ => none
  | n + 1, v, s => match v with
    | .vec b => match σ.get b with
      | some (.vec cs m sz _) => let r := s.add (.vec b) (.vec cs m sz false); some (.vec r.1, r.2)
      | _ => none
    | .slice b o l ex c => match σ.get b with
      | some (.cells _ _ (some g)) => match cellsAt σ b o (l * g) with
        | some cs => let r := s.add (.slice b o l ex c) (.vec cs l g false); some (.vec r.1, r.2)
        | none => none
      | _ => none
    | .ptr b o => match σ.get b with
      | some (.cells bs _ _) => match lendL σ n bs s with
        | some (cs, s) => let r := s.add (.ptr b 0) (.cells cs false none); some (.ptr r.1 o, r.2)
        | none => none
      | _ => none
    | .agg vs => match lendL σ n vs s with
      | some (vs, s) => some (.agg vs, s)
      | none => none
    | .tup vs => match lendL σ n vs s with
      | some (vs, s) => some (.tup vs, s)
      | none => none
    | .iface t v => match lendV σ n v s with
      | some (v, s) => some (.iface t v, s)
      | none => none
    | .func f fs cs => match lendL σ n fs s with
      | some (fs, s) => match lendL σ n cs s with
        | some (cs, s) => some (.func f fs cs, s)
        | none => none
      | none => none
    | .emp _ => none
    | .map _ => none
    | .junk _ => none
    | v => some (v, s)
def lendL (σ : Mem) : Nat → List AVal → LSt → Option (List AVal × LSt)
  | 0, _, _ => none
  | _ + 1, [], s => some ([], s)
  | n + 1, v :: vs, s => match lendV σ n v s with
    | some (v, s) => match lendL σ n vs s with
      | some (vs, s) => some (v :: vs, s)
      | none => none
    | none => none
end
def lentB (σ : Mem) (xs : List AVal) (ks : List Bool) : AVal → ABlk → Bool
  | x, .vec cs n sz own => !own && (match elemsA σ sz x with
    | some (ds, m) => aeqL cs ds && Nat.beq n m
    | none => false) && flatA σ sz x && !Nat.beq sz 0
  | .ptr b o, .cells cs own gr => !own && gr.isNone && !isNil cs && onlyVC ks cs && (match cellsAt σ b o cs.length with
    | some ds => aeqL ds (subL xs cs)
    | none => false)
  | _, _ => false
def lentBs (σ : Mem) (xs : List AVal) (ks : List Bool) : List AVal → List ABlk → Bool
  | [], [] => true
  | x :: r, b :: s => lentB σ xs ks x b && lentBs σ xs ks r s
  | _, _ => false
theorem lentB_ok {σ : Mem} {xs : List AVal} {ks : List Bool} {x : AVal} {b : ABlk} (h : lentB σ xs ks x b = true) : LentAt σ xs ks x b := by
  unfold lentB at h
  split at h
  · rename_i cs n sz own
    simp only [Bool.and_eq_true] at h
    obtain ⟨⟨⟨h1, h2⟩, h3⟩, h4⟩ := h
    refine ⟨by simpa using h1, ?_, h3, ?_⟩
    · split at h2
      · rename_i ds m he
        simp only [Bool.and_eq_true] at h2
        rw [he, aeqL_eq _ _ h2.1, Nat.eq_of_beq_eq_true h2.2]
      · cases h2
    · rintro rfl
      simp at h4
  · rename_i b o cs own gr
    simp only [Bool.and_eq_true] at h
    obtain ⟨⟨⟨⟨h1, h2⟩, h3⟩, h4⟩, h5⟩ := h
    refine ⟨by simpa using h1, Option.isNone_iff_eq_none.1 h2, ?_, h4, b, o, rfl, ?_⟩
    · rintro rfl
      simp [isNil] at h3
    · split at h5
      · rename_i ds he
        rw [he, aeqL_eq _ _ h5]
      · cases h5
  · cases h
theorem lentBs_ok {σ : Mem} {xs : List AVal} {ks : List Bool} : ∀ {l : List AVal} {bs : List ABlk}, lentBs σ xs ks l bs = true → l.length = bs.length ∧ ∀ (i : Nat) (x : AVal) (b : ABlk), l[i]? = some x → bs[i]? = some b → LentAt σ xs ks x b
  | [], [], _ => ⟨rfl, fun i x b h => by simp at h⟩
  | x :: r, b :: s, h => by
    simp only [lentBs, Bool.and_eq_true] at h
    obtain ⟨h1, h2⟩ := h
    obtain ⟨q1, q2⟩ := lentBs_ok h2
    refine ⟨by simp [q1], fun i y c hy hc => ?_⟩
    cases i with
    | zero =>
      simp only [List.getElem?_cons_zero, Option.some.injEq] at hy hc
      subst hy hc
      exact lentB_ok h1
    | succ i => exact q2 i y c (by simpa using hy) (by simpa using hc)
  | [], _ :: _, h => by cases h
  | _ :: _, [], h => by cases h
def outB (σ : Mem) : Nat → Nat → Option (List ABlk)
  | 0, _ => some []
  | n + 1, k => match σ.get k with
    | some b => match outB σ n (k + 1) with
      | some r => some (b :: r)
      | none => none
    | none => none
theorem outB_spec {σ : Mem} : ∀ {n k : Nat} {bs : List ABlk}, outB σ n k = some bs → bs.length = n ∧ ∀ (j : Nat) (b : ABlk), bs[j]? = some b → σ.get (k + j) = some b
  | 0, k, bs, h => by
    simp only [outB, Option.some.injEq] at h
    subst h
    exact ⟨rfl, fun j b hb => by simp at hb⟩
  | n + 1, k, bs, h => by
    simp only [outB] at h
    split at h
    · rename_i b hb
      split at h
      · rename_i r hr
        simp only [Option.some.injEq] at h
        subst h
        obtain ⟨q1, q2⟩ := outB_spec hr
        refine ⟨by simp [q1], fun j c hc => ?_⟩
        cases j with
        | zero =>
          simp only [List.getElem?_cons_zero, Option.some.injEq] at hc
          subst hc
          exact hb
        | succ j =>
          have := q2 j c (by simpa using hc)
          rw [show k + (j + 1) = k + 1 + j by omega]
          exact this
      · cases h
    · cases h
theorem Rel.part {w0 : W0} {ρ : Nat → Loc} {σ σ' : Mem} {w : World} (h : Rel w0 ρ σ' w) (hn : σ'.next = σ.next) (hk : ∀ i b, σ.get i = some b → σ'.get i = some b) : Rel w0 ρ σ w :=
  ⟨fun i b hb => hn ▸ h.lt i b (hk i b hb), fun i b hb => hn ▸ h.sco i b (hk i b hb), fun i b hb => h.ok i b (hk i b hb), fun i b hb ha => h.inb i b (hk i b hb) ha, fun i j bi bj hi hj => h.ap i j bi bj (hk i bi hi) (hk j bj hj),
    fun i b hb => h.own i b (hk i b hb), h.os, h.tape, h.output, h.size, h.old⟩
section
variable {P : Program}
theorem SemCall.part {g : FuncId} {args : List AVal} {σ σ' σ2 : Mem} {r : ARes} (h : SemCall P g args σ r σ') (hn : σ'.next = σ2.next) (hk : ∀ i b, σ2.get i = some b → σ'.get i = some b) : SemCall P g args σ r σ2 := by
  intro w0 ρ w hr hs
  refine (h w0 ρ w hr hs).mono ?_
  rintro e w' ⟨ρ', h1, h2, h3⟩
  exact ⟨ρ', h1, ⟨h2.rel.part hn hk, h2.ext, hn ▸ h2.le⟩, hn ▸ h3⟩
def tellF (t : MTab) (tell : Teller) : Teller := fun g args σ => match findM args σ (t g) with
  | some x => some x
  | none => tell g args σ
theorem tellF_ok {t : MTab} {tell : Teller} (ht : MTabOk P t) (h : TellOk P tell) : TellOk P (tellF t tell) := by
  intro g args σ x hx
  unfold tellF at hx
  split at hx
  · rename_i y hy
    cases hx
    exact okM_mem (ht g) ⟨args, σ, x⟩ (findM_mem hy)
  · exact h g args σ x hx
def lendT (tell : Teller) (g : FuncId) (args : List AVal) (σ : Mem) : Option (AVal × List ABlk) :=
  match lendL σ 400 args ⟨[], []⟩ with
  | some (cargs, s) => cond (lentBs σ s.xs (s.ls.map isVecB) s.xs s.ls && onlyVL (s.ls.map isVecB) cargs && aeqL (subL s.xs cargs) args)
    (match tell g cargs ⟨s.ls.length, numB 0 s.ls⟩ with
      | some x => cond (Nat.ble s.ls.length x.2.next && fr s.ls.length x.1) (match outB x.2 (x.2.next - s.ls.length) s.ls.length with
        | some bs => cond (bs.all (frB s.ls.length)) (some (rn (fun i => σ.next + (i - s.ls.length)) x.1, bs.map (rnB fun i => σ.next + (i - s.ls.length)))) none
        | none => none) none
      | none => none) none
  | none => none
theorem lendT_sem {tell : Teller} (ht : TellOk P tell) {g : FuncId} {args : List AVal} {σ : Mem} {y : AVal × List ABlk} (h : lendT tell g args σ = some y) : IsFn P g ∧ SemCall P g args σ (.ret y.1) (pushAll σ y.2) := by
  unfold lendT at h
  split at h
  rotate_left
  · cases h
  rename_i cargs s _
  obtain ⟨h1, h⟩ := cond_some h
  simp only [Bool.and_eq_true] at h1
  obtain ⟨⟨a1, a2⟩, a3⟩ := h1
  split at h
  rotate_left
  · cases h
  rename_i x hx
  obtain ⟨h2, h⟩ := cond_some h
  simp only [Bool.and_eq_true, Nat.ble_eq] at h2
  split at h
  rotate_left
  · cases h
  rename_i bs hbs
  obtain ⟨h3, h⟩ := cond_some h
  cases h
  obtain ⟨k1, k2⟩ := ht _ _ _ _ hx
  obtain ⟨q1, q2⟩ := outB_spec hbs
  obtain ⟨l1, l2⟩ := lentBs_ok a1
  refine ⟨k1, ?_⟩
  have k3 : SemCall P g cargs ⟨s.ls.length, numB 0 s.ls⟩ (.ret x.1) ⟨s.ls.length + bs.length, numB s.ls.length bs⟩ := k2.part (by show x.2.next = s.ls.length + bs.length; rw [q1]; have := h2.1; omega) fun i b hi => by
    obtain ⟨r1, r2, r3⟩ := numB_len _ (look_mem hi)
    have := q2 _ _ r3
    have r0 : s.ls.length ≤ i := r1
    have e : s.ls.length + (i - s.ls.length) = i := Nat.add_sub_cancel' r0
    rw [← e]
    exact this
  have := SemCall.lift (σ := σ) (xs := s.xs) (ls := s.ls) (bs := bs) ⟨l1, l2⟩ k3 a2 h2.2 h3
  rw [aeqL_eq _ _ a3] at this
  exact this
def CH.ltT (tell : Teller) (gs rs : FuncId → Bool) (c : CH) : CH where
  call := fun g args σ k => cond (gs g) ((lendT tell g args σ).bind fun y => cond (rs g) (need (isNil y.2) (k (.ret y.1) σ .nil)) (k (.ret y.1) (pushAll σ y.2) .nil)) (c.call g args σ k)
  nat := fun g args σ k => by
    cases gs g with
    | true =>
      simp only [cond_true]
      rw [Option.bind_assoc]
      congr 1
      funext y
      cases rs g with
      | true => simp only [cond_true]; rw [need_nat]; rfl
      | false => rfl
    | false => exact c.nat g args σ k
  ext := fun g => cond (gs g) true (c.ext g)
  pf := fun g => cond (gs g) (cond (rs g) 1 2) (c.pf g)
theorem isNil_eq {A : Type} {l : List A} (h : isNil l = true) : l = [] := by
  cases l with
  | nil => rfl
  | cons a b => cases h
theorem CH.ltT_ok {tell : Teller} (ht : TellOk P tell) {gs rs : FuncId → Bool} {c : CH} (hc : CHOk P c) : CHOk P (CH.ltT tell gs rs c) := by
  have key : ∀ g args σ r σ', gs g = true → (CH.ltT tell gs rs c).H g args σ = some (r, σ') → ∃ y, lendT tell g args σ = some y ∧ r = .ret y.1 ∧ σ' = pushAll σ y.2 ∧ (rs g = true → y.2 = []) := by
    intro g args σ r σ' e hr
    simp only [CH.H, CH.ltT, e, cond_true] at hr
    cases htl : lendT tell g args σ with
    | none => rw [htl] at hr; cases hr
    | some y =>
      rw [htl] at hr
      simp only [Option.bind_some] at hr
      cases er : rs g with
      | true =>
        rw [er] at hr
        simp only [cond_true] at hr
        split at hr
        · rename_i r1 σ1 ow hx
          obtain ⟨h1, h2⟩ := need_some hx
          simp only [Option.some.injEq, Prod.mk.injEq] at h2
          obtain ⟨rfl, rfl, rfl⟩ := h2
          rw [if_pos Ow.ok_nil] at hr
          simp only [Option.some.injEq, Prod.mk.injEq] at hr
          have h3 := isNil_eq h1
          exact ⟨y, rfl, hr.1.symm, by rw [h3]; exact hr.2.symm, fun _ => h3⟩
        · cases hr
      | false =>
        rw [er] at hr
        simp only [cond_false] at hr
        rw [if_pos Ow.ok_nil] at hr
        simp only [Option.some.injEq, Prod.mk.injEq] at hr
        exact ⟨y, rfl, hr.1.symm, hr.2.symm, fun h => by cases h⟩
  have other : ∀ g args σ, gs g = false → (CH.ltT tell gs rs c).H g args σ = c.H g args σ := by
    intro g args σ e
    simp only [CH.H, CH.ltT, e, cond_false]
  refine ⟨?_, fun g args σ r σ' he hr => ?_, fun g args σ r σ' he hr => ?_, fun g args σ r σ' he hr => ?_⟩
  · intro g args σ r σ' hr
    cases e : gs g with
    | true =>
      obtain ⟨y, h1, rfl, rfl, _⟩ := key g args σ r σ' e hr
      exact .inl (lendT_sem ht h1)
    | false => rw [other g args σ e] at hr; exact hc.1 g args σ r σ' hr
  · cases e : gs g with
    | true =>
      obtain ⟨y, h1, rfl, rfl, _⟩ := key g args σ r σ' e hr
      exact pushAll_ext
    | false =>
      simp only [CH.ltT, e, cond_false] at he
      rw [other g args σ e] at hr
      exact hc.2.1 g args σ r σ' he hr
  · cases e : gs g with
    | true =>
      simp only [CH.ltT, e, cond_true] at he
      cases er : rs g with
      | true => rw [er] at he; cases he
      | false => rw [er] at he; cases he
    | false =>
      simp only [CH.ltT, e, cond_false] at he
      rw [other g args σ e] at hr
      obtain ⟨h1, h2, h3⟩ := hc.2.2.1 g args σ r σ' he hr
      exact ⟨h1, h2, fun σ2 => by rw [other g args σ2 e]; exact h3 σ2⟩
  · cases e : gs g with
    | true =>
      simp only [CH.ltT, e, cond_true] at he
      obtain ⟨y, h1, rfl, rfl, h2⟩ := key g args σ r σ' e hr
      cases er : rs g with
      | true => rw [h2 er]; exact ⟨rfl, _, rfl⟩
      | false => rw [er] at he; cases he
    | false =>
      simp only [CH.ltT, e, cond_false] at he
      rw [other g args σ e] at hr
      exact hc.2.2.2 g args σ r σ' he hr
def chkF (f : FuncId → List AVal → Option AVal) (g : FuncId) : List (List AVal × AVal) → Bool
  | [] => true
  | x :: r => (match f g x.1 with
    | some v => aeq v x.2
    | none => false) && chkF f g r
def chkM (f : Teller) (g : FuncId) : List MF → Bool
  | [] => true
  | x :: r => (match f g x.args x.mem with
    | some v => eqT v x.told
    | none => false) && chkM f g r
theorem chkF_ok {tell : Teller} (ht : TellOk P tell) {g : FuncId} : ∀ {l : List (List AVal × AVal)}, chkF (pureT tell) g l = true → okL P g l
  | [], _ => trivial
  | x :: r, h => by
    simp only [chkF, Bool.and_eq_true] at h
    obtain ⟨h1, h2⟩ := h
    refine ⟨?_, chkF_ok ht h2⟩
    split at h1
    · rename_i v hv
      rw [← aeq_eq _ _ h1]
      exact pureT_sem ht hv
    · cases h1
theorem chkM_ok {tell : Teller} (ht : TellOk P tell) {g : FuncId} : ∀ {l : List MF}, chkM tell g l = true → okM P g l
  | [], _ => trivial
  | x :: r, h => by
    simp only [chkM, Bool.and_eq_true] at h
    obtain ⟨h1, h2⟩ := h
    refine ⟨?_, chkM_ok ht h2⟩
    split at h1
    · rename_i v hv
      have := ht g _ _ _ hv
      rw [eqT_eq h1] at this
      exact this
    · cases h1
def qi (n : Int) : AVal := .int .i64 n
def qu (n : Int) : AVal := .int .u64 n
structure Lists where
  pu : FuncId → Bool
  lt : FuncId → Bool
  nd : FuncId → Bool
  xs : FuncId → Bool
  ds : FuncId → Bool
  rs : FuncId → Bool
  il : FuncId → Bool
def notL (l : FuncId → Bool) (m : MTab) : MTab := fun g => cond (l g) [] (m g)
theorem notL_ok {l : FuncId → Bool} {m : MTab} (h : MTabOk P m) : MTabOk P (notL l m) := by
  intro g
  unfold notL
  cases l g with
  | true => exact trivial
  | false => exact h g
noncomputable def layerL (P : Program) (T : TTab) (base : CH) (L : Lists) (t : FTab) (m : MTab) (fuel : Nat) : Nat → CH
  | 0 => CH.fm (notL L.lt m) (CH.fc t base)
  | n + 1 =>
    CH.fm (notL L.lt m) (CH.fc t (CH.puT (tellRD P T fuel L.ds L.il (layerL P T base L t m fuel n)) L.pu (CH.ltT (tellF m (tellRD P T fuel L.ds L.il (layerL P T base L t m fuel n))) L.lt L.rs (CH.ndT (tellRD P T fuel L.ds L.il (layerL P T base L t m fuel n)) L.nd L.xs L.rs base))))
theorem layerL_ok {T : TTab} (hT : TabOk P T) (hm : P.follows .mixedOrders = true) (hN : NoNum P) {base : CH} (hb : CHOk P base) {L : Lists} {t : FTab} {m : MTab} (ht : FTabOk P t) (hM : MTabOk P m) {fuel : Nat} :
    ∀ n, CHOk P (layerL P T base L t m fuel n)
  | 0 => CH.fm_ok (notL_ok hM) (CH.fc_ok ht hb)
  | n + 1 =>
    have k := tellRD_ok (fuel := fuel) (ds := L.ds) (il := L.il) hT hm hN (layerL_ok hT hm hN hb ht hM (L := L) (fuel := fuel) n)
    CH.fm_ok (notL_ok hM) (CH.fc_ok ht (CH.puT_ok k (CH.ltT_ok (tellF_ok hM k) (CH.ndT_ok k hb))))
end
end Go.Ev

