import Derived.Test.YtcgajpdhbanhaaaGreatEvW
namespace Go.Ev
set_option linter.unusedVariables false
set_option linter.unusedSimpArgs false
section
variable {R : Type} {T : TTab} {ch : CH}
theorem need_nat {R S : Type} (c : Bool) (x : Option S) (k : S → Option R) : (need c x).bind k = need c (x.bind k) := by cases c <;> rfl
theorem loadK_nat {σ : Mem} {t : TypeId} {x : AVal} (k : AVal → Option R) : loadK T σ t x k = (loadK T σ t x some).bind k := by
  unfold loadK
  split <;> try rfl
  split
  · split
    · split
      · rw [need_nat]; rfl
      · rfl
    · split <;> rfl
  · split <;> rfl
  · rfl
theorem idxK_nat {σ : Mem} {t : TypeId} {x i : AVal} (k : AVal → Option R) : idxK T σ t x i k = (idxK T σ t x i some).bind k := by
  unfold idxK
  repeat' (split <;> try rfl)
  all_goals (rw [need_nat]; rfl)
theorem appK_nat {σ : Mem} {t : TypeId} {s x : AVal} (k : AVal → Mem → Option R) : appK T σ t s x k = (appK T σ t s x fun a b => some (a, b)).bind fun q => k q.1 q.2 := by
  unfold appK
  split <;> try rfl
  split <;> try rfl
  split <;> try rfl
  split <;> try rfl
  rw [need_nat]
  congr 1
  split <;> rfl
theorem binK_nat {c : Bool} {o : BinOp} {t : TypeId} {x y : AVal} (k : AVal → Option R) : binK T c o t x y k = (binK T c o t x y some).bind k := by
  unfold binK
  split
  · split
    · rw [need_nat]; rfl
    · rfl
  · split
    · rw [need_nat]; rfl
    · rfl
  · rw [need_nat]; rfl
  · rw [need_nat]; rfl
  · split <;> rfl
theorem mapPutK_nat {σ : Mem} {t : TypeId} {x k v : AVal} (K : Mem → Option R) : mapPutK T σ t x k v K = (mapPutK T σ t x k v some).bind K := by
  unfold mapPutK
  split <;> try rfl
  split <;> try rfl
  split <;> try rfl
  rw [need_nat]; rfl
theorem lookK_nat {σ : Mem} {t : TypeId} {x k : AVal} {ok : Bool} (K : AVal → Option R) : lookK T σ t x k ok K = (lookK T σ t x k ok some).bind K := by
  unfold lookK
  split <;> try rfl
  split <;> try rfl
  split <;> try rfl
  split <;> try rfl
  split
  · split <;> try rfl
    split <;> try rfl
    rw [need_nat]; rfl
  · split <;> rfl
theorem makeK_nat {σ : Mem} {t : TypeId} {n : Int} (k : AVal → Mem → Option R) : makeK T σ t n k = (makeK T σ t n fun v σ' => some (v, σ')).bind fun x => k x.1 x.2 := by
  unfold makeK
  split
  · split
    · rfl
    · rw [need_nat]; rfl
  · rfl
theorem binMK_nat {σ : Mem} {c n : Bool} {o : BinOp} {t : TypeId} {x y : AVal} (k : AVal → Option R) : binMK T σ c n o t x y k = (binMK T σ c n o t x y fun v => some v).bind k := by
  unfold binMK
  cases n with
  | false => simp only [cond_false]; exact binK_nat k
  | true =>
    simp only [cond_true]
    split
    · rfl
    · exact binK_nat k
theorem storeK_nat {σ : Mem} {t : TypeId} {x v : AVal} (k : Mem → Option R) : storeK T σ t x v k = (storeK T σ t x v some).bind k := by
  unfold storeK
  split <;> try rfl
  split
  · split
    · rw [need_nat]; rfl
    · rfl
  · split <;> rfl
  · rfl
theorem ixK_nat {t : TypeId} {x i : AVal} (k : AVal → Option R) : ixK T t x i k = (ixK T t x i some).bind k := by
  unfold ixK
  split
  · rw [need_nat]; rfl
  · split <;> rfl
theorem opK_nat {op : Op} {tm : List AVal} {σ : Mem} (k : ORes → Mem → Ow → Option R) : opK T ch op tm σ k = (opK T ch op tm σ fun a b c => some (a, b, c)).bind fun x => k x.1 x.2.1 x.2.2 := by
  unfold opK
  split
  · split
    · rename_i g fs cs vs _ _
      generalize dynRd _ _ = b
      cases b with
      | false =>
        simp only [cond_false]
        conv => lhs; rw [ch.nat]
        conv => rhs; rw [ch.nat, Option.bind_assoc]
        congr 1
        funext q
        obtain ⟨r, σ', o⟩ := q
        cases r <;> rfl
      | true =>
        simp only [cond_true]
        generalize (sc 0 (.func g fs cs) && scL 0 vs) = c
        cases c with
        | false => rfl
        | true =>
          simp only [cond_true]
          conv => lhs; rw [ch.nat]
          conv => rhs; rw [ch.nat, Option.bind_assoc]
          congr 1
          funext q
          obtain ⟨r, σ', o⟩ := q
          cases r with
          | pan v => rfl
          | ret v =>
            simp only
            generalize (eqMem σ' ⟨0, []⟩ && sc 0 v) = e
            cases e <;> rfl
    · rfl
  · split
    · split
      · rw [appK_nat, appK_nat (k := fun v σ' => some (ORes.val v, σ', Ow.nil)), Option.bind_assoc]; rfl
      · rfl
    · rfl
  · split
    · rw [loadK_nat, loadK_nat (k := fun v => some (ORes.val v, σ, Ow.nil)), Option.bind_assoc]; rfl
    · rfl
  · split
    · rw [idxK_nat, idxK_nat (k := fun v => some (ORes.val v, σ, Ow.nil)), Option.bind_assoc]; rfl
    · rfl
  · split
    · rw [storeK_nat, storeK_nat (k := fun σ' => some (ORes.skip, σ', Ow.nil)), Option.bind_assoc]; rfl
    · rfl
  · split
    · rw [ixK_nat, ixK_nat (k := fun v => some (ORes.val v, σ, Ow.nil)), Option.bind_assoc]; rfl
    · rfl
  · split
    · rw [binMK_nat, binMK_nat (k := fun v => some (ORes.val v, σ, Ow.nil)), Option.bind_assoc]; rfl
    · rfl
  · split
    · rw [mapPutK_nat, mapPutK_nat (K := fun σ' => some (ORes.skip, σ', Ow.nil)), Option.bind_assoc]; rfl
    · rfl
  · split
    · rw [makeK_nat, makeK_nat (k := fun v σ' => some (ORes.val v, σ', Ow.nil)), Option.bind_assoc]; rfl
    · rfl
  · split
    · rw [lookK_nat, lookK_nat (K := fun v => some (ORes.val v, σ, Ow.nil)), Option.bind_assoc]; rfl
    · rfl
  · split <;> rfl
inductive StepR where
  | v (v : AVal) (σ : Mem) (o : Ow)
  | p (v : AVal) (σ : Mem) (o : Ow)
  | d (d : ADef) (σ : Mem) (o : Ow)
theorem stepK_nat {all : List Oper} {o : Oper} {s : St} (k kp : AVal → Mem → Ow → Option R) (kd : ADef → Mem → Ow → Option R) :
    stepK T ch all o s k kp kd = (stepK T ch all o s (fun v σ w => some (StepR.v v σ w)) (fun v σ w => some (StepR.p v σ w)) (fun d σ w => some (StepR.d d σ w))).bind fun q => match q with
      | .v v σ w => k v σ w
      | .p v σ w => kp v σ w
      | .d d σ w => kd d σ w := by
  unfold stepK
  split
  · rfl
  · split
    · conv => lhs; rw [opK_nat]
      conv => rhs; rw [opK_nat, Option.bind_assoc]
      congr 1
      funext q
      obtain ⟨r, σ', ow⟩ := q
      cases r <;> simp only [splitB_eq, Option.bind_some]
    · rfl
inductive RunR where
  | k (s : St) (o : Ow)
  | p (v : AVal) (s : St) (o : Ow)
theorem runK_nat {all : List Oper} : ∀ {l : List Oper} {s : St} {ow : Ow} (k : St → Ow → Option R) (kp : AVal → St → Ow → Option R),
    runK T ch all l s ow k kp = (runK T ch all l s ow (fun s o => some (RunR.k s o)) (fun v s o => some (RunR.p v s o))).bind fun q => match q with
      | .k s o => k s o
      | .p v s o => kp v s o
  | [], s, ow, k, kp => rfl
  | o :: l, s, ow, k, kp => by
    simp only [runK]
    conv => lhs; rw [stepK_nat]
    conv => rhs; rw [stepK_nat, Option.bind_assoc]
    congr 1
    funext q
    cases q with
    | v v σ w => exact runK_nat k kp
    | p v σ w => rfl
    | d v σ w => exact runK_nat k kp
inductive TrR where
  | k (l : List (St × AVal)) (s : St) (o : Ow)
  | p (l : List (St × AVal)) (s : St) (v : AVal) (σ : Mem) (o : Ow)
theorem trK_nat {all : List Oper} : ∀ {R : Type} {l : List Oper} {s : St} {ow : Ow} (k : List (St × AVal) → St → Ow → Option R) (kp : List (St × AVal) → St → AVal → Mem → Ow → Option R),
    trK T ch all l s ow k kp = (trK T ch all l s ow (fun a b c => some (TrR.k a b c)) (fun a b v σ c => some (TrR.p a b v σ c))).bind fun q => match q with
      | .k a b c => k a b c
      | .p a b v σ c => kp a b v σ c
  | _, [], s, ow, k, kp => rfl
  | _, o :: l, s, ow, k, kp => by
    simp only [trK]
    conv => lhs; rw [stepK_nat]
    conv => rhs; rw [stepK_nat, Option.bind_assoc]
    congr 1
    funext q
    cases q with
    | v v σ w =>
      simp only
      conv => lhs; rw [trK_nat]
      conv => rhs; rw [trK_nat, Option.bind_assoc]
      congr 1
      funext q
      cases q <;> rfl
    | p v σ w => rfl
    | d v σ w => rfl
theorem drawK_nat {all : List Oper} {s : St} {ow : Ow} (k : St → Ow → Option R) (kp : AVal → St → Ow → Option R) :
    drawK T ch all s ow k kp = (drawK T ch all s ow (fun s o => some (RunR.k s o)) (fun v s o => some (RunR.p v s o))).bind fun q => match q with
      | .k s o => k s o
      | .p v s o => kp v s o := by
  unfold drawK
  conv => lhs; rw [trK_nat]
  conv => rhs; rw [trK_nat, Option.bind_assoc]
  congr 1
  funext q
  cases q with
  | k a b c => simp only; rw [need_nat]; rfl
  | p a b v σ c => simp only; rw [need_nat]; rfl
theorem evalK_nat {A : Anns} : ∀ (n : Nat) {R : Type} (c : Code) (s : St) (ow : Ow) (K : AOut → St → Ow → Option R),
    evalK T ch A n c s ow K = (evalK T ch A n c s ow fun o s' w => some (o, s', w)).bind fun q => K q.1 q.2.1 q.2.2 := by
  intro n
  induction n with
  | zero => intro R c s ow K; rfl
  | succ n ih =>
    intro R c s ow K
    cases c with
    | region id ops d =>
      cases d with
      | false =>
        simp only [evalK]
        conv => lhs; rw [runK_nat]
        conv => rhs; rw [runK_nat, Option.bind_assoc]
        congr 1
        funext q
        cases q <;> rfl
      | true =>
        simp only [evalK]
        conv => lhs; rw [drawK_nat]
        conv => rhs; rw [drawK_nat, Option.bind_assoc]
        congr 1
        funext q
        cases q <;> rfl
    | seq a b =>
      simp only [evalK]
      conv => lhs; rw [ih a]
      conv => rhs; rw [ih a, Option.bind_assoc]
      congr 1
      funext q
      obtain ⟨o, s', w⟩ := q
      cases o <;> first | rfl | exact ih b s' w K
    | cond c a b =>
      simp only [evalK]
      split
      · exact ih a s ow K
      · exact ih b s ow K
      · rfl
    | block id b =>
      simp only [evalK]
      conv => lhs; rw [ih b]
      conv => rhs; rw [ih b, Option.bind_assoc]
      congr 1
      funext q
      obtain ⟨o, s', w⟩ := q
      cases o <;> try rfl
      simp only
      split <;> simp_all
    | loop b =>
      simp only [evalK]
      split
      · rename_i la _
        rw [la.nat, la.nat (k := fun o s' => some (o, s', ow)), Option.bind_assoc]; rfl
      · conv => lhs; rw [ih b]
        conv => rhs; rw [ih b, Option.bind_assoc]
        congr 1
        funext q
        obtain ⟨o, s', w⟩ := q
        cases o <;> first | rfl | exact ih (.loop b) s' w K
    | scope b =>
      simp only [evalK]
      conv => lhs; rw [ih b]
      conv => rhs; rw [ih b, Option.bind_assoc]
      congr 1
      funext q
      obtain ⟨o, s', w⟩ := q
      cases o <;> rfl
    | _ => rfl
end
theorem Cov.trans {n : Nat} {a b c : St} (h : Cov n a b) (k : Cov n b c) : Cov n a c := by
  refine ⟨k.1, fun w0 ρ x w hr => ?_⟩
  obtain ⟨ρ1, h1, h2⟩ := h.2 w0 ρ x w hr
  obtain ⟨ρ2, k1, k2⟩ := k.2 w0 ρ1 x w h1
  exact ⟨ρ2, k1, fun i hi => (k2 i hi).trans (h2 i hi)⟩
def vecA (σ : Mem) (sz : Nat) (v : AVal) : Option (AVal × Mem) :=
  match v with
  | .nils => some (.vec σ.next, σ.push (.vec [] 0 sz true))
  | .emp _ => some (.vec σ.next, σ.push (.vec [] 0 sz true))
  | _ => none
def vecTm (σ : Mem) (sz : Nat) (tm : List AVal) (t : Tmp) : List AVal × Mem :=
  match vecA σ sz (tm.getD t (.tup [])) with
  | some (v, σ') => (tm.set t v, σ')
  | none => (tm, σ)
def vecCell (σ : Mem) (sz : Nat) (x : AVal) (o : Nat) : Mem :=
  match x with
  | .ptr b 0 => match σ.get b with
    | some (.cells cs true gr) => match vecA σ sz (cs.getD o (.tup [])) with
      | some (v, σ') => σ'.set b (.cells (cs.set o v) true gr)
      | none => σ
    | _ => σ
  | _ => σ
def vecStep (t : Tmp) (sz : Nat) (s : St) : St :=
  cond (Nat.blt t 1000000) ⟨(vecTm s.mem sz s.tm t).1, s.df, (vecTm s.mem sz s.tm t).2⟩ ⟨s.tm, s.df, vecCell s.mem sz (s.tm.getD (t % 1000000) (.tup [])) (t / 1000000 - 1)⟩
def vecify : List (Tmp × Nat) → St → St
  | [], s => s
  | (t, sz) :: r, s => vecify r (vecStep t sz s)
theorem vecA_rel {w0 : W0} {ρ : Nat → Loc} {σ σ' : Mem} {w : World} {sz : Nat} {v v' : AVal} (h : Rel w0 ρ σ w) (hv : vecA σ sz v = some (v', σ')) :
    ∃ ρ', Post w0 ρ σ.next ρ' σ' w ∧ γ ρ' v' = γ ρ v ∧ sc σ'.next v' = true := by
  unfold vecA at hv
  split at hv
  · cases hv
    have R := h.nameNil 0 sz true { blk := 0, base := 0, capE := 0 } rfl rfl rfl
    exact ⟨_, ⟨R, fun i hi => upd_lt hi, by simp⟩, by simp [γ], by simp [sc]⟩
  · rename_i i
    cases hv
    have R := h.nameNil 0 sz true { blk := 0, base := 0, capE := 0, sp := some (ρ i).odd } rfl rfl rfl
    exact ⟨_, ⟨R, fun i hi => upd_lt hi, by simp⟩, by simp [γ], by simp [sc]⟩
  · cases hv
theorem vecTm_cov {n sz : Nat} {s : St} {t : Tmp} (hn : n ≤ s.mem.next) : Cov n s ⟨(vecTm s.mem sz s.tm t).1, s.df, (vecTm s.mem sz s.tm t).2⟩ := by
  unfold vecTm
  split
  · rename_i v σ' hv
    have hle : s.mem.next ≤ σ'.next := by
      unfold vecA at hv
      split at hv
      · cases hv; simp
      · cases hv; simp
      · cases hv
    refine ⟨Nat.le_trans hn hle, fun w0 ρ a w hr => ?_⟩
    obtain ⟨ρ', hp, hγ, hsc⟩ := vecA_rel hr.rel hv
    refine ⟨ρ', ?_, fun i hi => hp.ext i (Nat.lt_of_lt_of_le hi hn)⟩
    have h1 := hr.congr hp
    refine ⟨h1.rel, ?_, scL_set h1.sct hsc, h1.df, h1.scd⟩
    rw [h1.tm]
    congr 1
    simp only [γL_set, hγ]
    by_cases ht : t < s.tm.length
    · have hx : s.tm.getD t (.tup []) = s.tm[t] := by simp [List.getD_eq_getElem?_getD, ht]
      rw [hx]
      symm
      apply List.ext_getElem?
      intro i
      rw [List.getElem?_set]
      split
      · rename_i e
        subst e
        have hs := (scL_iff _ _).1 hr.sct (s.tm[t]) (List.getElem_mem ht)
        simp only [γL_length, ht, if_true, γL_get, List.getElem?_eq_getElem ht, Option.map_some]
        rw [γ_congr hp.ext _ hs]
      · rfl
    · have hle : s.tm.length ≤ t := Nat.le_of_not_lt ht
      rw [List.set_eq_of_length_le (by rw [γL_length]; exact hle)]
  · exact .refl hn
theorem vecTm_next {σ : Mem} {sz : Nat} {tm : List AVal} {t : Tmp} : σ.next ≤ (vecTm σ sz tm t).2.next := by
  unfold vecTm
  split
  · rename_i hv
    unfold vecA at hv
    split at hv
    · cases hv; simp
    · cases hv; simp
    · cases hv
  · exact Nat.le_refl _
theorem vecA_push {σ σ' : Mem} {sz : Nat} {v v' : AVal} (h : vecA σ sz v = some (v', σ')) : σ' = σ.push (.vec [] 0 sz true) ∧ v' = .vec σ.next ∧ v.isCell = true := by
  unfold vecA at h
  split at h
  · cases h; exact ⟨rfl, rfl, rfl⟩
  · cases h; exact ⟨rfl, rfl, rfl⟩
  · cases h
theorem vecCell_next {σ : Mem} {sz : Nat} {x : AVal} {o : Nat} : σ.next ≤ (vecCell σ sz x o).next := by
  unfold vecCell
  split
  · split
    · split
      · rename_i hv; rw [(vecA_push hv).1]; simp [Mem.set, Mem.push]
      · exact Nat.le_refl _
    · exact Nat.le_refl _
  · exact Nat.le_refl _
theorem vecCell_cov {n sz o : Nat} {s : St} {x : AVal} (hn : n ≤ s.mem.next) : Cov n s ⟨s.tm, s.df, vecCell s.mem sz x o⟩ := by
  refine ⟨Nat.le_trans hn vecCell_next, fun w0 ρ a w hr => ?_⟩
  unfold vecCell
  split
  rotate_left
  · exact ⟨ρ, hr, fun _ _ => rfl⟩
  rename_i b
  split
  rotate_left
  · exact ⟨ρ, hr, fun _ _ => rfl⟩
  rename_i cs gr hb
  split
  rotate_left
  · exact ⟨ρ, hr, fun _ _ => rfl⟩
  rename_i v σ' hv
  obtain ⟨ρ', hp, hγ, hsc⟩ := vecA_rel hr.rel hv
  have h1 := hr.congr hp
  obtain ⟨e1, e2, e3⟩ := vecA_push hv
  have hbl := hr.rel.lt b _ hb
  have hb' : σ'.get b = some (.cells cs true gr) := by
    rw [e1, get_push, if_neg (by omega)]; exact hb
  have hlen : o < cs.length := by
    apply Nat.lt_of_not_le
    intro hle
    rw [List.getD_eq_getElem?_getD, List.getElem?_eq_none hle] at hv
    cases hv
  have hg : cs.getD o (.tup []) = cs[o] := by simp [List.getD_eq_getElem?_getD, hlen]
  have hsccs := h1.rel.sco b _ hb'
  have heq : γL ρ' (cs.set o v) = γL ρ' cs := by
    rw [γL_set, hγ, hg]
    apply List.ext_getElem?
    intro i
    rw [List.getElem?_set]
    split
    · rename_i e
      subst e
      have hs := (scC_iff _ _).1 (hr.rel.sco b _ hb) (cs[o]) (List.getElem_mem hlen)
      simp only [γL_length, hlen, if_true, γL_get, List.getElem?_eq_getElem hlen, Option.map_some]
      rw [γ_congr hp.ext _ hs.2]
    · rfl
  have hBOk := h1.rel.ok b _ hb'
  refine ⟨ρ', ⟨h1.rel.set hb' rfl ?_ ?_ rfl (fun _ _ => rfl) rfl rfl rfl, h1.tm, h1.sct, h1.df, h1.scd⟩, fun i hi => hp.ext i (Nat.lt_of_lt_of_le hi hn)⟩
  · refine (scC_iff _ _).2 fun u hu => ?_
    rcases List.mem_or_eq_of_mem_set hu with h | h
    · exact (scC_iff _ _).1 hsccs u h
    · subst h; rw [e2] at hsc ⊢; exact ⟨rfl, hsc⟩
  · simp only [BOk, heq, List.length_set] at hBOk ⊢
    exact hBOk
theorem vecStep_next {t : Tmp} {sz : Nat} {s : St} : s.mem.next ≤ (vecStep t sz s).mem.next := by
  unfold vecStep
  cases Nat.blt t 1000000
  · exact vecCell_next
  · exact vecTm_next
theorem vecStep_cov {n sz : Nat} {s : St} {t : Tmp} (hn : n ≤ s.mem.next) : Cov n s (vecStep t sz s) := by
  unfold vecStep
  cases Nat.blt t 1000000
  · exact vecCell_cov hn
  · exact vecTm_cov hn
theorem vecify_cov {n : Nat} : ∀ {l : List (Tmp × Nat)} {s : St}, n ≤ s.mem.next → Cov n s (vecify l s)
  | [], s, hn => .refl hn
  | (t, sz) :: l, s, hn => (vecStep_cov (sz := sz) (t := t) hn).trans (vecify_cov (l := l) (Nat.le_trans hn vecStep_next))
inductive Leaf where
  | I (n : Int)
  | B (b : Bool)
  | S (s : ByteArray)
  | N (n : Nat)
  | C (cs : List AVal)
  | E (es : List (AVal × AVal × Nat))
inductive Pat where
  | int (k : IntKind)
  | litI (k : IntKind) (n : Int)
  | bool
  | litB (b : Bool)
  | str
  | nilp | nils | nilm | nilf | nili
  | vec (i : Nat)
  | map (i : Nat)
  | ptr (i o : Nat)
  | ptrS (i : Nat)
  | slice (i o l : Nat) (ex : Bool) (c : Nat)
  | agg (ps : List Pat)
  | tup (ps : List Pat)
  | func (f : FuncId) (fs cs : List Pat)
inductive BPat where
  | cells (ps : List Pat) (own : Bool) (gr : Option Nat)
  | vec (sz : Nat) (own : Bool)
  | map
  | dead
mutual
def mp (F : List Nat) : Pat → AVal → Option (List Leaf)
  | .int k, .int l n => if k = l then some [.I n] else none
  | .litI k m, .int l n => if k = l ∧ n = m then some [] else none
  | .bool, .bool b => some [.B b]
  | .litB b, .bool c => if b = c then some [] else none
  | .str, .str s => some [.S s]
  | .nilp, .nilp => some []
  | .nils, .nils => some []
  | .nilm, .nilm => some []
  | .nilf, .nilf => some []
  | .nili, .nili => some []
  | .vec i, .vec j => if F.getD i 0 = j then some [] else none
  | .map i, .map j => if F.getD i 0 = j then some [] else none
  | .ptr i o, .ptr j o' => if F.getD i 0 = j ∧ o = o' then some [] else none
  | .ptrS i, .ptr j o' => if F.getD i 0 = j then some [.N o'] else none
  | .slice i o l e c, .slice j o' l' e' c' => if F.getD i 0 = j ∧ o = o' ∧ l = l' ∧ e = e' ∧ c = c' then some [] else none
  | .agg ps, .agg vs => mpL F ps vs
  | .tup ps, .tup vs => mpL F ps vs
  | .func f fs cs, .func g a b => if f = g then (match mpL F fs a, mpL F cs b with
    | some x, some y => some (x ++ y)
    | _, _ => none) else none
  | _, _ => none
def mpL (F : List Nat) : List Pat → List AVal → Option (List Leaf)
  | [], [] => some []
  | p :: ps, v :: vs => match mp F p v, mpL F ps vs with
    | some x, some y => some (x ++ y)
    | _, _ => none
  | _, _ => none
end
mutual
def ip : Pat → List Leaf → AVal × List Leaf
  | .int k, .I n :: r => (.int k n, r)
  | .litI k m, r => (.int k m, r)
  | .bool, .B b :: r => (.bool b, r)
  | .litB b, r => (.bool b, r)
  | .str, .S s :: r => (.str s, r)
  | .nilp, r => (.nilp, r)
  | .nils, r => (.nils, r)
  | .nilm, r => (.nilm, r)
  | .nilf, r => (.nilf, r)
  | .nili, r => (.nili, r)
  | .vec i, r => (.vec i, r)
  | .map i, r => (.map i, r)
  | .ptr i o, r => (.ptr i o, r)
  | .ptrS i, .N o :: r => (.ptr i o, r)
  | .slice i o l e c, r => (.slice i o l e c, r)
  | .agg ps, r => (.agg (ipL ps r).1, (ipL ps r).2)
  | .tup ps, r => (.tup (ipL ps r).1, (ipL ps r).2)
  | .func f fs cs, r => (.func f (ipL fs r).1 (ipL cs (ipL fs r).2).1, (ipL cs (ipL fs r).2).2)
  | _, r => (.tup [], r)
def ipL : List Pat → List Leaf → List AVal × List Leaf
  | [], r => ([], r)
  | p :: ps, r => ((ip p r).1 :: (ipL ps (ip p r).2).1, (ipL ps (ip p r).2).2)
end
def Pat.isCell : Pat → Bool
  | .agg _ | .tup _ => false
  | _ => true
mutual
def scP (n : Nat) : Pat → Bool
  | .vec i | .map i | .ptr i _ | .ptrS i | .slice i _ _ _ _ => decide (i < n)
  | .agg ps => scPC n ps
  | .tup ps => scPL n ps
  | .func _ fs cs => scPL n fs && scPL n cs
  | _ => true
def scPL (n : Nat) : List Pat → Bool
  | [] => true
  | p :: ps => scP n p && scPL n ps
def scPC (n : Nat) : List Pat → Bool
  | [] => true
  | p :: ps => p.isCell && scP n p && scPC n ps
end
mutual
theorem mp_spec {F : List Nat} {n : Nat} : ∀ (p : Pat) (v : AVal) (ls : List Leaf), mp F p v = some ls →
    ∃ v0, (∀ r, ip p (ls ++ r) = (v0, r)) ∧ v = rn (fun i => F.getD i 0) v0 ∧ (scP n p = true → sc n v0 = true) ∧ (p.isCell = true → v0.isCell = true)
  | .int k, v, ls, h => by
    cases v <;> simp only [mp, reduceCtorEq] at h
    split at h
    · rename_i e; subst e; cases h; exact ⟨_, fun r => rfl, rfl, fun _ => rfl, fun _ => rfl⟩
    · cases h
  | .litI k m, v, ls, h => by
    cases v <;> simp only [mp, reduceCtorEq] at h
    split at h
    · rename_i e; obtain ⟨rfl, rfl⟩ := e; cases h; exact ⟨_, fun r => rfl, rfl, fun _ => rfl, fun _ => rfl⟩
    · cases h
  | .bool, v, ls, h => by
    cases v <;> simp only [mp, reduceCtorEq, Option.some.injEq] at h
    subst h; exact ⟨_, fun r => rfl, rfl, fun _ => rfl, fun _ => rfl⟩
  | .litB b, v, ls, h => by
    cases v <;> simp only [mp, reduceCtorEq] at h
    split at h
    · rename_i e; subst e; cases h; exact ⟨_, fun r => rfl, rfl, fun _ => rfl, fun _ => rfl⟩
    · cases h
  | .str, v, ls, h => by
    cases v <;> simp only [mp, reduceCtorEq, Option.some.injEq] at h
    subst h; exact ⟨_, fun r => rfl, rfl, fun _ => rfl, fun _ => rfl⟩
  | .nilp, v, ls, h => by
    cases v <;> simp only [mp, reduceCtorEq, Option.some.injEq] at h
    subst h; exact ⟨_, fun r => rfl, rfl, fun _ => rfl, fun _ => rfl⟩
  | .nils, v, ls, h => by
    cases v <;> simp only [mp, reduceCtorEq, Option.some.injEq] at h
    subst h; exact ⟨_, fun r => rfl, rfl, fun _ => rfl, fun _ => rfl⟩
  | .nilm, v, ls, h => by
    cases v <;> simp only [mp, reduceCtorEq, Option.some.injEq] at h
    subst h; exact ⟨_, fun r => rfl, rfl, fun _ => rfl, fun _ => rfl⟩
  | .nilf, v, ls, h => by
    cases v <;> simp only [mp, reduceCtorEq, Option.some.injEq] at h
    subst h; exact ⟨_, fun r => rfl, rfl, fun _ => rfl, fun _ => rfl⟩
  | .nili, v, ls, h => by
    cases v <;> simp only [mp, reduceCtorEq, Option.some.injEq] at h
    subst h; exact ⟨_, fun r => rfl, rfl, fun _ => rfl, fun _ => rfl⟩
  | .vec i, v, ls, h => by
    cases v <;> simp only [mp, reduceCtorEq] at h
    split at h
    · rename_i e; subst e; cases h; exact ⟨.vec i, fun r => rfl, rfl, fun q => q, fun _ => rfl⟩
    · cases h
  | .map i, v, ls, h => by
    cases v <;> simp only [mp, reduceCtorEq] at h
    split at h
    · rename_i e; subst e; cases h; exact ⟨.map i, fun r => rfl, rfl, fun q => q, fun _ => rfl⟩
    · cases h
  | .ptr i o, v, ls, h => by
    cases v <;> simp only [mp, reduceCtorEq] at h
    split at h
    · rename_i e; obtain ⟨rfl, rfl⟩ := e; cases h; exact ⟨.ptr i _, fun r => rfl, rfl, fun q => q, fun _ => rfl⟩
    · cases h
  | .ptrS i, v, ls, h => by
    cases v <;> simp only [mp, reduceCtorEq] at h
    split at h
    · rename_i e; subst e; cases h; exact ⟨.ptr i _, fun r => rfl, rfl, fun q => q, fun _ => rfl⟩
    · cases h
  | .slice i o l e c, v, ls, h => by
    cases v <;> simp only [mp, reduceCtorEq] at h
    split at h
    · rename_i q; obtain ⟨rfl, rfl, rfl, rfl, rfl⟩ := q; cases h; exact ⟨.slice i _ _ _ _, fun r => rfl, rfl, fun q => q, fun _ => rfl⟩
    · cases h
  | .agg ps, v, ls, h => by
    cases v <;> simp only [mp, reduceCtorEq] at h
    obtain ⟨vs0, h1, h2, _, h4⟩ := mpL_spec (n := n) ps _ ls h
    exact ⟨.agg vs0, fun r => by simp only [ip, h1], by simp only [rn, h2], fun q => by simp only [scP] at q; simp only [sc]; exact h4 q, fun q => by simp [Pat.isCell] at q⟩
  | .tup ps, v, ls, h => by
    cases v <;> simp only [mp, reduceCtorEq] at h
    obtain ⟨vs0, h1, h2, h3, _⟩ := mpL_spec (n := n) ps _ ls h
    exact ⟨.tup vs0, fun r => by simp only [ip, h1], by simp only [rn, h2], fun q => by simp only [scP] at q; simp only [sc]; exact h3 q, fun q => by simp [Pat.isCell] at q⟩
  | .func f fs cs, v, ls, h => by
    cases v <;> simp only [mp, reduceCtorEq] at h
    split at h
    · rename_i e
      subst e
      split at h
      · rename_i x y hx hy
        cases h
        obtain ⟨a0, h1, h2, h3, _⟩ := mpL_spec (n := n) fs _ x hx
        obtain ⟨b0, k1, k2, k3, _⟩ := mpL_spec (n := n) cs _ y hy
        exact ⟨.func f a0 b0, fun r => by simp only [ip, List.append_assoc, h1, k1], by simp only [rn, h2, k2], fun q => by simp only [scP, Bool.and_eq_true] at q; simp only [sc, Bool.and_eq_true]; exact ⟨h3 q.1, k3 q.2⟩, fun _ => rfl⟩
      · cases h
    · cases h
theorem mpL_spec {F : List Nat} {n : Nat} : ∀ (ps : List Pat) (vs : List AVal) (ls : List Leaf), mpL F ps vs = some ls →
    ∃ vs0, (∀ r, ipL ps (ls ++ r) = (vs0, r)) ∧ vs = rnL (fun i => F.getD i 0) vs0 ∧ (scPL n ps = true → scL n vs0 = true) ∧ (scPC n ps = true → scC n vs0 = true)
  | [], [], ls, h => by simp only [mpL, Option.some.injEq] at h; subst h; exact ⟨[], fun r => rfl, rfl, fun _ => rfl, fun _ => rfl⟩
  | [], _ :: _, ls, h => by simp [mpL] at h
  | _ :: _, [], ls, h => by simp [mpL] at h
  | p :: ps, v :: vs, ls, h => by
    simp only [mpL] at h
    split at h
    · rename_i x y hx hy
      cases h
      obtain ⟨v0, h1, h2, h3, h4⟩ := mp_spec (n := n) p v x hx
      obtain ⟨vs0, k1, k2, k3, k4⟩ := mpL_spec (n := n) ps vs y hy
      refine ⟨v0 :: vs0, fun r => by simp only [ipL, List.append_assoc, h1, k1], by simp only [rnL, ← h2, ← k2], fun q => ?_, fun q => ?_⟩
      · simp only [scPL, Bool.and_eq_true] at q; simp only [scL, Bool.and_eq_true]; exact ⟨h3 q.1, k3 q.2⟩
      · simp only [scPC, Bool.and_eq_true] at q; simp only [scC, Bool.and_eq_true]; exact ⟨⟨h4 q.1.1, h3 q.1.2⟩, k4 q.2⟩
    · cases h
end
def mM (F : List Nat) : List (Option Pat) → List AVal → Option (List Leaf)
  | [], [] => some []
  | some p :: M, v :: vs => match mp F p v, mM F M vs with
    | some x, some y => some (x ++ y)
    | _, _ => none
  | none :: M, _ :: vs => mM F M vs
  | _, _ => none
def iM : List (Option Pat) → List Leaf → List (Option AVal) × List Leaf
  | [], r => ([], r)
  | some p :: M, r => (some (ip p r).1 :: (iM M (ip p r).2).1, (iM M (ip p r).2).2)
  | none :: M, r => (none :: (iM M r).1, (iM M r).2)
def mBk (F : List Nat) (b : Option ABlk) (p : BPat) : Option (List Leaf) :=
  match b, p with
  | some (.cells cs own gr), .cells ps own' gr' => if own = own' ∧ gr = gr' then mpL F ps cs else none
  | some (.vec cs n sz own), .vec sz' own' => if sz = sz' ∧ own = own' then some [.C cs, .N n] else none
  | some (.map es c), .map => some [.E es, .N c]
  | some .dead, .dead => some []
  | _, _ => none
def mB (F : List Nat) (σ : Mem) : List (Nat × BPat) → Option (List Leaf)
  | [] => some []
  | (c, p) :: r => match mBk F (σ.get (F.getD c 0)) p, mB F σ r with
    | some x, some y => some (x ++ y)
    | _, _ => none
def iBk (p : BPat) (ls : List Leaf) : ABlk × List Leaf :=
  match p, ls with
  | .cells ps own gr, r => (.cells (ipL ps r).1 own gr, (ipL ps r).2)
  | .vec sz own, .C cs :: .N n :: r => (.vec cs n sz own, r)
  | .map, .E es :: .N c :: r => (.map es c, r)
  | .dead, r => (.dead, r)
  | _, r => (.dead, r)
def iB : List (Nat × BPat) → List Leaf → List (Nat × ABlk) × List Leaf
  | [], r => ([], r)
  | (c, p) :: B, r => ((c, (iBk p r).1) :: (iB B (iBk p r).2).1, (iB B (iBk p r).2).2)
def scBP (n : Nat) : BPat → Bool
  | .cells ps _ _ => scPC n ps
  | _ => true
def nodupB : List Nat → Bool
  | [] => true
  | x :: r => !r.contains x && nodupB r
def prefB : Nat → Nat → List Nat → Bool
  | 0, _, _ => true
  | n + 1, i, x :: r => x == i && prefB n (i + 1) r
  | _ + 1, _, [] => false
def fOk (n K : Nat) (F : List Nat) : Bool := F.length == K && prefB n 0 F && nodupB F
def dfB : List ADef → List ADef → Bool
  | [], [] => true
  | a :: x, b :: y => a.f == b.f && aeqL a.cap b.cap && aeqL a.args b.args && dfB x y
  | _, _ => false
theorem dfB_eq : ∀ {x y : List ADef}, dfB x y = true → x = y
  | [], [], _ => rfl
  | [], _ :: _, h => by simp [dfB] at h
  | _ :: _, [], h => by simp [dfB] at h
  | ⟨f, c, a⟩ :: x, ⟨g, d, b⟩ :: y, h => by
    simp only [dfB, Bool.and_eq_true, beq_iff_eq] at h
    rw [h.1.1.1, aeqL_eq _ _ h.1.1.2, aeqL_eq _ _ h.1.2, dfB_eq h.2]
def mSt (n K : Nat) (F : List Nat) (M : List (Option Pat)) (B : List (Nat × BPat)) (D : List (FuncId × List Nat)) (s : St) : Option (List Leaf) :=
  if fOk n K F && dfB s.df (dfOf s.tm D) then match mM F M s.tm, mB F s.mem B with
    | some a, some b => some (a ++ b)
    | _, _ => none
  else none
def iSt (K : Nat) (M : List (Option Pat)) (B : List (Nat × BPat)) (D : List (FuncId × List Nat)) (ls : List Leaf) : St := canonSt K (iM M ls).1 (iB B (iM M ls).2).1 D
def scM (n : Nat) : List (Option Pat) → Bool
  | [] => true
  | some p :: M => scP n p && scM n M
  | none :: M => scM n M
def shP (K : Nat) (M : List (Option Pat)) (B : List (Nat × BPat)) : Bool := scM K M && B.all fun x => decide (x.1 < K) && scBP K x.2
theorem mM_spec {F : List Nat} {n : Nat} : ∀ (M : List (Option Pat)) (vs : List AVal) (ls : List Leaf), mM F M vs = some ls → scM n M = true →
    ∃ M0, (∀ r, iM M (ls ++ r) = (M0, r)) ∧ fits (fun i => F.getD i 0) n M0 vs
  | [], [], ls, h, _ => by simp only [mM, Option.some.injEq] at h; subst h; exact ⟨[], fun r => rfl, trivial⟩
  | [], _ :: _, ls, h, _ => by simp [mM] at h
  | some _ :: _, [], ls, h, _ => by simp [mM] at h
  | none :: _, [], ls, h, _ => by simp [mM] at h
  | none :: M, v :: vs, ls, h, hs => by
    simp only [mM] at h
    obtain ⟨M0, h1, h2⟩ := mM_spec M vs ls h hs
    exact ⟨none :: M0, fun r => by simp only [iM, h1], h2⟩
  | some p :: M, v :: vs, ls, h, hs => by
    simp only [mM] at h
    simp only [scM, Bool.and_eq_true] at hs
    split at h
    · rename_i x y hx hy
      cases h
      obtain ⟨v0, h1, h2, h3, h4⟩ := mp_spec (n := n) p v x hx
      obtain ⟨M0, k1, k2⟩ := mM_spec M vs y hy hs.2
      exact ⟨some v0 :: M0, fun r => by simp only [iM, List.append_assoc, h1, k1], h2, h3 hs.1, k2⟩
    · cases h
theorem mBk_spec {F : List Nat} {n : Nat} {b : Option ABlk} {p : BPat} {ls : List Leaf} (h : mBk F b p = some ls) (hs : scBP n p = true) :
    ∃ b0, (∀ r, iBk p (ls ++ r) = (b0, r)) ∧ b = some (rnB (fun i => F.getD i 0) b0) ∧ scX n b0 = true := by
  unfold mBk at h
  split at h
  · rename_i cs own gr ps own' gr'
    split at h
    · rename_i e
      obtain ⟨rfl, rfl⟩ := e
      obtain ⟨vs0, h1, h2, _, h4⟩ := mpL_spec (n := n) _ _ ls h
      exact ⟨.cells vs0 own gr, fun r => by simp only [iBk, h1], by simp only [rnB, h2], h4 hs⟩
    · cases h
  · split at h
    · rename_i e
      obtain ⟨rfl, rfl⟩ := e
      cases h
      exact ⟨.vec _ _ _ _, fun r => rfl, rfl, rfl⟩
    · cases h
  · cases h; exact ⟨.map _ _, fun r => rfl, rfl, rfl⟩
  · cases h; exact ⟨.dead, fun r => rfl, rfl, rfl⟩
  · cases h
theorem mB_spec {F : List Nat} {n : Nat} {σ : Mem} : ∀ (B : List (Nat × BPat)) (ls : List Leaf), mB F σ B = some ls → (B.all fun x => decide (x.1 < n) && scBP n x.2) = true →
    ∃ B0, (∀ r, iB B (ls ++ r) = (B0, r)) ∧ ∀ x ∈ B0, x.1 < n ∧ σ.get (F.getD x.1 0) = some (rnB (fun i => F.getD i 0) x.2) ∧ scX n x.2 = true
  | [], ls, h, _ => by simp only [mB, Option.some.injEq] at h; subst h; exact ⟨[], fun r => rfl, fun x hx => by cases hx⟩
  | (c, p) :: B, ls, h, hs => by
    simp only [mB] at h
    simp only [List.all_cons, Bool.and_eq_true, decide_eq_true_eq] at hs
    split at h
    · rename_i x y hx hy
      cases h
      obtain ⟨b0, h1, h2, h3⟩ := mBk_spec (n := n) hx hs.1.2
      obtain ⟨B0, k1, k2⟩ := mB_spec B y hy hs.2
      refine ⟨(c, b0) :: B0, fun r => by simp only [iB, List.append_assoc, h1, k1], ?_⟩
      intro z hz
      cases hz with
      | head => exact ⟨hs.1.1, h2, h3⟩
      | tail _ hz => exact k2 z hz
    · cases h
theorem look_mem {i : Nat} {b : ABlk} : ∀ {B : List (Nat × ABlk)}, look B i = some b → (i, b) ∈ B
  | [], h => by simp [look] at h
  | (j, c) :: r, h => by
    simp only [look] at h
    split at h
    · rename_i e
      simp only [Option.some.injEq] at h
      subst h
      rw [beq_iff_eq] at e
      subst e
      simp
    · simp [look_mem h]
theorem prefB_spec : ∀ {n i : Nat} {F : List Nat}, prefB n i F = true → n ≤ F.length ∧ ∀ j, j < n → F.getD j 0 = i + j
  | 0, i, F, _ => ⟨Nat.zero_le _, fun j hj => by omega⟩
  | n + 1, i, [], h => by simp [prefB] at h
  | n + 1, i, x :: r, h => by
    simp only [prefB, Bool.and_eq_true, beq_iff_eq] at h
    obtain ⟨h1, h2⟩ := prefB_spec h.2
    refine ⟨by simp; omega, fun j hj => ?_⟩
    cases j with
    | zero => simp [h.1]
    | succ j => have := h2 j (by omega); simp only [List.getD_cons_succ]; omega
theorem nodupB_spec : ∀ {F : List Nat}, nodupB F = true → ∀ i j, i < F.length → j < F.length → F.getD i 0 = F.getD j 0 → i = j
  | [], _, i, j, hi, _, _ => by simp at hi
  | x :: r, h, i, j, hi, hj, e => by
    simp only [nodupB, Bool.and_eq_true, Bool.not_eq_true', List.contains_iff_mem, Bool.not_eq_true] at h
    have hx : x ∉ r := by intro hm; have := h.1; simp [hm] at this
    have gm : ∀ k, k < r.length → r.getD k 0 ∈ r := fun k hk => by
      rw [List.getD_eq_getElem?_getD, List.getElem?_eq_getElem hk]; exact List.getElem_mem hk
    cases i with
    | zero => cases j with
      | zero => rfl
      | succ j =>
        simp only [List.getD_cons_zero, List.getD_cons_succ] at e
        exact absurd (e ▸ gm j (by simpa using hj)) hx
    | succ i => cases j with
      | zero =>
        simp only [List.getD_cons_zero, List.getD_cons_succ] at e
        exact absurd (e ▸ gm i (by simpa using hi)) hx
      | succ j =>
        simp only [List.getD_cons_succ] at e
        rw [nodupB_spec h.2 i j (by simpa using hi) (by simpa using hj) e]
theorem cov_of_mSt {n K : Nat} {F : List Nat} {M : List (Option Pat)} {B : List (Nat × BPat)} {D : List (FuncId × List Nat)} {s : St} {ls : List Leaf} (hS : shP K M B = true) (h : mSt n K F M B D s = some ls) : Cov n s (iSt K M B D ls) := by
  unfold mSt at h
  split at h
  · rename_i h0
    simp only [fOk, Bool.and_eq_true, beq_iff_eq] at h0
    obtain ⟨⟨⟨rfl, hp⟩, hnd⟩, hdf⟩ := h0
    split at h
    · rename_i a b ha hb
      cases h
      simp only [shP, Bool.and_eq_true] at hS
      obtain ⟨p1, p2⟩ := prefB_spec hp
      obtain ⟨M0, m1, m2⟩ := mM_spec (n := F.length) M s.tm a ha hS.1
      obtain ⟨B0, b1, b2⟩ := mB_spec (n := F.length) B b hb hS.2
      have e1 : iM M (a ++ b) = (M0, b) := m1 b
      have e2 : iB B b = (B0, []) := by have := b1 []; rwa [List.append_nil] at this
      simp only [iSt, e1, e2]
      refine CovOk.cov ⟨dfB_eq hdf, m2, fun i c hc => b2 _ (look_mem hc), nodupB_spec hnd, fun i hi => by have := p2 i hi; omega, p1⟩
    · cases h
  · cases h
def iter {V E : Type} (step : V → Option (V ⊕ E)) : Nat → V → Option E
  | 0, _ => none
  | n + 1, v => match step v with
    | none => none
    | some (.inl v') => iter step n v'
    | some (.inr e) => some e
def bigN : Nat := 18446744073709551616
def loopF {V E : Type} (step : V → Option (V ⊕ E)) (v : V) : Option E := iter step bigN v
theorem iter_next {V E : Type} {step : V → Option (V ⊕ E)} {v v' : V} {e : E} {n : Nat} (h : step v = some (.inl v')) (k : iter step n v' = some e) : iter step (n + 1) v = some e := by simp only [iter, h, k]
theorem iter_end {V E : Type} {step : V → Option (V ⊕ E)} {v : V} {e : E} (n : Nat) (h : step v = some (.inr e)) : iter step (n + 1) v = some e := by simp only [iter, h]
structure ExS where
  K : Nat
  M : List (Option Pat)
  B : List (Nat × BPat)
  F : St → List Nat
  pre : List (Tmp × Nat)
  D : List (FuncId × List Nat)
structure LD where
  CC : Type
  V : Type
  E : Type
  n : Nat
  K : Nat
  M : List (Option Pat)
  B : List (Nat × BPat)
  D : List (FuncId × List Nat)
  pre : List (Tmp × Nat)
  F : St → List Nat
  toL : CC → V → List Leaf
  ofL : List Leaf → Option (CC × V)
  ofL_ok : ∀ ls c v, ofL ls = some (c, v) → ls = toL c v
  stepK : {R : Type} → CC → V → (V → Option R) → (E → Option R) → Option R
  nat : ∀ {R : Type} (cc : CC) (v : V) (kn : V → Option R) (ke : E → Option R), stepK cc v kn ke = (stepK cc v (fun v => some (Sum.inl v)) fun e => some (Sum.inr e)).bind (Sum.elim kn ke)
  sh : AOut → ExS
  out : E → AOut
  toE : CC → E → List Leaf
  conE : CC → E → List Leaf
  ofE : AOut → List Leaf → Option (E × List Leaf)
  ofE_ok : ∀ o ls e cl cc, ofE o ls = some (e, cl) → cl = conE cc e → ls = toE cc e ∧ out e = o ∧ o ≠ .normal ∧ ∀ v, o = .pan v → sc 0 v = true
  post : {R : Type} → CC → E → (AOut → St → Option R) → Option R
  post_eq : ∀ {R : Type} (cc : CC) (e : E) (k : AOut → St → Option R), post cc e k = k (out e) (iSt (sh (out e)).K (sh (out e)).M (sh (out e)).B (sh (out e)).D (toE cc e))
def LD.step (d : LD) (cc : d.CC) (v : d.V) : Option (d.V ⊕ d.E) := d.stepK cc v (fun v => some (Sum.inl v)) fun e => some (Sum.inr e)
def LD.st (d : LD) (cc : d.CC) (v : d.V) : St := iSt d.K d.M d.B d.D (d.toL cc v)
def LD.mat (d : LD) (s : St) : Option (d.CC × d.V) := (mSt d.n d.K (d.F (vecify d.pre s)) d.M d.B d.D (vecify d.pre s)).bind d.ofL
noncomputable def LD.la (d : LD) : LA where
  run := fun s k => (d.mat s).bind fun q => (loopF (d.step q.1) q.2).bind fun e => d.post q.1 e k
  nat := fun s k => by
    rw [Option.bind_assoc]
    congr 1
    funext q
    rw [Option.bind_assoc]
    congr 1
    funext e
    rw [d.post_eq, d.post_eq]
    rfl
def oaeq : Option AVal → Option AVal → Bool
  | some a, some b => aeq a b
  | none, none => true
  | _, _ => false
def owB : Ow → Bool
  | [] => true
  | p :: r => oaeq p.1 p.2 && owB r
theorem owB_ok : ∀ {w : Ow}, owB w = true → w.ok
  | [], _ => Ow.ok_nil
  | p :: r, h => by
    simp only [owB, Bool.and_eq_true] at h
    intro x hx
    cases hx with
    | head =>
      have := h.1
      unfold oaeq at this
      split at this
      · rename_i h1 h2; rw [h1, h2, aeq_eq _ _ this]
      · rename_i h1 h2; rw [h1, h2]
      · cases this
    | tail _ hx => exact owB_ok h.2 x hx
def LD.leaf (d : LD) (o : AOut) (s : St) (w : Ow) : Option ((d.V × d.CC) ⊕ (d.E × List Leaf)) :=
  match owB w with
  | true => match o with
    | .normal => (d.mat s).map fun q => .inl (q.2, q.1)
    | o => ((mSt d.n (d.sh o).K ((d.sh o).F (vecify (d.sh o).pre s)) (d.sh o).M (d.sh o).B (d.sh o).D (vecify (d.sh o).pre s)).bind (d.ofE o)).map .inr
  | false => none
structure LD.Ok (P : Program) (T : TTab) (ch : CH) (A : Anns) (d : LD) (fuel : Nat) (b : Code) : Prop where
  hd : shP d.K d.M d.B = true
  shE : ∀ e, shP (d.sh (d.out e)).K (d.sh (d.out e)).M (d.sh (d.out e)).B = true
  body : ∀ cc v, evalK T ch A fuel b (d.st cc v) .nil d.leaf = d.stepK cc v (fun v' => some (.inl (v', cc))) fun e => some (.inr (e, d.conE cc e))
  inner : ∀ b' ∈ loopsOf b, ∀ la, A (regOf b') = some la → LaOk P d.n la b'
theorem LD.ok {P : Program} {T : TTab} {ch : CH} {A : Anns} (hT : TabOk P T) (hH : CHOk P ch) (hm : P.follows .mixedOrders = true) {d : LD} {fuel : Nat} {b : Code} (h : d.Ok P T ch A fuel b) : LaOk P d.n d.la b := by
  have head : ∀ {s : St} {cc : d.CC} {v : d.V}, d.mat s = some (cc, v) → d.n ≤ s.mem.next → Cov d.n s (d.st cc v) := by
    intro s cc v hmt hn
    obtain ⟨ls, h1, h2⟩ := Option.bind_eq_some_iff.1 hmt
    have := cov_of_mSt h.hd h1
    rw [d.ofL_ok _ _ _ h2] at this
    exact (vecify_cov hn).trans this
  intro s o s' hr
  simp only [LD.la] at hr
  obtain ⟨⟨cc, v⟩, h0, hr⟩ := Option.bind_eq_some_iff.1 hr
  obtain ⟨e, h1, h2⟩ := Option.bind_eq_some_iff.1 hr
  rw [d.post_eq] at h2
  simp only [Option.some.injEq, Prod.mk.injEq] at h2
  obtain ⟨rfl, rfl⟩ := h2
  obtain ⟨m, hmm⟩ : ∃ m, iter (d.step cc) m v = some e := ⟨_, h1⟩
  have key : ∀ (m : Nat) (v : d.V), iter (d.step cc) m v = some e → RoundsA P d.n b m (d.st cc v) (d.out e) (iSt (d.sh (d.out e)).K (d.sh (d.out e)).M (d.sh (d.out e)).B (d.sh (d.out e)).D (d.toE cc e)) := by
    intro m
    induction m with
    | zero => intro v hv; simp [iter] at hv
    | succ m ih =>
      intro v hv
      simp only [iter] at hv
      have hb := h.body cc v
      rw [evalK_nat, d.nat] at hb
      cases hst : d.step cc v with
      | none => rw [hst] at hv; cases hv
      | some q =>
        rw [hst] at hv
        have hst' : (d.stepK cc v (fun v => some (Sum.inl v)) fun e => some (Sum.inr e)) = some q := hst
        rw [hst'] at hb
        simp only [Option.bind_some] at hb
        have hq : ∃ y, Sum.elim (fun v' => some (Sum.inl (v', cc))) (fun e => some (Sum.inr (e, d.conE cc e))) q = some y := by cases q <;> exact ⟨_, rfl⟩
        obtain ⟨y, hy⟩ := hq
        rw [hy] at hb
        obtain ⟨⟨o1, s1, w1⟩, k1, k2⟩ := Option.bind_eq_some_iff.1 hb
        obtain ⟨o2, s2, w2, j1, j2, j3⟩ := evalK_sound hT hH hm fuel b _ _ _ _ h.inner k1
        simp only [Option.some.injEq, Prod.mk.injEq] at j1
        obtain ⟨rfl, rfl, rfl⟩ := j1
        simp only [LD.leaf] at k2
        split at k2
        · rename_i how
          have hA := j3 (owB_ok how)
          have hn2 : AWPn P d.n b (d.st cc v) fun o1 s1' => (o1 = o2 ∧ s1' = s2) ∧ d.n ≤ s1'.mem.next := by
            intro hn w0 ρ a w hr
            refine wp_mono (hA hn w0 ρ a w hr) ?_
            rintro e' a' w' ⟨o3, s3, q1, q2⟩
            obtain ⟨ρ', r1, r2, r3, r4, r5⟩ := q2
            exact ⟨o3, s3, ⟨q1, r4⟩, ⟨ρ', r1, r2, r3, r4, r5⟩⟩
          split at k2
          ·
            obtain ⟨⟨c', v'⟩, q1, q2⟩ := Option.map_eq_some_iff.1 k2
            subst q2
            cases q with
            | inr e' => simp at hy
            | inl v2 =>
              simp only [Sum.elim_inl, Option.some.injEq, Sum.inl.injEq, Prod.mk.injEq] at hy
              obtain ⟨rfl, rfl⟩ := hy
              simp only at hv
              refine .inr ⟨d.st cc v2, awpn_post (hn2.mono ?_), ih v2 hv⟩
              rintro o3 s3 ⟨⟨rfl, rfl⟩, hnx⟩
              exact ⟨by simp, _, head q1 hnx, rfl, rfl⟩
          ·
            rename_i hnn
            obtain ⟨⟨e', cl⟩, q1, q2⟩ := Option.map_eq_some_iff.1 k2
            subst q2
            cases q with
            | inl v2 => simp at hy
            | inr e2 =>
              simp only [Sum.elim_inr, Option.some.injEq, Sum.inr.injEq, Prod.mk.injEq] at hy
              obtain ⟨rfl, rfl⟩ := hy
              simp only [Option.some.injEq] at hv
              subst hv
              obtain ⟨ls, u1, u2⟩ := Option.bind_eq_some_iff.1 q1
              obtain ⟨t1, t2, t3, t4⟩ := d.ofE_ok _ _ _ _ cc u2 rfl
              have hcv := cov_of_mSt (by have := h.shE e2; rwa [t2] at this) u1
              rw [t1] at hcv
              left
              rw [t2]
              refine ⟨t3, awpn_post (hn2.mono ?_)⟩
              rintro o3 s3 ⟨⟨rfl, rfl⟩, hnx⟩
              exact ⟨t4, _, (vecify_cov hnx).trans hcv, rfl, rfl⟩
        · cases k2
  intro hn
  exact awpn_cov (head h0 hn) (awpn_rounds (key m v hmm)) hn
end Go.Ev

