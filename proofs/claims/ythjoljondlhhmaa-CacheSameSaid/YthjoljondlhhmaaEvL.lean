/- The abstract interpreter: a region whose order is drawn does what it does in the order of the text. No statement is proved here. -/
import Derived.Test.YthjoljondlhhmaaEvK
namespace Go.Ev
set_option linter.unusedVariables false
set_option linter.unusedSimpArgs false

section
variable {P : Program} {T : TTab} {H : Hooks}

theorem trace_spec {all : List Oper} : ∀ (l : List Oper) (s : St) (tr : List (St × AVal)) (e : St), trace T H all l s = some (tr, e) →
    tr.length = l.length ∧ (tr.map (·.1) ++ [e])[0]? = some s ∧ ∀ i o, l[i]? = some o → ∃ si vi σ, tr[i]? = some (si, vi) ∧ stepV T H all o si = some (vi, σ) ∧
      (tr.map (·.1) ++ [e])[i + 1]? = some ⟨setD si.tm o.dst vi, si.df, σ⟩
  | [], s, tr, e, h => by
    simp only [trace, Option.some.injEq, Prod.mk.injEq] at h
    obtain ⟨rfl, rfl⟩ := h
    simp
  | o :: r, s, tr, e, h => by
    simp only [trace] at h
    split at h
    · rename_i v σ hv
      split at h
      · rename_i l' e' hl
        simp only [Option.some.injEq, Prod.mk.injEq] at h
        obtain ⟨rfl, rfl⟩ := h
        obtain ⟨h1, h2, h3⟩ := trace_spec r _ l' e' hl
        refine ⟨by simp [h1], by simp, fun i o' hi => ?_⟩
        cases i with
        | zero =>
          simp only [List.getElem?_cons_zero, Option.some.injEq] at hi
          subst hi
          exact ⟨s, v, σ, by simp, hv, by simpa using h2⟩
        | succ i =>
          obtain ⟨si, vi, σi, q1, q2, q3⟩ := h3 i o' (by simpa using hi)
          exact ⟨si, vi, σi, by simpa using q1, q2, by simpa using q3⟩
      · cases h
    · cases h

theorem readsOk_spec {all : List Oper} {ms : List Nat} {mems : List Mem} : ∀ (l : List Oper) (b : Nat) (tr : List (St × AVal)), readsOk T H all ms mems l b tr = true →
    ∀ k o si vi, l[k]? = some o → tr[k]? = some (si, vi) → readOk T H all ms mems (b + k) o si vi = true
  | [], b, tr, _, k, o, si, vi, h, _ => by simp at h
  | o :: r, b, [], _, k, o', si, vi, _, h => by simp at h
  | o :: r, b, (s, v) :: tr, h, k, o', si, vi, h1, h2 => by
    simp only [readsOk, Bool.and_eq_true] at h
    cases k with
    | zero =>
      simp only [List.getElem?_cons_zero, Option.some.injEq] at h1 h2
      obtain ⟨rfl, rfl⟩ := Prod.mk.inj h2
      subst h1
      exact h.1
    | succ k =>
      have := readsOk_spec r (b + 1) tr h.2 k o' si vi (by simpa using h1) (by simpa using h2)
      rwa [show b + 1 + k = b + (k + 1) by omega] at this

theorem stepOp_of_stepV {all : List Oper} {o : Oper} {s : St} {v : AVal} {σ : Mem} (h : stepV T H all o s = some (v, σ)) : stepOp T H all o s = some (.go ⟨setD s.tm o.dst v, s.df, σ⟩) := by
  unfold stepV at h
  unfold stepOp
  cases hg : gj all o s.tm with
  | true => rw [hg] at h; cases h
  | false =>
  rw [hg] at h
  simp only [Bool.false_eq_true, if_false] at h ⊢
  split at h
  · rename_i hw
    simp only [hw, if_true]
    split at h
    · rename_i v' σ' hx
      cases h
      simp only [hx]
    · rename_i σ' hx
      cases h
      simp only [hx]
    · cases h
  · rename_i hw
    cases h
    simp only [hw, Bool.false_eq_true, if_false]

/-- The run in the order of the text, as functions of the number of operations. -/
structure Run (T : TTab) (H : Hooks) (all : List Oper) (s e : St) (S : Nat → St) (V : Nat → AVal) : Prop where
  zero : S 0 = s
  last : S all.length = e
  step : ∀ i o, all[i]? = some o → ∃ σ, stepV T H all o (S i) = some (V i, σ) ∧ S (i + 1) = ⟨setD (S i).tm o.dst (V i), (S i).df, σ⟩
  reads : ∀ i o, all[i]? = some o → kindOf o.op = 1 → wantedA all o (S i).tm = true → ∀ c ∈ cuts all, excluded all (masks all []) i c = false →
    c ≤ all.length → aexec T H o.op (S i).tm (S c).mem = some (.val (V i), (S c).mem)

theorem run_of {all : List Oper} {s e : St} (h : runDraw T H all s = some e) : ∃ S V, Run T H all s e S V := by
  unfold runDraw at h
  split at h
  · rename_i tr e' htr
    split at h
    · rename_i hrd
      cases h
      obtain ⟨h1, h2, h3⟩ := trace_spec all s tr e htr
      refine ⟨fun i => ((tr.map (·.1) ++ [e])[i]?).getD e, fun i => ((tr[i]?).map (·.2)).getD (.tup []), ?_, ?_, ?_, ?_⟩
      · show ((tr.map (·.1) ++ [e])[0]?).getD e = s
        rw [h2]; rfl
      · simp [h1]
      · intro i o hi
        obtain ⟨si, vi, σ, q1, q2, q3⟩ := h3 i o hi
        have hlt : i < tr.length := (List.getElem?_eq_some_iff.1 q1).1
        have hSi : ((tr.map (·.1) ++ [e])[i]?).getD e = si := by
          rw [List.getElem?_append_left (by simpa using hlt)]; simp [q1]
        refine ⟨σ, ?_, ?_⟩
        · show stepV T H all o (((tr.map (·.1) ++ [e])[i]?).getD e) = some (((tr[i]?).map (·.2)).getD (.tup []), σ)
          rw [hSi, q1]; exact q2
        · simp only [q3, Option.getD_some, q1, Option.map_some]
          rw [List.getElem?_append_left (by simpa using hlt)]
          simp [q1]
      · intro i o hi hk hw c hc hex hle
        obtain ⟨si, vi, σ, q1, q2, q3⟩ := h3 i o hi
        have hlt : i < tr.length := (List.getElem?_eq_some_iff.1 q1).1
        have hro := readsOk_spec all 0 tr hrd i o si vi hi q1
        rw [Nat.zero_add] at hro
        have hSi : ((tr.map (·.1) ++ [e])[i]?).getD e = si := by
          rw [List.getElem?_append_left (by simpa using hlt)]; simp [q1]
        simp only [hSi] at hw ⊢
        unfold readOk at hro
        simp only [hk, beq_self_eq_true, Bool.not_true, Bool.false_or, hw, List.all_eq_true] at hro
        have := hro c hc
        simp only [hex, Bool.false_or] at this
        split at this
        · rename_i σc hσ
          have hcs : (((tr.map (·.1) ++ [e])[c]?).getD e).mem = σc := by
            have e1 : (tr.map (·.1.mem) ++ [e.mem]) = (tr.map (·.1) ++ [e]).map (·.mem) := by simp
            rw [e1, List.getElem?_map] at hσ
            cases hq : (tr.map (·.1) ++ [e])[c]? with
            | none => rw [hq] at hσ; cases hσ
            | some x => rw [hq] at hσ; simpa using hσ
          rw [hcs]
          split at this
          · rename_i u σ' hu
            obtain ⟨rfl, _⟩ := aexec_still (by omega) hu
            rw [hu, aeq_eq _ _ this]
            simp [q1]
          · cases this
        · cases this
    · cases h
  · cases h

theorem Run.still {all : List Oper} {s e : St} {S : Nat → St} {V : Nat → AVal} (h : Run T H all s e S V) {i : Nat} {o : Oper} (hi : all[i]? = some o) (hk : isMem o = false) :
    (S (i + 1)).mem = (S i).mem := by
  obtain ⟨σ, h1, h2⟩ := h.step i o hi
  rw [h2]
  unfold stepV at h1
  split at h1
  · cases h1
  split at h1
  · have hk' : kindOf o.op ≠ 2 := by simpa [isMem] using hk
    split at h1
    · rename_i v' σ' hx
      cases h1
      exact (aexec_still hk' hx).1
    · rename_i σ' hx
      obtain ⟨_, v, hv⟩ := aexec_still hk' hx
      cases hv
    · cases h1
  · simp only [Option.some.injEq, Prod.mk.injEq] at h1
    exact h1.2.symm

theorem Run.stillTo {all : List Oper} {s e : St} {S : Nat → St} {V : Nat → AVal} (h : Run T H all s e S V) {c : Nat} : ∀ (k : Nat), c + k ≤ all.length →
    (∀ q o, c ≤ q → q < c + k → all[q]? = some o → isMem o = false) → (S (c + k)).mem = (S c).mem
  | 0, _, _ => rfl
  | k + 1, hle, hno => by
    have ih := h.stillTo k (by omega) fun q o h1 h2 => hno q o h1 (by omega)
    have hlt : c + k < all.length := by omega
    rw [← ih, ← Nat.add_assoc]
    exact h.still (List.getElem?_eq_getElem hlt) (hno (c + k) _ (by omega) (by omega) (List.getElem?_eq_getElem hlt))

theorem Run.tm {all : List Oper} {s e : St} {S : Nat → St} {V : Nat → AVal} (h : Run T H all s e S V) (hp : pairsOk all (masks all []) = true) : ∀ i, i ≤ all.length →
    (S i).tm.length = s.tm.length ∧ (S i).df = s.df ∧ (∀ t, (∀ j o, j < i → all[j]? = some o → o.dst ≠ some t) → (S i).tm[t]? = s.tm[t]?) ∧
    ∀ j o t, j < i → all[j]? = some o → o.dst = some t → t < s.tm.length → (S i).tm[t]? = some (V j)
  | 0, _ => by rw [h.zero]; exact ⟨rfl, rfl, fun _ _ => rfl, fun j o t hj => by omega⟩
  | i + 1, hle => by
    obtain ⟨h1, h2, h3, h4⟩ := h.tm hp i (by omega)
    have ho : all[i]? = some all[i] := List.getElem?_eq_getElem (by omega)
    obtain ⟨σ, q1, q2⟩ := h.step i _ ho
    rw [q2]
    refine ⟨?_, h2, fun t ht => ?_, fun j o t hj hjo hd hlt => ?_⟩
    · simp only [setD]; split <;> simp [h1]
    · have hne := ht i _ (by omega) ho
      have := h3 t fun j o hj => ht j o (by omega)
      simp only [setD]
      split
      · rename_i d hd
        rw [List.getElem?_set_ne (fun q => hne (by rw [hd, q]))]
        exact this
      · exact this
    · rcases Nat.lt_or_ge j i with hlt2 | hge
      · have hdd := (pairs_of hp hjo ho).1 (show j ≠ i by omega) t
        have := h4 j o t hlt2 hjo hd hlt
        simp only [setD]
        split
        · rename_i d hd2
          rw [List.getElem?_set_ne (fun q => hdd d hd hd2 q.symm)]
          exact this
        · exact this
      · obtain rfl : j = i := by omega
        rw [ho] at hjo
        cases hjo
        simp only [setD, hd]
        rw [List.getElem?_set_self (Nat.lt_of_lt_of_eq hlt h1.symm)]

/-- What holds while a region whose order is drawn is run. -/
structure Inv (w0 : W0) (ρ0 : Nat → Loc) (all : List Oper) (s : St) (S : Nat → St) (V : Nat → AVal) (L : Nat → Bool) (c : Nat) (a : Act) (w : World) : Prop where
  st : ∃ ρ tm', SRel w0 ρ ⟨tm', s.df, (S c).mem⟩ a w ∧ (∀ i, i < s.mem.next → ρ i = ρ0 i) ∧ s.mem.next ≤ (S c).mem.next ∧ tm'.length = s.tm.length ∧
    (∀ t, (∀ j o, L j = true → all[j]? = some o → o.dst ≠ some t) → tm'[t]? = s.tm[t]?) ∧
    ∀ j o t, L j = true → all[j]? = some o → o.dst = some t → t < s.tm.length → tm'[t]? = some (V j)
  closed : Closed all L
  inb : ∀ j, L j = true → j < all.length
  cut : c ∈ cuts all
  cle : c ≤ all.length
  mem : ∀ q o, all[q]? = some o → isMem o = true → (L q = true ↔ q < c)

theorem cuts_succ {all : List Oper} {i : Nat} {o : Oper} (hi : all[i]? = some o) (hm : isMem o = true) : i + 1 ∈ cuts all := by
  unfold cuts
  refine List.mem_cons_of_mem _ (List.mem_map.2 ⟨(o, i), List.mem_filter.2 ⟨List.mem_zipIdx_iff_getElem?.2 hi, hm⟩, rfl⟩)

theorem not_excluded {all : List Oper} (he : edgesOk all = true) {L : Nat → Bool} (hc : Closed all L) {c i : Nat} {o : Oper} (hi : all[i]? = some o) (hL : L i = false)
    (hr : ∀ e ∈ o.after, Region.binds .any e = true → L e.on = true) (hm : ∀ q o, all[q]? = some o → isMem o = true → (L q = true ↔ q < c)) :
    excluded all (masks all []) i c = false := by
  unfold excluded
  rw [List.any_eq_false]
  rintro ⟨o', q⟩ hq
  have hq' := List.mem_zipIdx_iff_getElem?.1 hq
  simp only [Bool.and_eq_true, Bool.or_eq_true, decide_eq_true_eq, not_and, not_or]
  intro hmem
  refine ⟨fun h1 h2 => ?_, fun h1 h2 => ?_⟩
  · have := anc_listed he hc i i o (Nat.le_refl _) hi hr q h2
    have := (hm q o' hq' hmem).1 this
    omega
  · have hLq := (hm q o' hq' hmem).2 h1
    have := anc_listed he hc q q o' (Nat.le_refl _) hq' (hc q o' hq' hLq) i h2
    rw [hL] at this; cases this

def unlisted (L : Nat → Bool) (n : Nat) : Nat := ((List.range n).filter fun i => !L i).length

theorem unlisted_zero {L : Nat → Bool} {n : Nat} (h : unlisted L n = 0) : ∀ i, i < n → L i = true := by
  intro i hi
  unfold unlisted at h
  have := List.filter_eq_nil_iff.1 (List.length_eq_zero_iff.1 h) i (List.mem_range.2 hi)
  simpa using this

theorem unlisted_step {L L' : Nat → Bool} {i : Nat} (hi : L i = false) (hL' : ∀ j, L' j = (L j || j == i)) : ∀ n, i < n → unlisted L' n + 1 = unlisted L n := by
  intro n
  unfold unlisted
  induction n with
  | zero => intro h; omega
  | succ n ih =>
    intro h
    rw [List.range_succ, List.filter_append, List.filter_append, List.length_append, List.length_append]
    rcases Nat.lt_or_ge i n with hlt | hge
    · have := ih hlt
      have e : ([n].filter fun i => !L' i).length = ([n].filter fun i => !L i).length := by
        have : (n == i) = false := by simp; omega
        rw [List.filter_cons, List.filter_cons, hL' n, this, Bool.or_false]
        rfl
      omega
    · obtain rfl : i = n := by omega
      have e1 : ((List.range i).filter fun j => !L' j) = (List.range i).filter fun j => !L j := by
        apply List.filter_congr
        intro j hj
        have hj' := List.mem_range.1 hj
        have : (j == i) = false := by simp; omega
        simp [hL', this]
      rw [e1]
      simp [hL', hi]

theorem wpAny_draw {ops : Array Oper} (hT : TabOk P T) (hH : HooksOk P H) {s e : St} {S : Nat → St} {V : Nat → AVal} (hst : statOk ops.toList = true) (hrun : Run T H ops.toList s e S V)
    {w0 : W0} {ρ0 : Nat → Loc} {Q : Exit → Act → World → Prop}
    (hQ : ∀ ρ' a' w', SRel w0 ρ' e a' w' → (∀ i, i < s.mem.next → ρ' i = ρ0 i) → s.mem.next ≤ e.mem.next → Q .normal a' w') :
    ∀ (fuel : Nat) (listed : Array Bool) (c : Nat) (a : Act) (w : World), listed.size = ops.size → unlisted (fun i => listed.getD i false) ops.toList.length ≤ fuel →
      Inv w0 ρ0 ops.toList s S V (fun i => listed.getD i false) c a w → wpAny P .any ops Q fuel listed a w := by
  unfold statOk at hst
  rw [Bool.and_eq_true] at hst
  obtain ⟨hed, hpr⟩ := hst
  -- the end
  have fin : ∀ (listed : Array Bool) (c : Nat) (a : Act) (w : World), (∀ i, i < ops.toList.length → listed.getD i false = true) →
      Inv w0 ρ0 ops.toList s S V (fun i => listed.getD i false) c a w → Q .normal a w := by
    intro listed c a w hall hI
    obtain ⟨ρ, tm', h1, h2, h3, h4, h5, h6⟩ := hI.st
    obtain ⟨t1, t2, t3, t4⟩ := hrun.tm hpr ops.toList.length (Nat.le_refl _)
    have hm : (S ops.toList.length).mem = (S c).mem := by
      have := hrun.stillTo (c := c) (ops.toList.length - c) (by have := hI.cle; omega) fun q o q1 q2 q3 => by
        cases hmm : isMem o with
        | false => rfl
        | true =>
          have := (hI.mem q o q3 hmm).1 (hall q (List.getElem?_eq_some_iff.1 q3).1)
          omega
      rwa [show c + (ops.toList.length - c) = ops.toList.length by have := hI.cle; omega] at this
    have htm : tm' = (S ops.toList.length).tm := by
      apply List.ext_getElem?
      intro t
      rcases Classical.em (∃ (j : Nat) (o : Oper), ops.toList[j]? = some o ∧ o.dst = some t) with ⟨j, o, q1, q2⟩ | hno
      · rcases Nat.lt_or_ge t s.tm.length with hlt | hge
        · have hj := (List.getElem?_eq_some_iff.1 q1).1
          rw [h6 j o t (hall j hj) q1 q2 hlt, t4 j o t hj q1 q2 hlt]
        · rw [List.getElem?_eq_none (by omega), List.getElem?_eq_none (by omega)]
      · have hno' : ∀ (j : Nat) (o : Oper), ops.toList[j]? = some o → o.dst ≠ some t := fun j o q1 q2 => hno ⟨j, o, q1, q2⟩
        rw [h5 t (fun j o _ q1 => hno' j o q1), t3 t (fun j o _ q1 => hno' j o q1)]
    have he : (⟨tm', s.df, (S c).mem⟩ : St) = e := by
      rw [← hrun.last, htm, ← hm, ← t2]
    rw [he] at h1
    exact hQ ρ a w h1 h2 (by rw [← hrun.last, hm]; exact h3)
  -- nothing is ready: all is listed
  have done : ∀ (listed : Array Bool), listed.size = ops.size → Region.ready .any ops listed = [] → ∀ i, i < ops.toList.length → listed.getD i false = true := by
    intro listed hsz hr
    have : ∀ n i, i ≤ n → i < ops.toList.length → listed.getD i false = true := by
      intro n
      induction n using Nat.strongRecOn with
      | _ n ih =>
        intro i hin hi
        cases hl : listed.getD i false with
        | true => rfl
        | false =>
          exfalso
          have hi' : i < ops.size := by simpa using hi
          have ho : ops.toList[i]? = some ops[i] := by simp [hi']
          have hmem : i ∈ Region.ready .any ops listed := by
            refine mem_ready.2 ⟨?_, ops[i], by simp [hi'], fun e he hb => ?_⟩
            · have : i < listed.size := by omega
              simpa [this] using hl
            · have := edges_lt hed ho he hb
              exact ih e.on (by omega) e.on (Nat.le_refl _) (by omega)
          rw [hr] at hmem; cases hmem
    exact fun i hi => this i i (Nat.le_refl _) hi
  intro fuel
  induction fuel with
  | zero =>
    intro listed c a w hsz hun hI
    have hall := unlisted_zero (Nat.le_zero.1 hun)
    refine ⟨?_, fin listed c a w hall hI⟩
    rw [List.eq_nil_iff_forall_not_mem]
    intro i hi
    obtain ⟨h1, o, h2, _⟩ := mem_ready.1 hi
    have hlt : i < ops.size := (Array.getElem?_eq_some_iff.1 h2).1
    have := hall i (by simpa using hlt)
    have hlt2 : i < listed.size := by omega
    simp [hlt2] at h1 this
    rw [this] at h1; cases h1
  | succ fuel ih =>
    intro listed c a w hsz hun hI
    refine ⟨fun hr => fin listed c a w (done listed hsz hr) hI, fun i hi => ?_⟩
    obtain ⟨hun1, o, hio, hedges⟩ := mem_ready.1 hi
    have hlt : i < ops.size := (Array.getElem?_eq_some_iff.1 hio).1
    have hlt2 : i < listed.size := by omega
    have hiol : ops.toList[i]? = some o := by simpa using hio
    have hLi : listed.getD i false = false := by simp [hlt2] at hun1 ⊢; exact hun1
    obtain ⟨ρ, tm', h1, h2, h3, h4, h5, h6⟩ := hI.st
    obtain ⟨t1, t2, t3, t4⟩ := hrun.tm hpr i (by simp; omega)
    have hanc := anc_listed hed hI.closed i i o (Nat.le_refl _) hiol hedges
    -- what it looks at is as in the order of the text
    have hlook : ∀ t ∈ looksOf ops.toList o, tm'[t]? = (S i).tm[t]? := by
      intro t ht
      rcases Classical.em (∃ (j : Nat) (oj : Oper), j ≠ i ∧ ops.toList[j]? = some oj ∧ oj.dst = some t) with ⟨j, oj, q0, q1, q2⟩ | hno
      · rcases Nat.lt_or_ge t s.tm.length with hlt3 | hge
        · rcases (pairs_of hpr hiol q1).2.1 (Ne.symm q0) t q2 ht with ⟨r1, r2⟩ | ⟨r1, r2⟩
          · rw [h6 j oj t (hanc j r2) q1 q2 hlt3, t4 j oj t r1 q1 q2 hlt3]
          · have hLj : ¬ listed.getD j false = true := by
              intro hLj
              have := anc_listed hed hI.closed j j oj (Nat.le_refl _) q1 (hI.closed j oj q1 hLj) i r2
              rw [hLi] at this; cases this
            have w1 : ∀ k ok, ops.toList[k]? = some ok → ok.dst = some t → k = j := by
              intro k ok k1 k2
              rcases Classical.em (k = j) with hk | hk
              · exact hk
              · exact absurd rfl ((pairs_of hpr k1 q1).1 hk t t k2 q2)
            rw [h5 t (fun k ok k0 k1 k2 => hLj (w1 k ok k1 k2 ▸ k0)), t3 t (fun k ok k0 k1 k2 => (by have := w1 k ok k1 k2; omega))]
        · rw [List.getElem?_eq_none (by omega), List.getElem?_eq_none (by omega)]
      · have w1 : ∀ k ok, ops.toList[k]? = some ok → ok.dst = some t → k = i := by
          intro k ok k1 k2
          rcases Classical.em (k = i) with hk | hk
          · exact hk
          · exact absurd ⟨k, ok, hk, k1, k2⟩ hno
        rw [h5 t (fun k ok k0 k1 k2 => (by have k3 : listed.getD k false = true := k0; rw [w1 k ok k1 k2, hLi] at k3; cases k3)), t3 t (fun k ok k0 k1 k2 => (by have := w1 k ok k1 k2; omega))]
    -- what it does
    obtain ⟨σ, v1, v2⟩ := hrun.step i o hiol
    have hne := not_excluded hed hI.closed hiol hLi hedges hI.mem
    have hdo : ∃ c', stepV T H ops.toList o ⟨tm', s.df, (S c).mem⟩ = some (V i, (S c').mem) ∧ c' ∈ cuts ops.toList ∧ c' ≤ ops.toList.length ∧
        (∀ q oq, ops.toList[q]? = some oq → isMem oq = true → ((listed.getD q false || q == i) = true ↔ q < c')) := by
      rw [stepV_congr (tm' := (S i).tm) (df' := (S i).df) hlook]
      cases hmm : isMem o with
      | true =>
        have hci : c ≤ i := by
          rcases Nat.lt_or_ge i c with hx | hx
          · have := (hI.mem i o hiol hmm).2 hx
            rw [hLi] at this; cases this
          · exact hx
        have hno : ∀ q oq, c ≤ q → q < i → ops.toList[q]? = some oq → isMem oq = false := by
          intro q oq q1 q2 q3
          cases hq : isMem oq with
          | false => rfl
          | true =>
            have := hanc q ((pairs_of hpr q3 hiol).2.2 hq hmm q2)
            have := (hI.mem q oq q3 hq).1 this
            omega
        have hmem : (S i).mem = (S c).mem := by
          have := hrun.stillTo (c := c) (i - c) (by simp; omega) fun q oq q1 q2 q3 => hno q oq q1 (by omega) q3
          rwa [show c + (i - c) = i by omega] at this
        refine ⟨i + 1, ?_, cuts_succ hiol hmm, by simp; omega, fun q oq q1 q2 => ?_⟩
        · rw [← hmem]
          have : (⟨(S i).tm, (S i).df, (S i).mem⟩ : St) = S i := rfl
          rw [this, v1, v2]
        · rcases Nat.lt_trichotomy q i with hq | hq | hq
          · have e : (q == i) = false := by simp; omega
            rw [e, Bool.or_false, hI.mem q oq q1 q2]
            constructor
            · intro _; omega
            · intro _
              rcases Nat.lt_or_ge q c with hx | hx
              · exact hx
              · have := hno q oq hx hq q1; rw [q2] at this; cases this
          · subst hq; simp
          · have e : (q == i) = false := by simp; omega
            rw [e, Bool.or_false, hI.mem q oq q1 q2]; omega
      | false =>
        refine ⟨c, ?_, hI.cut, hI.cle, fun q oq q1 q2 => ?_⟩
        · have hk2 : kindOf o.op ≠ 2 := by simpa [isMem] using hmm
          unfold stepV at v1 ⊢
          cases hgj : gj ops.toList o (S i).tm with
          | true => rw [hgj] at v1; cases v1
          | false =>
          rw [hgj] at v1
          simp only [Bool.false_eq_true, if_false] at v1 ⊢
          cases hw : wantedA ops.toList o (S i).tm with
          | false =>
            rw [hw] at v1
            simp only [Bool.false_eq_true, if_false, Option.some.injEq, Prod.mk.injEq] at v1 ⊢
            exact ⟨v1.1, trivial⟩
          | true =>
            rw [hw] at v1
            simp only [if_true] at v1 ⊢
            rcases (show kindOf o.op = 0 ∨ kindOf o.op = 1 by unfold kindOf at hk2 ⊢; split <;> simp_all) with hk | hk
            · split at v1
              · rename_i v' σ' hx
                cases v1
                rw [aexec_pure hk hx (S c).mem]
              · rename_i σ' hx
                obtain ⟨_, v', hv'⟩ := aexec_still hk2 hx
                cases hv'
              · cases v1
            · rw [hrun.reads i o hiol hk hw c hI.cut hne hI.cle]
        · have hqi : (q == i) = false := by
            simp only [beq_eq_false_iff_ne]
            rintro rfl
            rw [hiol] at q1; cases q1; rw [hmm] at q2; cases q2
          rw [hqi, Bool.or_false]
          exact hI.mem q oq q1 q2
    obtain ⟨c', d1, d2, d3, d4⟩ := hdo
    have hL' : ∀ j, (listed.setIfInBounds i true).getD j false = (listed.getD j false || j == i) := by
      intro j
      rcases Classical.em (i = j) with hij | hij
      · subst hij; simp [hlt2]
      · rw [getD_set_ne false hij]
        have : (j == i) = false := by simp; exact fun q => hij q.symm
        rw [this, Bool.or_false]
    refine stepOp_wp hT hH h1 hio (stepOp_of_stepV d1) ?_
    intro ρ' a' w' k1 k2 k3
    refine ih _ c' a' w' (by simp [hsz]) ?_ ⟨⟨ρ', _, k1, fun j hj => (k2 j (by simp only []; omega)).trans (h2 j hj), by simp only [] at k3; omega, ?_, ?_, ?_⟩, ?_, ?_, d2, d3, ?_⟩
    · have := unlisted_step (L := fun j => listed.getD j false) (L' := fun j => (listed.setIfInBounds i true).getD j false) hLi hL' ops.toList.length (by simpa using hlt)
      omega
    · simp only [setD]; split <;> simp [h4]
    · intro t ht
      have ht' : ∀ j oj, listed.getD j false = true → ops.toList[j]? = some oj → oj.dst ≠ some t := fun j oj hj => ht j oj (by rw [hL' j, hj, Bool.true_or])
      have hne2 := ht i o (by rw [hL' i]; simp) hiol
      simp only [setD]
      split
      · rename_i d hd
        rw [List.getElem?_set_ne (fun q => hne2 (by rw [hd, q]))]
        exact h5 t ht'
      · exact h5 t ht'
    · intro j oj t hj hjo hd hlt3
      change (listed.setIfInBounds i true).getD j false = true at hj
      rw [hL' j] at hj
      rcases Classical.em (j = i) with hji | hji
      · subst hji
        rw [hiol] at hjo; cases hjo
        simp only [setD, hd]
        rw [List.getElem?_set_self (Nat.lt_of_lt_of_eq hlt3 h4.symm)]
      · have hj2 : listed.getD j false = true := by
          have e : (j == i) = false := by simp [hji]
          rw [e, Bool.or_false] at hj; exact hj
        have hdd := (pairs_of hpr hjo hiol).1 hji t
        simp only [setD]
        split
        · rename_i d hd2
          rw [List.getElem?_set_ne (fun q => hdd d hd hd2 q.symm)]
          exact h6 j oj t hj2 hjo hd hlt3
        · exact h6 j oj t hj2 hjo hd hlt3
    · intro j oj hjo hj e he hb
      change (listed.setIfInBounds i true).getD j false = true at hj
      show (listed.setIfInBounds i true).getD e.on false = true
      rw [hL' j] at hj
      rw [hL' e.on]
      rcases Classical.em (j = i) with hji | hji
      · subst hji
        rw [hiol] at hjo; cases hjo
        rw [hedges e he hb, Bool.true_or]
      · have hj2 : listed.getD j false = true := by
          have e : (j == i) = false := by simp [hji]
          rw [e, Bool.or_false] at hj; exact hj
        have h9 : listed.getD e.on false = true := hI.closed j oj hjo hj2 e he hb
        rw [h9, Bool.true_or]
    · intro j hj
      change (listed.setIfInBounds i true).getD j false = true at hj
      rw [hL' j] at hj
      rcases Classical.em (j = i) with hji | hji
      · subst hji; simpa using hlt
      · have e : (j == i) = false := by simp [hji]
        rw [e, Bool.or_false] at hj
        exact hI.inb j hj
    · intro q oq q1 q2
      show (listed.setIfInBounds i true).getD q false = true ↔ _
      rw [hL' q]
      exact d4 q oq q1 q2

theorem awp_draw (hT : TabOk P T) (hH : HooksOk P H) (hm : P.follows .mixedOrders = true) {id : Nat} {ops : Array Oper} {s s' : St} {Φ : AOut → St → Prop} (hst : statOk ops.toList = true)
    (hx : runDraw T H ops.toList s = some s') (hΦ : Φ .normal s') : AWP P (.region id ops true) s Φ := by
  obtain ⟨S, V, hrun⟩ := run_of hx
  intro w0 ρ a w h
  refine wp_region_any hm ?_
  refine wpAny_draw hT hH hst hrun (w0 := w0) (ρ0 := ρ) (fun ρ' a' w' k1 k2 k3 => ⟨.normal, s', hΦ, ⟨ρ', rfl, k1, k2, k3, by simp⟩⟩) ops.size _ 0 a _ (by simp) ?_ ?_
  · unfold unlisted
    refine Nat.le_trans (List.length_filter_le _ _) (by simp)
  · have hfalse : ∀ j, (Array.replicate ops.size false).getD j false = false := by
      intro j
      rw [Array.getD_eq_getD_getElem?]
      rcases Nat.lt_or_ge j ops.size with hj | hj
      · simp [hj]
      · rw [Array.getElem?_eq_none (by simpa using hj)]; rfl
    have hst0 : (⟨s.tm, s.df, (S 0).mem⟩ : St) = s := by rw [hrun.zero]
    refine ⟨⟨ρ, s.tm, ?_, fun _ _ => rfl, by rw [hrun.zero]; exact Nat.le_refl _, rfl, fun _ _ => rfl, fun j o t hj => ?_⟩, ?_, ?_, by simp [cuts], Nat.zero_le _, ?_⟩
    · rw [hst0]
      exact ⟨h.rel.drew _, h.tm, h.sct, h.df, h.scd⟩
    · rw [hfalse j] at hj; cases hj
    · intro j o _ hj
      simp only [hfalse j] at hj; cases hj
    · intro j hj
      simp only [hfalse j] at hj; cases hj
    · intro q o _ _
      simp only [hfalse q]; simp

end
end Go.Ev
