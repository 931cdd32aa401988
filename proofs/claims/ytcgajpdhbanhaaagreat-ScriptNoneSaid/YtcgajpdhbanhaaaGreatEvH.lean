import Derived.Test.YtcgajpdhbanhaaaGreatEvG
import Derived.MapKept
namespace Go.Ev
set_option linter.unusedVariables false
set_option linter.unusedSimpArgs false
section
variable {P : Program} {T : TTab} {ρ : Nat → Loc} {w0 : W0} {w : World} {σ : Mem}
theorem eqCells_same : ∀ {ks : List TK} {xs ys : List AVal}, eqCells ks xs ys = some true → xs = ys
  | [], [], [], _ => rfl
  | .int k :: ks, .int a x :: xs, .int b y :: ys, h => by
    simp only [eqCells] at h
    split at h
    · rename_i hk
      obtain ⟨r, h1, h2⟩ := Option.map_eq_some_iff.1 h
      simp only [Bool.and_eq_true, beq_iff_eq] at h2
      obtain ⟨rfl, rfl⟩ := h2
      rw [hk.1, hk.2, eqCells_same h1]
    · cases h
  | .bool :: ks, .bool x :: xs, .bool y :: ys, h => by
    simp only [eqCells] at h
    obtain ⟨r, h1, h2⟩ := Option.map_eq_some_iff.1 h
    simp only [Bool.and_eq_true, beq_iff_eq] at h2
    obtain ⟨rfl, rfl⟩ := h2
    rw [eqCells_same h1]
theorem sameBits_cells (d : Nat) : ∀ {ks : List TK} {xs ys : List AVal}, eqCells ks xs ys = some true → ((γL ρ xs).zip (γL ρ ys)).all (fun (x, y) => Instr.sameBits d x y) = true
  | [], [], [], _ => rfl
  | .int k :: ks, .int a x :: xs, .int b y :: ys, h => by
    simp only [eqCells] at h
    split at h
    · rename_i hk
      obtain ⟨r, h1, h2⟩ := Option.map_eq_some_iff.1 h
      simp only [Bool.and_eq_true, beq_iff_eq] at h2
      obtain ⟨rfl, rfl⟩ := h2
      simp only [γL, γ, List.zip_cons_cons, List.all_cons, sameBits_cells d h1, Bool.and_true]
      cases d <;> simp [Instr.sameBits, hk.1, hk.2]
    · cases h
  | .bool :: ks, .bool x :: xs, .bool y :: ys, h => by
    simp only [eqCells] at h
    obtain ⟨r, h1, h2⟩ := Option.map_eq_some_iff.1 h
    simp only [Bool.and_eq_true, beq_iff_eq] at h2
    obtain ⟨rfl, rfl⟩ := h2
    simp only [γL, γ, List.zip_cons_cons, List.all_cons, sameBits_cells d h1, Bool.and_true]
    cases d <;> simp [Instr.sameBits]
theorem keyEq_same {i : TyI} {x y : AVal} (h : keyEq i x y = some true) : x = y := by
  unfold keyEq at h
  split at h
  · split at h
    · rename_i hk; simp at h; rw [hk.1, hk.2, h]
    · cases h
  · simp at h; rw [h]
  · cases hf : i.flat with
    | none => rw [hf] at h; cases h
    | some ks => rw [hf] at h; rw [eqCells_same (ks := ks) h]
  · cases hf : i.flat with
    | none => rw [hf] at h; cases h
    | some ks => rw [hf] at h; rw [eqCells_same (ks := ks) h]
  · cases h
theorem keyEq_bits {i : TyI} {x y : AVal} (h : keyEq i x y = some true) (d : Nat) : Instr.sameBits (d + 1) (γ ρ x) (γ ρ y) = true := by
  have hxy := keyEq_same h
  unfold keyEq at h
  split at h
  · rw [hxy]; simp [γ, Instr.sameBits]
  · rw [hxy]; simp [γ, Instr.sameBits]
  · cases hf : i.flat with
    | none => rw [hf] at h; cases h
    | some ks =>
      rw [hf] at h
      have := sameBits_cells (ρ := ρ) d (ks := ks) h
      have hl := congrArg AVal.cellsOf hxy
      simp only [AVal.cellsOf] at hl
      simp only [γ, Instr.sameBits, List.size_toArray, γL_length, hl, beq_self_eq_true, Bool.true_and]
      rw [hl] at this
      exact this
  · cases hf : i.flat with
    | none => rw [hf] at h; cases h
    | some ks =>
      rw [hf] at h
      have := sameBits_cells (ρ := ρ) d (ks := ks) h
      have hl := congrArg AVal.cellsOf hxy
      simp only [AVal.cellsOf] at hl
      simp only [γ, Instr.sameBits, List.size_toArray, γL_length, hl, beq_self_eq_true, Bool.true_and]
      rw [hl] at this
      exact this
  · cases h
def plainKey (i : TyI) : Bool :=
  match i.k with
  | .int _ | .bool => true
  | _ => false
def keyDesc (i : TyI) : TypeDesc :=
  match i.k with
  | .int k => .int k
  | .bool => .bool
  | _ => .invalid
theorem keyEq_now {i : TyI} {x y : AVal} {r : Bool} (hp : plainKey i = true) (h : keyEq i x y = some r) : Instr.sameNow (keyDesc i) (γ ρ x) (γ ρ y) = some r := by
  unfold keyEq at h
  split at h <;> rename_i hk <;> simp only [plainKey, keyDesc, hk] at hp ⊢
  · split at h
    · rename_i hq
      cases h
      simp [γ, Instr.sameNow, hq.1, hq.2]
    · cases h
  · cases h; simp [γ, Instr.sameNow]
  · cases hp
  · cases hp
  · cases h
theorem keyDesc_und {t : TypeId} {i : TyI} (h : TyOk P t i) (hp : plainKey i = true) : P.underlying t = some (keyDesc i) := by
  have hk := h.k
  cases hi : i.k <;> simp only [plainKey, hi] at hp <;> rw [hi] at hk <;> simp only [KOk] at hk <;> simp only [keyDesc, hi, hk] <;> cases hp
def IsEntry (ρ : Nat → Loc) (m : MapEntry) (e : AVal × AVal × Nat) : Prop := m.key = γ ρ e.1 ∧ m.val = γ ρ e.2.1 ∧ m.born = e.2.2
inductive Ents (ρ : Nat → Loc) : List MapEntry → List (AVal × AVal × Nat) → Prop
  | nil : Ents ρ [] []
  | cons {m : MapEntry} {e : AVal × AVal × Nat} {ms : List MapEntry} {es : List (AVal × AVal × Nat)} : IsEntry ρ m e → Ents ρ ms es → Ents ρ (m :: ms) (e :: es)
theorem entries_of {mes : List MapEntry} {es : List (AVal × AVal × Nat)} (h : mes.map (fun e => (e.key, e.val, e.born)) = es.map fun e => (γ ρ e.1, γ ρ e.2.1, e.2.2)) :
    Ents ρ mes es := by
  induction mes generalizing es with
  | nil => cases es with
    | nil => exact .nil
    | cons e es => simp at h
  | cons m mes ih =>
    cases es with
    | nil => simp at h
    | cons e es =>
      simp only [List.map_cons, List.cons.injEq, Prod.mk.injEq] at h
      exact .cons ⟨h.1.1, h.1.2.1, h.1.2.2⟩ (ih h.2)
theorem of_entries {mes : List MapEntry} {es : List (AVal × AVal × Nat)} (h : Ents ρ mes es) :
    mes.map (fun e => (e.key, e.val, e.born)) = es.map fun e => (γ ρ e.1, γ ρ e.2.1, e.2.2) := by
  induction h with
  | nil => rfl
  | cons h1 _ ih => obtain ⟨a, b, c⟩ := h1; simp [a, b, c, ih]
theorem findA_now {i : TyI} (hp : plainKey i = true) {k : AVal} : ∀ {mes : List MapEntry} {es : List (AVal × AVal × Nat)} {n : Nat} {r : Option (Nat × AVal)},
    Ents ρ mes es → findA i k es n = some r → Instr.findNow (keyDesc i) (γ ρ k) mes n = some (r.map fun x => (x.1, γ ρ x.2))
  | [], [], n, r, _, h => by simp only [findA, Option.some.injEq] at h; subst h; rfl
  | m :: mes, e :: es, n, r, .cons h1 h2, h => by
    obtain ⟨a, b, c⟩ := e
    obtain ⟨q1, q2, q3⟩ := h1
    simp only [findA] at h
    simp only [Instr.findNow, q1]
    split at h
    · rename_i he
      cases h
      rw [keyEq_now hp he]
      simp [q2]
    · rename_i he
      rw [keyEq_now hp he]
      exact findA_now hp h2 h
    · cases h
theorem keyEq_asks {t : TypeId} {i : TyI} (h : TyOk P t i) {x y : AVal} {r : Bool} (hp : plainKey i = false) (hk : keyEq i x y = some r) :
    (Op.equal t (γ ρ x) (γ ρ y)).run P w = .ok r w ∧ (∀ d, Instr.sameNow d (γ ρ x) (γ ρ y) = none) ∧ ∀ b, (Instr.checkKey b 10000 t (γ ρ x)).run P w = .ok () w := by
  unfold keyEq at hk
  split at hk <;> rename_i hi <;> simp only [plainKey, hi] at hp
  · cases hp
  · cases hp
  · cases hf : i.flat with
    | none => rw [hf] at hk; cases hk
    | some ks =>
      rw [hf] at hk
      obtain ⟨_, h2⟩ := h.flat ks hf
      obtain ⟨h3, h4⟩ := h2 ρ w _ _ _ hk
      simp only [γ]
      exact ⟨h3, fun d => by cases d <;> rfl, h4⟩
  · cases hf : i.flat with
    | none => rw [hf] at hk; cases hk
    | some ks =>
      rw [hf] at hk
      obtain ⟨_, h2⟩ := h.flat ks hf
      obtain ⟨h3, h4⟩ := h2 ρ w _ _ _ hk
      simp only [γ]
      exact ⟨h3, fun d => by cases d <;> rfl, h4⟩
  · cases hk
theorem findA_asks {t : TypeId} {i : TyI} (hti : TyOk P t i) (hp : plainKey i = false) {k : AVal} : ∀ {mes : List MapEntry} {es : List (AVal × AVal × Nat)} {n : Nat} {r : Option (Nat × AVal)},
    Ents ρ mes es → findA i k es n = some r → (Instr.findAsking t (γ ρ k) mes n).run P w = .ok (r.map fun x => (x.1, γ ρ x.2)) w
  | [], [], n, r, _, h => by simp only [findA, Option.some.injEq] at h; subst h; rfl
  | m :: mes, e :: es, n, r, .cons h1 h2, h => by
    obtain ⟨a, b, c⟩ := e
    obtain ⟨q1, q2, q3⟩ := h1
    simp only [findA] at h
    simp only [Instr.findAsking, Sem.run_bind, q1]
    split at h
    · rename_i he
      cases h
      rw [(keyEq_asks (ρ := ρ) (w := w) hti hp he).1]
      simp [q2]
    · rename_i he
      rw [(keyEq_asks (ρ := ρ) (w := w) hti hp he).1]
      simp only [Result.andThen_ok, Bool.false_eq_true, if_false]
      exact findA_asks hti hp h2 h
    · cases h
theorem findA_run {t : TypeId} {i : TyI} (hti : TyOk P t i) {k : AVal} {mes : List MapEntry} {es : List (AVal × AVal × Nat)} {r : Option (Nat × AVal)}
    (he : Ents ρ mes es) (h : findA i k es 0 = some r) : (Instr.findKey t (γ ρ k) mes).run P w = .ok (r.map fun x => (x.1, γ ρ x.2)) w := by
  cases hp : plainKey i with
  | true =>
    simp only [Instr.findKey, Sem.run_bind, run_underlying (keyDesc_und hti hp), Result.andThen_ok, findA_now hp he h, Sem.run_pure]
  | false =>
    obtain ⟨d, hd⟩ := Option.isSome_iff_exists.1 hti.isSome
    simp only [Instr.findKey, Sem.run_bind, run_underlying hd, Result.andThen_ok]
    cases he with
    | nil => simp only [findA, Option.some.injEq] at h; subst h; rfl
    | cons h1 h2 =>
      rename_i m e mes' es'
      obtain ⟨a, b, c⟩ := e
      have hnone : Instr.findNow d (γ ρ k) (m :: mes') 0 = none := by
        have h' := h
        simp only [findA] at h'
        have : ∃ q, keyEq i k a = some q := by
          cases hq : keyEq i k a with
          | none => rw [hq] at h'; cases h'
          | some q => exact ⟨q, rfl⟩
        obtain ⟨q, hq⟩ := this
        simp only [Instr.findNow, h1.1, (keyEq_asks (ρ := ρ) (w := w) hti hp hq).2.1 d]
      rw [hnone]
      exact findA_asks hti hp (.cons h1 h2) h
theorem checkKey_run {t : TypeId} {i : TyI} (hti : TyOk P t i) {k : AVal} (hk : (keyEq i k k).isSome = true) (b : Bool) :
    (Instr.checkKey b 10000 t (γ ρ k)).run P w = .ok () w := by
  obtain ⟨r, hr⟩ := Option.isSome_iff_exists.1 hk
  cases hp : plainKey i with
  | true =>
    have hu := keyDesc_und hti hp
    have e : Instr.checkKey b 10000 t (γ ρ k) = Instr.checkKey b (9999 + 1) t (γ ρ k) := rfl
    rw [e]
    generalize 9999 = d
    cases hi : i.k <;> simp only [plainKey, hi] at hp <;> simp only [keyDesc, hi] at hu <;> first
      | (simp only [Instr.checkKey, Sem.run_bind, run_underlying hu, Result.andThen_ok]
         generalize γ ρ k = x
         cases x <;> rfl)
      | cases hp
  | false => exact (keyEq_asks hti hp hr).2.2 b
theorem entriesA_run (h : Rel w0 ρ σ w) {b : Nat} {es : List (AVal × AVal × Nat)} {clock : Nat} (hb : σ.get b = some (.map es clock)) :
    ∃ mes : Array MapEntry, w.heap[(ρ b).blk]? = some (.map mes clock) ∧ Ents ρ mes.toList es := by
  obtain ⟨mes, h1, h2⟩ := h.ok b _ hb
  exact ⟨mes, h1, entries_of h2⟩
theorem Rel.entry_sc (h : Rel w0 ρ σ w) {b : Nat} {es : List (AVal × AVal × Nat)} {clock : Nat} (hb : σ.get b = some (.map es clock)) : ∀ e ∈ es, sc σ.next e.1 = true ∧ sc σ.next e.2.1 = true := by
  have := h.sco b _ hb
  simp only [scB, List.all_eq_true, Bool.and_eq_true] at this
  exact fun e he => ⟨sc_mono (Nat.zero_le _) _ (this e he).1, sc_mono (Nat.zero_le _) _ (this e he).2⟩
theorem Rel.entry_sc0 (h : Rel w0 ρ σ w) {b : Nat} {es : List (AVal × AVal × Nat)} {clock : Nat} (hb : σ.get b = some (.map es clock)) : ∀ e ∈ es, sc 0 e.1 = true ∧ sc 0 e.2.1 = true := by
  have := h.sco b _ hb
  simpa only [scB, List.all_eq_true, Bool.and_eq_true] using this
theorem findA_mem {i : TyI} {k : AVal} : ∀ {es : List (AVal × AVal × Nat)} {n m : Nat} {v : AVal}, findA i k es n = some (some (m, v)) →
    ∃ x c, (x, v, c) ∈ es ∧ n ≤ m ∧ es[m - n]? = some (x, v, c) ∧ keyEq i k x = some true
  | [], n, m, v, h => by simp [findA] at h
  | (x, u, c) :: es, n, m, v, h => by
    simp only [findA] at h
    split at h
    · rename_i he
      cases h
      exact ⟨x, c, by simp, Nat.le_refl _, by simp, he⟩
    · obtain ⟨y, d, h1, h2, h3, h4⟩ := findA_mem h
      exact ⟨y, d, by simp [h1], by omega, by rw [show m - n = (m - (n + 1)) + 1 by omega]; simpa using h3, h4⟩
    · cases h
theorem zeroA_run {t : TypeId} {i : TyI} (hti : TyOk P t i) {z : AVal} (hz : zeroA i = some z) (n : Nat) : (zeroValue t).run P w = .ok (γ ρ z) w ∧ sc n z = true := by
  unfold zeroA at hz
  have hs := scC_mono (Nat.zero_le n) _ hti.zsc
  split at hz
  · rename_i ha
    cases hz
    exact ⟨by rw [hti.run_zero ρ, if_pos ha]; simp only [γ], by simpa [sc] using hs⟩
  · rename_i ha
    cases hl : i.zero with
    | nil => rw [hl] at hz; cases hz
    | cons v vs =>
      rw [hl] at hz; cases hz
      rw [hl] at hs
      simp only [scC, Bool.and_eq_true] at hs
      exact ⟨by rw [hti.run_zero ρ, if_neg ha, hl]; rfl, hs.1.2⟩
theorem lookup_run (h : Rel w0 ρ σ w) (hT : TabOk P T) {t : TypeId} {x k v : AVal} {ok : Bool} (hl : lookupA T σ t x k ok = some v) :
    (Instr.lookup t (γ ρ x) (γ ρ k) ok).run P w = .ok (γ ρ v) w ∧ sc σ.next v = true := by
  unfold lookupA at hl
  split at hl
  · rename_i kt et hTt
    have hu := (hT _ _ hTt).k
    simp only [KOk] at hu
    split at hl
    · rename_i ki ei es hki hei hes
      split at hl
      · rename_i hkk
        have hfin : ∃ r : Option (Nat × AVal), findA ki k es 0 = some r ∧ ∃ z : AVal, z = v ∧
            (r = none → ∃ z0, zeroA ei = some z0 ∧ v = if ok then .tup [z0, .bool false] else z0) ∧ (∀ n u, r = some (n, u) → v = if ok then .tup [u, .bool true] else u) := by
          split at hl
          · rename_i n u hf
            cases hl
            exact ⟨_, hf, _, rfl, (fun q => by cases q), (fun n' u' q => by cases q; rfl)⟩
          · rename_i hf
            cases hz : zeroA ei with
            | none => rw [hz] at hl; cases hl
            | some z0 => rw [hz] at hl; cases hl; exact ⟨_, hf, _, rfl, (fun _ => ⟨z0, rfl, rfl⟩), (fun n u q => by cases q)⟩
          · cases hl
        obtain ⟨r, hf, _, _, hr0, hr1⟩ := hfin
        have hck := fun b => checkKey_run (ρ := ρ) (w := w) (hT _ _ hki) hkk b
        have key : ∀ mes : Array MapEntry, Ents ρ mes.toList es → (∀ e ∈ es, sc σ.next e.2.1 = true) →
            ((Instr.findKey kt (γ ρ k) mes.toList).run P w).andThen (fun a w' => (match a with
              | some (_, v) => pure (if ok = true then Value.tuple #[v, .bool true] else v)
              | none => zeroValue et >>= fun z => pure (if ok = true then Value.tuple #[z, .bool false] else z) : Sem Value).run P w') = .ok (γ ρ v) w ∧ sc σ.next v = true := by
          intro mes hE hS
          rw [findA_run (hT _ _ hki) hE hf]
          cases r with
          | none =>
            obtain ⟨z0, hz, rfl⟩ := hr0 rfl
            obtain ⟨z1, z2⟩ := zeroA_run (ρ := ρ) (w := w) (hT _ _ hei) hz σ.next
            cases ok <;> simp [γ, γL, sc, scL, z1, z2]
          | some q =>
            obtain ⟨n, u⟩ := q
            have hv := hr1 n u rfl
            obtain ⟨y, c, y1, _⟩ := findA_mem hf
            have hsu := hS _ y1
            simp only at hsu
            subst hv
            cases ok <;> simp [γ, γL, sc, scL, hsu]
        unfold entriesA at hes
        split at hes
        · cases hes
          refine ⟨?_, (key #[] .nil (by simp)).2⟩
          have := (key #[] .nil (by simp)).1
          rw [← this]
          simp only [γ, Instr.lookup, Sem.run_bind, run_underlying hu, Result.andThen_ok, Sem.run_pure, hck]
          congr 1
        · split at hes
          · rename_i clock hb
            cases hes
            obtain ⟨mes, h1, h2⟩ := entriesA_run h hb
            have hS : ∀ e ∈ es, sc σ.next e.2.1 = true := fun e he => (h.entry_sc hb e he).2
            refine ⟨?_, (key mes h2 hS).2⟩
            have := (key mes h2 hS).1
            rw [← this]
            simp only [γ, Instr.lookup, Sem.run_bind, run_underlying hu, Result.andThen_ok, Sem.run_pure, hck, run_getObj_map w _ _ _ h1]
            congr 1
          · cases hes
        · cases hes
      · cases hl
    · cases hl
  · cases hl
theorem Ents.modify {ms : List MapEntry} {es : List (AVal × AVal × Nat)} (h : Ents ρ ms es) {f : MapEntry → MapEntry} {g : AVal × AVal × Nat → AVal × AVal × Nat}
    (hfg : ∀ m e, IsEntry ρ m e → IsEntry ρ (f m) (g e)) : ∀ i, Ents ρ (ms.modify i f) (es.modify i g) := by
  induction h with
  | nil => intro i; cases i <;> exact .nil
  | cons h1 h2 ih =>
    intro i
    cases i with
    | zero => exact .cons (hfg _ _ h1) h2
    | succ i => exact .cons h1 (ih i)
theorem Ents.snoc {ms : List MapEntry} {es : List (AVal × AVal × Nat)} (h : Ents ρ ms es) {m : MapEntry} {e : AVal × AVal × Nat} (hm : IsEntry ρ m e) : Ents ρ (ms ++ [m]) (es ++ [e]) := by
  induction h with
  | nil => exact .cons hm .nil
  | cons h1 _ ih => exact .cons h1 ih
theorem Ents.get {ms : List MapEntry} {es : List (AVal × AVal × Nat)} (h : Ents ρ ms es) : ∀ {i : Nat} {e : AVal × AVal × Nat}, es[i]? = some e → ∃ m, ms[i]? = some m ∧ IsEntry ρ m e := by
  induction h with
  | nil => intro i e hi; cases hi
  | cons h1 _ ih =>
    intro i e hi
    cases i with
    | zero => simp at hi; subst hi; exact ⟨_, rfl, h1⟩
    | succ i => simpa using ih (i := i) (by simpa using hi)
theorem modify_mem {α : Type} {f : α → α} : ∀ {l : List α} {i : Nat} {x : α}, x ∈ l.modify i f → x ∈ l ∨ ∃ y ∈ l, x = f y
  | [], i, x, h => by cases i <;> simp at h
  | a :: l, 0, x, h => by
    simp at h
    rcases h with rfl | h
    · exact .inr ⟨a, by simp, rfl⟩
    · exact .inl (by simp [h])
  | a :: l, i + 1, x, h => by
    simp only [List.modify_succ_cons, List.mem_cons] at h
    rcases h with rfl | h
    · exact .inl (by simp)
    · rcases modify_mem h with h | ⟨y, hy, rfl⟩
      · exact .inl (by simp [h])
      · exact .inr ⟨y, by simp [hy], rfl⟩
theorem Rel.setMap (h : Rel w0 ρ σ w) {b : Nat} {es es' : List (AVal × AVal × Nat)} {clock clock' : Nat} (hb : σ.get b = some (.map es clock)) {mes' : Array MapEntry}
    (he : Ents ρ mes'.toList es') (hs : ∀ e ∈ es', sc 0 e.1 = true ∧ sc 0 e.2.1 = true) :
    Rel w0 ρ (σ.set b (.map es' clock')) { w with heap := w.heap.setIfInBounds (ρ b).blk (.map mes' clock') } := by
  have hin := h.inb b _ hb rfl
  refine h.set hb rfl (by simpa only [scB, List.all_eq_true, Bool.and_eq_true] using hs) ⟨mes', ?_, of_entries he⟩ (by simp) ?_ rfl rfl rfl
  · simp [hin]
  · intro k hk
    simp [Ne.symm hk]
theorem Ents.erase {ms : List MapEntry} {es : List (AVal × AVal × Nat)} (h : Ents ρ ms es) : ∀ i, Ents ρ (ms.eraseIdx i) (es.eraseIdx i) := by
  induction h with
  | nil => intro i; exact .nil
  | cons h1 h2 ih =>
    intro i
    cases i with
    | zero => exact h2
    | succ i => exact .cons h1 (ih i)
theorem mapDel_run (h : Rel w0 ρ σ w) (hT : TabOk P T) {t : TypeId} {ts : Array TypeId} (ht : ts[0]? = some t) {x k : AVal} {σ' : Mem} (ty : TypeId)
    (hl : mapDelA T σ t x k = some σ') : ∃ w', (Builtin.delete_ ts ty #[γ ρ x, γ ρ k]).run P w = .ok (.tuple #[]) w' ∧ Rel w0 ρ σ' w' ∧ σ'.next = σ.next := by
  unfold mapDelA at hl
  split at hl
  · rename_i kt et b hTt
    have hu := (hT _ _ hTt).k
    simp only [KOk] at hu
    split at hl
    · rename_i ki es clock hki hb
      split at hl
      · rename_i hkk
        obtain ⟨mes, m1, m2⟩ := entriesA_run h hb
        have hck := fun b => checkKey_run (ρ := ρ) (w := w) (hT _ _ hki) hkk b
        have hes := h.entry_sc0 hb
        have h0 : ∀ u v : Value, (#[u, v] : Array Value)[0]? = some u := fun _ _ => rfl
        have h1 : ∀ u v : Value, (#[u, v] : Array Value)[1]? = some v := fun _ _ => rfl
        split at hl
        · rename_i n u hf
          cases hl
          refine ⟨_, ?_, h.setMap (clock' := clock) hb (mes' := mes.eraseIdxIfInBounds n) ?_ ?_, rfl⟩
          · simp only [γ, Builtin.delete_, ht, h0, h1, Sem.run_bind, run_underlying hu, Result.andThen_ok, run_getObj_map w _ _ _ m1, hck, findA_run (hT _ _ hki) m2 hf, Option.map_some]
            simp only [setObj, Sem.run, m1, Sem.run_pure, Result.andThen_ok]
          · rw [Array.toList_eraseIdxIfInBounds]
            exact m2.erase n
          · intro e he
            exact hes e (List.mem_of_mem_eraseIdx he)
        · rename_i hf
          cases hl
          refine ⟨_, ?_, h.setMap (clock' := clock) hb (mes' := mes) m2 hes, rfl⟩
          simp only [γ, Builtin.delete_, ht, h0, h1, Sem.run_bind, run_underlying hu, Result.andThen_ok, run_getObj_map w _ _ _ m1, hck, findA_run (hT _ _ hki) m2 hf, Option.map_none]
          simp only [setObj, Sem.run, m1, Sem.run_pure, Result.andThen_ok]
        · cases hl
      · cases hl
    · cases hl
  · cases hl
theorem mapPut_run (h : Rel w0 ρ σ w) (hT : TabOk P T) {t : TypeId} {x k v : AVal} {σ' : Mem}
    (hl : mapPutA T σ t x k v = some σ') : ∃ w', (Instr.mapUpdate t (γ ρ x) (γ ρ k) (γ ρ v)).run P w = .ok () w' ∧ Rel w0 ρ σ' w' ∧ σ'.next = σ.next := by
  unfold mapPutA at hl
  split at hl
  · rename_i kt et b hTt
    have hu := (hT _ _ hTt).k
    simp only [KOk] at hu
    split at hl
    · rename_i ki es clock hki hb
      split at hl
      · rename_i hkk
        obtain ⟨hkk, hks, hvs⟩ := hkk
        obtain ⟨mes, m1, m2⟩ := entriesA_run h hb
        have hck := fun b => checkKey_run (ρ := ρ) (w := w) (hT _ _ hki) hkk b
        have hes := h.entry_sc0 hb
        split at hl
        · rename_i n u hf
          cases hl
          obtain ⟨y, c, y1, _, y3, y4⟩ := findA_mem hf
          obtain ⟨m, q1, q2⟩ := m2.get y3
          simp only [Nat.sub_zero] at q1
          have hold : (((mes[n]?).map (·.key)).getD (γ ρ k)) = γ ρ y := by
            rw [← Array.getElem?_toList, q1]; simp [q2.1]
          have hst : (Instr.keyThatStays (γ ρ y) (γ ρ k)).run P w = .ok (γ ρ k) w := by
            have e := keyEq_same y4
            have hb2 : Instr.sameBits 10000 (γ ρ y) (γ ρ k) = true := by
              have := keyEq_bits (ρ := ρ) y4 9999
              rwa [e] at this ⊢
            simp only [Instr.keyThatStays, hb2, if_true, Sem.run_pure]
          refine ⟨_, ?_, h.setMap (clock' := clock) hb (mes' := mes.modify n fun e => { e with key := γ ρ k, val := γ ρ v }) ?_ ?_, rfl⟩
          · simp only [γ, Instr.mapUpdate, Sem.run_bind, run_underlying hu, Result.andThen_ok, run_getObj_map w _ _ _ m1, hck, findA_run (hT _ _ hki) m2 hf, Option.map_some, hold, hst]
            simp only [setObj, Sem.run, m1]
          · rw [Array.toList_modify]
            exact m2.modify (f := fun e => { e with key := γ ρ k, val := γ ρ v }) (g := fun e => (k, v, e.2.2)) (fun m e he => ⟨rfl, rfl, he.2.2⟩) n
          · intro e he
            rcases modify_mem he with he | ⟨y, hy, rfl⟩
            · exact hes e he
            · exact ⟨hks, hvs⟩
        · rename_i hf
          cases hl
          refine ⟨_, ?_, h.setMap (clock' := clock + 1) hb (mes' := mes.push { key := γ ρ k, val := γ ρ v, born := clock }) ?_ ?_, rfl⟩
          · simp only [γ, Instr.mapUpdate, Sem.run_bind, run_underlying hu, Result.andThen_ok, run_getObj_map w _ _ _ m1, hck, findA_run (hT _ _ hki) m2 hf, Option.map_none]
            simp only [setObj, Sem.run, m1]
          · rw [Array.toList_push]
            exact m2.snoc ⟨rfl, rfl, rfl⟩
          · intro e he
            simp only [List.mem_append, List.mem_singleton] at he
            rcases he with he | rfl
            · exact hes e he
            · exact ⟨hks, hvs⟩
        · cases hl
      · cases hl
    · cases hl
  · cases hl
theorem zero_run {i : TyI} {t : TypeId} (hti : TyOk P t i) {z : AVal} (hz : zeroA i = some z) : (zeroValue t).run P w = .ok (γ ρ z) w ∧ sc 0 z = true := by
  have h1 := hti.run_zero ρ w
  have h2 := hti.zsc
  unfold zeroA at hz
  split at hz
  · rename_i ha
    cases hz
    rw [h1, if_pos ha]
    exact ⟨by simp [γ], by simpa [sc] using h2⟩
  · rename_i ha
    rw [h1, if_neg ha]
    cases hl : i.zero with
    | nil => rw [hl] at hz; cases hz
    | cons a l =>
      rw [hl] at hz h2
      cases hz
      simp only [scC, Bool.and_eq_true] at h2
      exact ⟨rfl, h2.1.2⟩
theorem mapEntry_run (h : Rel w0 ρ σ w) (hT : TabOk P T) {t : TypeId} {x k v : AVal} {σ' : Mem}
    (hl : mapEntryA T σ t x k = some (v, σ')) : ∃ w', (Instr.mapEntry t (γ ρ x) (γ ρ k)).run P w = .ok (γ ρ v) w' ∧ Rel w0 ρ σ' w' ∧ σ'.next = σ.next ∧ sc σ.next v = true := by
  unfold mapEntryA at hl
  split at hl
  rotate_left
  · cases hl
  rename_i kt et b hTt
  have hu := (hT _ _ hTt).k
  simp only [KOk] at hu
  split at hl
  rotate_left
  · cases hl
  rename_i ki ei es clock hki hei hb
  split at hl
  rotate_left
  · cases hl
  rename_i hkk
  obtain ⟨hkk, hks⟩ := hkk
  obtain ⟨mes, m1, m2⟩ := entriesA_run h hb
  have hck := fun b => checkKey_run (ρ := ρ) (w := w) (hT _ _ hki) hkk b
  have hes := h.entry_sc0 hb
  split at hl
  · rename_i n u hf
    split at hl
    rotate_left
    · cases hl
    rename_i e he
    cases hl
    obtain ⟨y, c, y1, _, y3, y4⟩ := findA_mem hf
    simp only [Nat.sub_zero] at y3
    rw [he] at y3
    cases y3
    obtain ⟨m, q1, q2⟩ := m2.get he
    have hold : (((mes[n]?).map (·.key)).getD (γ ρ k)) = γ ρ y := by
      rw [← Array.getElem?_toList, q1]; simp [q2.1]
    have hborn : (((mes[n]?).map (fun x => (x.born : Int))).getD 0) = (c : Int) := by
      rw [← Array.getElem?_toList, q1]; simp [q2.2.2]
    have hst : (Instr.keyThatStays (γ ρ y) (γ ρ k)).run P w = .ok (γ ρ k) w := by
      have e := keyEq_same y4
      have hb2 : Instr.sameBits 10000 (γ ρ y) (γ ρ k) = true := by
        have := keyEq_bits (ρ := ρ) y4 9999
        rwa [e] at this ⊢
      simp only [Instr.keyThatStays, hb2, if_true, Sem.run_pure]
    refine ⟨_, ?_, h.setMap (clock' := clock) hb (mes' := mes.modify n fun e => { e with key := γ ρ k }) ?_ ?_, rfl, ?_⟩
    · simp only [γ, γL, Instr.mapEntry, Sem.run_bind, run_underlying hu, Result.andThen_ok, run_getObj_map w _ _ _ m1, hck, findA_run (hT _ _ hki) m2 hf, Option.map_some, hold, hst]
      simp only [setObj, Sem.run, m1]
      simp [Sem.run_pure, hborn, goInt, Result.andThen]
    · rw [Array.toList_modify]
      exact m2.modify (f := fun e => { e with key := γ ρ k }) (g := fun e => (k, e.2.1, e.2.2)) (fun m e he => ⟨rfl, he.2.1, he.2.2⟩) n
    · intro e he
      rcases modify_mem he with he | ⟨y, hy, rfl⟩
      · exact hes e he
      · exact ⟨hks, (hes y hy).2⟩
    · have := (hes _ y1).2
      simp only [sc, scL, Bool.and_true, Bool.and_eq_true]
      exact sc_mono (Nat.zero_le _) _ this
  · rename_i hf
    split at hl
    rotate_left
    · cases hl
    rename_i z hz
    cases hl
    obtain ⟨z1, z2⟩ := zero_run (P := P) (ρ := ρ) (w := w) (hT _ _ hei) hz
    refine ⟨_, ?_, h.setMap (clock' := clock + 1) hb (mes' := mes.push { key := γ ρ k, val := γ ρ z, born := clock }) ?_ ?_, rfl, ?_⟩
    · simp only [γ, γL, Instr.mapEntry, Sem.run_bind, run_underlying hu, Result.andThen_ok, run_getObj_map w _ _ _ m1, hck, findA_run (hT _ _ hki) m2 hf, Option.map_none, z1]
      simp only [setObj, Sem.run, m1]
      simp [Sem.run_pure, goInt, Result.andThen]
    · rw [Array.toList_push]
      exact m2.snoc ⟨rfl, rfl, rfl⟩
    · intro e he
      simp only [List.mem_append, List.mem_singleton] at he
      rcases he with he | rfl
      · exact hes e he
      · exact ⟨hks, z2⟩
    · simp only [sc, scL, Bool.and_true, Bool.and_eq_true]
      exact sc_mono (Nat.zero_le _) _ z2
  · cases hl
theorem Ents.findBorn {ms : List MapEntry} {es : List (AVal × AVal × Nat)} (h : Ents ρ ms es) (n : Int) : ms.findIdx? (fun e => (e.born : Int) == n) = es.findIdx? fun e => decide ((e.2.2 : Int) = n) := by
  induction h with
  | nil => rfl
  | cons h1 _ ih =>
    simp only [List.findIdx?_cons, ih, h1.2.2]
    rfl
theorem entryStore_run (t : TypeId) (h : Rel w0 ρ σ w) {x n v : AVal} {σ' : Mem} (hl : entryStoreA σ x n v = some σ') :
    ∃ w', (Instr.entryStore t (γ ρ x) (γ ρ n) (γ ρ v)).run P w = .ok () w' ∧ Rel w0 ρ σ' w' ∧ σ'.next = σ.next := by
  unfold entryStoreA at hl
  split at hl
  rotate_left
  · cases hl
  rename_i b κ n
  split at hl
  rotate_left
  · cases hl
  rename_i es clock hb
  split at hl
  rotate_left
  · cases hl
  rename_i hvs
  obtain ⟨i, hi, rfl⟩ := Option.map_eq_some_iff.1 hl
  obtain ⟨mes, m1, m2⟩ := entriesA_run h hb
  have hes := h.entry_sc0 hb
  have hf := m2.findBorn n
  rw [hi] at hf
  have hf' : mes.findIdx? (fun e => (e.born : Int) == n) = some i := by rw [← hf]; obtain ⟨l⟩ := mes; simp
  refine ⟨_, ?_, h.setMap (clock' := clock) hb (mes' := mes.modify i fun e => { e with val := γ ρ v }) ?_ ?_, rfl⟩
  · simp only [γ, Instr.entryStore, Sem.run_bind, Result.andThen_ok, run_getObj_map w _ _ _ m1, asInt, asIntOf, Sem.run_pure, hf']
    simp only [setObj, Sem.run, m1]
  · rw [Array.toList_modify]
    exact m2.modify (f := fun e => { e with val := γ ρ v }) (g := fun e => (e.1, v, e.2.2)) (fun m e he => ⟨he.1, rfl, he.2.2⟩) i
  · intro e he
    rcases modify_mem he with he | ⟨y, hy, rfl⟩
    · exact hes e he
    · exact ⟨(hes y hy).1, hvs⟩
theorem Ents.length {ms : List MapEntry} {es : List (AVal × AVal × Nat)} (h : Ents ρ ms es) : ms.length = es.length := by
  induction h with
  | nil => rfl
  | cons _ _ ih => simp [ih]
theorem len_run (h : Rel w0 ρ σ w) (hT : TabOk P T) {t : TypeId} {x v : AVal} (hl : lenA T σ t x = some v) (ts : Array TypeId) (xs : Array Value) (ht : ts[0]? = some t) (hx : xs[0]? = some (γ ρ x)) (ty : TypeId) :
    (Builtin.len_ ts ty xs).run P w = .ok (γ ρ v) w ∧ sc σ.next v = true := by
  unfold lenA at hl
  split at hl
  · cases hl
  · rename_i i hTt
    have hu := (hT _ _ hTt).k
    split at hl
    · rename_i hik; rw [hik] at hu; simp only [KOk] at hu; cases hl
      exact ⟨by simp only [Builtin.len_, ht, hx, Sem.run_bind, run_underlying hu, Result.andThen_ok, γ, Sem.run_pure, goInt], by simp [sc]⟩
    · rename_i hik; rw [hik] at hu; simp only [KOk] at hu; cases hl
      exact ⟨by simp only [Builtin.len_, ht, hx, Sem.run_bind, run_underlying hu, Result.andThen_ok, γ, Sem.run_pure, goInt], by simp [sc]⟩
    · rename_i hik; rw [hik] at hu; simp only [KOk] at hu; cases hl
      exact ⟨by simp only [Builtin.len_, ht, hx, Sem.run_bind, run_underlying hu, Result.andThen_ok, γ, Sem.run_pure, goInt], by simp [sc]⟩
    · rename_i hik; rw [hik] at hu; simp only [KOk] at hu; cases hl
      exact ⟨by simp only [Builtin.len_, ht, hx, Sem.run_bind, run_underlying hu, Result.andThen_ok, γ, Sem.run_pure, goInt]; rfl, by simp [sc]⟩
    · rename_i hik; rw [hik] at hu; simp only [KOk] at hu; cases hl
      exact ⟨by simp only [Builtin.len_, ht, hx, Sem.run_bind, run_underlying hu, Result.andThen_ok, γ, Sem.run_pure, goInt]; rfl, by simp [sc]⟩
    · rename_i b hik; rw [hik] at hu; simp only [KOk] at hu
      split at hl
      · rename_i cs n sz own hg
        cases hl
        obtain ⟨g0, _⟩ := h.ok _ _ hg
        exact ⟨by simp only [Builtin.len_, ht, hx, Sem.run_bind, run_underlying hu, Result.andThen_ok, γ, Sem.run_pure, goInt, g0], by simp [sc]⟩
      · cases hl
    · rename_i hik; rw [hik] at hu; simp only [KOk] at hu; cases hl
      exact ⟨by simp only [Builtin.len_, ht, hx, Sem.run_bind, run_underlying hu, Result.andThen_ok, γ, Sem.run_pure, goInt], by simp [sc]⟩
    · rename_i b hik; rw [hik] at hu; simp only [KOk] at hu
      split at hl
      · rename_i es clock hb
        cases hl
        obtain ⟨mes, m1, m2⟩ := entriesA_run h hb
        exact ⟨by simp only [Builtin.len_, ht, hx, Sem.run_bind, run_underlying hu, Result.andThen_ok, γ, Sem.run_pure, goInt, run_getObj_map w _ _ _ m1, ← m2.length, Array.length_toList], by simp [sc]⟩
      · cases hl
    · cases hl
theorem mm_run (mx : Bool) : ∀ {r : List AVal} {x v : AVal}, mmA mx x r = some v → sc σ.next x = true →
    ((γL ρ r).foldlM (if mx then Builtin.max2 else Builtin.min2) (γ ρ x)).run P w = .ok (γ ρ v) w ∧ sc σ.next v = true
  | [], x, v, h, hs => by simp only [mmA, Option.some.injEq] at h; subst h; exact ⟨rfl, hs⟩
  | y :: r, x, v, h, hs => by
    cases x <;> cases y <;> simp only [mmA] at h <;> first
      | cases h
      | (have ih := mm_run mx h (by simp [sc])
         refine ⟨?_, ih.2⟩
         rw [← ih.1]
         cases mx <;> simp [γL, γ, Builtin.max2, Builtin.min2])
theorem range_run (h : Rel w0 ρ σ w) (hT : TabOk P T) {t : TypeId} {x v : AVal} {σ' : Mem} (hl : rangeA T σ t x = some (v, σ')) :
    ∃ w' ρ', (Instr.range t (γ ρ x)).run P w = .ok (γ ρ' v) w' ∧ Post w0 ρ σ.next ρ' σ' w' ∧ sc σ'.next v = true := by
  unfold rangeA at hl
  split at hl
  · rename_i b hTt
    split at hl
    · rename_i es clock hb
      cases hl
      have hu := (hT _ _ hTt).k
      simp only [KOk] at hu
      obtain ⟨mes, m1, m2⟩ := entriesA_run h hb
      have hbl := h.lt b _ hb
      refine ⟨{ w with heap := w.heap.push (.mapIter (some (ρ b).blk) clock #[] clock) }, upd ρ σ.next (Loc.mk3 w.heap.size 0 0), ?_, ⟨?_, fun i hi => upd_lt hi, by simp⟩, by simp [sc]⟩
      · simp only [γ, Instr.range, Sem.run_bind, run_underlying hu, Result.andThen_ok, run_getObj_map w _ _ _ m1, Sem.run_pure, run_newObj, upd_self]
      · refine h.push rfl (by simp only [scB, decide_eq_true_eq]; exact hbl) fun ρ' hρ => ⟨rfl, ?_⟩
        rw [hρ b hbl]
        simp
    · cases hl
  · cases hl
theorem choose_map (n : Nat) (w : World) (hn : 0 < n) : ∃ (j : Nat) (w1 : World), j < n ∧ (∃ d, w1 = { w with drawn := d }) ∧ (choose (Question.mapNext n)).run P w = .ok j w1 := by
  by_cases hf : n ≤ 1
  · exact ⟨0, w, by omega, ⟨w.drawn, rfl⟩, by simp [choose, Sem.run, Question.forced, hf]⟩
  · exact ⟨_, w.drew, Nat.mod_lt _ (by omega), ⟨_, rfl⟩, by
      simp only [choose, Sem.run, Question.forced, decide_eq_true_eq, hf, if_false, Question.cut]
      rfl⟩
theorem ents_left {ρ : Nat → Loc} {seen : List Nat} : ∀ {ms : List MapEntry} {es : List (AVal × AVal × Nat)}, ms.map (fun e => (e.key, e.val, e.born)) = (es.map fun e => (γ ρ e.1, γ ρ e.2.1, e.2.2)) →
    (ms.filter fun e => !seen.contains e.born).map (fun e => (e.key, e.val, e.born)) = (leftA es seen).map fun e => (γ ρ e.1, γ ρ e.2.1, e.2.2)
  | [], [], _ => rfl
  | [], _ :: _, h => by simp at h
  | _ :: _, [], h => by simp at h
  | m :: ms, e :: es, h => by
    simp only [List.map_cons, List.cons.injEq, Prod.mk.injEq] at h
    have ih := ents_left (seen := seen) h.2
    simp only [leftA] at ih ⊢
    have hb : m.born = e.2.2 := h.1.2.2
    by_cases hc : seen.contains e.2.2 = true
    · rw [List.filter_cons_of_neg (by rw [hb, hc]; simp), List.filter_cons_of_neg (by rw [hc]; simp)]; exact ih
    · rw [List.filter_cons_of_pos (by rw [hb]; simpa using hc), List.filter_cons_of_pos (by simpa using hc)]
      simp only [List.map_cons, ih, h.1.1, h.1.2.1, hb]
theorem next_run (h : Rel w0 ρ σ w) {x : AVal} {i m since clock : Nat} {seen : List Nat} {es : List (AVal × AVal × Nat)} (hx : iterA σ x = some (i, m, since, seen, es, clock)) (ty : TypeId) :
    (leftA es seen = [] ∧ (Instr.next (γ ρ x) false ty).run P w = .ok (γ ρ (.tup [.bool false])) w) ∨
    ∃ e ∈ leftA es seen, ∃ w', (Instr.next (γ ρ x) false ty).run P w = .ok (γ ρ (.tup [.bool true, e.1, e.2.1])) w' ∧ Rel w0 ρ (σ.set i (.iter m since (seen ++ [e.2.2]) clock)) w' ∧ sc σ.next (.tup [.bool true, e.1, e.2.1]) = true := by
  unfold iterA at hx
  split at hx
  rotate_left
  · cases hx
  rename_i i'
  split at hx
  rotate_left
  · cases hx
  rename_i m' since' seen' last hi
  split at hx
  rotate_left
  · cases hx
  rename_i es' clock' hm
  split at hx
  rotate_left
  · cases hx
  rename_i hcond
  simp only [Option.some.injEq, Prod.mk.injEq] at hx
  obtain ⟨rfl, rfl, rfl, rfl, rfl, rfl⟩ := hx
  obtain ⟨hsl, _, hall⟩ := hcond
  obtain ⟨hb0, hit⟩ := h.ok _ _ hi
  obtain ⟨mes, m1, m2⟩ := h.ok _ _ hm
  have hes := h.entry_sc0 hm
  have hold : ∀ e ∈ mes.toList, e.born < since' := by
    intro e he
    have : (e.key, e.val, e.born) ∈ mes.toList.map fun e => (e.key, e.val, e.born) := List.mem_map.2 ⟨e, he, rfl⟩
    rw [m2] at this
    obtain ⟨q, q1, q2⟩ := List.mem_map.1 this
    have := (List.all_eq_true.1 hall) q q1
    simp only [decide_eq_true_eq] at this
    simp only [Prod.mk.injEq] at q2
    omega
  have htest : (!seen'.toArray.isEmpty && !mes.isEmpty && mes.all (fun x => decide (x.born ≥ last))) = false := by
    cases hme : mes.isEmpty with
    | true => simp
    | false =>
      have : mes.all (fun x => decide (x.born ≥ last)) = false := by
        rw [Bool.eq_false_iff]
        intro hx
        rw [Array.all_eq_true_iff_forall_mem] at hx
        have h0 : 0 < mes.size := by
          rcases Nat.eq_zero_or_pos mes.size with h0 | h0
          · simp [Array.isEmpty, h0] at hme
          · exact h0
        have h1 := hx _ (Array.getElem_mem h0)
        have h2 := hold mes[0] (by simp)
        simp at h1
        omega
      rw [this]; simp
  have hleft := ents_left (ρ := ρ) (seen := seen') m2
  have hγ : γ ρ (.ptr i' 0) = .pointer (some ⟨(ρ i').blk, 0, none⟩) := by simp [γ, hb0]
  rw [hγ]
  have e1 : (mes.filter fun e => !seen'.toArray.contains e.born).toList = mes.toList.filter fun e => !seen'.contains e.born := by simp
  generalize hL : (mes.filter fun e => !seen'.toArray.contains e.born) = L at e1
  have hLold : ∀ x ∈ L, x.born < since' := by
    intro x hx
    have : x ∈ L.toList := by simpa using hx
    rw [e1] at this
    exact hold x ((List.mem_filter.1 this).1)
  have f1 : L.filter (fun x => decide (x.born < since')) = L := Array.filter_eq_self.2 (fun x hx => by simpa using hLold x hx)
  have f2 : L.filter (fun x => decide (x.born ≥ since')) = #[] := by
    rw [Array.filter_eq_empty_iff]
    intro x hx
    have := hLold x hx
    simp; omega
  have hLlen : L.toList.map (fun e => (e.key, e.val, e.born)) = (leftA es' seen').map fun e => (γ ρ e.1, γ ρ e.2.1, e.2.2) := by rw [e1]; exact hleft
  by_cases h0 : L.size = 0
  · left
    have hLe : L = #[] := Array.eq_empty_of_size_eq_zero h0
    subst hLe
    refine ⟨by simpa using hLlen.symm, ?_⟩
    simp only [Instr.next, getObj, Sem.run_bind, Sem.run, hit, m1, Result.andThen, htest, Bool.false_eq_true, if_false, hL]
    simp [choose, Sem.run, Question.forced, γ, γL]
  · right
    obtain ⟨j, w1, hj, ⟨d, rfl⟩, hrun⟩ := choose_map (P := P) L.size w (by omega)
    have hjl : j < L.toList.length := by simpa using hj
    have hje : ∃ e, (leftA es' seen')[j]? = some e ∧ (L[j].key, L[j].val, L[j].born) = (γ ρ e.1, γ ρ e.2.1, e.2.2) := by
      have hh := congrArg (·[j]?) hLlen
      simp only [List.getElem?_map] at hh
      rw [List.getElem?_eq_getElem hjl] at hh
      cases hq : (leftA es' seen')[j]? with
      | none => rw [hq] at hh; simp at hh
      | some e => rw [hq] at hh; simp only [Option.map_some, Option.some.injEq] at hh; exact ⟨e, rfl, by simpa using hh⟩
    obtain ⟨e, hje, hkv⟩ := hje
    have hmem := List.mem_of_getElem? hje
    simp only [Prod.mk.injEq] at hkv
    refine ⟨e, hmem, { w with drawn := d, heap := w.heap.setIfInBounds (ρ i').blk (.mapIter (some (ρ m').blk) since' (seen'.toArray.push L[j].born) clock') }, ?_, ?_, ?_⟩
    · have hne : L.isEmpty = false := by simp [Array.isEmpty, h0]
      simp only [Instr.next, getObj, Sem.run_bind, Sem.run, hit, m1, Result.andThen, htest, Bool.false_eq_true, if_false, hL, f1, f2, hne, Array.append_empty, Array.empty_append, Array.size_map, hrun, Array.getElem?_map, Array.getElem?_eq_getElem hj, Option.map_some, setObj]
      simp [γ, γL, hkv.1, hkv.2.1]
    · have hin := h.inb _ _ hi rfl
      refine (h.drew d).set hi rfl (by simp only [scB, decide_eq_true_eq]; exact h.lt m' _ hm) ⟨hb0, ?_⟩ (by simp) ?_ rfl rfl rfl
      · simp only [Array.getElem?_setIfInBounds_self_of_lt hin, Option.some.injEq, Obj.mapIter.injEq, true_and, and_true, hkv.2.2]
        simp
      · intro k hk
        simp [Ne.symm hk]
    · have := hes e ((List.mem_filter.1 hmem).1)
      simp only [sc, scL, Bool.and_true, Bool.true_and, Bool.and_eq_true]
      exact ⟨sc_mono (Nat.zero_le _) _ this.1, sc_mono (Nat.zero_le _) _ this.2⟩
theorem entry_run (h : Rel w0 ρ σ w) {x v : AVal} (hl : entryA σ x = some v) : (Instr.entry (γ ρ x)).run P w = .ok (γ ρ v) w ∧ sc σ.next v = true := by
  unfold entryA at hl
  split at hl
  rotate_left
  · cases hl
  rename_i i
  split at hl
  rotate_left
  · cases hl
  rename_i m since seen last hi
  split at hl
  rotate_left
  · cases hl
  rename_i es clock st hm hst
  split at hl
  rotate_left
  · cases hl
  rename_i hcl
  subst hcl
  obtain ⟨e, he, rfl⟩ := Option.map_eq_some_iff.1 hl
  obtain ⟨hb0, hit⟩ := h.ok _ _ hi
  obtain ⟨mes, m1, m2⟩ := h.ok _ _ hm
  have hes := h.entry_sc0 hm e (List.mem_of_find?_eq_some he)
  have hfind : ∀ {ms : List MapEntry} {es : List (AVal × AVal × Nat)}, ms.map (fun e => (e.key, e.val, e.born)) = (es.map fun e => (γ ρ e.1, γ ρ e.2.1, e.2.2)) → es.find? (fun e => e.2.2 == st) = some e →
      ∃ q, ms.find? (fun q => q.born == st) = some q ∧ q.key = γ ρ e.1 ∧ q.val = γ ρ e.2.1 := by
    intro ms
    induction ms with
    | nil =>
      intro es h1 h2
      cases es with
      | nil => simp at h2
      | cons a b => simp at h1
    | cons q ms ih =>
      intro es h1 h2
      cases es with
      | nil => simp at h1
      | cons a b =>
        simp only [List.map_cons, List.cons.injEq, Prod.mk.injEq] at h1
        rw [List.find?_cons] at h2
        have hb : q.born = a.2.2 := h1.1.2.2
        by_cases hc : (a.2.2 == st) = true
        · rw [hc] at h2
          simp only [Option.some.injEq] at h2
          subst h2
          exact ⟨q, by rw [List.find?_cons, hb, hc], h1.1.1, h1.1.2.1⟩
        · have hc' : (a.2.2 == st) = false := by simpa using hc
          rw [hc'] at h2
          obtain ⟨q', r1, r2⟩ := ih h1.2 h2
          exact ⟨q', by rw [List.find?_cons, hb, hc']; exact r1, r2⟩
  obtain ⟨q, q1, q2, q3⟩ := hfind m2 he
  have hγ : γ ρ (.ptr i 0) = .pointer (some ⟨(ρ i).blk, 0, none⟩) := by simp [γ, hb0]
  refine ⟨?_, ?_⟩
  · rw [hγ]
    have hback : seen.toArray.back? = some st := by simpa using hst
    have q1' : mes.find? (fun q => q.born == st) = some q := by rw [← Array.find?_toList]; exact q1
    simp only [Instr.entry, getObj, Sem.run_bind, Sem.run, hit, m1, Result.andThen, hback, bne_self_eq_false, Bool.false_eq_true, if_false, q1']
    simp [γ, γL, q2, q3]
  · simp only [sc, scL, Bool.and_true, Bool.and_eq_true]
    exact ⟨sc_mono (Nat.zero_le _) _ hes.1, sc_mono (Nat.zero_le _) _ hes.2⟩
theorem bound_run {x : Option AVal} {d y n : Nat} {code : BoundsCode} (h : boundA x d = some n) (hy : n ≤ y) : ∀ v, x = some v → (Instr.sliceBound (γ ρ v) y code).run P w = .ok n w := by
  intro v hv
  subst hv
  unfold boundA at h
  split at h
  · rename_i e; cases e
  · rename_i k i e
    cases e
    split at h
    · rename_i hi
      cases h
      simp only [γ, Instr.sliceBound, asIntOf, Sem.run_bind, Sem.run_pure, Result.andThen_ok]
      rw [if_pos ⟨hi, by omega⟩]
      rfl
    · cases h
  · cases h
theorem Rel.renew (h : Rel w0 ρ σ w) {b : Nat} {B0 B : ABlk} {L : Loc} (hb : σ.get b = some B0) (ho : B0.owned = true) (hs : scB σ.next B = true) (hB : BOk ρ L w B) (hL : L.blk = (ρ b).blk) :
    Rel w0 (upd ρ σ.next L) ((σ.set b .dead).push B) w := by
  have ha := ABlk.owned_alive ho
  have hown := h.own b _ hb ho
  exact (h.kill hb).name (B := B) (L := L) hs hB (fun _ => by rw [hL]; exact h.inb b _ hb ha)
    (fun _ => ⟨by rw [hL]; exact hown, fun j bj hj haj => by
      rw [get_set] at hj
      split at hj
      · cases hj; cases haj
      · rename_i hne'
        rw [hL]
        exact fun e => h.ap b j _ bj hb hj hne' ho haj e.symm⟩)
    (fun _ j bj hj hoj => by
      rw [get_set] at hj
      split at hj
      · cases hj; cases hoj
      · rename_i hne'
        rw [hL]
        exact h.ap j b bj _ hj hb (Ne.symm hne') hoj ha)
theorem strCut_eq (s : ByteArray) (lo hi : Nat) : strCut s lo hi = s.extract lo hi := by
  apply ByteArray.ext
  rw [ByteArray.data_extract]
  apply Array.ext'
  simp [strCut, Array.toList_extract, List.extract]
theorem slice_str {t : TypeId} (ht : P.underlying t = some .string) {s : ByteArray} {low high : Option AVal} {lo hi : Nat} (h1 : boundA low 0 = some lo) (h2 : boundA high s.size = some hi) (h3 : lo ≤ hi) (h4 : hi ≤ s.size) :
    (Instr.sliceAt t (.string s) (low.map (γ ρ)) (high.map (γ ρ)) none).run P w = .ok (.string (s.extract lo hi)) w := by
  have b2 : (Instr.sliceBounds false s.size s.size (low.map (γ ρ)) (high.map (γ ρ)) none).run P w = .ok (lo, hi, s.size) w := by
    unfold Instr.sliceBounds
    cases hh : high with
    | none =>
      rw [hh] at h2
      simp only [boundA, Option.some.injEq] at h2
      subst h2
      cases hlw : low with
      | none =>
        rw [hlw] at h1
        simp only [boundA, Option.some.injEq] at h1
        subst h1
        simp [Sem.run_bind, Sem.run_pure]
      | some lv =>
        have := bound_run (P := P) (w := w) (ρ := ρ) (y := s.size) (code := .sliceB) h1 (by omega) lv hlw
        simp [Sem.run_bind, Sem.run_pure, this]
    | some hv =>
      have q2 := bound_run (P := P) (w := w) (ρ := ρ) (y := s.size) (code := .sliceAlen) h2 (by omega) hv hh
      cases hlw : low with
      | none =>
        rw [hlw] at h1
        simp only [boundA, Option.some.injEq] at h1
        subst h1
        simp [Sem.run_bind, Sem.run_pure, q2]
      | some lv =>
        have := bound_run (P := P) (w := w) (ρ := ρ) (y := hi) (code := .sliceB) h1 h3 lv hlw
        simp [Sem.run_bind, Sem.run_pure, q2, this]
  simp only [Instr.sliceAt, Instr.slice, Sem.run_bind, run_underlying ht, Result.andThen_ok, b2, Sem.run_pure]
  simp [Sem.run_pure]
  rw [b2]
  rfl
theorem slice_run (h : Rel w0 ρ σ w) (hT : TabOk P T) {t : TypeId} {x v : AVal} {low high : Option AVal} {σ' : Mem} (hs : sc σ.next x = true) (hl : sliceA T σ t x low high = some (v, σ')) :
    ∃ ρ', (Instr.sliceAt t (γ ρ x) (low.map (γ ρ)) (high.map (γ ρ)) none).run P w = .ok (γ ρ' v) w ∧ Post w0 ρ σ.next ρ' σ' w ∧ sc σ'.next v = true := by
  unfold sliceA at hl
  split at hl
  rotate_left
  · rename_i n e hTt
    have hu := (hT _ _ hTt).k
    simp only [KOk] at hu
    split at hl
    · rename_i j b o hTe
      simp only [Option.some.injEq, Prod.mk.injEq] at hl
      obtain ⟨rfl, rfl⟩ := hl
      have hsz := (hT _ _ hTe).run_size w
      refine ⟨ρ, ?_, .refl h, by simpa only [sc] using hs⟩
      simp [Instr.sliceAt, Instr.sliceBounds, Sem.run_bind, Sem.run_pure, run_underlying hu, Result.andThen_ok, γ, Instr.sureAddr, asAddr, hsz, Addr.add]
    · cases hl
  · rename_i hTt
    have hu := (hT _ _ hTt).k
    simp only [KOk] at hu
    split at hl
    rotate_left
    · cases hl
    rename_i s
    split at hl
    rotate_left
    · cases hl
    rename_i lo hi h1 h2
    split at hl
    rotate_left
    · cases hl
    rename_i hle
    simp only [Option.some.injEq, Prod.mk.injEq] at hl
    obtain ⟨rfl, rfl⟩ := hl
    exact ⟨ρ, by rw [strCut_eq]; exact slice_str hu h1 h2 hle.1 hle.2, .refl h, rfl⟩
  · cases hl
  rename_i e hTt
  have hu := (hT _ _ hTt).k
  simp only [KOk] at hu
  split at hl
  · cases hl
  rename_i j hTe
  have hsz := (hT e j hTe).run_size w
  have go : ∀ {a : Option Addr} {l cap lo hi : Nat}, boundA low 0 = some lo → boundA high l = some hi → lo ≤ hi → hi ≤ cap →
      (Instr.sliceAt t (.slice a l cap) (low.map (γ ρ)) (high.map (γ ρ)) none).run P w = .ok (.slice (if cap = lo then a else a.map (·.add (lo * j.size))) (hi - lo) (cap - lo)) w := by
    intro a l cap lo hi h1 h2 h3 h4
    have b2 : (Instr.sliceBounds true l cap (low.map (γ ρ)) (high.map (γ ρ)) none).run P w = .ok (lo, hi, cap) w := by
      unfold Instr.sliceBounds
      cases hh : high with
      | none =>
        rw [hh] at h2
        simp only [boundA, Option.some.injEq] at h2
        subst h2
        cases hlw : low with
        | none =>
          rw [hlw] at h1
          simp only [boundA, Option.some.injEq] at h1
          subst h1
          simp [Sem.run_bind, Sem.run_pure]
        | some lv =>
          have := bound_run (P := P) (w := w) (ρ := ρ) (y := l) (code := .sliceB) h1 (by omega) lv hlw
          simp [Sem.run_bind, Sem.run_pure, this]
      | some hv =>
        have q2 := bound_run (P := P) (w := w) (ρ := ρ) (y := cap) (code := .sliceAcap) h2 (by omega) hv hh
        cases hlw : low with
        | none =>
          rw [hlw] at h1
          simp only [boundA, Option.some.injEq] at h1
          subst h1
          simp [Sem.run_bind, Sem.run_pure, q2]
        | some lv =>
          have := bound_run (P := P) (w := w) (ρ := ρ) (y := hi) (code := .sliceB) h1 (by omega) lv hlw
          simp [Sem.run_bind, Sem.run_pure, q2, this]
    simp only [Instr.sliceAt, Instr.slice, Sem.run_bind, run_underlying hu, Result.andThen_ok, b2, hsz, Sem.run_pure]
  split at hl
  · rename_i b o l ex c
    split at hl
    rotate_left
    · cases hl
    rename_i lo hi h1 h2
    split at hl
    rotate_left
    · split at hl
      rotate_left
      · cases hl
      rename_i hc
      obtain ⟨rfl, rfl, rfl, rfl, hll⟩ := hc
      split at hl
      rotate_left
      · cases hl
      rename_i bs g hb
      split at hl
      rotate_left
      · cases hl
      rename_i hg
      obtain ⟨hg1, hg2, hg3⟩ := hg
      cases hl
      obtain ⟨cc, ee, fz, q1, ⟨pre, post, q2, q3⟩, q4, q5⟩ := h.ok b _ hb
      obtain ⟨_, q6, q7⟩ := q5 g rfl
      have hsc : scC σ.next bs = true := h.sco b _ hb
      have hR := h.renew (B := .cells (bs.take (hi * g)) true (some g)) (L := ρ b) hb rfl (by
          show scC σ.next (bs.take (hi * g)) = true
          rw [scC_iff] at hsc ⊢
          exact fun v hv => hsc v (List.mem_of_mem_take hv))
        ⟨cc, ee, fz, q1, ⟨pre, γL ρ (bs.drop (hi * g)) ++ post, by
          rw [q2]
          conv => lhs; rw [← List.take_append_drop (hi * g) bs]
          simp only [γL_append, List.append_assoc], q3⟩, q4, fun g' hg' => by
            cases hg'
            exact ⟨rfl, q6, by rw [List.length_take]; omega⟩⟩ rfl
      refine ⟨_, ?_, ⟨hR, fun i hi => upd_lt hi, by simp⟩, by simp [sc]⟩
      have hcap : hi ≤ (ρ b).capE := Nat.le_trans hll (Nat.le_of_mul_le_mul_right (Nat.le_trans hg3 q7) hg2)
      have := go (a := some ⟨(ρ b).blk, (ρ b).base + 0, none⟩) (l := l) (cap := (ρ b).capE) h1 h2 (by omega) hcap
      simp only [γ, Bool.false_eq_true, if_false, Nat.sub_zero]
      rw [this, upd_self]
      simp only [Nat.zero_mul, Nat.sub_zero, Option.map_some, Addr.add, if_true, ite_self]
    rename_i hle
    obtain ⟨hle1, hle2, hex, hlc⟩ := hle
    subst hex
    split at hl
    · rename_i hlo
      subst hlo
      cases hl
      refine ⟨ρ, ?_, Post.refl h, hs⟩
      have := go (a := some ⟨(ρ b).blk, (ρ b).base + o, none⟩) (l := l) (cap := c) h1 h2 (by omega) (by omega)
      simp only [γ, if_true]
      rw [this]
      congr 2
      simp only [Nat.zero_mul, Option.map_some, Addr.add, if_true, ite_self]
    · rename_i hlo
      split at hl
      · rename_i hcc
        cases hl
        refine ⟨ρ, ?_, Post.refl h, hs⟩
        have := go (a := some ⟨(ρ b).blk, (ρ b).base + o, none⟩) (l := l) (cap := c) h1 h2 hle1 (by omega)
        simp only [γ, if_true]
        rw [this, if_neg (by omega)]
        simp only [Option.map_some, Addr.add]
        split
        · rename_i hz
          rw [hz, Nat.add_zero]
        · simp only [Nat.add_assoc]
      · cases hl
  · rename_i b
    split at hl
    rotate_left
    · cases hl
    rename_i cs n sz hb h1
    split at hl
    rotate_left
    · cases hl
    rename_i hi h2
    split at hl
    rotate_left
    · split at hl
      rotate_left
      · cases hl
      rename_i hc
      obtain ⟨rfl, hem, hz⟩ := hc
      cases hl
      have hcs : cs ≠ [] := by rintro rfl; cases hem
      obtain ⟨q0, q1⟩ := h.ok b _ hb
      rcases q1 with ⟨_, q, _⟩ | ⟨_, q2, q3, cc, ee, fz, q4, ⟨pre, post, q5, q6⟩, q7⟩
      · exact absurd q hcs
      obtain ⟨g1, g2, g3⟩ := q7 rfl
      have hR := h.renew (B := .cells [] true (some sz)) (L := { ρ b with capE := (ρ b).sk }) hb (by simp [ABlk.owned, hcs]) rfl
        ⟨cc, ee, fz, q4, ⟨pre, γL ρ cs ++ post, by rw [q5]; simp [γL], q6⟩, fun _ => g1, fun g' hg' => by
            cases hg'
            exact ⟨rfl, g3, by simp⟩⟩ rfl
      refine ⟨_, ?_, ⟨hR, fun i hi => upd_lt hi, by simp⟩, by simp [sc]⟩
      have := go (a := (ρ b).sp) (l := (ρ b).sl) (cap := (ρ b).sk) (lo := 0) (hi := 0) h1 (by rw [q0]; exact h2) (by omega) (by omega)
      simp only [γ, Bool.false_eq_true, if_false, Nat.sub_zero]
      rw [this, upd_self]
      simp only [Nat.zero_mul, Nat.sub_zero, q2, Option.map_some, Addr.add, if_true, ite_self, Nat.add_zero]
    rename_i hc
    obtain ⟨c1, c2, c3, c4, c5⟩ := hc
    cases hl
    have hne : cs.take (hi * sz) ≠ [] := by
      intro e
      have := congrArg List.length e
      simp only [List.length_take, List.length_nil] at this
      have := Nat.mul_pos (Nat.pos_of_ne_zero c2) c5
      omega
    have hcs : cs ≠ [] := by rintro rfl; simp at hne
    obtain ⟨q0, q1⟩ := h.ok b _ hb
    rcases q1 with ⟨_, q, _⟩ | ⟨_, q2, q3, cc, ee, fz, q4, ⟨pre, post, q5, q6⟩, q7⟩
    · exact absurd q hcs
    obtain ⟨g1, g2, g3⟩ := q7 rfl
    have hblt := h.lt b _ hb
    have hsc : scC 0 cs = true := h.sco b _ hb
    have hsct : scC 0 (cs.take (hi * sz)) = true := by
      rw [scC_iff] at hsc ⊢
      exact fun v hv => hsc v (List.mem_of_mem_take hv)
    have hin := h.inb b _ hb (by simp [ABlk.alive, hcs])
    have hd : Rel w0 ρ (σ.set b .dead) w := h.kill hb
    have hown := h.own b _ hb (by simp [ABlk.owned, hcs])
    have hR := hd.name (B := .vec (cs.take (hi * sz)) hi sz true) (L := { ρ b with sl := hi }) hsct ⟨rfl, .inr ⟨hne, q2, by rw [List.length_take, Nat.min_eq_left c4], cc, ee, fz, q4, ⟨pre, γL ρ (cs.drop (hi * sz)) ++ post, by
        rw [q5]
        conv => lhs; rw [← List.take_append_drop (hi * sz) cs]
        simp only [γL_append, List.append_assoc], q6⟩, fun _ => ⟨g1, by show hi ≤ (ρ b).sk; omega, g3⟩⟩⟩ (fun _ => hin)
      (fun _ => ⟨hown, fun j bj hj haj => by
        rw [get_set] at hj
        split at hj
        · cases hj; cases haj
        · rename_i hne'
          exact fun e => h.ap b j _ bj hb hj hne' (by simp [ABlk.owned, hcs]) haj e.symm⟩)
      (fun _ j bj hj ho => by
        rw [get_set] at hj
        split at hj
        · cases hj; cases ho
        · rename_i hne'
          exact h.ap j b bj _ hj hb (Ne.symm hne') ho (by simp [ABlk.alive, hcs]))
    refine ⟨_, ?_, ⟨hR, fun i hi => upd_lt hi, by simp⟩, by simp [sc]⟩
    have := go (a := (ρ b).sp) (l := (ρ b).sl) (cap := (ρ b).sk) (lo := 0) (hi := hi) h1 (by rw [q0]; exact h2) (by omega) (by omega)
    simp only [γ]
    rw [this]
    have e1 : (σ.set b ABlk.dead).next = σ.next := rfl
    rw [e1, upd_self]
    simp only [Nat.zero_mul, Nat.sub_zero, q2, Option.map_some, Addr.add, if_true, ite_self]
  · cases hl
end
end Go.Ev

