import Derived.Test.YtcgajpdhbanhaaaGreatEvM
import Derived.Laws.StructEq
import Derived.ChangeKeysEq
namespace Go.Ev
set_option linter.unusedVariables false
set_option linter.unusedSimpArgs false
def repKs (ks : List TK) : Nat → List TK
  | 0 => []
  | n + 1 => ks ++ repKs ks n
def flatFs (P : Program) (F : TypeId → Option (List TK)) : List Field → Nat → Option (List TK)
  | [], _ => some []
  | f :: fs, off =>
    if f.name = "_" ∨ f.offset ≠ off then none else
    match F f.type with
    | some ks => if ks.length = P.cellsOf f.type then (flatFs P F fs (off + ks.length)).map (ks ++ ·) else none
    | none => none
def flatKs (P : Program) : Nat → TypeId → Option (List TK)
  | 0, _ => none
  | d + 1, t =>
    match P.underlying t with
    | some (.int k) => some [.int k]
    | some .bool => some [.bool]
    | some (.struct fs) => if P.stoodInHeld t then none else flatFs P (flatKs P d) fs.toList 0
    | some (.array n e) => match flatKs P d e with
      | some ks => if ks.length = P.cellsOf e then some (repKs ks n) else none
      | none => none
    | _ => none
def mkV (P : Program) (t : TypeId) (cs : List Value) : Value :=
  match P.underlying t with
  | some (.struct _) | some (.array _ _) => .agg cs.toArray
  | _ => cs.headD undef
theorem eqCells_len : ∀ {ks : List TK} {xs ys : List AVal} {r : Bool}, eqCells ks xs ys = some r → xs.length = ks.length ∧ ys.length = ks.length
  | [], [], [], _, _ => ⟨rfl, rfl⟩
  | .int k :: ks, .int a x :: xs, .int b y :: ys, r, h => by
    simp only [eqCells] at h
    split at h
    · obtain ⟨r', h1, _⟩ := Option.map_eq_some_iff.1 h
      have := eqCells_len h1
      simp [this.1, this.2]
    · cases h
  | .bool :: ks, .bool x :: xs, .bool y :: ys, r, h => by
    simp only [eqCells] at h
    obtain ⟨r', h1, _⟩ := Option.map_eq_some_iff.1 h
    have := eqCells_len h1
    simp [this.1, this.2]
theorem eqCells_append : ∀ {k1 k2 : List TK} {xs ys : List AVal} {r : Bool}, eqCells (k1 ++ k2) xs ys = some r →
    ∃ r1 r2, eqCells k1 (xs.take k1.length) (ys.take k1.length) = some r1 ∧ eqCells k2 (xs.drop k1.length) (ys.drop k1.length) = some r2 ∧ r = (r1 && r2)
  | [], k2, xs, ys, r, h => ⟨true, r, by simp [eqCells], by simpa using h, by simp⟩
  | .int k :: ks, k2, .int a x :: xs, .int b y :: ys, r, h => by
    simp only [List.cons_append, eqCells] at h
    split at h
    · rename_i hk
      obtain ⟨r', h1, h2⟩ := Option.map_eq_some_iff.1 h
      obtain ⟨r1, r2, q1, q2, q3⟩ := eqCells_append h1
      refine ⟨x == y && r1, r2, ?_, by simpa using q2, by rw [← h2, q3, Bool.and_assoc]⟩
      simp only [List.length_cons, List.take_succ_cons, eqCells, if_pos hk, q1, Option.map_some]
    · cases h
  | .bool :: ks, k2, .bool x :: xs, .bool y :: ys, r, h => by
    simp only [List.cons_append, eqCells] at h
    obtain ⟨r', h1, h2⟩ := Option.map_eq_some_iff.1 h
    obtain ⟨r1, r2, q1, q2, q3⟩ := eqCells_append h1
    refine ⟨x == y && r1, r2, ?_, by simpa using q2, by rw [← h2, q3, Bool.and_assoc]⟩
    simp only [List.length_cons, List.take_succ_cons, eqCells, q1, Option.map_some]
section
variable {P : Program} {ρ : Nat → Loc}
theorem flatKs_some {d : Nat} {t : TypeId} {ks : List TK} (h : flatKs P d t = some ks) : ∃ i, P.info? t = some i := by
  cases d with
  | zero => simp [flatKs] at h
  | succ d =>
    unfold flatKs at h
    cases hu : P.underlying t with
    | none => rw [hu] at h; cases h
    | some k => exact info_of_underlying hu
theorem run_part_mk {d : Nat} {t : TypeId} {ks : List TK} (hf : flatKs P d t = some ks) (hl : ks.length = P.cellsOf t) {pre x post : List Value} {cs : Array Value}
    (hc : cs.toList = pre ++ x ++ post) (hx : x.length = ks.length) (w : World) : (part t cs pre.length).run P w = .ok (mkV P t x) w := by
  obtain ⟨i, hi⟩ := flatKs_some hf
  have hagg : ∀ b, (match P.underlying t with | some (.struct _) | some (.array _ _) => true | _ => false) = b → (isAgg t).run P w = .ok b w := by
    intro b hb
    cases d with
    | zero => simp [flatKs] at hf
    | succ d =>
      unfold flatKs at hf
      cases hu : P.underlying t with
      | none => rw [hu] at hf; cases hf
      | some k =>
        rw [hu] at hb
        cases k <;> simp_all [isAgg, run_underlying hu]
  have ext : cs.extract pre.length (pre.length + P.cellsOf t) = x.toArray := by
    apply Array.ext'
    rw [Array.toList_extract, List.extract_eq_take_drop, hc, ← hl, ← hx, Nat.add_sub_cancel_left]
    simp [List.append_assoc]
  have one : ∀ v, x = [v] → cs[pre.length]? = some v := by
    rintro v rfl
    rw [← Array.getElem?_toList, hc]
    simp [List.append_assoc]
  cases d with
  | zero => simp [flatKs] at hf
  | succ d =>
    unfold flatKs at hf
    unfold mkV
    cases hu : P.underlying t with
    | none => rw [hu] at hf; cases hf
    | some k =>
      rw [hu] at hf
      cases k <;> simp only [] at hf <;> try (cases hf; done)
      case bool =>
        cases hf
        obtain ⟨v, rfl⟩ : ∃ v, x = [v] := List.length_eq_one_iff.1 (by simpa using hx)
        simp [part, hagg false (by rw [hu]), one v rfl]
      case int k =>
        cases hf
        obtain ⟨v, rfl⟩ : ∃ v, x = [v] := List.length_eq_one_iff.1 (by simpa using hx)
        simp [part, hagg false (by rw [hu]), one v rfl]
      case array n e =>
        simp only [part, Sem.run_bind, hagg true (by rw [hu]), Result.andThen_ok, if_true, run_sizeOf w hi, Sem.run_pure, ext]
      case struct fs =>
        simp only [part, Sem.run_bind, hagg true (by rw [hu]), Result.andThen_ok, if_true, run_sizeOf w hi, Sem.run_pure, ext]
theorem γL_append' (a b : List AVal) (n : Nat) : γL ρ a = γL ρ (a.take n) ++ γL ρ (a.drop n) := by rw [← γL_append, List.take_append_drop]
def EqF (P : Program) (ρ : Nat → Loc) (D : Nat) (t : TypeId) (ks : List TK) : Prop :=
  ∀ (w : World) (xs ys : List AVal) (r : Bool), eqCells ks xs ys = some r →
    (Op.equalIn D t (mkV P t (γL ρ xs)) (mkV P t (γL ρ ys))).run P w = .ok r w ∧ ∀ b, (Instr.checkKey b D t (mkV P t (γL ρ xs))).run P w = .ok () w
theorem eqFields_flat {d D : Nat} (IH : ∀ t ks, flatKs P d t = some ks → EqF P ρ D t ks) : ∀ (fs : List Field) (off : Nat) (ks : List TK), flatFs P (flatKs P d) fs off = some ks →
    ∀ (w : World) (cx cy : Array Value) (px py : List Value) (xs ys : List AVal) (r : Bool), cx.toList = px ++ γL ρ xs → cy.toList = py ++ γL ρ ys → px.length = off → py.length = off →
      eqCells ks xs ys = some r → (Op.eqFields D cx cy fs).run P w = .ok r w ∧
        ∀ b, (forIn fs PUnit.unit fun (f : Field) _ => (if f.name ≠ "_" then do
          Instr.checkKey b D f.type (← part f.type cx f.offset)
          pure (ForInStep.yield PUnit.unit) else pure (ForInStep.yield PUnit.unit) : Sem (ForInStep PUnit))).run P w = .ok PUnit.unit w
  | [], off, ks, hf, w, cx, cy, px, py, xs, ys, r, _, _, _, _, he => by
    simp only [flatFs, Option.some.injEq] at hf
    subst hf
    cases xs <;> cases ys <;> simp [eqCells] at he
    subst he
    exact ⟨rfl, fun _ => rfl⟩
  | f :: fs, off, ks, hf, w, cx, cy, px, py, xs, ys, r, hx, hy, hpx, hpy, he => by
    simp only [flatFs] at hf
    split at hf
    · cases hf
    · rename_i hno
      have hn1 : f.name ≠ "_" := fun q => hno (.inl q)
      have hn2 : f.offset = off := Classical.byContradiction fun q => hno (.inr q)
      split at hf
      · rename_i k1 hk1
        split at hf
        · rename_i hlen
          obtain ⟨k2, hk2, rfl⟩ := Option.map_eq_some_iff.1 hf
          obtain ⟨r1, r2, e1, e2, rfl⟩ := eqCells_append he
          obtain ⟨l1, l2⟩ := eqCells_len e1
          have px1 : (part f.type cx f.offset).run P w = .ok (mkV P f.type (γL ρ (xs.take k1.length))) w := by
            rw [hn2, ← hpx]
            exact run_part_mk hk1 hlen (by rw [hx, γL_append' xs xs k1.length, List.append_assoc]) (by simpa using l1) w
          have py1 : (part f.type cy f.offset).run P w = .ok (mkV P f.type (γL ρ (ys.take k1.length))) w := by
            rw [hn2, ← hpy]
            exact run_part_mk hk1 hlen (by rw [hy, γL_append' ys ys k1.length, List.append_assoc]) (by simpa using l2) w
          obtain ⟨i1, i2⟩ := IH f.type k1 hk1 w _ _ r1 e1
          obtain ⟨j1, j2⟩ := eqFields_flat IH fs (off + k1.length) k2 hk2 w cx cy (px ++ γL ρ (xs.take k1.length)) (py ++ γL ρ (ys.take k1.length)) (xs.drop k1.length) (ys.drop k1.length) r2
            (by rw [hx, γL_append' xs xs k1.length, List.append_assoc]) (by rw [hy, γL_append' ys ys k1.length, List.append_assoc])
            (by rw [List.length_append, γL_length, l1, hpx]) (by rw [List.length_append, γL_length, l2, hpy]) e2
          refine ⟨?_, fun b => ?_⟩
          · simp only [Op.eqFields, hn1, ne_eq, not_false_eq_true, if_true, Sem.run_bind, px1, py1, i1, Result.andThen_ok]
            cases r1
            · simp
            · simpa using j1
          · have := j2 b
            simp only [List.forIn_cons, Sem.run_bind, Sem.run_ite, hn1, ne_eq, not_false_eq_true, if_true, px1, i2 b, Result.andThen_ok, Sem.run_pure]
            exact this
        · cases hf
      · cases hf
theorem eqItems_flat {d D : Nat} {e : TypeId} {k1 : List TK} (hk1 : flatKs P d e = some k1) (hlen : k1.length = P.cellsOf e) (IH : EqF P ρ D e k1) {inf : TypeInfo} (hi : P.info? e = some inf) :
    ∀ (n j : Nat) (w : World) (cx cy : Array Value) (px py : List Value) (xs ys : List AVal) (r : Bool), cx.toList = px ++ γL ρ xs → cy.toList = py ++ γL ρ ys → px.length = j * k1.length →
      py.length = j * k1.length → eqCells (repKs k1 n) xs ys = some r → (Op.eqItems D e (P.cellsOf e) cx cy (List.range' j n)).run P w = .ok r w ∧
        ∀ b, (forIn (List.range' j n) PUnit.unit fun (i : Nat) _ => (do
          Instr.checkKey b D e (← part e cx (i * (← sizeOf e)))
          pure (ForInStep.yield PUnit.unit) : Sem (ForInStep PUnit))).run P w = .ok PUnit.unit w
  | 0, j, w, cx, cy, px, py, xs, ys, r, _, _, _, _, he => by
    cases xs <;> cases ys <;> simp [repKs, eqCells] at he
    subst he
    exact ⟨rfl, fun _ => rfl⟩
  | n + 1, j, w, cx, cy, px, py, xs, ys, r, hx, hy, hpx, hpy, he => by
    simp only [repKs] at he
    obtain ⟨r1, r2, e1, e2, rfl⟩ := eqCells_append he
    obtain ⟨l1, l2⟩ := eqCells_len e1
    have px1 : (part e cx (j * P.cellsOf e)).run P w = .ok (mkV P e (γL ρ (xs.take k1.length))) w := by
      rw [← hlen, ← hpx]
      exact run_part_mk hk1 hlen (by rw [hx, γL_append' xs xs k1.length, List.append_assoc]) (by simpa using l1) w
    have py1 : (part e cy (j * P.cellsOf e)).run P w = .ok (mkV P e (γL ρ (ys.take k1.length))) w := by
      rw [← hlen, ← hpy]
      exact run_part_mk hk1 hlen (by rw [hy, γL_append' ys ys k1.length, List.append_assoc]) (by simpa using l2) w
    obtain ⟨i1, i2⟩ := IH w _ _ r1 e1
    obtain ⟨j1, j2⟩ := eqItems_flat hk1 hlen IH hi n (j + 1) w cx cy (px ++ γL ρ (xs.take k1.length)) (py ++ γL ρ (ys.take k1.length)) (xs.drop k1.length) (ys.drop k1.length) r2
      (by rw [hx, γL_append' xs xs k1.length, List.append_assoc]) (by rw [hy, γL_append' ys ys k1.length, List.append_assoc])
      (by rw [List.length_append, γL_length, l1, hpx, Nat.succ_mul]) (by rw [List.length_append, γL_length, l2, hpy, Nat.succ_mul]) e2
    rw [List.range'_succ]
    refine ⟨?_, fun b => ?_⟩
    · simp only [Op.eqItems, Sem.run_bind, px1, py1, i1, Result.andThen_ok]
      cases r1
      · simp
      · simpa using j1
    · have := j2 b
      simp only [List.forIn_cons, Sem.run_bind, run_sizeOf w hi, Result.andThen_ok, px1, i2 b, Sem.run_pure]
      exact this
theorem eqF_flat : ∀ (d : Nat) (t : TypeId) (ks : List TK), flatKs P d t = some ks → ∀ D, EqF P ρ (D + d) t ks
  | 0, t, ks, h, D => by simp [flatKs] at h
  | d + 1, t, ks, h, D => by
    intro w xs ys r he
    have h0 := h
    unfold flatKs at h
    rw [← Nat.add_assoc]
    cases hu : P.underlying t with
    | none => rw [hu] at h; cases h
    | some k =>
      rw [hu] at h
      cases k <;> simp only [] at h <;> try (cases h; done)
      case bool =>
        cases h
        obtain ⟨l1, l2⟩ := eqCells_len he
        obtain ⟨x, rfl⟩ := List.length_eq_one_iff.1 (show xs.length = 1 from l1)
        obtain ⟨y, rfl⟩ := List.length_eq_one_iff.1 (show ys.length = 1 from l2)
        cases x <;> cases y <;> simp only [eqCells] at he <;> try (cases he; done)
        rename_i a b
        simp only [Option.map_some, Bool.and_true, Option.some.injEq] at he
        subst he
        unfold mkV
        simp only [hu, γL, γ, List.headD_cons]
        refine ⟨run_equalIn_bool w (D + d) t a b hu, fun b => ?_⟩
        simp only [Instr.checkKey, Sem.run_bind, run_underlying hu, Result.andThen_ok, Sem.run_pure]
      case int k =>
        cases h
        obtain ⟨l1, l2⟩ := eqCells_len he
        obtain ⟨x, rfl⟩ := List.length_eq_one_iff.1 (show xs.length = 1 from l1)
        obtain ⟨y, rfl⟩ := List.length_eq_one_iff.1 (show ys.length = 1 from l2)
        cases x <;> cases y <;> simp only [eqCells] at he <;> try (cases he; done)
        rename_i k1 a k2 b
        split at he
        · rename_i hk
          simp only [Option.map_some, Bool.and_true, Option.some.injEq] at he
          subst he
          unfold mkV
          simp only [hu, γL, γ, List.headD_cons]
          rw [hk.1, hk.2]
          refine ⟨run_equalIn_int w (D + d) t k k a b hu, fun b => ?_⟩
          simp only [Instr.checkKey, Sem.run_bind, run_underlying hu, Result.andThen_ok, Sem.run_pure]
        · cases he
      case struct fs =>
        split at h
        · cases h
        · rename_i hst
          have hfo : P.fieldsOf t = fs := by simp [Program.fieldsOf, hu]
          obtain ⟨j1, j2⟩ := eqFields_flat (fun t ks hh => eqF_flat d t ks hh D) fs.toList 0 ks h w (γL ρ xs).toArray (γL ρ ys).toArray [] [] xs ys r (by simp) (by simp) rfl rfl he
          unfold mkV
          simp only [hu]
          refine ⟨?_, fun b => ?_⟩
          · rw [run_equalIn_struct w (D + d) t _ _ (by rw [hfo]; exact hu) (by simpa using hst), hfo]
            exact j1
          · have := j2 b
            rw [Instr.checkKey]
            simp only [Sem.run_bind, run_underlying hu, Result.andThen_ok]
            rw [← Array.forIn_toList, this]
            rfl
      case array n e =>
        split at h
        · rename_i k1 hk1
          split at h
          · rename_i hlen
            cases h
            obtain ⟨inf, hi⟩ := flatKs_some hk1
            obtain ⟨j1, j2⟩ := eqItems_flat hk1 hlen (eqF_flat d e k1 hk1 D) hi n 0 w (γL ρ xs).toArray (γL ρ ys).toArray [] [] xs ys r (by simp) (by simp) (by simp) (by simp) he
            unfold mkV
            simp only [hu]
            refine ⟨?_, fun b => ?_⟩
            · rw [run_equalIn_array w (D + d) _ _ hu hi, List.range_eq_range']
              exact j1
            · have := j2 b
              rw [Instr.checkKey]
              simp only [Sem.run_bind, run_underlying hu, Result.andThen_ok]
              simp only [Std.Legacy.Range.forIn_eq_forIn_range', Std.Legacy.Range.size, Nat.sub_zero, Nat.add_one_sub_one, Nat.div_one]
              rw [this]
              rfl
          · cases h
        · cases h
theorem flatOk_of {d : Nat} {t : TypeId} {ks : List TK} (hd : d ≤ 10000) (h : flatKs P d t = some ks) (hg : P.eqGuardType P.depth t = false)
    (ha : (match P.underlying t with | some (.struct _) | some (.array _ _) => true | _ => false) = true) : FlatOk P t ks := by
  refine ⟨hg, fun ρ w xs ys r he => ?_⟩
  have := eqF_flat (ρ := ρ) d t ks h (10000 - d) w xs ys r he
  rw [Nat.sub_add_cancel hd] at this
  have hm : ∀ cs, mkV P t cs = .agg cs.toArray := by
    intro cs
    unfold mkV
    cases hu : P.underlying t with
    | none => rw [hu] at ha; cases ha
    | some k => rw [hu] at ha; cases k <;> first | rfl | cases ha
  rw [hm, hm] at this
  exact this
end
end Go.Ev

