import Derived.Test.YtcgajpdhbanhaaaGreatEvH
namespace Go.Ev
set_option linter.unusedVariables false
set_option linter.unusedSimpArgs false
def endOf (ρ : Nat → Loc) : ARes → Ending
  | .ret v => .returned (γ ρ v)
  | .pan v => .panicked [{ v := γ ρ v, recovered := false }]
def ARes.value : ARes → AVal
  | .ret v => v
  | .pan v => v
def SemCall (P : Program) (g : FuncId) (args : List AVal) (σ : Mem) (r : ARes) (σ' : Mem) : Prop :=
  ∀ w0 ρ w, Rel w0 ρ σ w → scL σ.next args = true →
    Calls P g (γL ρ args).toArray w fun e w' => ∃ ρ', e = endOf ρ' r ∧ Post w0 ρ σ.next ρ' σ' w' ∧ sc σ'.next r.value = true
def IsFn (P : Program) (g : FuncId) : Prop := ∃ fn, P.funcs[g]? = some fn ∧ (fn.name == "runtime.NumGoroutine") = false ∧ fn.body.isNone = false
def RunCall (P : Program) (g : FuncId) (args : List AVal) (σ : Mem) (r : ARes) (σ' : Mem) : Prop :=
  ∃ v, r = .ret v ∧ σ' = σ ∧ sc 0 v = true ∧ ∀ (ρ : Nat → Loc) (w : World), (callFunc g (γL ρ args).toArray).run P w = .ok (.value (γ ρ v)) w
def CallOk (P : Program) (g : FuncId) (args : List AVal) (σ : Mem) (r : ARes) (σ' : Mem) : Prop := (IsFn P g ∧ SemCall P g args σ r σ') ∨ RunCall P g args σ r σ'
theorem rel_none {w : World} (ρ : Nat → Loc) (n : Nat) : Rel (W0.all w) ρ ⟨n, []⟩ w :=
  ⟨fun i b h => (nomatch h), fun i b h => (nomatch h), fun i b h => (nomatch h), fun i b h => (nomatch h), fun i j bi bj h => (nomatch h), fun i b h => (nomatch h), rfl, rfl, rfl, Nat.le_refl _, fun _ _ => rfl⟩
theorem SemCall.none {P : Program} {g : FuncId} {args : List AVal} {v : AVal} (h : SemCall P g args ⟨0, []⟩ (.ret v) ⟨0, []⟩) (hs : scL 0 args = true) (hv : sc 0 v = true) (σ : Mem) : SemCall P g args σ (.ret v) σ := by
  intro w0 ρ w hr _
  refine (h (W0.all w) ρ w (rel_none ρ 0) hs).mono ?_
  rintro e w' ⟨ρ', k1, k2, _⟩
  have R := k2.rel
  have hold : ∀ q, q < w.heap.size → w'.heap[q]? = w.heap[q]? := fun q hq => R.old q hq
  have hsz : w.heap.size ≤ w'.heap.size := R.size
  refine ⟨ρ, ?_, ⟨⟨hr.lt, hr.sco, fun i b hi => ?_, fun i b hi ha => Nat.lt_of_lt_of_le (hr.inb i b hi ha) hsz, hr.ap, hr.own, R.os.trans hr.os, R.tape.trans hr.tape, R.output.trans hr.output, Nat.le_trans hr.size hsz,
    fun q hq => (hold q (by have := w0.lt q hq; have := hr.size; omega)).trans (hr.old q hq)⟩, fun _ _ => rfl, Nat.le_refl _⟩, sc_mono (Nat.zero_le _) v hv⟩
  · rw [k1]
    simp only [endOf]
    rw [γ_congr (n := 0) (ρ := ρ) (ρ' := ρ') (fun i hi => absurd hi (by omega)) v hv]
  · by_cases ha : b.alive = true
    · exact BOk_congr (fun _ _ => rfl) (hold _ (hr.inb i b hi ha)) b (hr.sco i b hi) (hr.ok i b hi)
    · exact BOk_still ha (hr.ok i b hi)
def HooksOk (P : Program) (H : Hooks) : Prop := ∀ g args σ r σ', H g args σ = some (r, σ') → CallOk P g args σ r σ'
section
variable {P : Program} {T : TTab} {H : Hooks} {ρ : Nat → Loc} {w0 : W0} {w : World} {σ : Mem} {a : Act} {tm : List AVal} {next : Act → World → Prop} {Q : Exit → Act → World → Prop}
theorem wp_val {o : Oper} {v : AVal} {ρ' : Nat → Loc} {w' : World} (hr : (execOp a.eval o).run P w = .ok (.value (γ ρ' v)) w') (hn : next (a.put o.dst (γ ρ' v)) w') : o.wp P a w next Q := by
  unfold Oper.wp; rw [hr]; exact hn
theorem wp_skip' {o : Oper} {w' : World} (hr : (execOp a.eval o).run P w = .ok .skip w') (hn : next (a.put o.dst undef) w') : o.wp P a w next Q := by
  unfold Oper.wp; rw [hr]; exact hn
theorem callFunc_enter {g : FuncId} (hg : IsFn P g) (args : Array Value) : (callFunc g args).run P w = .ok (.enter g args) w := by
  obtain ⟨fn, h1, h2, h3⟩ := hg
  simp only [callFunc, Sem.run_bind, run_program, Result.andThen_ok, h1, h2, h3, Bool.false_eq_true, if_false, Sem.run_pure]
def dOf (f : FuncId) (cap args : List Value) : Deferred :=
  if f = markF then { target := .collected (match cap with | [.int _ n] => n.toNat | _ => 0), args := #[] } else { target := .fn (.func f) cap.toArray, args := args.toArray }
def γD (ρ : Nat → Loc) (d : ADef) : Deferred := dOf d.f (γL ρ d.cap) (γL ρ d.args)
def Kont (o : Oper) (a : Act) (next : Act → World → Prop) (Q : Exit → Act → World → Prop) (ρ' : Nat → Loc) (w' : World) (σ' : Mem) : ORes → Prop
  | .val v => sc σ'.next v = true → next (a.put o.dst (γ ρ' v)) w'
  | .skip => next (a.put o.dst undef) w'
  | .pan v => sc σ'.next v = true → Q (.panic [{ v := γ ρ' v, recovered := false }]) a w'
  | .dfr d => scL σ'.next d.cap = true → scL σ'.next d.args = true → next ({ a with defers := γD ρ' d :: a.defers }.put o.dst undef) w'
theorem fullV_γ (h : Rel w0 ρ σ w) {z : AVal} (hz : fullV σ z = true) : ∃ ad l c, γ ρ z = .slice (some ad) l c := by
  unfold fullV at hz
  split at hz
  · rename_i i
    split at hz
    · rename_i c cs n sz own hg
      have hb := h.ok i _ hg
      obtain ⟨_, ⟨_, h0, _⟩ | ⟨_, h1, _⟩⟩ := hb
      · cases h0
      · exact ⟨_, _, _, by simp only [γ, h1]; rfl⟩
    · cases hz
  · cases hz
theorem binM_run (h : Rel w0 ρ σ w) (hT : TabOk P T) {c n : Bool} {op : BinOp} {t : TypeId} {x y v : AVal} (hz : binM T σ c n op t x y = some v) (xo yo : Operand) (hc : c = true → (isCst xo || isCst yo) = true) :
    (do eqGuard op t xo yo (γ ρ x) (γ ρ y); binOp op t (γ ρ x) (γ ρ y)).run P w = .ok (γ ρ v) w ∧ sc σ.next v = true := by
  unfold binM at hz
  cases n with
  | false => exact binA_run w hT hz xo yo hc
  | true =>
    simp only [cond_true] at hz
    split at hz
    rotate_left
    · exact binA_run w hT hz xo yo hc
    rename_i u hu
    cases hz
    unfold nilB at hu
    cases hb : (((isNils x && fullV σ y) || (fullV σ x && isNils y)) && isSlK (T t)) with
    | false => rw [hb] at hu; cases hu
    | true =>
      rw [hb] at hu
      simp only [cond_true] at hu
      simp only [Bool.and_eq_true, Bool.or_eq_true] at hb
      obtain ⟨hxy, hk⟩ := hb
      obtain ⟨e, hk⟩ : ∃ e, P.underlying t = some (.slice e) := by
        unfold isSlK at hk
        split at hk
        · rename_i e i hi
          have := (hT t _ hi).k
          simp only [KOk] at this
          exact ⟨_, this⟩
        · cases hk
      have nl : ∀ z : AVal, isNils z = true → γ ρ z = .slice none 0 0 := by
        intro z hz
        cases z <;> first | rfl | cases hz
      have key : ∃ a l c b l' c', γ ρ x = .slice a l c ∧ γ ρ y = .slice b l' c' ∧ (a = none ∨ b = none) ∧ (a.isNone && b.isNone) = false := by
        rcases hxy with ⟨h1, h2⟩ | ⟨h1, h2⟩
        · obtain ⟨ad, l, c, q⟩ := fullV_γ h h2
          exact ⟨_, _, _, _, _, _, nl x h1, q, .inl rfl, rfl⟩
        · obtain ⟨ad, l, c, q⟩ := fullV_γ h h1
          exact ⟨_, _, _, _, _, _, q, nl y h2, .inr rfl, rfl⟩
      obtain ⟨a1, l1, c1, b1, l2, c2, q1, q2, q3, q4⟩ := key
      have he := equal_slice (P := P) w hk a1 b1 l1 c1 l2 c2 q3
      rw [q4] at he
      have := eql_of (P := P) (t := t) w xo yo (x := .slice a1 l1 c1) (y := .slice b1 l2 c2) rfl rfl (fun _ => guard_plain w (by simp) (by simp)) he
      rw [q1, q2]
      split at hu
      · cases hu; exact ⟨this.1, by simp [sc]⟩
      · cases hu; exact ⟨this.2, by simp [sc]⟩
      · cases hu
theorem aexec_wp (hT : TabOk P T) (hH : HooksOk P H) (h : Rel w0 ρ σ w) (hf : a.tmps = (γL ρ tm).toArray) (hs : scL σ.next tm = true) {o : Oper} {r : ORes} {σ' : Mem}
    (hx : aexec T H o.op tm σ = some (r, σ'))
    (K : ∀ ρ' w', Post w0 ρ σ.next ρ' σ' w' → Kont o a next Q ρ' w' σ' r) : o.wp P a w next Q := by
  obtain ⟨dst, op, type, pos, after, guard⟩ := o
  have pure1 : ∀ {r1 : Option AVal}, (r1.map fun v => ((ORes.val v, σ) : ORes × Mem)) = some (r, σ') →
      (∀ v, r1 = some v → (execOp a.eval ⟨dst, op, type, pos, after, guard⟩).run P w = .ok (.value (γ ρ v)) w ∧ sc σ.next v = true) →
      Oper.wp P ⟨dst, op, type, pos, after, guard⟩ a w next Q := by
    intro r1 h1 h2
    cases r1 with
    | none => cases h1
    | some v =>
      cases h1
      obtain ⟨q1, q2⟩ := h2 v rfl
      exact wp_val q1 (K ρ w (Post.refl h) q2)
  have E : ∀ {x : Operand} {v : AVal}, ev tm x = some v → a.eval x = γ ρ v ∧ sc σ.next v = true := fun hv => ev_γ hf hs hv
  cases op <;> simp only [aexec] at hx
  case move x => exact pure1 hx fun v hv => by obtain ⟨e1, e2⟩ := E hv; exact ⟨by simp only [execOp, e1, Sem.run_pure], e2⟩
  case assign x => exact pure1 hx fun v hv => by obtain ⟨e1, e2⟩ := E hv; exact ⟨by simp only [execOp, e1, Sem.run_pure], e2⟩
  case pick c x y =>
    split at hx
    · rename_i hc
      have hc' := (E hc).1
      exact pure1 hx fun v hv => by obtain ⟨e1, e2⟩ := E hv; exact ⟨by simp only [execOp, hc', γ, asBool, Sem.run_bind, Sem.run_pure, Result.andThen_ok, if_true, e1], e2⟩
    · rename_i hc
      have hc' := (E hc).1
      exact pure1 hx fun v hv => by obtain ⟨e1, e2⟩ := E hv; exact ⟨by simp only [execOp, hc', γ, asBool, Sem.run_bind, Sem.run_pure, Result.andThen_ok, Bool.false_eq_true, if_false, e1], e2⟩
    · cases hx
  case alloc t =>
    split at hx
    · cases hx
    · rename_i i ht
      cases hx
      obtain ⟨w', L, r1, l1, l2, r2⟩ := alloc_run h hT ht (arrLike T t)
      refine wp_val (v := .ptr σ.next 0) (ρ' := upd ρ σ.next L) (w' := w') ?_ (K _ _ r2 (by simp [sc]))
      simp only [execOp, Sem.run_bind, r1, Result.andThen_ok, Sem.run_pure, γ, upd_self, l1, l2, Nat.add_zero]
  case box t x =>
    split at hx
    · rename_i v hv
      split at hx
      · cases hx
      · rename_i ht
        cases hx
        obtain ⟨e1, e2⟩ := E hv
        obtain ⟨w', L, r1, l1, l2, r2⟩ := box_run (P := P) h e2 (by simpa using ht) t (arrLike T t)
        refine wp_val (v := .ptr σ.next 0) (ρ' := upd ρ σ.next L) (w' := w') ?_ (K _ _ r2 (by simp [sc]))
        simp only [execOp, e1, Sem.run_bind, r1, Result.andThen_ok, Sem.run_pure, γ, upd_self, l1, l2, Nat.add_zero]
    · cases hx
  case build t ps =>
    split at hx
    · rename_i vs hvs
      obtain ⟨e1, e2⟩ := evP_γ hf hs hvs
      refine pure1 hx fun v hv => ?_
      obtain ⟨r1, r2⟩ := build_run (ρ := ρ) w hT e2 hv
      refine ⟨?_, r2⟩
      have e3 : (ps.map fun (x : Nat × Operand) => (x.1, a.eval x.2)) = (vs.map fun x => (x.1, γ ρ x.2)).toArray := by
        apply Array.ext'; rw [Array.toList_map, e1]
      simp only [execOp, Sem.run_bind]
      rw [show (ps.map fun (x : Nat × Operand) => match x with | (i, x) => (i, a.eval x)) = (vs.map fun x => (x.1, γ ρ x.2)).toArray from e3]
      simp only [r1, Result.andThen_ok, Sem.run_pure]
    · cases hx
  case buildSlice t n ps =>
    split at hx
    · rename_i vs hvs
      obtain ⟨e1, e2⟩ := evP_γ hf hs hvs
      cases hb : buildSliceA T σ t n vs with
      | none => rw [hb] at hx; cases hx
      | some q =>
        obtain ⟨v, σ1⟩ := q
        rw [hb] at hx; cases hx
        obtain ⟨ρ', w', r1, r2, r3⟩ := buildSlice_run h hT e2 hb
        have e3 : (ps.map fun (x : Nat × Operand) => (x.1, a.eval x.2)) = (vs.map fun x => (x.1, γ ρ x.2)).toArray := by
          apply Array.ext'; rw [Array.toList_map, e1]
        refine wp_val (v := v) (ρ' := ρ') (w' := w') ?_ (K _ _ r2 r3)
        simp only [execOp, Sem.run_bind]
        rw [show (ps.map fun (x : Nat × Operand) => match x with | (i, x) => (i, a.eval x)) = (vs.map fun x => (x.1, γ ρ x.2)).toArray from e3]
        simp only [r1, Result.andThen_ok, Sem.run_pure]
    · cases hx
  case makeSlice t l c =>
    split at hx
    · rename_i k n hl hn
      cases hb : makeA T σ t n with
      | none => rw [hb] at hx; cases hx
      | some q =>
        obtain ⟨v, σ1⟩ := q
        rw [hb] at hx; cases hx
        obtain ⟨ρ', w', r1, r2, r3⟩ := make_run (k := k) h hT hb
        have ec : a.eval c = a.eval l := by
          cases l <;> cases c <;> simp only [sameO, Bool.false_eq_true] at hl
          · rw [Nat.eq_of_beq_eq_true hl]
          · rename_i x y
            cases x <;> cases y <;> simp only [sameO, Bool.false_eq_true, Bool.and_eq_true, decide_eq_true_eq] at hl
            rw [hl.1, hl.2]
        refine wp_val (v := v) (ρ' := ρ') (w' := w') ?_ (K _ _ r2 r3)
        simp only [execOp, ec, (E hn).1, γ, Sem.run_bind, r1, Result.andThen_ok, Sem.run_pure]
    · cases hx
  case load t x =>
    split at hx
    · rename_i y hy
      refine pure1 hx fun v hv => ?_
      obtain ⟨b, o, rfl, r1, r2⟩ := h.run_loadVar (P := P) hT hv
      exact ⟨by simp only [execOp, Instr.loadAt, (E hy).1, γ, Instr.sureAddr, Sem.run_bind, Sem.run_pure, Result.andThen_ok, r1], r2⟩
    · cases hx
  case store t x y =>
    split at hx
    · rename_i u v hu hv
      cases hp : storeA T σ t u v with
      | none => rw [hp] at hx; cases hx
      | some σ1 =>
        rw [hp] at hx; cases hx
        obtain ⟨e1, e2⟩ := E hv
        obtain ⟨b, o, w', rfl, r1, r2, r3⟩ := h.run_storeVar (P := P) hT hp e2
        refine wp_skip' (w' := w') ?_ (K ρ w' ⟨r2, fun _ _ => rfl, by omega⟩)
        simp only [execOp, Instr.storeAt, (E hu).1, e1, γ, Instr.sureAddr, Sem.run_bind, Sem.run_pure, Result.andThen_ok, r1]
    · cases hx
  case binOp op t x y t2 =>
    split at hx
    · rename_i u v hu hv
      refine pure1 hx fun z hz => ?_
      obtain ⟨r1, r2⟩ := binM_run h hT hz x y id
      refine ⟨?_, r2⟩
      simp only [execOp, (E hu).1, (E hv).1, Sem.run_bind] at r1 ⊢
      simp only [r1, Result.andThen_ok, Sem.run_pure]
    · cases hx
  case unOp op t x =>
    split at hx
    · rename_i u hu
      refine pure1 hx fun z hz => ?_
      obtain ⟨r1, r2⟩ := unA_run (P := P) (ρ := ρ) (n := σ.next) w hz
      exact ⟨by simp only [execOp, (E hu).1, Sem.run_bind, r1, Result.andThen_ok, Sem.run_pure], r2⟩
    · cases hx
  case convert src dst' x =>
    split at hx
    · rename_i u _ hu
      cases hb : strBytesA T σ src dst' u with
      | none => rw [hb] at hx; cases hx
      | some q =>
        obtain ⟨v, σ1⟩ := q
        rw [hb] at hx; cases hx
        obtain ⟨ρ', w', r1, r2, r3⟩ := strBytes_run h hT hb
        refine wp_val (v := v) (ρ' := ρ') (w' := w') ?_ (K _ _ r2 r3)
        simp only [execOp, (E hu).1, Sem.run_bind, r1, Result.andThen_ok, Sem.run_pure]
    · rename_i u _ _ hu
      refine pure1 hx fun z hz => ?_
      obtain ⟨r1, r2⟩ := bytesStr_run (P := P) h hT hz
      exact ⟨by simp only [execOp, (E hu).1, Sem.run_bind, r1, Result.andThen_ok, Sem.run_pure], r2⟩
    · rename_i u _ _ hu
      refine pure1 hx fun z hz => ?_
      obtain ⟨r1, r2⟩ := convA_run (ρ := ρ) (n := σ.next) w hT hz
      exact ⟨by simp only [execOp, (E hu).1, Sem.run_bind, r1, Result.andThen_ok, Sem.run_pure], r2⟩
    · cases hx
  case makeFunc fn fs cs =>
    cases fn with
    | func g =>
      simp only [] at hx
      split at hx
      · rename_i us vs hu hv
        cases hx
        obtain ⟨e1, e2⟩ := evL_γ hf hs hu
        obtain ⟨e3, e4⟩ := evL_γ hf hs hv
        refine wp_val (v := .func g us vs) (ρ' := ρ) (w' := w) ?_ (K _ _ (Post.refl h) (by simp [sc, e2, e4]))
        have e5 : fs.map a.eval = (γL ρ us).toArray := by apply Array.ext'; rw [Array.toList_map, e1]
        have e6 : cs.map a.eval = (γL ρ vs).toArray := by apply Array.ext'; rw [Array.toList_map, e3]
        simp only [execOp, Instr.makeFunc, Sem.run_bind, Sem.run_pure, Result.andThen_ok, γ, e5, e6]
      · cases hx
    | _ => cases hx
  case makeMap t rs =>
    cases rs <;> simp only [] at hx <;> cases hx
    refine wp_val (v := .map σ.next) (ρ' := upd ρ σ.next (Loc.mk3 (w.heap.size) (0) (0))) (w' := { w with heap := w.heap.push (.map #[] 0) }) ?_ (K _ _ ⟨?_, fun i hi => upd_lt hi, by simp⟩ (by simp [sc]))
    · simp only [execOp, Instr.makeMap, Option.map_none, Sem.run_bind, run_newObj, Sem.run_pure, Result.andThen_ok, γ, upd_self]
    · exact h.push rfl (by simp [scB]) fun ρ' _ => ⟨#[], by simp, rfl⟩
  case fieldAddr s x f =>
    split at hx
    · rename_i u hu
      refine pure1 hx fun z hz => ?_
      obtain ⟨r1, r2⟩ := fieldAddr_run (ρ := ρ) w hT (E hu).2 hz
      exact ⟨by simp only [execOp, (E hu).1, Sem.run_bind, r1, Result.andThen_ok, Sem.run_pure], r2⟩
    · cases hx
  case field s x f =>
    split at hx
    · rename_i u hu
      refine pure1 hx fun z hz => ?_
      obtain ⟨r1, r2⟩ := field_run (ρ := ρ) w hT (E hu).2 hz
      exact ⟨by simp only [execOp, (E hu).1, Sem.run_bind, r1, Result.andThen_ok, Sem.run_pure], r2⟩
    · cases hx
  case indexAddr t x i =>
    split at hx
    · rename_i u v hu hv
      refine pure1 hx fun z hz => ?_
      obtain ⟨r1, r2⟩ := indexAddr_run (ρ := ρ) w hT h (E hu).2 hz
      exact ⟨by simp only [execOp, (E hu).1, (E hv).1, Sem.run_bind, r1, Result.andThen_ok, Sem.run_pure], r2⟩
    · cases hx
  case index t x i =>
    split at hx
    · rename_i u v hu hv
      refine pure1 hx fun z hz => ?_
      obtain ⟨r1, r2⟩ := index_run (ρ := ρ) w hT (E hu).2 hz
      exact ⟨by simp only [execOp, (E hu).1, (E hv).1, Sem.run_bind, r1, Result.andThen_ok, Sem.run_pure], r2⟩
    · cases hx
  case lookup t x k ok =>
    split at hx
    · rename_i u v hu hv
      refine pure1 hx fun z hz => ?_
      obtain ⟨r1, r2⟩ := lookup_run h hT hz
      exact ⟨by simp only [execOp, (E hu).1, (E hv).1, Sem.run_bind, r1, Result.andThen_ok, Sem.run_pure], r2⟩
    · cases hx
  case mapEntry t m k =>
    split at hx
    · rename_i u v hu hv
      cases hp : mapEntryA T σ t u v with
      | none => rw [hp] at hx; cases hx
      | some q =>
        obtain ⟨z, σ1⟩ := q
        rw [hp] at hx; cases hx
        obtain ⟨w', r1, r2, r3, r4⟩ := mapEntry_run h hT hp
        refine wp_val (v := z) (ρ' := ρ) (w' := w') ?_ (K _ _ ⟨r2, fun _ _ => rfl, by simp only [r3]; omega⟩ (by simp only [r3]; exact r4))
        simp only [execOp, (E hu).1, (E hv).1, Sem.run_bind, r1, Result.andThen_ok, Sem.run_pure]
    · cases hx
  case entryStore t m n x =>
    split at hx
    · rename_i u v z hu hv hz
      cases hp : entryStoreA σ u v z with
      | none => rw [hp] at hx; cases hx
      | some σ1 =>
        rw [hp] at hx; cases hx
        obtain ⟨w', r1, r2, r3⟩ := entryStore_run (P := P) t h hp
        refine wp_skip' (w' := w') ?_ (K ρ w' ⟨r2, fun _ _ => rfl, by omega⟩)
        simp only [execOp, (E hu).1, (E hv).1, (E hz).1, Sem.run_bind, r1, Result.andThen_ok, Sem.run_pure]
    · cases hx
  case mapUpdate t m k x =>
    split at hx
    · rename_i u v z hu hv hz
      cases hp : mapPutA T σ t u v z with
      | none => rw [hp] at hx; cases hx
      | some σ1 =>
        rw [hp] at hx; cases hx
        obtain ⟨w', r1, r2, r3⟩ := mapPut_run h hT hp
        refine wp_skip' (w' := w') ?_ (K ρ w' ⟨r2, fun _ _ => rfl, by omega⟩)
        simp only [execOp, (E hu).1, (E hv).1, (E hz).1, Sem.run_bind, r1, Result.andThen_ok, Sem.run_pure]
    · cases hx
  case range t x =>
    split at hx
    · rename_i u hu
      obtain ⟨q, hq, hq2⟩ := Option.map_eq_some_iff.1 hx
      obtain ⟨v, σ1⟩ := q
      cases hq2
      obtain ⟨w', ρ', r1, r2, r3⟩ := range_run (P := P) h hT hq
      refine wp_val (v := v) (ρ' := ρ') (w' := w') ?_ (K _ _ r2 r3)
      simp only [execOp, (E hu).1, Sem.run_bind, r1, Result.andThen_ok, Sem.run_pure]
    · cases hx
  case entry x =>
    split at hx
    · rename_i u hu
      refine pure1 hx fun z hz => ?_
      obtain ⟨r1, r2⟩ := entry_run (P := P) h hz
      exact ⟨by simp only [execOp, (E hu).1, Sem.run_bind, r1, Result.andThen_ok, Sem.run_pure], r2⟩
    · cases hx
  case next x b =>
    cases b with
    | true => cases hx
    | false =>
      simp only [] at hx
      split at hx
      · rename_i u hu
        obtain ⟨q, hq, hq2⟩ := Option.map_eq_some_iff.1 hx
        obtain ⟨v, σ1⟩ := q
        cases hq2
        unfold nextA at hq
        split at hq
        · rename_i i m since seen es clock hit
          rcases next_run (P := P) h hit type with ⟨q1, q2⟩ | ⟨e, q1, w', q2, q3, q4⟩
          · rw [q1] at hq
            cases hq
            refine wp_val (v := .tup [.bool false]) (ρ' := ρ) (w' := w) ?_ (K ρ w (Post.refl h) (by simp [sc, scL]))
            simp only [execOp, (E hu).1, Sem.run_bind, q2, Result.andThen_ok, Sem.run_pure]
          · split at hq
            · rename_i hl; rw [hl] at q1; cases q1
            · rename_i e' hl
              cases hq
              rw [hl] at q1
              obtain rfl : e = e' := by simpa using q1
              refine wp_val (v := .tup [.bool true, e.1, e.2.1]) (ρ' := ρ) (w' := w') ?_ (K ρ w' ⟨q3, fun _ _ => rfl, Nat.le_refl _⟩ q4)
              simp only [execOp, (E hu).1, Sem.run_bind, q2, Result.andThen_ok, Sem.run_pure]
            · cases hq
        · cases hq
      · cases hx
  case slice t x l hi mx =>
    cases mx with
    | some _ => cases hx
    | none =>
      simp only [] at hx
      split at hx
      · rename_i u lo hg hu hlo hhi
        obtain ⟨q, hq, hq2⟩ := Option.map_eq_some_iff.1 hx
        obtain ⟨v, σ1⟩ := q
        cases hq2
        obtain ⟨ρ', r1, r2, r3⟩ := slice_run (P := P) h hT (E hu).2 hq
        have ho : ∀ {y : Option Operand} {z : Option AVal}, evO tm y = some z → y.map a.eval = z.map (γ ρ) := by
          intro y z hy
          cases y with
          | none => cases hy; rfl
          | some y =>
            obtain ⟨v, hv, rfl⟩ := Option.map_eq_some_iff.1 hy
            simp only [Option.map_some, (E hv).1]
        refine wp_val (v := v) (ρ' := ρ') (w' := w) ?_ (K _ _ r2 r3)
        simp only [execOp, (E hu).1, ho hlo, ho hhi, Option.map_none, Sem.run_bind, r1, Result.andThen_ok, Sem.run_pure]
      · cases hx
  case extract x i =>
    split at hx
    · rename_i vs hu
      refine pure1 hx fun z hz => ?_
      obtain ⟨e1, e2⟩ := E hu
      simp only [sc] at e2
      refine ⟨?_, (scL_iff _ _).1 e2 z (List.mem_of_getElem? hz)⟩
      simp only [execOp, e1, γ, Instr.extract, List.getElem?_toArray, γL_get, hz, Option.map_some, Sem.run_bind, Sem.run_pure, Result.andThen_ok]
    · cases hx
  case nilCheck x =>
    split at hx
    · rename_i u hu
      refine pure1 hx fun z hz => ?_
      obtain ⟨e1, e2⟩ := E hu
      unfold nilCheckA at hz
      split at hz
      · rename_i hn
        cases hz
        refine ⟨?_, e2⟩
        simp only [execOp, e1]
        cases u <;> first | (cases hn; done) | rfl
      · cases hz
    · cases hx
  case makeInterface t x =>
    split at hx
    · rename_i u hu
      refine pure1 hx fun z hz => ?_
      obtain ⟨e1, e2⟩ := E hu
      unfold ifaceA at hz
      split at hz
      · cases hz
      · rename_i i ht
        split at hz
        · cases hz
        · rename_i hn
          cases hz
          refine ⟨?_, by simpa only [sc] using e2⟩
          have hk := (hT t i ht).k
          simp only [execOp, e1, Sem.run_bind, γ]
          cases hi : i.k <;> rw [hi] at hk <;> simp only [KOk] at hk
          case iface => exact absurd (.inl hi) hn
          all_goals
            simp only [Instr.makeInterface, Sem.run_bind]
            first
              | (obtain ⟨_, _, _, hk⟩ := hk; simp only [run_underlying hk, Result.andThen_ok, Sem.run_pure]; done)
              | (obtain ⟨_, hk, _⟩ := hk; simp only [run_underlying hk, Result.andThen_ok, Sem.run_pure]; done)
              | (simp only [run_underlying hk, Result.andThen_ok, Sem.run_pure]; done)
    · cases hx
  case typeAssert x xt t ok =>
    split at hx
    · rename_i u hu
      refine pure1 hx fun z hz => ?_
      obtain ⟨e1, e2⟩ := E hu
      unfold assertA at hz
      split at hz
      · cases hz
      · rename_i i ht
        obtain ⟨hn, hz⟩ := (show ∀ {c : Bool} {x : Option AVal}, cond c none x = some z → c = false ∧ x = some z from fun {c x} h => by cases c with | true => cases h | false => exact ⟨rfl, h⟩) hz
        have hk := (hT t i ht).k
        have hzero : ∀ {y : AVal}, (if i.agg then some (.agg i.zero) else i.zero.head?) = some y → (zeroValue t).run P w = .ok (γ ρ y) w ∧ sc σ.next y = true := fun {y} hy => zeroA_run (hT t i ht) hy _
        simp only [execOp, e1]
        split at hz
        · rename_i u' v
          simp only [sc] at e2
          split at hz
          · rename_i he
            cases hz
            refine ⟨?_, ?_⟩
            · cases hi : i.k <;> rw [hi] at hk hn <;> simp only [KOk] at hk
              all_goals first
                | (cases hn; done)
                | (simp only [Instr.typeAssert, Sem.run_bind]
                   first
                    | (obtain ⟨_, _, _, hk⟩ := hk; cases ok <;> simp [run_underlying hk, Result.andThen_ok, Sem.run_pure, γ, γL, he]; done)
                    | (obtain ⟨_, hk, _⟩ := hk; cases ok <;> simp [run_underlying hk, Result.andThen_ok, Sem.run_pure, γ, γL, he]; done)
                    | (cases ok <;> simp [run_underlying hk, Result.andThen_ok, Sem.run_pure, γ, γL, he]; done))
            · cases ok <;> simp [sc, scL, e2]
          · rename_i he
            split at hz
            · rename_i hok
              obtain ⟨y, hy, rfl⟩ := Option.map_eq_some_iff.1 hz
              obtain ⟨z1, z2⟩ := hzero hy
              refine ⟨?_, by simp [sc, scL, z2]⟩
              cases hi : i.k <;> rw [hi] at hk hn <;> simp only [KOk] at hk
              all_goals first
                | (cases hn; done)
                | (simp only [Instr.typeAssert, Sem.run_bind]
                   first
                    | (obtain ⟨_, _, _, hk⟩ := hk; simp [run_underlying hk, Result.andThen_ok, Sem.run_bind, Sem.run_pure, γ, γL, he, hok, z1]; done)
                    | (obtain ⟨_, hk, _⟩ := hk; simp [run_underlying hk, Result.andThen_ok, Sem.run_bind, Sem.run_pure, γ, γL, he, hok, z1]; done)
                    | (simp [run_underlying hk, Result.andThen_ok, Sem.run_bind, Sem.run_pure, γ, γL, he, hok, z1]; done))
            · cases hz
        · split at hz
          · rename_i hok
            obtain ⟨y, hy, rfl⟩ := Option.map_eq_some_iff.1 hz
            obtain ⟨z1, z2⟩ := hzero hy
            refine ⟨?_, by simp [sc, scL, z2]⟩
            cases hi : i.k <;> rw [hi] at hk hn <;> simp only [KOk] at hk
            all_goals first
              | (cases hn; done)
              | (simp only [Instr.typeAssert, Sem.run_bind]
                 first
                  | (obtain ⟨_, _, _, hk⟩ := hk; simp [run_underlying hk, Result.andThen_ok, Sem.run_bind, Sem.run_pure, γ, γL, hok, z1]; done)
                  | (obtain ⟨_, hk, _⟩ := hk; simp [run_underlying hk, Result.andThen_ok, Sem.run_bind, Sem.run_pure, γ, γL, hok, z1]; done)
                  | (simp [run_underlying hk, Result.andThen_ok, Sem.run_bind, Sem.run_pure, γ, γL, hok, z1]; done))
          · cases hz
        · cases hz
    · cases hx
  case panic x =>
    split at hx
    · rename_i t v hv
      cases hx
      obtain ⟨e1, e2⟩ := E hv
      have hK := K ρ w (Post.refl h) e2
      have hr : (execOp a.eval ⟨dst, .panic x, type, pos, after, guard⟩).run P w = .halt (.panic (γ ρ (.iface t v))) w := by
        simp only [execOp, e1, γ, Instr.panic]; rfl
      unfold Oper.wp
      rw [hr]
      exact hK
    · cases hx
  case defer c =>
    obtain ⟨callee, args, argTypes⟩ := c
    cases callee with
    | invoke r m => simp only [] at hx; cases hx
    | builtin b => simp only [] at hx; cases hx
    | value f =>
      simp only [] at hx
      split at hx
      · rename_i g fs cs vs hg hvs
        split at hx
        · cases hx
        rename_i hgm
        cases hx
        obtain ⟨e1, e2⟩ := evL_γ hf hs hvs
        have e3 : args.map a.eval = (γL ρ vs).toArray := by apply Array.ext'; rw [Array.toList_map, e1]
        obtain ⟨q1, q2⟩ := E hg
        simp only [sc, Bool.and_eq_true] at q2
        have hK := K ρ w (Post.refl h) q2.2 (scL_append.2 ⟨q2.1, e2⟩)
        have hr : (execOp a.eval ⟨dst, .defer ⟨.value f, args, argTypes⟩, type, pos, after, guard⟩).run P w = .ok (.defer (γD ρ ⟨g, cs, fs ++ vs⟩)) w := by
          have e4 : (γL ρ fs).toArray ++ (γL ρ vs).toArray = (γL ρ (fs ++ vs)).toArray := by
            apply Array.ext'; simp [γL_append]
          simp only [execOp, resolve, e3, q1, γ, Deferred.ofValue, Sem.run_bind, Sem.run_pure, Result.andThen_ok, γD, dOf, if_neg hgm, e4]
        unfold Oper.wp
        rw [hr]
        exact hK
      · cases hx
  case call c =>
    obtain ⟨callee, args, argTypes⟩ := c
    cases callee with
    | invoke r m => simp only [] at hx; cases hx
    | builtin b =>
      simp only [] at hx
      split at hx
      · rename_i vs hvs
        obtain ⟨e1, e2⟩ := evL_γ hf hs hvs
        have e3 : args.map a.eval = (γL ρ vs).toArray := by apply Array.ext'; rw [Array.toList_map, e1]
        unfold builtinA at hx
        split at hx
        · rename_i t ts x xs hts
          refine pure1 hx fun z hz => ?_
          obtain ⟨r1, r2⟩ := len_run h hT hz argTypes (γL ρ (x :: xs)).toArray (by rw [← Array.getElem?_toList, hts]; rfl) (by simp [γL]) type
          refine ⟨?_, r2⟩
          simp only [execOp, resolve, e3, Sem.run_bind, Sem.run_pure, Result.andThen_ok, invoke, builtin, r1]
        · rename_i t u s x hts
          split at hx
          · rename_i e _ _ _ _ _ hu
            cases hb : appendA T σ t s x with
            | none => rw [hb] at hx; cases hx
            | some q =>
              obtain ⟨v, σ1⟩ := q
              rw [hb] at hx; cases hx
              simp only [scL, Bool.and_eq_true] at e2
              obtain ⟨ρ', w', r1, r2, r3⟩ := append_run (P := P) h hT hu rfl e2.1 hb type
              refine wp_val (v := v) (ρ' := ρ') (w' := w') ?_ (K _ _ r2 r3)
              have e4 : argTypes = #[t, u] := by apply Array.ext'; rw [hts]
              simp only [execOp, resolve, e3, Sem.run_bind, Sem.run_pure, Result.andThen_ok, invoke, builtin, e4, γL]
              rw [r1]; rfl
          · cases hx
        · rename_i t ts x k hts
          cases hb : mapDelA T σ t x k with
          | none => rw [hb] at hx; cases hx
          | some σ1 =>
            rw [hb] at hx; cases hx
            obtain ⟨w', r1, r2, r3⟩ := mapDel_run (P := P) h hT (ts := argTypes) (by rw [← Array.getElem?_toList, hts]; rfl) type hb
            refine wp_val (v := .tup []) (ρ' := ρ) (w' := w') ?_ (K _ _ ⟨r2, fun _ _ => rfl, by omega⟩ (by simp [sc, scL]))
            simp only [execOp, resolve, e3, Sem.run_bind, Sem.run_pure, Result.andThen_ok, invoke, builtin, γL]
            rw [r1]; rfl
        · refine pure1 hx fun z hz => ?_
          unfold minmaxA at hz
          split at hz
          · rename_i x r
            simp only [scL, Bool.and_eq_true] at e2
            obtain ⟨r1, r2⟩ := mm_run (P := P) (ρ := ρ) (w := w) true hz e2.1
            refine ⟨?_, r2⟩
            simp only [if_true] at r1
            simp only [execOp, resolve, e3, Sem.run_bind, Sem.run_pure, Result.andThen_ok, invoke, builtin, Builtin.max_, γL, r1]
          · cases hz
        · refine pure1 hx fun z hz => ?_
          unfold minmaxA at hz
          split at hz
          · rename_i x r
            simp only [scL, Bool.and_eq_true] at e2
            obtain ⟨r1, r2⟩ := mm_run (P := P) (ρ := ρ) (w := w) false hz e2.1
            refine ⟨?_, r2⟩
            simp only [Bool.false_eq_true, if_false] at r1
            simp only [execOp, resolve, e3, Sem.run_bind, Sem.run_pure, Result.andThen_ok, invoke, builtin, Builtin.min_, γL, r1]
          · cases hz
        · cases hx
      · cases hx
    | value f =>
      simp only [] at hx
      split at hx
      · rename_i g vs hg hvs
        obtain ⟨e1, e2⟩ := evL_γ hf hs hvs
        have e3 : args.map a.eval = (γL ρ vs).toArray := by apply Array.ext'; rw [Array.toList_map, e1]
        cases hd : dynRd f argTypes.toList with
        | true =>
          rw [hd] at hx
          obtain ⟨rfl, v, rfl, hy, hv0, hg0, hvs0⟩ := dynR_true hx
          unfold callA at hy
          split at hy
          · rename_i g fs cs
            obtain ⟨q1, q2⟩ := E hg
            simp only [sc, Bool.and_eq_true] at hg0
            have hargs : scL 0 (fs ++ vs ++ cs) = true := scL_append.2 ⟨scL_append.2 ⟨hg0.1, hvs0⟩, hg0.2⟩
            have e4 : (γL ρ fs).toArray ++ (γL ρ vs).toArray ++ (γL ρ cs).toArray = (γL ρ (fs ++ vs ++ cs)).toArray := by
              apply Array.ext'; simp [γL_append]
            split at hy
            · rename_i v1 σ1 hh
              cases hy
              rcases hH _ _ _ _ _ hh with ⟨hfn, hc⟩ | ⟨v', e5, e6, e7, e8⟩
              · unfold Oper.wp
                rw [show (execOp a.eval ⟨dst, .call ⟨.value f, args, argTypes⟩, type, pos, after, guard⟩).run P w = .ok (.enter g (γL ρ (fs ++ vs ++ cs)).toArray) w by
                  simp only [execOp, resolve, e3, q1, γ, Deferred.ofValue, Sem.run_bind, Sem.run_pure, Result.andThen_ok, invoke, e4, callFunc_enter hfn]]
                refine ((hc.none hargs hv0 σ') w0 ρ w h (scL_mono (Nat.zero_le _) _ hargs)).mono ?_
                rintro e w' ⟨ρ', rfl, hp, hv⟩
                exact K ρ' w' hp hv
              · cases e5
                refine wp_val (v := v) (ρ' := ρ) (w' := w) ?_ (K _ _ (Post.refl h) (sc_mono (Nat.zero_le _) v e7))
                simp only [execOp, resolve, e3, q1, γ, Deferred.ofValue, Sem.run_bind, Sem.run_pure, Result.andThen_ok, invoke, e4, e8 ρ w]
            · cases hy
            · cases hy
          · cases hy
        | false =>
          rw [hd] at hx
          simp only [dynR, cond_false] at hx
          unfold callA at hx
          split at hx
          · rename_i g fs cs
            obtain ⟨q1, q2⟩ := E hg
            simp only [sc, Bool.and_eq_true] at q2
            have hargs : scL σ.next (fs ++ vs ++ cs) = true := scL_append.2 ⟨scL_append.2 ⟨q2.1, e2⟩, q2.2⟩
            have hrun : ∀ (hfn : IsFn P g), (execOp a.eval ⟨dst, .call ⟨.value f, args, argTypes⟩, type, pos, after, guard⟩).run P w = .ok (.enter g (γL ρ (fs ++ vs ++ cs)).toArray) w := by
              intro hfn
              have e4 : (γL ρ fs).toArray ++ (γL ρ vs).toArray ++ (γL ρ cs).toArray = (γL ρ (fs ++ vs ++ cs)).toArray := by
                apply Array.ext'; simp [γL_append]
              simp only [execOp, resolve, e3, q1, γ, Deferred.ofValue, Sem.run_bind, Sem.run_pure, Result.andThen_ok, invoke, e4, callFunc_enter hfn]
            split at hx
            · rename_i v σ1 hh
              cases hx
              rcases hH _ _ _ _ _ hh with ⟨hfn, hc⟩ | ⟨v', e5, e6, e7, e8⟩
              · unfold Oper.wp
                rw [hrun hfn]
                refine (hc w0 ρ w h hargs).mono ?_
                rintro e w' ⟨ρ', rfl, hp, hv⟩
                exact K ρ' w' hp hv
              · cases e5
                subst e6
                refine wp_val (v := v) (ρ' := ρ) (w' := w) ?_ (K _ _ (Post.refl h) (sc_mono (Nat.zero_le _) v e7))
                have e4 : (γL ρ fs).toArray ++ (γL ρ vs).toArray ++ (γL ρ cs).toArray = (γL ρ (fs ++ vs ++ cs)).toArray := by
                  apply Array.ext'; simp [γL_append]
                simp only [execOp, resolve, e3, q1, γ, Deferred.ofValue, Sem.run_bind, Sem.run_pure, Result.andThen_ok, invoke, e4, e8 ρ w]
            · rename_i v σ1 hh
              cases hx
              rcases hH _ _ _ _ _ hh with ⟨hfn, hc⟩ | ⟨v', e5, e6, e7, e8⟩
              · unfold Oper.wp
                rw [hrun hfn]
                refine (hc w0 ρ w h hargs).mono ?_
                rintro e w' ⟨ρ', rfl, hp, hv⟩
                exact K ρ' w' hp hv
              · cases e5
            · cases hx
          · cases hx
      · cases hx
  all_goals cases hx
end
end Go.Ev

