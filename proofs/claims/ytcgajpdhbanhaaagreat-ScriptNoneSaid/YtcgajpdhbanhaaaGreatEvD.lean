import Derived.Test.YtcgajpdhbanhaaaGreatEvC
import Derived.Laws.Strings
namespace Go.Ev
set_option linter.unusedVariables false
set_option linter.unusedSimpArgs false
theorem ofV_γ {x : Value} {v : AVal} (h : ofV x = some v) (ρ : Nat → Loc) (n : Nat) : γ ρ v = x ∧ sc n v = true := by
  unfold ofV at h
  split at h <;> first | (cases h; exact ⟨by simp [γ], by simp [sc]⟩) | cases h
section
variable {a : Act} {ρ : Nat → Loc} {tm : List AVal} {n : Nat}
theorem ev_γ (hf : a.tmps = (γL ρ tm).toArray) (hs : scL n tm = true) {x : Operand} {v : AVal} (h : ev tm x = some v) : a.eval x = γ ρ v ∧ sc n v = true := by
  cases x with
  | tmp t =>
    simp only [ev, Option.some.injEq] at h
    subst h
    refine ⟨?_, scL_getD hs⟩
    simp only [Act.eval, hf]
    rw [Array.getD_eq_getD_getElem?, List.getElem?_toArray, γL_get, List.getD_eq_getElem?_getD]
    cases tm[t]? <;> simp [γ, γL, undef]
  | const x => exact ⟨(ofV_γ h ρ n).1.symm ▸ rfl, (ofV_γ h ρ n).2⟩
  | global g => simp [ev] at h
  | func f => simp only [ev, Option.some.injEq] at h; subst h; exact ⟨by simp [Act.eval, γ, γL], by simp [sc, scL]⟩
theorem evL_γ (hf : a.tmps = (γL ρ tm).toArray) (hs : scL n tm = true) : ∀ {xs : List Operand} {vs : List AVal}, evL tm xs = some vs → xs.map a.eval = γL ρ vs ∧ scL n vs = true
  | [], vs, h => by simp only [evL, Option.some.injEq] at h; subst h; exact ⟨rfl, rfl⟩
  | x :: xs, vs, h => by
    simp only [evL] at h
    split at h
    · rename_i v us hv hu
      cases h
      obtain ⟨h1, h2⟩ := ev_γ hf hs hv
      obtain ⟨h3, h4⟩ := evL_γ hf hs hu
      exact ⟨by simp [h1, h3, γL], by simp [scL, h2, h4]⟩
    · cases h
theorem evP_γ (hf : a.tmps = (γL ρ tm).toArray) (hs : scL n tm = true) : ∀ {xs : List (Nat × Operand)} {vs : List (Nat × AVal)}, evP tm xs = some vs →
    (xs.map fun x => (x.1, a.eval x.2)) = (vs.map fun x => (x.1, γ ρ x.2)) ∧ ∀ x ∈ vs, sc n x.2 = true
  | [], vs, h => by simp only [evP, Option.some.injEq] at h; subst h; exact ⟨rfl, by simp⟩
  | (i, x) :: xs, vs, h => by
    simp only [evP] at h
    split at h
    · rename_i v us hv hu
      cases h
      obtain ⟨h1, h2⟩ := ev_γ hf hs hv
      obtain ⟨h3, h4⟩ := evP_γ hf hs hu
      exact ⟨by simp [h1, h3], by simpa [h2] using h4⟩
    · cases h
end
section
variable {P : Program} {T : TTab} {ρ : Nat → Loc} {n : Nat} (w : World)
theorem intOp_run {op : BinOp} {k : IntKind} {x y : Int} {v : AVal} {t : TypeId} (h : intOp op k x y = some v) :
    (binOp op t (.int k x) (.int k y)).run P w = .ok (γ ρ v) w ∧ sc n v = true := by
  cases op <;> simp only [intOp] at h <;> first
    | (cases h; exact ⟨by simp [binOp, Op.intArith, Op.intBits, Op.intCmp, γ], by simp [sc]⟩)
    | (split at h
       · cases h
       · rename_i hy
         cases h
         exact ⟨by simp [binOp, Op.intDiv, hy, γ], by simp [sc]⟩)
    | cases h
theorem shiftOp_run {op : BinOp} {k l : IntKind} {x y : Int} {v : AVal} {t : TypeId} (h : shiftOp op k x y = some v) :
    (binOp op t (.int k x) (.int l y)).run P w = .ok (γ ρ v) w ∧ sc n v = true := by
  unfold shiftOp at h
  split at h
  · cases h
  · rename_i hy
    split at h
    · cases h; exact ⟨by simp [binOp, Op.shift, hy, γ], by simp [sc]⟩
    · cases h; exact ⟨by simp [binOp, Op.shift, hy, γ], by simp [sc]⟩
    · cases h
theorem eql_of {t : TypeId} {x y : Value} {r : Bool} (xo yo : Operand) (hb : binOp .eql t x y = (do pure (.bool (← Op.equal t x y))))
    (hn : binOp .neq t x y = (do pure (.bool (!(← Op.equal t x y))))) (hg : ∀ op, (eqGuard op t xo yo x y).run P w = .ok () w)
    (he : (Op.equal t x y).run P w = .ok r w) :
    (do eqGuard .eql t xo yo x y; binOp .eql t x y).run P w = .ok (.bool r) w ∧
    (do eqGuard .neq t xo yo x y; binOp .neq t x y).run P w = .ok (.bool !r) w := by
  rw [hb, hn]
  simp only [Sem.run_bind, hg, Result.andThen_ok, he, Sem.run_pure, and_self]
theorem guard_plain {op : BinOp} {t : TypeId} {xo yo : Operand} {x y : Value} (h1 : ∀ cs, x ≠ .agg cs) (h2 : x ≠ .nilIface) : (eqGuard op t xo yo x y).run P w = .ok () w := by
  unfold eqGuard
  cases op <;> first
    | rfl
    | (rw [if_neg (by simp)]
       split
       · exact absurd rfl h2
       · exact absurd rfl (h1 _)
       · rfl)
theorem equal_step (t : TypeId) (x y : Value) : ∃ d, Op.equal t x y = Op.equalIn (d + 1) t x y := ⟨9999, rfl⟩
theorem equal_bool {t : TypeId} (hk : P.underlying t = some .bool) (a b : Bool) : (Op.equal t (.bool a) (.bool b)).run P w = .ok (a == b) w := by
  obtain ⟨d, h⟩ := equal_step t (.bool a) (.bool b)
  rw [h, Op.equalIn]; simp only [Sem.run_bind, run_underlying hk, Result.andThen_ok, Sem.run_pure]
theorem equal_slice {t e : TypeId} (hk : P.underlying t = some (.slice e)) (a b : Option Addr) (l c l' c' : Nat) (h0 : a = none ∨ b = none) :
    (Op.equal t (.slice a l c) (.slice b l' c')).run P w = .ok (a.isNone && b.isNone) w := by
  obtain ⟨d, h⟩ := equal_step t (.slice a l c) (.slice b l' c')
  rw [h, Op.equalIn]
  cases a with
  | none => simp only [Sem.run_bind, run_underlying hk, Result.andThen_ok, Sem.run_pure, Option.isNone_none, Bool.true_and]
  | some a =>
    cases b with
    | none => simp only [Sem.run_bind, run_underlying hk, Result.andThen_ok, Sem.run_pure, Option.isNone_none, Option.isNone_some, Bool.false_and]
    | some b => simp at h0
theorem equal_ptr {t e : TypeId} (hk : P.underlying t = some (.pointer e)) (a b : Option Addr) (h0 : a = none ∨ b = none) :
    (Op.equal t (.pointer a) (.pointer b)).run P w = .ok (a.isNone && b.isNone) w := by
  obtain ⟨d, h⟩ := equal_step t (.pointer a) (.pointer b)
  rw [h, Op.equalIn]
  cases a with
  | none => simp only [Sem.run_bind, run_underlying hk, Result.andThen_ok, Sem.run_pure, Option.isNone_none, Bool.true_and]
  | some a =>
    cases b with
    | none => simp only [Sem.run_bind, run_underlying hk, Result.andThen_ok, Sem.run_pure, Option.isNone_none, Option.isNone_some, Bool.false_and]
    | some b => simp at h0
theorem equal_map {t k e : TypeId} (hk : P.underlying t = some (.map k e)) (a b : Option Nat) (h0 : a = none ∨ b = none) :
    (Op.equal t (.map a) (.map b)).run P w = .ok (a.isNone && b.isNone) w := by
  obtain ⟨d, h⟩ := equal_step t (.map a) (.map b)
  rw [h, Op.equalIn]
  cases a with
  | none => simp only [Sem.run_bind, run_underlying hk, Result.andThen_ok, Sem.run_pure, Option.isNone_none, Bool.true_and]
  | some a =>
    cases b with
    | none => simp only [Sem.run_bind, run_underlying hk, Result.andThen_ok, Sem.run_pure, Option.isNone_none, Option.isNone_some, Bool.false_and]
    | some b => simp at h0
theorem equal_func {t : TypeId} {p q : Array TypeId} {va : Bool} (hk : P.underlying t = some (.func p q va)) (fn : Fn) (fs cs : Array Value) :
    (Op.equal t .nilFunc .nilFunc).run P w = .ok true w ∧ (Op.equal t .nilFunc (.func fn fs cs)).run P w = .ok false w ∧ (Op.equal t (.func fn fs cs) .nilFunc).run P w = .ok false w := by
  refine ⟨?_, ?_, ?_⟩
  · obtain ⟨d, h⟩ := equal_step t .nilFunc .nilFunc
    rw [h, Op.equalIn]; simp only [Sem.run_bind, run_underlying hk, Result.andThen_ok, Sem.run_pure]
  · obtain ⟨d, h⟩ := equal_step t .nilFunc (.func fn fs cs)
    rw [h, Op.equalIn]; simp only [Sem.run_bind, run_underlying hk, Result.andThen_ok, Sem.run_pure]
  · obtain ⟨d, h⟩ := equal_step t (.func fn fs cs) .nilFunc
    rw [h, Op.equalIn]; simp only [Sem.run_bind, run_underlying hk, Result.andThen_ok, Sem.run_pure]
theorem equal_iface {t : TypeId} {ms : _} (hk : P.underlying t = some (.interface ms)) (u : TypeId) (v : Value) :
    (Op.equal t .nilIface .nilIface).run P w = .ok true w ∧ (Op.equal t .nilIface (.iface u v)).run P w = .ok false w ∧ (Op.equal t (.iface u v) .nilIface).run P w = .ok false w := by
  refine ⟨?_, ?_, ?_⟩
  · obtain ⟨d, h⟩ := equal_step t .nilIface .nilIface
    rw [h, Op.equalIn]; simp only [Sem.run_bind, run_underlying hk, Result.andThen_ok, Sem.run_pure]
  · obtain ⟨d, h⟩ := equal_step t .nilIface (.iface u v)
    rw [h, Op.equalIn]; simp only [Sem.run_bind, run_underlying hk, Result.andThen_ok, Sem.run_pure]
  · obtain ⟨d, h⟩ := equal_step t (.iface u v) .nilIface
    rw [h, Op.equalIn]; simp only [Sem.run_bind, run_underlying hk, Result.andThen_ok, Sem.run_pure]
theorem guard_nil {op : BinOp} {t : TypeId} {xo yo : Operand} (h : (isCst xo || isCst yo) = true) : (eqGuard op t xo yo .nilIface .nilIface).run P w = .ok () w := by
  unfold eqGuard
  cases op <;> first
    | rfl
    | (rw [if_neg (by simp)]
       simp only
       rw [if_pos ?_]
       · rfl
       · cases xo <;> cases yo <;> simp_all [isCst])
theorem guard_nil1 {op : BinOp} {t : TypeId} {xo yo : Operand} (u : TypeId) (v : Value) : (eqGuard op t xo yo .nilIface (.iface u v)).run P w = .ok () w := by
  unfold eqGuard
  cases op <;> rfl
theorem eqOp_run (hT : TabOk P T) {c : Bool} {t : TypeId} {x y : AVal} {r : Bool} (h : eqOp T c t x y = some r) (xo yo : Operand) (hc : c = true → (isCst xo || isCst yo) = true) :
    (do eqGuard .eql t xo yo (γ ρ x) (γ ρ y); binOp .eql t (γ ρ x) (γ ρ y)).run P w = .ok (.bool r) w ∧
    (do eqGuard .neq t xo yo (γ ρ x) (γ ρ y); binOp .neq t (γ ρ x) (γ ρ y)).run P w = .ok (.bool !r) w := by
  unfold eqOp at h
  split at h
  · cases h
  · rename_i i ht
    have hti := hT t i ht
    have hk := hti.k
    have fl : ∀ (xs ys : List AVal), (i.flat.bind fun ks => eqCells ks xs ys) = some r →
        (do eqGuard .eql t xo yo (γ ρ (.agg xs)) (γ ρ (.agg ys)); binOp .eql t (γ ρ (.agg xs)) (γ ρ (.agg ys))).run P w = .ok (.bool r) w ∧
        (do eqGuard .neq t xo yo (γ ρ (.agg xs)) (γ ρ (.agg ys)); binOp .neq t (γ ρ (.agg xs)) (γ ρ (.agg ys))).run P w = .ok (.bool !r) w := by
      intro xs ys h
      cases hfl : i.flat with
      | none => rw [hfl] at h; cases h
      | some ks =>
        rw [hfl] at h
        obtain ⟨h1, h2⟩ := hti.flat ks hfl
        obtain ⟨h3, _⟩ := h2 ρ w _ _ _ h
        refine eql_of w xo yo rfl rfl (fun op => ?_) (by simpa only [γ] using h3)
        simp only [γ]
        unfold eqGuard
        cases op <;> first
          | rfl
          | (rw [if_neg (by simp)]; simp only [Sem.run_bind, Result.andThen_ok, run_program, h1, Bool.not_false, if_true, Sem.run_pure])
    split at h <;> first
      | exact fl _ _ h
      | cases h
      | skip
    all_goals (rename_i hik; rw [hik] at hk; simp only [KOk] at hk; simp only [γ])
    · exact eql_of w xo yo rfl rfl (fun _ => guard_plain w (by simp) (by simp)) (equal_bool w hk _ _)
    · exact eql_of w xo yo rfl rfl (fun _ => guard_plain w (by simp) (by simp)) (equal_slice w hk _ _ _ _ _ _ (.inl rfl))
    · exact eql_of w xo yo rfl rfl (fun _ => guard_plain w (by simp) (by simp)) (equal_slice w hk _ _ _ _ _ _ (.inl rfl))
    · exact eql_of w xo yo rfl rfl (fun _ => guard_plain w (by simp) (by simp)) (equal_slice w hk _ _ _ _ _ _ (.inr rfl))
    · exact eql_of w xo yo rfl rfl (fun _ => guard_plain w (by simp) (by simp)) (equal_slice w hk _ _ _ _ _ _ (.inl rfl))
    · exact eql_of w xo yo rfl rfl (fun _ => guard_plain w (by simp) (by simp)) (equal_slice w hk _ _ _ _ _ _ (.inr rfl))
    · exact eql_of w xo yo rfl rfl (fun _ => guard_plain w (by simp) (by simp)) (equal_ptr w hk _ _ (.inl rfl))
    · exact eql_of w xo yo rfl rfl (fun _ => guard_plain w (by simp) (by simp)) (equal_ptr w hk _ _ (.inl rfl))
    · exact eql_of w xo yo rfl rfl (fun _ => guard_plain w (by simp) (by simp)) (equal_ptr w hk _ _ (.inr rfl))
    · exact eql_of w xo yo rfl rfl (fun _ => guard_plain w (by simp) (by simp)) (equal_map w hk _ _ (.inl rfl))
    · exact eql_of w xo yo rfl rfl (fun _ => guard_plain w (by simp) (by simp)) (equal_map w hk _ _ (.inl rfl))
    · exact eql_of w xo yo rfl rfl (fun _ => guard_plain w (by simp) (by simp)) (equal_map w hk _ _ (.inr rfl))
    · obtain ⟨a, b, c, hk⟩ := hk
      exact eql_of w xo yo rfl rfl (fun _ => guard_plain w (by simp) (by simp)) (equal_func w hk (.func 0) #[] #[]).1
    · obtain ⟨a, b, c, hk⟩ := hk
      exact eql_of w xo yo rfl rfl (fun _ => guard_plain w (by simp) (by simp)) (equal_func w hk _ _ _).2.1
    · obtain ⟨a, b, c, hk⟩ := hk
      exact eql_of w xo yo rfl rfl (fun _ => guard_plain w (by simp) (by simp)) (equal_func w hk _ _ _).2.2
    · split at h
      · rename_i hcc
        cases h
        obtain ⟨ms, hk⟩ := hk
        exact eql_of w xo yo rfl rfl (fun _ => guard_nil w (hc hcc)) (equal_iface w hk 0 .nilIface).1
      · cases h
    · obtain ⟨ms, hk⟩ := hk
      exact eql_of w xo yo rfl rfl (fun _ => guard_nil1 w _ _) (equal_iface w hk _ _).2.1
    · obtain ⟨ms, hk⟩ := hk
      exact eql_of w xo yo rfl rfl (fun _ => guard_plain w (by simp) (by simp)) (equal_iface w hk _ _).2.2
theorem binA_run (hT : TabOk P T) {c : Bool} {op : BinOp} {t : TypeId} {x y v : AVal} (h : binA T c op t x y = some v) (xo yo : Operand) (hc : c = true → (isCst xo || isCst yo) = true) :
    (do eqGuard op t xo yo (γ ρ x) (γ ρ y); binOp op t (γ ρ x) (γ ρ y)).run P w = .ok (γ ρ v) w ∧ sc n v = true := by
  unfold binA at h
  split at h
  · rename_i k a l b
    have hg : (eqGuard op t xo yo (γ ρ (.int k a)) (γ ρ (.int l b))).run P w = .ok () w := guard_plain w (by simp [γ]) (by simp [γ])
    simp only [Sem.run_bind, hg, Result.andThen_ok]
    simp only [γ]
    split at h
    · exact shiftOp_run w h
    · exact shiftOp_run w h
    · split at h
      · rename_i hkl; subst hkl; exact intOp_run w h
      · cases h
  · rename_i a b
    have hg : (eqGuard op t xo yo (γ ρ (.str a)) (γ ρ (.str b))).run P w = .ok () w := guard_plain w (by simp [γ]) (by simp [γ])
    simp only [Sem.run_bind, hg, Result.andThen_ok]
    simp only [γ]
    split at h
    · cases h; exact ⟨by simp [binOp, Op.stringOp, γ, ByteArray.toList_eq], by simp [sc]⟩
    · cases h; exact ⟨by simp [binOp, Op.stringOp, γ, ByteArray.toList_eq], by simp [sc]⟩
    · cases h
  · split at h
    · cases he : eqOp T c t x y with
      | none => rw [he] at h; cases h
      | some r => rw [he] at h; cases h; exact ⟨by simpa only [γ] using (eqOp_run w hT he xo yo hc).1, by simp [sc]⟩
    · cases he : eqOp T c t x y with
      | none => rw [he] at h; cases h
      | some r => rw [he] at h; cases h; exact ⟨by simpa only [γ] using (eqOp_run w hT he xo yo hc).2, by simp [sc]⟩
    · cases h
theorem unA_run {op : UnOp} {x v : AVal} (h : unA op x = some v) : (Op.unary op (γ ρ x)).run P w = .ok (γ ρ v) w ∧ sc n v = true := by
  unfold unA at h
  split at h
  · cases h; exact ⟨by simp [Op.unary, Op.intArith, γ], by simp [sc]⟩
  · simp only [intOp] at h; cases h; exact ⟨by simp [Op.unary, Op.intBits, γ], by simp [sc]⟩
  · cases h; exact ⟨by simp [Op.unary, γ], by simp [sc]⟩
  · cases h
theorem convA_run (hT : TabOk P T) {src dst : TypeId} {x v : AVal} (h : convA T src dst x = some v) :
    (convert src dst (γ ρ x)).run P w = .ok (γ ρ v) w ∧ sc n v = true := by
  unfold convA at h
  split at h
  · cases h
  rename_i hs0
  have hs : (P.underlying src).isSome = true := by
    cases hs1 : T src with
    | none => simp [hs1] at hs0
    | some i => exact (hT src i hs1).isSome
  split at h
  · rename_i k _ _ _ _ _ m hd
    cases h
    have hk := (hT _ _ hd).k
    simp only [KOk] at hk
    obtain ⟨d, hd'⟩ := Option.isSome_iff_exists.mp hs
    refine ⟨?_, by simp [sc]⟩
    simp only [γ]
    unfold convert
    simp only [Sem.run_bind, run_underlying hd', run_underlying hk, Result.andThen_ok]
    simp [Conv.intToInt]
  · cases h
end
end Go.Ev

