import Derived.Test.YtbmjabafceihgaaKad
import Derived.Recover
import Derived.Laws.Externs
set_option linter.unusedVariables false
set_option linter.unusedSimpArgs false
set_option maxRecDepth 100000
noncomputable section
namespace Go.Ev
section
variable {R : Type} {T : av} {ch : CH}
theorem ai {R S : Type} (c : Bool) (x : Option S) (k : S → Option R) : (af c x).bind k = af c (x.bind k) := by cases c <;> rfl
theorem Jn {σ : Mem} {t : TypeId} {x : ab} (k : ab → Option R) : xj T σ t x k = (xj T σ t x some).bind k := by
 unfold xj
 split <;> try rfl
 split
 ·split
  ·split
   ·rw [ai]; rfl
   ·rfl
  ·split <;> rfl
 ·split <;> rfl
 ·rfl
theorem Lj {σ : Mem} {t : TypeId} {x i : ab} (k : ab → Option R) : II T σ t x i k = (II T σ t x i some).bind k := by
 unfold II
 repeat' (split <;> try rfl)
 all_goals (rw [ai]; rfl)
theorem Lk {σ : Mem} {t : TypeId} {s x : ab} (k : ab → Mem → Option R) : IJ T σ t s x k = (IJ T σ t s x fun a b => some (a, b)).bind fun q => k q.1 q.2 := by
 unfold IJ
 split <;> try rfl
 split <;> try rfl
 split <;> try rfl
 split <;> try rfl
 rw [ai]
 congr 1
 split <;> rfl
theorem Ll {c : Bool} {o : BinOp} {t : TypeId} {x y : ab} (k : ab → Option R) : FN T c o t x y k = (FN T c o t x y some).bind k := by
 unfold FN
 split
 ·split
  ·rw [ai]; rfl
  ·rfl
 ·split
  ·rw [ai]; rfl
  ·rfl
 ·rw [ai]; rfl
 ·rw [ai]; rfl
 ·split <;> rfl
theorem EG {σ : Mem} {t : TypeId} {x k v : ab} (K : Mem → Option R) : Du T σ t x k v K = (Du T σ t x k v some).bind K := rfl
theorem Jo {σ : Mem} {t : TypeId} {x k : ab} {ok : Bool} (K : ab → Option R) : Ka T σ t x k ok K = (Ka T σ t x k ok some).bind K := rfl
theorem Jp {σ : Mem} {t : TypeId} {n : Int} (k : ab → Mem → Option R) : Ds T σ t n k = (Ds T σ t n fun v σ' => some (v, σ')).bind fun x => k x.1 x.2 := by
 unfold Ds
 split
 ·split
  ·rfl
  ·rw [ai]; rfl
 ·rfl
theorem Jq {σ : Mem} {c n : Bool} {o : BinOp} {t : TypeId} {x y : ab} (k : ab → Option R) : Dt T σ c n o t x y k = (Dt T σ c n o t x y fun v => some v).bind k := by
 unfold Dt
 cases n with
 | false => simp only [cond_false]; exact Ll k
 | true =>
  simp only [cond_true]
  split
  ·rw [ai]; rfl
  ·exact Ll k
theorem Ho {σ : Mem} {t : TypeId} {x v : ab} (k : Mem → Option R) : zc T σ t x v k = (zc T σ t x v some).bind k := by
 unfold zc
 split <;> try rfl
 split
 ·split
  ·rw [ai]; rfl
  ·rfl
 ·split <;> rfl
 ·rfl
theorem Mq {t : TypeId} {x i : ab} (k : ab → Option R) : ixK T t x i k = (ixK T t x i some).bind k := by
 unfold ixK
 split
 ·rw [ai]; rfl
 ·split
  ·split
   ·split
    ·rw [ai]; rfl
    ·rfl
   ·split <;> rfl
  ·rfl
 ·split <;> rfl
theorem Mr {op : Op} {tm : LA_} {σ : Mem} (k : cP → Mem → Ow → Option R) : opK T ch op tm σ k = (opK T ch op tm σ fun a b c => some (a, b, c)).bind fun x => k x.1 x.2.1 x.2.2 := by
 unfold opK
 split
 ·split
  ·rename_i g fs cs vs _ _
   generalize ot _ _ = b
   cases b with
   | false =>
    simp only [cond_false]
    conv => lhs; rw [ch.nat]
    conv => rhs; rw [ch.nat, Option.bind_assoc]
    congr 1
    funext q
    obtain ⟨r, σ', o⟩ := q
    cases r <;> rfl
   | true =>
    simp only [cond_true]
    generalize (sc 0 (.func g fs cs) && scL 0 vs) = c
    cases c with
    | false => rfl
    | true =>
     simp only [cond_true]
     conv => lhs; rw [ch.nat]
     conv => rhs; rw [ch.nat, Option.bind_assoc]
     congr 1
     funext q
     obtain ⟨r, σ', o⟩ := q
     cases r with
     | pan v => rfl
     | ret v =>
      simp only
      generalize (w9 σ' ⟨0, []⟩ && sc 0 v) = e
      cases e <;> rfl
  ·rfl
 ·split
  ·split
   ·rw [Lk, Lk (k := fun v σ' => some (cP.val v, σ', Ow.nil)), Option.bind_assoc]; rfl
   ·rfl
  ·rfl
 ·split
  ·rw [Jn, Jn (k := fun v => some (cP.val v, σ, Ow.nil)), Option.bind_assoc]; rfl
  ·rfl
 ·split
  ·rw [Lj, Lj (k := fun v => some (cP.val v, σ, Ow.nil)), Option.bind_assoc]; rfl
  ·rfl
 ·split
  ·rw [Ho, Ho (k := fun σ' => some (cP.skip, σ', Ow.nil)), Option.bind_assoc]; rfl
  ·rfl
 ·split
  ·rw [Mq, Mq (k := fun v => some (cP.val v, σ, Ow.nil)), Option.bind_assoc]; rfl
  ·rfl
 ·split
  ·rw [Jq, Jq (k := fun v => some (cP.val v, σ, Ow.nil)), Option.bind_assoc]; rfl
  ·rfl
 ·split
  ·rw [EG, EG (K := fun σ' => some (cP.skip, σ', Ow.nil)), Option.bind_assoc]; rfl
  ·rfl
 ·split
  ·rw [Jp, Jp (k := fun v σ' => some (cP.val v, σ', Ow.nil)), Option.bind_assoc]; rfl
  ·rfl
 ·split
  ·rw [Jo, Jo (K := fun v => some (cP.val v, σ, Ow.nil)), Option.bind_assoc]; rfl
  ·rfl
 ·split <;> rfl
inductive No where
 | v (v : ab) (σ : Mem) (o : Ow)
 | p (v : ab) (σ : Mem) (o : Ow)
 | d (d : l9) (σ : Mem) (o : Ow)
theorem xl {all : List Oper} {o : Oper} {s : St} (k kp : ab → Mem → Ow → Option R) (kd : l9 → Mem → Ow → Option R) :
  ck T ch all o s k kp kd = (ck T ch all o s (fun v σ w => some (No.v v σ w)) (fun v σ w => some (No.p v σ w)) (fun d σ w => some (No.d d σ w))).bind fun q => match q with
   | .v v σ w => k v σ w
   | .p v σ w => kp v σ w
   | .d d σ w => kd d σ w := by
 unfold ck
 split
 ·rfl
 ·split
  ·conv => lhs; rw [Mr]
   conv => rhs; rw [Mr, Option.bind_assoc]
   congr 1
   funext q
   obtain ⟨r, σ', ow⟩ := q
   cases r <;> simp only [Ji, Option.bind_some]
  ·rfl
inductive Np where
 | k (s : St) (o : Ow)
 | p (v : ab) (s : St) (o : Ow)
theorem AV {all : List Oper} : ∀ {l : List Oper} {s : St} {ow : Ow} (k : St → Ow → Option R) (kp : ab → St → Ow → Option R),
  runK T ch all l s ow k kp = (runK T ch all l s ow (fun s o => some (Np.k s o)) (fun v s o => some (Np.p v s o))).bind fun q => match q with
   | .k s o => k s o
   | .p v s o => kp v s o
 | [], s, ow, k, kp => rfl
 | o :: l, s, ow, k, kp => by
  simp only [runK]
  conv => lhs; rw [xl]
  conv => rhs; rw [xl, Option.bind_assoc]
  congr 1
  funext q
  cases q with
  | v v σ w => exact AV k kp
  | p v σ w => rfl
  | d v σ w => exact AV k kp
inductive TrR where
 | k (l : List (St × ab)) (s : St) (o : Ow)
 | p (l : List (St × ab)) (s : St) (v : ab) (σ : Mem) (o : Ow)
theorem Dx {all : List Oper} : ∀ {R : Type} {l : List Oper} {s : St} {ow : Ow} (k : List (St × ab) → St → Ow → Option R) (kp : List (St × ab) → St → ab → Mem → Ow → Option R),
  trK T ch all l s ow k kp = (trK T ch all l s ow (fun a b c => some (TrR.k a b c)) (fun a b v σ c => some (TrR.p a b v σ c))).bind fun q => match q with
   | .k a b c => k a b c
   | .p a b v σ c => kp a b v σ c
 | _, [], s, ow, k, kp => rfl
 | _, o :: l, s, ow, k, kp => by
  simp only [trK]
  conv => lhs; rw [xl]
  conv => rhs; rw [xl, Option.bind_assoc]
  congr 1
  funext q
  cases q with
  | v v σ w =>
   simp only
   conv => lhs; rw [Dx]
   conv => rhs; rw [Dx, Option.bind_assoc]
   congr 1
   funext q
   cases q <;> rfl
  | p v σ w => rfl
  | d v σ w => rfl
theorem Jr {all : List Oper} {s : St} {ow : Ow} (k : St → Ow → Option R) (kp : ab → St → Ow → Option R) :
  AG T ch all s ow k kp = (AG T ch all s ow (fun s o => some (Np.k s o)) (fun v s o => some (Np.p v s o))).bind fun q => match q with
   | .k s o => k s o
   | .p v s o => kp v s o := by
 unfold AG
 conv => lhs; rw [Dx]
 conv => rhs; rw [Dx, Option.bind_assoc]
 congr 1
 funext q
 cases q with
 | k a b c => simp only; rw [ai]; rfl
 | p a b v σ c => simp only; rw [ai]; rfl
theorem jV {A : qJ} : ∀ (n : Nat) {R : Type} (c : Code) (s : St) (ow : Ow) (K : an → St → Ow → Option R),
  bh T ch A n c s ow K = (bh T ch A n c s ow fun o s' w => some (o, s', w)).bind fun q => K q.1 q.2.1 q.2.2 := by
 intro n
 induction n with
 | zero => intro R c s ow K; rfl
 | succ n ih =>
  intro R c s ow K
  cases c with
  | region id ops d =>
   cases d with
   | false =>
    simp only [bh]
    conv => lhs; rw [AV]
    conv => rhs; rw [AV, Option.bind_assoc]
    congr 1
    funext q
    cases q <;> rfl
   | true =>
    simp only [bh]
    conv => lhs; rw [Jr]
    conv => rhs; rw [Jr, Option.bind_assoc]
    congr 1
    funext q
    cases q <;> rfl
  | seq a b =>
   simp only [bh]
   conv => lhs; rw [ih a]
   conv => rhs; rw [ih a, Option.bind_assoc]
   congr 1
   funext q
   obtain ⟨o, s', w⟩ := q
   cases o <;> first | rfl | exact ih b s' w K
  | cond c a b =>
   simp only [bh]
   split
   ·exact ih a s ow K
   ·exact ih b s ow K
   ·rfl
  | block id b =>
   simp only [bh]
   conv => lhs; rw [ih b]
   conv => rhs; rw [ih b, Option.bind_assoc]
   congr 1
   funext q
   obtain ⟨o, s', w⟩ := q
   cases o <;> try rfl
   simp only
   split <;> simp_all
  | loop b =>
   simp only [bh]
   split
   ·rename_i la _
    rw [la.nat, la.nat (k := fun o s' => some (o, s', ow)), Option.bind_assoc]; rfl
   ·conv => lhs; rw [ih b]
    conv => rhs; rw [ih b, Option.bind_assoc]
    congr 1
    funext q
    obtain ⟨o, s', w⟩ := q
    cases o <;> first | rfl | exact ih (.loop b) s' w K
  | scope b =>
   simp only [bh]
   conv => lhs; rw [ih b]
   conv => rhs; rw [ih b, Option.bind_assoc]
   congr 1
   funext q
   obtain ⟨o, s', w⟩ := q
   cases o <;> rfl
  | _ => rfl
end
theorem Cov.trans {n : Nat} {a b c : St} (h : Cov n a b) (k : Cov n b c) : Cov n a c := by
 refine ⟨k.1, fun w0 ρ x w hr => ?_⟩
 obtain ⟨ρ1, h1, h2⟩ := h.2 w0 ρ x w hr
 obtain ⟨ρ2, k1, k2⟩ := k.2 w0 ρ1 x w h1
 exact ⟨ρ2, k1, fun i hi => (k2 i hi).trans (h2 i hi)⟩
def C1 (σ : Mem) (sz : Nat) (v : ab) : Option (ab × Mem) :=
 match v with
 | .aO => some (.vec σ.next, σ.push (.vec [] 0 sz true))
 | .emp _ => some (.vec σ.next, σ.push (.vec [] 0 sz true))
 | _ => none
def AW (σ : Mem) (sz : Nat) (tm : LA_) (t : Tmp) : LA_ × Mem :=
 match C1 σ sz (tm.getD t (.tup [])) with
 | some (v, σ') => (tm.set t v, σ')
 | none => (tm, σ)
def ze (σ : Mem) (sz : Nat) (x : ab) (o : Nat) : Mem :=
 match x with
 | .ptr b 0 => match σ.get b with
  | some (.cells cs true gr) => match C1 σ sz (cs.getD o (.tup [])) with
   | some (v, σ') => σ'.set b (.cells (cs.set o v) true gr)
   | none => σ
  | _ => σ
 | _ => σ
def kG (ρ : Nat → Loc) : ab → Loc
 | .emp i => { blk := 0, base := 0, eQ := 0, sp := some (ρ i).odd }
 | .slice b o l ex c => { blk := (ρ b).blk, base := (ρ b).base + o, eQ := 0, sp := some ⟨(ρ b).blk, (ρ b).base + o, none⟩, sl := l, sk := if ex then c else (ρ b).eQ - c }
 | .ptr b o => { blk := (ρ b).blk, base := (ρ b).base + o, eQ := 0 }
 | .vec j => ρ j
 | _ => { blk := 0, base := 0, eQ := 0 }
theorem qR {w0 : W0} {ρ : Nat → Loc} {σ : Mem} {w : World} (hr : Rel w0 ρ σ w) {x : ab} {cs : LA_} {n sz : Nat} (he : bS σ sz x = some (cs, n)) (hf : kA σ sz x = true) (hz : sz ≠ 0) (ρs : Nat → Loc) :
  γ ρ x = .slice (kG ρ x).sp (kG ρ x).sl (kG ρ x).sk ∧ BOk ρs (kG ρ x) w (.vec cs n sz false) ∧ (cs ≠ [] → (kG ρ x).blk < w.heap.size) ∧ scC 0 cs = true := by
 have hflat := oQ hr he hf
 unfold bS at he
 split at he
 ·cases he; exact ⟨rfl, ⟨rfl, .inl ⟨rfl, rfl, by simp⟩⟩, by simp, rfl⟩
 ·cases he; exact ⟨rfl, ⟨rfl, .inl ⟨rfl, rfl, by simp⟩⟩, by simp, rfl⟩
 ·rename_i b o l ex c
  cases hc : cV σ b o (l * sz) with
  | none => rw [hc] at he; cases he
  | some ds =>
   rw [hc] at he; cases he
   refine ⟨rfl, ?_, ?_, hflat⟩
   ·refine ⟨rfl, ?_⟩
    obtain ⟨bs, bk, hg, hbk, hl, rfl⟩ := fS hc
    by_cases hn : n = 0
    ·subst hn; exact .inl ⟨rfl, by simp, by simp⟩
    ·have hlen : ((bs.drop o).take (n * sz)).length = n * sz := by simp; omega
     have hpos := Nat.mul_pos (Nat.pos_of_ne_zero hn) (Nat.pos_of_ne_zero hz)
     refine .inr ⟨by rw [← List.length_pos_iff, hlen]; exact hpos, rfl, hlen, ?_⟩
     obtain ⟨cc, e, fz, h1, pre, post, h2, h3⟩ := hr.row hg hbk (by rintro rfl; simp at hl; omega)
     refine ⟨cc, e, fz, h1, ⟨pre ++ γL ρ (bs.take o), γL ρ (bs.drop (o + n * sz)) ++ post, ?_, ?_⟩, by simp⟩
     ·rw [h2]
      have e0 : γL ρs ((bs.drop o).take (n * sz)) = γL ρ ((bs.drop o).take (n * sz)) := iL (n := 0) (fun i hi => by omega) _ hflat
      rw [e0]
      have e1 : bs = bs.take o ++ ((bs.drop o).take (n * sz) ++ bs.drop (o + n * sz)) := by
       rw [← List.drop_drop, List.take_append_drop, List.take_append_drop]
      conv => lhs; rw [e1]
      simp only [cu, List.append_assoc]
     ·simp only [List.length_append, aT, List.length_take, h3, kG]; omega
   ·intro hne
    obtain ⟨bs, bk, hg, hbk, hl, rfl⟩ := fS hc
    obtain ⟨cc, e, fz, h1, _⟩ := hr.row hg hbk (by rintro rfl; simp at hne)
    show (ρ b).blk < _
    have := Array.getElem?_eq_some_iff.1 h1
    exact this.1
 ·rename_i j
  split at he
  ·rename_i cs' n' sz' own hg
   split at he
   ·rename_i hsz
    cases he
    subst hsz
    obtain ⟨g0, g1⟩ := hr.ok j _ hg
    refine ⟨rfl, ⟨g0, ?_⟩, ?_, hflat⟩
    ·rcases g1 with ⟨q1, q2, q3⟩ | ⟨q1, q2, q3, c, e, fz, h1, ⟨pre, post, h2, h3⟩, h4⟩
     ·exact .inl ⟨q1, q2, by simp⟩
     ·exact .inr ⟨q1, q2, q3, c, e, fz, h1, ⟨pre, post, by rw [iL (n := 0) (ρ := ρ) (fun i hi => by omega) _ hflat]; exact h2, h3⟩, by simp⟩
    ·intro hne
     exact hr.inb j _ hg (by simp only [ar.alive, Bool.not_eq_true', List.isEmpty_eq_false_iff]; exact hne)
   ·cases he
  ·cases he
 ·cases he
def Hp (σ : Mem) (sz : Nat) (v : ab) : Option (ab × Mem) :=
 match bS σ sz v with
 | some (cs, n) => cond (kA σ sz v && !(Nat.beq sz 0)) (match v with
  | .aO => some (.vec σ.next, σ.push (.vec cs n sz false))
  | .emp _ => some (.vec σ.next, σ.push (.vec cs n sz false))
  | .slice i _ _ _ _ => some (.vec σ.next, (σ.set i .dead).push (.vec cs n sz false))
  | .vec i => some (.vec σ.next, (σ.set i .dead).push (.vec cs n sz false))
  | _ => none) none
 | none => none
theorem OP {w0 : W0} {ρ : Nat → Loc} {σ σ' : Mem} {w : World} {sz : Nat} {v v' : ab} (h : Rel w0 ρ σ w) (hv : Hp σ sz v = some (v', σ')) :
  ∃ ρ', bN w0 ρ σ.next ρ' σ' w ∧ γ ρ' v' = γ ρ v ∧ sc σ'.next v' = true := by
 unfold Hp at hv
 split at hv
 rotate_left
 ·cases hv
 rename_i cs n he
 cases hc : (kA σ sz v && !(Nat.beq sz 0)) with
 | false => rw [hc] at hv; cases hv
 | true =>
  rw [hc] at hv
  simp only [cond_true] at hv
  simp only [Bool.and_eq_true, Bool.not_eq_true'] at hc
  have hz : sz ≠ 0 := by rintro rfl; simp at hc
  obtain ⟨l1, l2, l3, l4⟩ := qR h he hc.1 hz ρ
  have fin : ∀ (τ : Mem), τ.next = σ.next → Rel w0 ρ τ w → ((ar.vec cs n sz false).alive = true → ∀ j bj, τ.get j = some bj → bj.owned = true → (ρ j).blk ≠ (kG ρ v).blk) →
    ∃ ρ', bN w0 ρ σ.next ρ' (τ.push (.vec cs n sz false)) w ∧ γ ρ' (.vec σ.next) = γ ρ v ∧ sc (τ.push (.vec cs n sz false)).next (.vec σ.next) = true := by
   intro τ hτ hR ha
   have R := hR.name (B := .vec cs n sz false) (L := kG ρ v) (by simp only [scB]; exact l4) l2 (fun hal => l3 (by simp only [ar.alive, Bool.not_eq_true', List.isEmpty_eq_false_iff] at hal; exact hal)) (fun ho => by cases ho) ha
   rw [hτ] at R
   exact ⟨_, ⟨R, fun i hi => eu hi, by simp [hτ]⟩, by rw [l1]; simp [γ], by simp [sc, hτ]⟩
  have live : ∀ {i : Nat} {b : ar}, σ.get i = some b → (ρ i).blk = (kG ρ v).blk → ((ar.vec cs n sz false).alive = true → b.alive = true) → (ar.vec cs n sz false).alive = true → ∀ j bj, (σ.set i .dead).get j = some bj → bj.owned = true → (ρ j).blk ≠ (kG ρ v).blk := by
   intro i b hi hb hal ha j bj hj ho
   rw [aF] at hj
   split at hj
   ·cases hj; cases ho
   ·rename_i hne
    rw [← hb]
    exact h.ap j i bj b hj hi (Ne.symm hne) ho (hal ha)
  split at hv
  ·cases hv
   simp only [bS] at he
   cases he
   exact fin σ rfl h (fun ha => by cases ha)
  ·cases hv
   simp only [bS] at he
   cases he
   exact fin σ rfl h (fun ha => by cases ha)
  ·rename_i i o l ex c
   cases hv
   simp only [bS] at he
   cases hcs : cV σ i o (l * sz) with
   | none => rw [hcs] at he; cases he
   | some ds =>
    rw [hcs] at he
    cases he
    obtain ⟨bs, bk, hg, hbk, hl, rfl⟩ := fS hcs
    refine fin _ rfl (h.kill hg) (live hg rfl fun ha => ?_)
    cases bk with
    | dead => cases hbk
    | vec cs2 n2 sz2 own2 =>
     simp only [ar.content, Option.some.injEq] at hbk
     subst hbk
     simp only [ar.alive, Bool.not_eq_true', List.isEmpty_eq_false_iff] at ha ⊢
     rintro rfl
     exact ha (by simp)
    | _ => rfl
  ·rename_i i
   cases hv
   simp only [bS] at he
   split at he
   ·rename_i cs' n' sz' own' hg
    split at he
    ·cases he
     refine fin _ rfl (h.kill hg) (live hg rfl fun ha => ha)
    ·cases he
   ·cases he
  ·cases hv
def we (σ : Mem) (sz : Nat) (tm : LA_) (t : Tmp) : LA_ × Mem :=
 match Hp σ sz (tm.getD t (.tup [])) with
 | some (v, σ') => (tm.set t v, σ')
 | none => (tm, σ)
theorem Hq {σ σ' : Mem} {sz : Nat} {v v' : ab} (h : Hp σ sz v = some (v', σ')) : σ.next ≤ σ'.next := by
 unfold Hp at h
 split at h
 rotate_left
 ·cases h
 cases hc : (kA σ sz v && !(Nat.beq sz 0)) with
 | false => rw [hc] at h; cases h
 | true =>
  rw [hc] at h
  simp only [cond_true] at h
  split at h <;> first | (cases h; simp) | cases h
theorem Nq {n sz : Nat} {s : St} {t : Tmp} (hn : n ≤ s.mem.next) : Cov n s ⟨(we s.mem sz s.tm t).1, s.df, (we s.mem sz s.tm t).2⟩ := by
 unfold we
 split
 ·rename_i v σ' hv
  have hle := Hq hv
  refine ⟨Nat.le_trans hn hle, fun w0 ρ a w hr => ?_⟩
  obtain ⟨ρ', hp, hγ, hsc⟩ := OP hr.rel hv
  refine ⟨ρ', ?_, fun i hi => hp.ext i (Nat.lt_of_lt_of_le hi hn)⟩
  have h1 := hr.congr hp
  refine ⟨h1.rel, ?_, y7 h1.sct hsc, h1.df, h1.scd⟩
  rw [h1.tm]
  congr 1
  simp only [yZ, hγ]
  by_cases ht : t < s.tm.length
  ·have hx : s.tm.getD t (.tup []) = s.tm[t] := by simp [List.getD_eq_getElem?_getD, ht]
   rw [hx]
   symm
   apply List.ext_getElem?
   intro i
   rw [List.getElem?_set]
   split
   ·rename_i e
    subst e
    have hs := (iq _ _).1 hr.sct (s.tm[t]) (List.getElem_mem ht)
    simp only [aT, ht, if_true, jK, List.getElem?_eq_getElem ht, Option.map_some]
    rw [gX hp.ext _ hs]
   ·rfl
  ·have hle : s.tm.length ≤ t := Nat.le_of_not_lt ht
   rw [List.set_eq_of_length_le (by rw [aT]; exact hle)]
 ·exact .refl hn
theorem L4 {σ : Mem} {sz : Nat} {tm : LA_} {t : Tmp} : σ.next ≤ (we σ sz tm t).2.next := by
 unfold we
 split
 ·rename_i hv; exact Hq hv
 ·exact Nat.le_refl _
def zf (t : Tmp) (sz : Nat) (s : St) : St :=
 cond (Nat.blt t 1000000) ⟨(AW s.mem sz s.tm t).1, s.df, (AW s.mem sz s.tm t).2⟩ (cond (Nat.blt t 1000000000000) ⟨s.tm, s.df, ze s.mem sz (s.tm.getD (t % 1000000) (.tup [])) (t / 1000000 - 1)⟩
  ⟨(we s.mem sz s.tm (t - 1000000000000)).1, s.df, (we s.mem sz s.tm (t - 1000000000000)).2⟩)
def bZ : List (Tmp × Nat) → St → St
 | [], s => s
 | (t, sz) :: r, s => bZ r (zf t sz s)
theorem Lm {w0 : W0} {ρ : Nat → Loc} {σ σ' : Mem} {w : World} {sz : Nat} {v v' : ab} (h : Rel w0 ρ σ w) (hv : C1 σ sz v = some (v', σ')) :
  ∃ ρ', bN w0 ρ σ.next ρ' σ' w ∧ γ ρ' v' = γ ρ v ∧ sc σ'.next v' = true := by
 unfold C1 at hv
 split at hv
 ·cases hv
  have R := h.Di 0 sz true { blk := 0, base := 0, eQ := 0 } rfl rfl rfl
  exact ⟨_, ⟨R, fun i hi => eu hi, by simp⟩, by simp [γ], by simp [sc]⟩
 ·rename_i i
  cases hv
  have R := h.Di 0 sz true { blk := 0, base := 0, eQ := 0, sp := some (ρ i).odd } rfl rfl rfl
  exact ⟨_, ⟨R, fun i hi => eu hi, by simp⟩, by simp [γ], by simp [sc]⟩
 ·cases hv
theorem OQ {n sz : Nat} {s : St} {t : Tmp} (hn : n ≤ s.mem.next) : Cov n s ⟨(AW s.mem sz s.tm t).1, s.df, (AW s.mem sz s.tm t).2⟩ := by
 unfold AW
 split
 ·rename_i v σ' hv
  have hle : s.mem.next ≤ σ'.next := by
   unfold C1 at hv
   split at hv
   ·cases hv; simp
   ·cases hv; simp
   ·cases hv
  refine ⟨Nat.le_trans hn hle, fun w0 ρ a w hr => ?_⟩
  obtain ⟨ρ', hp, hγ, hsc⟩ := Lm hr.rel hv
  refine ⟨ρ', ?_, fun i hi => hp.ext i (Nat.lt_of_lt_of_le hi hn)⟩
  have h1 := hr.congr hp
  refine ⟨h1.rel, ?_, y7 h1.sct hsc, h1.df, h1.scd⟩
  rw [h1.tm]
  congr 1
  simp only [yZ, hγ]
  by_cases ht : t < s.tm.length
  ·have hx : s.tm.getD t (.tup []) = s.tm[t] := by simp [List.getD_eq_getElem?_getD, ht]
   rw [hx]
   symm
   apply List.ext_getElem?
   intro i
   rw [List.getElem?_set]
   split
   ·rename_i e
    subst e
    have hs := (iq _ _).1 hr.sct (s.tm[t]) (List.getElem_mem ht)
    simp only [aT, ht, if_true, jK, List.getElem?_eq_getElem ht, Option.map_some]
    rw [gX hp.ext _ hs]
   ·rfl
  ·have hle : s.tm.length ≤ t := Nat.le_of_not_lt ht
   rw [List.set_eq_of_length_le (by rw [aT]; exact hle)]
 ·exact .refl hn
theorem Ns {σ : Mem} {sz : Nat} {tm : LA_} {t : Tmp} : σ.next ≤ (AW σ sz tm t).2.next := by
 unfold AW
 split
 ·rename_i hv
  unfold C1 at hv
  split at hv
  ·cases hv; simp
  ·cases hv; simp
  ·cases hv
 ·exact Nat.le_refl _
theorem Js {σ σ' : Mem} {sz : Nat} {v v' : ab} (h : C1 σ sz v = some (v', σ')) : σ' = σ.push (.vec [] 0 sz true) ∧ v' = .vec σ.next ∧ v.fh = true := by
 unfold C1 at h
 split at h
 ·cases h; exact ⟨rfl, rfl, rfl⟩
 ·cases h; exact ⟨rfl, rfl, rfl⟩
 ·cases h
theorem C2 {σ : Mem} {sz : Nat} {x : ab} {o : Nat} : σ.next ≤ (ze σ sz x o).next := by
 unfold ze
 split
 ·split
  ·split
   ·rename_i hv; rw [(Js hv).1]; simp [Mem.set, Mem.push]
   ·exact Nat.le_refl _
  ·exact Nat.le_refl _
 ·exact Nat.le_refl _
theorem L5 {n sz o : Nat} {s : St} {x : ab} (hn : n ≤ s.mem.next) : Cov n s ⟨s.tm, s.df, ze s.mem sz x o⟩ := by
 refine ⟨Nat.le_trans hn C2, fun w0 ρ a w hr => ?_⟩
 unfold ze
 split
 rotate_left
 ·exact ⟨ρ, hr, fun _ _ => rfl⟩
 rename_i b
 split
 rotate_left
 ·exact ⟨ρ, hr, fun _ _ => rfl⟩
 rename_i cs gr hb
 split
 rotate_left
 ·exact ⟨ρ, hr, fun _ _ => rfl⟩
 rename_i v σ' hv
 obtain ⟨ρ', hp, hγ, hsc⟩ := Lm hr.rel hv
 have h1 := hr.congr hp
 obtain ⟨e1, e2, e3⟩ := Js hv
 have hbl := hr.rel.lt b _ hb
 have hb' : σ'.get b = some (.cells cs true gr) := by
  rw [e1, ct, if_neg (by omega)]; exact hb
 have hlen : o < cs.length := by
  apply Nat.lt_of_not_le
  intro hle
  rw [List.getD_eq_getElem?_getD, List.getElem?_eq_none hle] at hv
  cases hv
 have hg : cs.getD o (.tup []) = cs[o] := by simp [List.getD_eq_getElem?_getD, hlen]
 have hsccs := h1.rel.sco b _ hb'
 have heq : γL ρ' (cs.set o v) = γL ρ' cs := by
  rw [yZ, hγ, hg]
  apply List.ext_getElem?
  intro i
  rw [List.getElem?_set]
  split
  ·rename_i e
   subst e
   have hs := (fZ _ _).1 (hr.rel.sco b _ hb) (cs[o]) (List.getElem_mem hlen)
   simp only [aT, hlen, if_true, jK, List.getElem?_eq_getElem hlen, Option.map_some]
   rw [gX hp.ext _ hs.2]
  ·rfl
 have hBOk := h1.rel.ok b _ hb'
 refine ⟨ρ', ⟨h1.rel.set hb' rfl ?_ ?_ rfl (fun _ _ => rfl) rfl rfl rfl, h1.tm, h1.sct, h1.df, h1.scd⟩, fun i hi => hp.ext i (Nat.lt_of_lt_of_le hi hn)⟩
 ·refine (fZ _ _).2 fun u hu => ?_
  rcases List.mem_or_eq_of_mem_set hu with h | h
  ·exact (fZ _ _).1 hsccs u h
  ·subst h; rw [e2] at hsc ⊢; exact ⟨rfl, hsc⟩
 ·simp only [BOk, heq, List.length_set] at hBOk ⊢
  exact hBOk
theorem Ln {t : Tmp} {sz : Nat} {s : St} : s.mem.next ≤ (zf t sz s).mem.next := by
 unfold zf
 cases Nat.blt t 1000000 with
 | true => exact Ns
 | false => cases Nat.blt t 1000000000000 with
  | true => exact C2
  | false => exact L4
theorem L6 {n sz : Nat} {s : St} {t : Tmp} (hn : n ≤ s.mem.next) : Cov n s (zf t sz s) := by
 unfold zf
 cases Nat.blt t 1000000 with
 | true => exact OQ hn
 | false => cases Nat.blt t 1000000000000 with
  | true => exact L5 hn
  | false => exact Nq hn
theorem kC {n : Nat} : ∀ {l : List (Tmp × Nat)} {s : St}, n ≤ s.mem.next → Cov n s (bZ l s)
 | [], s, hn => .refl hn
 | (t, sz) :: l, s, hn => (L6 (sz := sz) (t := t) hn).trans (kC (l := l) (Nat.le_trans hn Ln))
inductive ah where
 | I (n : Int)
 | B (b : Bool)
 | S (s : ByteArray)
 | N (n : Nat)
 | C (cs : LA_)
 | E (es : List (ab × ab × Nat))
inductive Pat where
 | int (k : IntKind)
 | ga (k : IntKind) (n : Int)
 | bool
 | pR (b : Bool)
 | str
 | el | aO | fx | cO | dC
 | vec (i : Nat)
 | map (i : Nat)
 | ptr (i o : Nat)
 | Nt (i : Nat)
 | slice (i o l : Nat) (ex : Bool) (c : Nat)
 | agg (ps : List Pat)
 | tup (ps : List Pat)
 | func (f : FuncId) (fs cs : List Pat)
inductive kH where
 | cells (ps : List Pat) (own : Bool) (gr : Option Nat)
 | vec (sz : Nat) (own : Bool)
 | map
 | dead
mutual
def mp (F : List Nat) : Pat → ab → Option (List ah)
 | .int k, .int l n => if k = l then some [.I n] else none
 | .ga k m, .int l n => if k = l ∧ n = m then some [] else none
 | .bool, .bool b => some [.B b]
 | .pR b, .bool c => if b = c then some [] else none
 | .str, .str s => some [.S s]
 | .el, .el => some []
 | .aO, .aO => some []
 | .fx, .fx => some []
 | .cO, .cO => some []
 | .dC, .dC => some []
 | .vec i, .vec j => if F.getD i 0 = j then some [] else none
 | .map i, .map j => if F.getD i 0 = j then some [] else none
 | .ptr i o, .ptr j o' => if F.getD i 0 = j ∧ o = o' then some [] else none
 | .Nt i, .ptr j o' => if F.getD i 0 = j then some [.N o'] else none
 | .slice i o l e c, .slice j o' l' e' c' => if F.getD i 0 = j ∧ o = o' ∧ l = l' ∧ e = e' ∧ c = c' then some [] else none
 | .agg ps, .agg vs => mpL F ps vs
 | .tup ps, .tup vs => mpL F ps vs
 | .func f fs cs, .func g a b => if f = g then (match mpL F fs a, mpL F cs b with
  | some x, some y => some (x ++ y)
  | _, _ => none) else none
 | _, _ => none
def mpL (F : List Nat) : List Pat → LA_ → Option (List ah)
 | [], [] => some []
 | p :: ps, v :: vs => match mp F p v, mpL F ps vs with
  | some x, some y => some (x ++ y)
  | _, _ => none
 | _, _ => none
end
mutual
def ip : Pat → List ah → ab × List ah
 | .int k, .I n :: r => (.int k n, r)
 | .ga k m, r => (.int k m, r)
 | .bool, .B b :: r => (.bool b, r)
 | .pR b, r => (.bool b, r)
 | .str, .S s :: r => (.str s, r)
 | .el, r => (.el, r)
 | .aO, r => (.aO, r)
 | .fx, r => (.fx, r)
 | .cO, r => (.cO, r)
 | .dC, r => (.dC, r)
 | .vec i, r => (.vec i, r)
 | .map i, r => (.map i, r)
 | .ptr i o, r => (.ptr i o, r)
 | .Nt i, .N o :: r => (.ptr i o, r)
 | .slice i o l e c, r => (.slice i o l e c, r)
 | .agg ps, r => (.agg (ipL ps r).1, (ipL ps r).2)
 | .tup ps, r => (.tup (ipL ps r).1, (ipL ps r).2)
 | .func f fs cs, r => (.func f (ipL fs r).1 (ipL cs (ipL fs r).2).1, (ipL cs (ipL fs r).2).2)
 | _, r => (.tup [], r)
def ipL : List Pat → List ah → LA_ × List ah
 | [], r => ([], r)
 | p :: ps, r => ((ip p r).1 :: (ipL ps (ip p r).2).1, (ipL ps (ip p r).2).2)
end
def Pat.fh : Pat → Bool
 | .agg _ | .tup _ => false
 | _ => true
mutual
def scP (n : Nat) : Pat → Bool
 | .vec i | .map i | .ptr i _ | .Nt i | .slice i _ _ _ _ => decide (i < n)
 | .agg ps => Lo n ps
 | .tup ps => IK n ps
 | .func _ fs cs => IK n fs && IK n cs
 | _ => true
def IK (n : Nat) : List Pat → Bool
 | [] => true
 | p :: ps => scP n p && IK n ps
def Lo (n : Nat) : List Pat → Bool
 | [] => true
 | p :: ps => p.fh && scP n p && Lo n ps
end
mutual
theorem Ms {F : List Nat} {n : Nat} : ∀ (p : Pat) (v : ab) (ls : List ah), mp F p v = some ls →
  ∃ v0, (∀ r, ip p (ls ++ r) = (v0, r)) ∧ v = rn (fun i => F.getD i 0) v0 ∧ (scP n p = true → sc n v0 = true) ∧ (p.fh = true → v0.fh = true)
 | .int k, v, ls, h => by
  cases v <;> simp only [mp, reduceCtorEq] at h
  split at h
  ·rename_i e; subst e; cases h; exact ⟨_, fun r => rfl, rfl, fun _ => rfl, fun _ => rfl⟩
  ·cases h
 | .ga k m, v, ls, h => by
  cases v <;> simp only [mp, reduceCtorEq] at h
  split at h
  ·rename_i e; obtain ⟨rfl, rfl⟩ := e; cases h; exact ⟨_, fun r => rfl, rfl, fun _ => rfl, fun _ => rfl⟩
  ·cases h
 | .bool, v, ls, h => by
  cases v <;> simp only [mp, reduceCtorEq, Option.some.injEq] at h
  subst h; exact ⟨_, fun r => rfl, rfl, fun _ => rfl, fun _ => rfl⟩
 | .pR b, v, ls, h => by
  cases v <;> simp only [mp, reduceCtorEq] at h
  split at h
  ·rename_i e; subst e; cases h; exact ⟨_, fun r => rfl, rfl, fun _ => rfl, fun _ => rfl⟩
  ·cases h
 | .str, v, ls, h => by
  cases v <;> simp only [mp, reduceCtorEq, Option.some.injEq] at h
  subst h; exact ⟨_, fun r => rfl, rfl, fun _ => rfl, fun _ => rfl⟩
 | .el, v, ls, h => by
  cases v <;> simp only [mp, reduceCtorEq, Option.some.injEq] at h
  subst h; exact ⟨_, fun r => rfl, rfl, fun _ => rfl, fun _ => rfl⟩
 | .aO, v, ls, h => by
  cases v <;> simp only [mp, reduceCtorEq, Option.some.injEq] at h
  subst h; exact ⟨_, fun r => rfl, rfl, fun _ => rfl, fun _ => rfl⟩
 | .fx, v, ls, h => by
  cases v <;> simp only [mp, reduceCtorEq, Option.some.injEq] at h
  subst h; exact ⟨_, fun r => rfl, rfl, fun _ => rfl, fun _ => rfl⟩
 | .cO, v, ls, h => by
  cases v <;> simp only [mp, reduceCtorEq, Option.some.injEq] at h
  subst h; exact ⟨_, fun r => rfl, rfl, fun _ => rfl, fun _ => rfl⟩
 | .dC, v, ls, h => by
  cases v <;> simp only [mp, reduceCtorEq, Option.some.injEq] at h
  subst h; exact ⟨_, fun r => rfl, rfl, fun _ => rfl, fun _ => rfl⟩
 | .vec i, v, ls, h => by
  cases v <;> simp only [mp, reduceCtorEq] at h
  split at h
  ·rename_i e; subst e; cases h; exact ⟨.vec i, fun r => rfl, rfl, fun q => q, fun _ => rfl⟩
  ·cases h
 | .map i, v, ls, h => by
  cases v <;> simp only [mp, reduceCtorEq] at h
  split at h
  ·rename_i e; subst e; cases h; exact ⟨.map i, fun r => rfl, rfl, fun q => q, fun _ => rfl⟩
  ·cases h
 | .ptr i o, v, ls, h => by
  cases v <;> simp only [mp, reduceCtorEq] at h
  split at h
  ·rename_i e; obtain ⟨rfl, rfl⟩ := e; cases h; exact ⟨.ptr i _, fun r => rfl, rfl, fun q => q, fun _ => rfl⟩
  ·cases h
 | .Nt i, v, ls, h => by
  cases v <;> simp only [mp, reduceCtorEq] at h
  split at h
  ·rename_i e; subst e; cases h; exact ⟨.ptr i _, fun r => rfl, rfl, fun q => q, fun _ => rfl⟩
  ·cases h
 | .slice i o l e c, v, ls, h => by
  cases v <;> simp only [mp, reduceCtorEq] at h
  split at h
  ·rename_i q; obtain ⟨rfl, rfl, rfl, rfl, rfl⟩ := q; cases h; exact ⟨.slice i _ _ _ _, fun r => rfl, rfl, fun q => q, fun _ => rfl⟩
  ·cases h
 | .agg ps, v, ls, h => by
  cases v <;> simp only [mp, reduceCtorEq] at h
  obtain ⟨vs0, h1, h2, _, h4⟩ := sd (n := n) ps _ ls h
  exact ⟨.agg vs0, fun r => by simp only [ip, h1], by simp only [rn, h2], fun q => by simp only [scP] at q; simp only [sc]; exact h4 q, fun q => by simp [Pat.fh] at q⟩
 | .tup ps, v, ls, h => by
  cases v <;> simp only [mp, reduceCtorEq] at h
  obtain ⟨vs0, h1, h2, h3, _⟩ := sd (n := n) ps _ ls h
  exact ⟨.tup vs0, fun r => by simp only [ip, h1], by simp only [rn, h2], fun q => by simp only [scP] at q; simp only [sc]; exact h3 q, fun q => by simp [Pat.fh] at q⟩
 | .func f fs cs, v, ls, h => by
  cases v <;> simp only [mp, reduceCtorEq] at h
  split at h
  ·rename_i e
   subst e
   split at h
   ·rename_i x y hx hy
    cases h
    obtain ⟨a0, h1, h2, h3, _⟩ := sd (n := n) fs _ x hx
    obtain ⟨b0, k1, k2, k3, _⟩ := sd (n := n) cs _ y hy
    exact ⟨.func f a0 b0, fun r => by simp only [ip, List.append_assoc, h1, k1], by simp only [rn, h2, k2], fun q => by simp only [scP, Bool.and_eq_true] at q; simp only [sc, Bool.and_eq_true]; exact ⟨h3 q.1, k3 q.2⟩, fun _ => rfl⟩
   ·cases h
  ·cases h
theorem sd {F : List Nat} {n : Nat} : ∀ (ps : List Pat) (vs : LA_) (ls : List ah), mpL F ps vs = some ls →
  ∃ vs0, (∀ r, ipL ps (ls ++ r) = (vs0, r)) ∧ vs = rnL (fun i => F.getD i 0) vs0 ∧ (IK n ps = true → scL n vs0 = true) ∧ (Lo n ps = true → scC n vs0 = true)
 | [], [], ls, h => by simp only [mpL, Option.some.injEq] at h; subst h; exact ⟨[], fun r => rfl, rfl, fun _ => rfl, fun _ => rfl⟩
 | [], _ :: _, ls, h => by simp [mpL] at h
 | _ :: _, [], ls, h => by simp [mpL] at h
 | p :: ps, v :: vs, ls, h => by
  simp only [mpL] at h
  split at h
  ·rename_i x y hx hy
   cases h
   obtain ⟨v0, h1, h2, h3, h4⟩ := Ms (n := n) p v x hx
   obtain ⟨vs0, k1, k2, k3, k4⟩ := sd (n := n) ps vs y hy
   refine ⟨v0 :: vs0, fun r => by simp only [ipL, List.append_assoc, h1, k1], by simp only [rnL, ← h2, ← k2], fun q => ?_, fun q => ?_⟩
   ·simp only [IK, Bool.and_eq_true] at q; simp only [scL, Bool.and_eq_true]; exact ⟨h3 q.1, k3 q.2⟩
   ·simp only [Lo, Bool.and_eq_true] at q; simp only [scC, Bool.and_eq_true]; exact ⟨⟨h4 q.1.1, h3 q.1.2⟩, k4 q.2⟩
  ·cases h
end
def mM (F : List Nat) : List (Option Pat) → LA_ → Option (List ah)
 | [], [] => some []
 | some p :: M, v :: vs => match mp F p v, mM F M vs with
  | some x, some y => some (x ++ y)
  | _, _ => none
 | none :: M, _ :: vs => mM F M vs
 | _, _ => none
def iM : List (Option Pat) → List ah → List (Option ab) × List ah
 | [], r => ([], r)
 | some p :: M, r => (some (ip p r).1 :: (iM M (ip p r).2).1, (iM M (ip p r).2).2)
 | none :: M, r => (none :: (iM M r).1, (iM M r).2)
def mBk (F : List Nat) (b : Option ar) (p : kH) : Option (List ah) :=
 match b, p with
 | some (.cells cs own gr), .cells ps own' gr' => if own = own' ∧ gr = gr' then mpL F ps cs else none
 | some (.vec cs n sz own), .vec sz' own' => if sz = sz' ∧ own = own' then some [.C cs, .N n] else none
 | some (.map es c), .map => some [.E es, .N c]
 | some .dead, .dead => some []
 | _, _ => none
def mB (F : List Nat) (σ : Mem) : List (Nat × kH) → Option (List ah)
 | [] => some []
 | (c, p) :: r => match mBk F (σ.get (F.getD c 0)) p, mB F σ r with
  | some x, some y => some (x ++ y)
  | _, _ => none
def iBk (p : kH) (ls : List ah) : ar × List ah :=
 match p, ls with
 | .cells ps own gr, r => (.cells (ipL ps r).1 own gr, (ipL ps r).2)
 | .vec sz own, .C cs :: .N n :: r => (.vec cs n sz own, r)
 | .map, .E es :: .N c :: r => (.map es c, r)
 | .dead, r => (.dead, r)
 | _, r => (.dead, r)
def iB : List (Nat × kH) → List ah → List (Nat × ar) × List ah
 | [], r => ([], r)
 | (c, p) :: B, r => ((c, (iBk p r).1) :: (iB B (iBk p r).2).1, (iB B (iBk p r).2).2)
def Qb (n : Nat) : kH → Bool
 | .cells ps _ _ => Lo n ps
 | _ => true
def Hr : List Nat → Bool
 | [] => true
 | x :: r => !r.contains x && Hr r
def Hs : Nat → Nat → List Nat → Bool
 | 0, _, _ => true
 | n + 1, i, x :: r => x == i && Hs n (i + 1) r
 | _ + 1, _, [] => false
def fOk (n K : Nat) (F : List Nat) : Bool := F.length == K && Hs n 0 F && Hr F
def dfB : List l9 → List l9 → Bool
 | [], [] => true
 | a :: x, b :: y => a.f == b.f && nD a.cap b.cap && nD a.args b.args && dfB x y
 | _, _ => false
theorem OR : ∀ {x y : List l9}, dfB x y = true → x = y
 | [], [], _ => rfl
 | [], _ :: _, h => by simp [dfB] at h
 | _ :: _, [], h => by simp [dfB] at h
 | ⟨f, c, a⟩ :: x, ⟨g, d, b⟩ :: y, h => by
  simp only [dfB, Bool.and_eq_true, beq_iff_eq] at h
  rw [h.1.1.1, mR _ _ h.1.1.2, mR _ _ h.1.2, OR h.2]
def mSt (n K : Nat) (F : List Nat) (M : List (Option Pat)) (B : List (Nat × kH)) (D : List (FuncId × List Nat)) (s : St) : Option (List ah) :=
 if fOk n K F && dfB s.df (CU s.tm D) then match mM F M s.tm, mB F s.mem B with
  | some a, some b => some (a ++ b)
  | _, _ => none
 else none
def iSt (K : Nat) (M : List (Option Pat)) (B : List (Nat × kH)) (D : List (FuncId × List Nat)) (ls : List ah) : St := bd K (iM M ls).1 (iB B (iM M ls).2).1 D
def scM (n : Nat) : List (Option Pat) → Bool
 | [] => true
 | some p :: M => scP n p && scM n M
 | none :: M => scM n M
def shP (K : Nat) (M : List (Option Pat)) (B : List (Nat × kH)) : Bool := scM K M && B.all fun x => decide (x.1 < K) && Qb K x.2
theorem za {F : List Nat} {n : Nat} : ∀ (M : List (Option Pat)) (vs : LA_) (ls : List ah), mM F M vs = some ls → scM n M = true →
  ∃ M0, (∀ r, iM M (ls ++ r) = (M0, r)) ∧ fits (fun i => F.getD i 0) n M0 vs
 | [], [], ls, h, _ => by simp only [mM, Option.some.injEq] at h; subst h; exact ⟨[], fun r => rfl, trivial⟩
 | [], _ :: _, ls, h, _ => by simp [mM] at h
 | some _ :: _, [], ls, h, _ => by simp [mM] at h
 | none :: _, [], ls, h, _ => by simp [mM] at h
 | none :: M, v :: vs, ls, h, hs => by
  simp only [mM] at h
  obtain ⟨M0, h1, h2⟩ := za M vs ls h hs
  exact ⟨none :: M0, fun r => by simp only [iM, h1], h2⟩
 | some p :: M, v :: vs, ls, h, hs => by
  simp only [mM] at h
  simp only [scM, Bool.and_eq_true] at hs
  split at h
  ·rename_i x y hx hy
   cases h
   obtain ⟨v0, h1, h2, h3, h4⟩ := Ms (n := n) p v x hx
   obtain ⟨M0, k1, k2⟩ := za M vs y hy hs.2
   exact ⟨some v0 :: M0, fun r => by simp only [iM, List.append_assoc, h1, k1], h2, h3 hs.1, k2⟩
  ·cases h
theorem Qc {F : List Nat} {n : Nat} {b : Option ar} {p : kH} {ls : List ah} (h : mBk F b p = some ls) (hs : Qb n p = true) :
  ∃ b0, (∀ r, iBk p (ls ++ r) = (b0, r)) ∧ b = some (rnB (fun i => F.getD i 0) b0) ∧ scX n b0 = true := by
 unfold mBk at h
 split at h
 ·rename_i cs own gr ps own' gr'
  split at h
  ·rename_i e
   obtain ⟨rfl, rfl⟩ := e
   obtain ⟨vs0, h1, h2, _, h4⟩ := sd (n := n) _ _ ls h
   exact ⟨.cells vs0 own gr, fun r => by simp only [iBk, h1], by simp only [rnB, h2], h4 hs⟩
  ·cases h
 ·split at h
  ·rename_i e
   obtain ⟨rfl, rfl⟩ := e
   cases h
   exact ⟨.vec _ _ _ _, fun r => rfl, rfl, rfl⟩
  ·cases h
 ·cases h; exact ⟨.map _ _, fun r => rfl, rfl, rfl⟩
 ·cases h; exact ⟨.dead, fun r => rfl, rfl, rfl⟩
 ·cases h
theorem Dq {F : List Nat} {n : Nat} {σ : Mem} : ∀ (B : List (Nat × kH)) (ls : List ah), mB F σ B = some ls → (B.all fun x => decide (x.1 < n) && Qb n x.2) = true →
  ∃ B0, (∀ r, iB B (ls ++ r) = (B0, r)) ∧ ∀ x ∈ B0, x.1 < n ∧ σ.get (F.getD x.1 0) = some (rnB (fun i => F.getD i 0) x.2) ∧ scX n x.2 = true
 | [], ls, h, _ => by simp only [mB, Option.some.injEq] at h; subst h; exact ⟨[], fun r => rfl, fun x hx => by cases hx⟩
 | (c, p) :: B, ls, h, hs => by
  simp only [mB] at h
  simp only [List.all_cons, Bool.and_eq_true, decide_eq_true_eq] at hs
  split at h
  ·rename_i x y hx hy
   cases h
   obtain ⟨b0, h1, h2, h3⟩ := Qc (n := n) hx hs.1.2
   obtain ⟨B0, k1, k2⟩ := Dq B y hy hs.2
   refine ⟨(c, b0) :: B0, fun r => by simp only [iB, List.append_assoc, h1, k1], ?_⟩
   intro z hz
   cases hz with
   | head => exact ⟨hs.1.1, h2, h3⟩
   | tail _ hz => exact k2 z hz
  ·cases h
theorem mn {i : Nat} {b : ar} : ∀ {B : List (Nat × ar)}, look B i = some b → (i, b) ∈ B
 | [], h => by simp [look] at h
 | (j, c) :: r, h => by
  simp only [look] at h
  split at h
  ·rename_i e
   simp only [Option.some.injEq] at h
   subst h
   rw [beq_iff_eq] at e
   subst e
   simp
  ·simp [mn h]
theorem Ht : ∀ {n i : Nat} {F : List Nat}, Hs n i F = true → n ≤ F.length ∧ ∀ j, j < n → F.getD j 0 = i + j
 | 0, i, F, _ => ⟨Nat.zero_le _, fun j hj => by omega⟩
 | n + 1, i, [], h => by simp [Hs] at h
 | n + 1, i, x :: r, h => by
  simp only [Hs, Bool.and_eq_true, beq_iff_eq] at h
  obtain ⟨h1, h2⟩ := Ht h.2
  refine ⟨by simp; omega, fun j hj => ?_⟩
  cases j with
  | zero => simp [h.1]
  | succ j => have := h2 j (by omega); simp only [List.getD_cons_succ]; omega
theorem EH : ∀ {F : List Nat}, Hr F = true → ∀ i j, i < F.length → j < F.length → F.getD i 0 = F.getD j 0 → i = j
 | [], _, i, j, hi, _, _ => by simp at hi
 | x :: r, h, i, j, hi, hj, e => by
  simp only [Hr, Bool.and_eq_true, Bool.not_eq_true', List.contains_iff_mem, Bool.not_eq_true] at h
  have hx : x ∉ r := by intro hm; have := h.1; simp [hm] at this
  have gm : ∀ k, k < r.length → r.getD k 0 ∈ r := fun k hk => by
   rw [List.getD_eq_getElem?_getD, List.getElem?_eq_getElem hk]; exact List.getElem_mem hk
  cases i with
  | zero => cases j with
   | zero => rfl
   | succ j =>
    simp only [List.getD_cons_zero, List.getD_cons_succ] at e
    exact absurd (e ▸ gm j (by simpa using hj)) hx
  | succ i => cases j with
   | zero =>
    simp only [List.getD_cons_zero, List.getD_cons_succ] at e
    exact absurd (e ▸ gm i (by simpa using hi)) hx
   | succ j =>
    simp only [List.getD_cons_succ] at e
    rw [EH h.2 i j (by simpa using hi) (by simpa using hj) e]
theorem uS {n K : Nat} {F : List Nat} {M : List (Option Pat)} {B : List (Nat × kH)} {D : List (FuncId × List Nat)} {s : St} {ls : List ah} (hS : shP K M B = true) (h : mSt n K F M B D s = some ls) : Cov n s (iSt K M B D ls) := by
 unfold mSt at h
 split at h
 ·rename_i h0
  simp only [fOk, Bool.and_eq_true, beq_iff_eq] at h0
  obtain ⟨⟨⟨rfl, hp⟩, hnd⟩, hdf⟩ := h0
  split at h
  ·rename_i a b ha hb
   cases h
   simp only [shP, Bool.and_eq_true] at hS
   obtain ⟨p1, p2⟩ := Ht hp
   obtain ⟨M0, m1, m2⟩ := za (n := F.length) M s.tm a ha hS.1
   obtain ⟨B0, b1, b2⟩ := Dq (n := F.length) B b hb hS.2
   have e1 : iM M (a ++ b) = (M0, b) := m1 b
   have e2 : iB B b = (B0, []) := by have := b1 []; rwa [List.append_nil] at this
   simp only [iSt, e1, e2]
   refine Nd.cov ⟨OR hdf, m2, fun i c hc => b2 _ (mn hc), EH hnd, fun i hi => by have := p2 i hi; omega, p1⟩
  ·cases h
 ·cases h
def iter {V E : Type} (step : V → Option (V ⊕ E)) : Nat → V → Option E
 | 0, _ => none
 | n + 1, v => match step v with
  | none => none
  | some (.inl v') => iter step n v'
  | some (.inr e) => some e
theorem Jt {V E : Type} {step : V → Option (V ⊕ E)} : ∀ {n m : Nat} {v : V} {e : E}, n ≤ m → iter step n v = some e → iter step m v = some e
 | 0, m, v, e, _, h => by simp [iter] at h
 | n + 1, m, v, e, hm, h => by
  obtain ⟨m, rfl⟩ : ∃ k, m = k + 1 := ⟨m - 1, by omega⟩
  simp only [iter] at h ⊢
  split at h
  ·cases h
  ·exact Jt (by omega) h
  ·exact h
def se : Nat := 18446744073709551616
def dA {V E : Type} (step : V → Option (V ⊕ E)) (v : V) : Option E := iter step se v
theorem jc {V E : Type} {step : V → Option (V ⊕ E)} {v : V} {e : E} {n : Nat} (hn : n ≤ se) (h : iter step n v = some e) : dA step v = some e := Jt hn h
theorem dm {V E : Type} {step : V → Option (V ⊕ E)} {v v' : V} {e : E} {n : Nat} (h : step v = some (.inl v')) (k : iter step n v' = some e) : iter step (n + 1) v = some e := by simp only [iter, h, k]
theorem fB {V E : Type} {step : V → Option (V ⊕ E)} {v : V} {e : E} (n : Nat) (h : step v = some (.inr e)) : iter step (n + 1) v = some e := by simp only [iter, h]
structure ExS where
 K : Nat
 M : List (Option Pat)
 B : List (Nat × kH)
 F : St → List Nat
 pre : List (Tmp × Nat)
 D : List (FuncId × List Nat)
structure LD where
 CC : Type
 V : Type
 E : Type
 n : Nat
 K : Nat
 M : List (Option Pat)
 B : List (Nat × kH)
 D : List (FuncId × List Nat)
 pre : List (Tmp × Nat)
 F : St → List Nat
 toL : CC → V → List ah
 ofL : List ah → Option (CC × V)
 au : ∀ ls c v, ofL ls = some (c, v) → ls = toL c v
 ck : {R : Type} → CC → V → (V → Option R) → (E → Option R) → Option R
 nat : ∀ {R : Type} (cc : CC) (v : V) (kn : V → Option R) (ke : E → Option R), ck cc v kn ke = (ck cc v (fun v => some (Sum.inl v)) fun e => some (Sum.inr e)).bind (Sum.elim kn ke)
 sh : an → ExS
 out : E → an
 toE : CC → E → List ah
 fp : CC → E → List ah
 ofE : an → List ah → Option (E × List ah)
 da : ∀ o ls e cl cc, ofE o ls = some (e, cl) → cl = fp cc e → ls = toE cc e ∧ out e = o ∧ o ≠ .normal ∧ ∀ v, o = .pan v → sc 0 v = true
 post : {R : Type} → CC → E → (an → St → Option R) → Option R
 cd : ∀ {R : Type} (cc : CC) (e : E) (k : an → St → Option R), post cc e k = k (out e) (iSt (sh (out e)).K (sh (out e)).M (sh (out e)).B (sh (out e)).D (toE cc e))
def LD.step (d : LD) (cc : d.CC) (v : d.V) : Option (d.V ⊕ d.E) := d.ck cc v (fun v => some (Sum.inl v)) fun e => some (Sum.inr e)
def LD.st (d : LD) (cc : d.CC) (v : d.V) : St := iSt d.K d.M d.B d.D (d.toL cc v)
def LD.mat (d : LD) (s : St) : Option (d.CC × d.V) := (mSt d.n d.K (d.F (bZ d.pre s)) d.M d.B d.D (bZ d.pre s)).bind d.ofL
def LD.la (d : LD) : LA where
 run := fun s k => (d.mat s).bind fun q => (dA (d.step q.1) q.2).bind fun e => d.post q.1 e k
 nat := fun s k => by
  rw [Option.bind_assoc]
  congr 1
  funext q
  rw [Option.bind_assoc]
  congr 1
  funext e
  rw [d.cd, d.cd]
  rfl
def Tm : Option ab → Option ab → Bool
 | some a, some b => aeq a b
 | none, none => true
 | _, _ => false
def owB : Ow → Bool
 | [] => true
 | p :: r => Tm p.1 p.2 && owB r
theorem fj : ∀ {w : Ow}, owB w = true → w.ok
 | [], _ => Ow.CY
 | p :: r, h => by
  simp only [owB, Bool.and_eq_true] at h
  intro x hx
  cases hx with
  | head =>
   have := h.1
   unfold Tm at this
   split at this
   ·rename_i h1 h2; rw [h1, h2, vY _ _ this]
   ·rename_i h1 h2; rw [h1, h2]
   ·cases this
  | tail _ hx => exact fj h.2 x hx
def LD.leaf (d : LD) (o : an) (s : St) (w : Ow) : Option ((d.V × d.CC) ⊕ (d.E × List ah)) :=
 match owB w with
 | true => match o with
  | .normal => (d.mat s).map fun q => .inl (q.2, q.1)
  | o => ((mSt d.n (d.sh o).K ((d.sh o).F (bZ (d.sh o).pre s)) (d.sh o).M (d.sh o).B (d.sh o).D (bZ (d.sh o).pre s)).bind (d.ofE o)).map .inr
 | false => none
structure LD.Ok (P : Program) (T : av) (ch : CH) (A : qJ) (d : LD) (fuel : Nat) (b : Code) : Prop where
 hd : shP d.K d.M d.B = true
 shE : ∀ e, shP (d.sh (d.out e)).K (d.sh (d.out e)).M (d.sh (d.out e)).B = true
 body : ∀ cc v, bh T ch A fuel b (d.st cc v) .nil d.leaf = d.ck cc v (fun v' => some (.inl (v', cc))) fun e => some (.inr (e, d.fp cc e))
 inner : ∀ b' ∈ bm b, ∀ la, A (dO b') = some la → cF P d.n la b'
theorem LD.ok {P : Program} {T : av} {ch : CH} {A : qJ} (hT : aY P T) (hH : aE P ch) (hm : P.follows .mixedOrders = true) {d : LD} {fuel : Nat} {b : Code} (h : d.Ok P T ch A fuel b) : cF P d.n d.la b := by
 have head : ∀ {s : St} {cc : d.CC} {v : d.V}, d.mat s = some (cc, v) → d.n ≤ s.mem.next → Cov d.n s (d.st cc v) := by
  intro s cc v hmt hn
  obtain ⟨ls, h1, h2⟩ := bE_ hmt
  have := uS h.hd h1
  rw [d.au _ _ _ h2] at this
  exact (kC hn).trans this
 intro s o s' hr
 simp only [LD.la] at hr
 obtain ⟨⟨cc, v⟩, h0, hr⟩ := bE_ hr
 obtain ⟨e, h1, h2⟩ := bE_ hr
 rw [d.cd] at h2
 simp only [Option.some.injEq, Prod.mk.injEq] at h2
 obtain ⟨rfl, rfl⟩ := h2
 obtain ⟨m, hmm⟩ : ∃ m, iter (d.step cc) m v = some e := ⟨_, h1⟩
 have key : ∀ (m : Nat) (v : d.V), iter (d.step cc) m v = some e → zd P d.n b m (d.st cc v) (d.out e) (iSt (d.sh (d.out e)).K (d.sh (d.out e)).M (d.sh (d.out e)).B (d.sh (d.out e)).D (d.toE cc e)) := by
  intro m
  induction m with
  | zero => intro v hv; simp [iter] at hv
  | succ m ih =>
   intro v hv
   simp only [iter] at hv
   have hb := h.body cc v
   rw [jV, d.nat] at hb
   cases hst : d.step cc v with
   | none => rw [hst] at hv; cases hv
   | some q =>
    rw [hst] at hv
    have hst' : (d.ck cc v (fun v => some (Sum.inl v)) fun e => some (Sum.inr e)) = some q := hst
    rw [hst'] at hb
    simp only [Option.bind_some] at hb
    have hq : ∃ y, Sum.elim (fun v' => some (Sum.inl (v', cc))) (fun e => some (Sum.inr (e, d.fp cc e))) q = some y := by cases q <;> exact ⟨_, rfl⟩
    obtain ⟨y, hy⟩ := hq
    rw [hy] at hb
    obtain ⟨⟨o1, s1, w1⟩, k1, k2⟩ := bE_ hb
    obtain ⟨o2, s2, w2, j1, j2, j3⟩ := ja hT hH hm fuel b _ _ _ _ h.inner k1
    simp only [Option.some.injEq, Prod.mk.injEq] at j1
    obtain ⟨rfl, rfl, rfl⟩ := j1
    simp only [LD.leaf] at k2
    split at k2
    ·rename_i how
     have hA := j3 (fj how)
     have hn2 : dq P d.n b (d.st cc v) fun o1 s1' => (o1 = o2 ∧ s1' = s2) ∧ d.n ≤ s1'.mem.next := by
      intro hn w0 ρ a w hr
      refine wp_mono (hA hn w0 ρ a w hr) ?_
      rintro e' a' w' ⟨o3, s3, q1, q2⟩
      obtain ⟨ρ', r1, r2, r3, r4, r5⟩ := q2
      exact ⟨o3, s3, ⟨q1, r4⟩, ⟨ρ', r1, r2, r3, r4, r5⟩⟩
     split at k2
     ·
      obtain ⟨⟨c', v'⟩, q1, q2⟩ := Option.map_eq_some_iff.1 k2
      subst q2
      cases q with
      | inr e' => simp at hy
      | inl v2 =>
       simp only [Sum.elim_inl, Option.some.injEq, Sum.inl.injEq, Prod.mk.injEq] at hy
       obtain ⟨rfl, rfl⟩ := hy
       simp only at hv
       refine .inr ⟨d.st cc v2, pn (hn2.mono ?_), ih v2 hv⟩
       rintro o3 s3 ⟨⟨rfl, rfl⟩, hnx⟩
       exact ⟨by simp, _, head q1 hnx, rfl, rfl⟩
     ·
      rename_i hnn
      obtain ⟨⟨e', cl⟩, q1, q2⟩ := Option.map_eq_some_iff.1 k2
      subst q2
      cases q with
      | inl v2 => simp at hy
      | inr e2 =>
       simp only [Sum.elim_inr, Option.some.injEq, Sum.inr.injEq, Prod.mk.injEq] at hy
       obtain ⟨rfl, rfl⟩ := hy
       simp only [Option.some.injEq] at hv
       subst hv
       obtain ⟨ls, u1, u2⟩ := bE_ q1
       obtain ⟨t1, t2, t3, t4⟩ := d.da _ _ _ _ cc u2 rfl
       have hcv := uS (by have := h.shE e2; rwa [t2] at this) u1
       rw [t1] at hcv
       left
       rw [t2]
       refine ⟨t3, pn (hn2.mono ?_)⟩
       rintro o3 s3 ⟨⟨rfl, rfl⟩, hnx⟩
       exact ⟨t4, _, (kC hnx).trans hcv, rfl, rfl⟩
    ·cases k2
 intro hn
 exact PJ (head h0 hn) (EF (key m v hmm)) hn
end Go.Ev
namespace Go.Ev
section
variable {P : Program} {T : av}
structure wJ (P : Program) (gd : FuncId) (fd : Func) (id : Nat) (ops : Array Oper) (o0 o1 : Oper) (rest : Code) (t3 t2 : Tmp) : Prop where
 fn : P.funcs[gd]? = some fd
 Up : nE P gd
 body : fd.body = some (.seq (.region id ops false) rest)
 res : fd.results = #[]
 ops : ops.toList = [o0, o1]
 d0 : o0.dst = some t3
 g0 : o0.guard = none
 p0 : o0.op = .call ⟨.builtin .recover, #[], #[]⟩
 d1 : o1.dst = some t2
 g1 : o1.guard = none
 p1 : o1.op = .assign (.tmp t3)
 ne : gd ≠ w8
def Av (nt : Nat) (cap : LA_) (σ : Mem) (t3 t2 : Tmp) (r : ab) : St :=
 let tm := bR (bC nt cap σ).tm (some t3) r
 ⟨bR tm (some t2) (tm.getD t3 (.tup [])), [], σ⟩
theorem xf {w0 : W0} {ρ : Nat → Loc} {σ : Mem} {w : World} (hr : Rel w0 ρ σ w) {args : LA_} (hs : scL σ.next args = true) (nt : Nat) :
  bJ w0 ρ (bC nt args σ) { tmps := (γL ρ args).toArray ++ Array.replicate (nt - (γL ρ args).toArray.size) undef, defers := [] } w := by
 refine ⟨hr, ?_, ?_, rfl, by simp [bC]⟩
 ·apply Array.ext'
  simp [bC, cu, Bc, mg ρ]
 ·simp only [bC, kB]
  refine ⟨hs, ?_⟩
  rw [iq]
  intro v hv
  rw [(List.mem_replicate.1 hv).2]
  simp [sc, scL]
theorem LX {o : Oper} (h : o.op = .call ⟨.builtin .recover, #[], #[]⟩) (ρ : Operand → Value) (w : World) : (execOp ρ o).run P w = .ok .recover w := by
 obtain ⟨dst, op, type, pos, after, guard⟩ := o
 subst h
 rfl
theorem Nc {gd : FuncId} {fd : Func} {id : Nat} {ops : Array Oper} {o0 o1 : Oper} {rest : Code} {t3 t2 : Tmp} (hk : wJ P gd fd id ops o0 o1 rest t3 t2)
  {w0 : W0} {ρ : Nat → Loc} {σ : Mem} {w : World} {cap : LA_} {r : ab} {u u2 : FrameMode} (hr : Rel w0 ρ σ w) (hc : scL σ.next cap = true) (hs : sc σ.next r = true)
  (hu : ∀ (c₀ : Frame) (cs : List Frame), c₀.mode = u → (recoverD (c₀ :: cs) = none ∧ γ ρ r = .nilIface ∧ u2 = u) ∨ recoverD (c₀ :: cs) = some (γ ρ r, { c₀ with mode := u2 } :: cs))
  {Q : Mem → (Nat → Loc) → World → Prop}
  (hrest : AWP P rest (Av fd.ntmps cap σ t3 t2 r) fun o s => (o = .normal ∨ o = .ret) ∧ s.df = [] ∧ ∀ ρ' w', Rel w0 ρ' s.mem w' → (∀ i, i < σ.next → ρ' i = ρ i) → σ.next ≤ s.mem.next → Q s.mem ρ' w') :
  CallsD P gd (γL ρ cap).toArray u w fun e u' w' => (∃ v, e = .returned v) ∧ u' = u2 ∧ ∃ σ' ρ', Q σ' ρ' w' := by
 refine callsD_of_wpS hk.fn hk.body fun c₀ cs hm => ?_
 have h0 := xf hr hc fd.ntmps
 refine wpS_seq (wpS_region ?_)
 have hsz : ops.size = 2 := by rw [← Array.length_toList, hk.ops]; rfl
 have hi0 : ops[0]? = some o0 := by rw [← Array.getElem?_toList, hk.ops]; rfl
 have hi1 : ops[1]? = some o1 := by rw [← Array.getElem?_toList, hk.ops]; rfl
 rw [hsz]
 show wpOpsS P ops _ [0, 1] _ _ _
 have w0' : ∀ y, Region.wanted o0 y = true := by intro y; simp [Region.wanted, hk.g0]
 have w1' : ∀ y, Region.wanted o1 y = true := by intro y; simp [Region.wanted, hk.g1]
 have key : ∀ cs', cs' = { c₀ with mode := u2 } :: cs →
   wpOpsS P ops (Exit.thenS (rest.wpS P (bodyPostS P fd c₀ cs fun e u' w' => (∃ v, e = .returned v) ∧ u' = u2 ∧ ∃ σ' ρ', Q σ' ρ' w')) (bodyPostS P fd c₀ cs fun e u' w' => (∃ v, e = .returned v) ∧ u' = u2 ∧ ∃ σ' ρ', Q σ' ρ' w'))
    [1] (Act.put { tmps := (γL ρ cap).toArray ++ Array.replicate (fd.ntmps - (γL ρ cap).toArray.size) undef, defers := [] } o0.dst (γ ρ r)) cs' w := by
  rintro cs' rfl
  have h1 := h0.put (v := r) hs o0.dst
  simp only [wpOpsS, hi1, w1', if_true]
  have hev : ev (bR (bC fd.ntmps cap σ).tm o0.dst r) (.tmp t3) = some ((bR (bC fd.ntmps cap σ).tm o0.dst r).getD t3 (.tup [])) := rfl
  obtain ⟨e1, e2⟩ := qI h1.tm h1.sct hev
  have hrun : (execOp (Act.put { tmps := (γL ρ cap).toArray ++ Array.replicate (fd.ntmps - (γL ρ cap).toArray.size) undef, defers := [] } o0.dst (γ ρ r)).eval o1).run P w =
    .ok (.value (γ ρ ((bR (bC fd.ntmps cap σ).tm o0.dst r).getD t3 (.tup [])))) w := by
   obtain ⟨dst, op, type, pos, after, guard⟩ := o1
   have := hk.p1
   simp only at this
   subst this
   simp only [execOp, e1, Sem.run_pure]
  rw [hrun]
  show Code.wpS P rest (bodyPostS P fd c₀ cs fun e u' w' => (∃ v, e = .returned v) ∧ u' = u2 ∧ ∃ σ' ρ', Q σ' ρ' w') _ _ _
  refine wpS_of_wp ?_
  have h2 := h1.put (v := (bR (bC fd.ntmps cap σ).tm o0.dst r).getD t3 (.tup [])) e2 o1.dst
  rw [hk.d0, hk.d1] at h2
  rw [hk.d0, hk.d1]
  refine wp_mono (hrest w0 ρ _ w h2) ?_
  rintro e a' w' ⟨o, s, ⟨ho, hd, hq⟩, ⟨ρ', rfl, k1, k2, k3, _⟩⟩
  have hdf : a'.defers = [] := by rw [k1.df, hd]; rfl
  have hres : ∃ v, (results fd a'.tmps).run P w' = .ok v w' := by
   refine ⟨.tuple #[], ?_⟩
   rw [GY, Array.mapM_eq_mapM_toList, hk.res]
   simp [Sem.run_bind, Sem.run_pure]
  obtain ⟨v, hv⟩ := hres
  rcases ho with rfl | rfl
  ·exact ⟨hdf, u2, rfl, v, hv, ⟨v, rfl⟩, rfl, s.mem, ρ', hq ρ' w' k1.rel k2 k3⟩
  ·exact ⟨hdf, u2, rfl, v, hv, ⟨v, rfl⟩, rfl, s.mem, ρ', hq ρ' w' k1.rel k2 k3⟩
 rw [wpOpsS]
 simp only [hi0, w0', if_true, LX hk.p0]
 rcases hu c₀ cs hm with ⟨q1, q2, q3⟩ | q
 ·rw [q1]
  simp only
  rw [← q2]
  exact key (c₀ :: cs) (by subst q3; subst hm; rfl)
 ·rw [q]
  exact key _ rfl
theorem BN (hT : aY P T) {g : FuncId} {fn : Func} {c : Code} {args : LA_} {σ : Mem} (hf : P.funcs[g]? = some fn) (hb : fn.body = some c)
  {R : ab → Mem → Prop}
  (h : AWP P c (bC fn.ntmps args σ) fun o s => (s.df = [] ∧ (o = .normal ∨ o = .ret) ∧ ∃ v, gF T s fn.results.toList = some v ∧ R v s.mem) ∨ ∃ (gd : FuncId) (fd : Func) (id : Nat) (ops : Array Oper) (o0 o1 : Oper) (rest : Code) (t3 t2 : Tmp) (cap : LA_) (r : ab), wJ P gd fd id ops o0 o1 rest t3 t2 ∧ s.df = [⟨gd, cap, []⟩] ∧ (((o = .normal ∨ o = .ret) ∧ r = .dC) ∨ o = .pan r) ∧
   AWP P rest (Av fd.ntmps cap s.mem t3 t2 r) fun o' s2 => (o' = .normal ∨ o' = .ret) ∧ s2.df = [] ∧ ∃ v, gF T ⟨s.tm, [], s2.mem⟩ fn.results.toList = some v ∧ R v s2.mem) :
  ∀ w0 ρ w, Rel w0 ρ σ w → scL σ.next args = true →
   Calls P g (γL ρ args).toArray w fun e w' => ∃ v σ' ρ', R v σ' ∧ e = .returned (γ ρ' v) ∧ bN w0 ρ σ.next ρ' σ' w' ∧ sc σ'.next v = true := by
 intro w0 ρ w hr hs
 refine calls_of_wp_defers hf hb ?_
 refine wp_mono (h w0 ρ _ w (xf hr hs fn.ntmps)) ?_
 rintro e a' w' ⟨o, s, ⟨hdf, ho, v, hres, hR⟩ | ⟨gd, fd, id, ops, o0, o1, rest, t3, t2, cap, r, hk, hdf, ho, hrest⟩, ⟨ρ', rfl, k1, k2, k3, k4⟩⟩
 ·have hd : a'.defers = [] := by rw [k1.df, hdf]; rfl
  obtain ⟨r1, r2⟩ := sb (P := P) hT k1 hres
  have hret : Leaves P fn a'.tmps (fun e w' => ∃ v σ' ρ', R v σ' ∧ e = .returned (γ ρ' v) ∧ bN w0 ρ σ.next ρ' σ' w' ∧ sc σ'.next v = true) a'.defers .returning w' := by
   rw [hd]
   exact ⟨_, r1, v, s.mem, ρ', hR, rfl, ⟨k1.rel, k2, k3⟩, r2⟩
  rcases ho with rfl | rfl
  ·exact hret
  ·exact hret
 have hdef : a'.defers = [{ target := .fn (.func gd) (γL ρ' cap).toArray, args := (γL ρ' []).toArray }] := by
  rw [k1.df, hdf]
  simp only [List.map_cons, List.map_nil, γD, dOf, if_neg hk.ne]
 have hcap : scL s.mem.next cap = true := (k1.scd ⟨gd, cap, []⟩ (by rw [hdf]; simp)).1
 have after : ∀ (u u2 : FrameMode), u ≠ .run → settle u2 = .returning → sc s.mem.next r = true →
   (∀ (c₀ : Frame) (cs : List Frame), c₀.mode = u → (recoverD (c₀ :: cs) = none ∧ γ ρ' r = .nilIface ∧ u2 = u) ∨ recoverD (c₀ :: cs) = some (γ ρ' r, { c₀ with mode := u2 } :: cs)) →
   Leaves P fn a'.tmps (fun e w' => ∃ v σ' ρ', R v σ' ∧ e = .returned (γ ρ' v) ∧ bN w0 ρ σ.next ρ' σ' w' ∧ sc σ'.next v = true) a'.defers u w' := by
  intro u u2 hu hset hsr hrec
  rw [hdef]
  refine leaves_cons hu (f := gd) (args := (γL ρ' cap).toArray) ?_ ?_
  ·have e0 : (γL ρ' ([] : LA_)).toArray ++ (γL ρ' cap).toArray = (γL ρ' cap).toArray := by simp [γL]
   simp only [invoke, e0, jN hk.Up]
  ·refine (Nc (w0 := w0) hk k1.rel hcap hsr hrec (Q := fun σ2 ρ2 w2 => Leaves P fn a'.tmps (fun e w' => ∃ v σ' ρ', R v σ' ∧ e = .returned (γ ρ' v) ∧ bN w0 ρ σ.next ρ' σ' w' ∧ sc σ'.next v = true) [] .returning w2) ?_).mono ?_
   ·refine hrest.mono ?_
    rintro o' s2 ⟨q1, q2, v, q3, q4⟩
    refine ⟨q1, q2, fun ρ2 w2 hr2 hx hle => ?_⟩
    have hS : bJ w0 ρ2 ⟨s.tm, [], s2.mem⟩ { tmps := a'.tmps, defers := [] } w2 :=
     ⟨hr2, by rw [k1.tm, dk hx _ k1.sct], cz hle _ k1.sct, rfl, by simp⟩
    obtain ⟨r1, r2⟩ := sb (P := P) hT hS q3
    exact ⟨_, r1, v, s2.mem, ρ2, q4, rfl, ⟨hr2, fun i hi => (hx i (Nat.lt_of_lt_of_le hi k3)).trans (k2 i hi), Nat.le_trans k3 hle⟩, r2⟩
   ·rintro e u' w2 ⟨⟨v, rfl⟩, rfl, σ', ρ2, hq⟩
    show Leaves P fn a'.tmps _ [] (settle u') w2
    rw [hset]
    exact hq
 rcases ho with ⟨ho, rfl⟩ | rfl
 ·have hret : Leaves P fn a'.tmps (fun e w' => ∃ v σ' ρ', R v σ' ∧ e = .returned (γ ρ' v) ∧ bN w0 ρ σ.next ρ' σ' w' ∧ sc σ'.next v = true) a'.defers .returning w' := by
   refine after .returning .returning (by simp) rfl rfl fun c₀ cs hm => .inl ⟨?_, rfl, rfl⟩
   simp [recoverD, hm]
  rcases ho with rfl | rfl
  ·exact hret
  ·exact hret
 ·refine after (.panicking [{ v := γ ρ' r, recovered := false }]) (.panicking [{ v := γ ρ' r, recovered := true }]) (by simp) rfl (k4 r rfl) fun c₀ cs hm => .inr ?_
  simp [recoverD, hm]
theorem iO (hT : aY P T) {g : FuncId} {fn : Func} {c : Code} {args : LA_} {σ : Mem} (hf : P.funcs[g]? = some fn) (hb : fn.body = some c)
  {gd : FuncId} {fd : Func} {id : Nat} {ops : Array Oper} {o0 o1 : Oper} {rest : Code} {t3 t2 : Tmp} (hk : wJ P gd fd id ops o0 o1 rest t3 t2) {R : ab → Mem → Prop}
  (h : AWP P c (bC fn.ntmps args σ) fun o s => (s.df = [] ∧ (o = .normal ∨ o = .ret) ∧ ∃ v, gF T s fn.results.toList = some v ∧ R v s.mem) ∨ ∃ cap r, s.df = [⟨gd, cap, []⟩] ∧ (((o = .normal ∨ o = .ret) ∧ r = .dC) ∨ o = .pan r) ∧
   AWP P rest (Av fd.ntmps cap s.mem t3 t2 r) fun o' s2 => (o' = .normal ∨ o' = .ret) ∧ s2.df = [] ∧ ∃ v, gF T ⟨s.tm, [], s2.mem⟩ fn.results.toList = some v ∧ R v s2.mem) :
  ∀ w0 ρ w, Rel w0 ρ σ w → scL σ.next args = true →
   Calls P g (γL ρ args).toArray w fun e w' => ∃ v σ' ρ', R v σ' ∧ e = .returned (γ ρ' v) ∧ bN w0 ρ σ.next ρ' σ' w' ∧ sc σ'.next v = true :=
 BN hT hf hb (h.mono fun o s q => q.imp (fun q => q) fun ⟨cap, r, q⟩ => ⟨gd, fd, id, ops, o0, o1, rest, t3, t2, cap, r, hk, q⟩)
end
end Go.Ev
namespace Go.Ev
structure HK where
 call : {R : Type} → LA_ → Mem → (fR → Mem → Option R) → Option R
 nat : ∀ {R : Type} (args : LA_) (σ : Mem) (k : fR → Mem → Option R), call args σ k = (call args σ fun r σ' => some (r, σ')).bind fun x => k x.1 x.2
 pure : Bool
 pok : pure = true → ∀ args σ r σ', (call args σ fun r σ' => some (r, σ')) = some (r, σ') → σ' = σ ∧ (∃ v, r = .ret v) ∧ ∀ σ2, (call args σ2 fun r σ' => some (r, σ')) = some (r, σ2)
def aW (P : Program) (g : FuncId) (h : HK) : Prop :=
 ∀ args σ r σ', (h.call args σ fun r σ' => some (r, σ')) = some (r, σ') → GL P g args σ r σ' ∧ Ext σ σ'
def CH.none : CH := ⟨fun _ _ _ _ => Option.none, fun _ _ _ _ => rfl, fun _ => false, fun _ => 2⟩
def CH.add (g : FuncId) (h : HK) (c : CH) : CH where
 call := fun f args σ k => if f = g then h.call args σ fun r σ' => k r σ' .nil else c.call f args σ k
 nat := fun f args σ k => by
  split
  ·conv => lhs; rw [h.nat]
   conv => rhs; rw [h.nat, Option.bind_assoc]
   rfl
  ·exact c.nat f args σ k
 ext := fun f => if f = g then true else c.ext f
 pf := fun f => if f = g then (cond h.pure 0 2) else c.pf f
section
variable {P : Program} {T : av}
theorem CH.aB : aE P CH.none := by
 refine ⟨?_, ?_, ?_⟩
 ·intro f args σ r σ' h
  simp [CH.H, CH.none] at h
 ·intro f args σ r σ' _ h
  simp [CH.H, CH.none] at h
 ·exact ⟨fun f args σ r σ' _ h => by simp [CH.H, CH.none] at h, fun f args σ r σ' _ h => by simp [CH.H, CH.none] at h⟩
theorem CH.aj {g : FuncId} {h : HK} {c : CH} (hh : aW P g h) (hc : aE P c) : aE P (CH.add g h c) := by
 have key : ∀ f args σ r σ', (CH.add g h c).H f args σ = some (r, σ') → (f = g ∧ GL P g args σ r σ' ∧ Ext σ σ') ∨ (f ≠ g ∧ c.H f args σ = some (r, σ')) := by
  intro f args σ r σ' hr
  by_cases e : f = g
  ·subst e
   refine .inl ⟨rfl, hh args σ r σ' ?_⟩
   simp only [CH.H, CH.add, if_true] at hr
   rw [h.nat] at hr
   cases hx : (h.call args σ fun r σ' => some (r, σ')) with
   | none => rw [hx] at hr; simp at hr
   | some q =>
    rw [hx] at hr
    obtain ⟨q1, q2⟩ := q
    simp only [Option.bind_some] at hr
    rw [if_pos Ow.CY] at hr
    exact hr
  ·refine .inr ⟨e, ?_⟩
   simpa only [CH.H, CH.add, if_neg e] using hr
 refine ⟨?_, ?_, ?_⟩
 ·intro f args σ r σ' hr
  rcases key f args σ r σ' hr with ⟨rfl, h1, _⟩ | ⟨_, h1⟩
  ·exact h1
  ·exact hc.1 f args σ r σ' h1
 ·intro f args σ r σ' he hr
  rcases key f args σ r σ' hr with ⟨rfl, _, h2⟩ | ⟨h1, h2⟩
  ·exact h2
  ·refine hc.2.1 f args σ r σ' ?_ h2
   simpa only [CH.add, if_neg h1] using he
 ·refine ⟨fun f args σ r σ' he hr => ?_, fun f args σ r σ' he hr => ?_⟩
  ·by_cases e : f = g
   ·subst e
    have hp : h.pure = true := by
     have he' : cond h.pure 0 2 = 0 := by simpa only [CH.add, if_true] using he
     cases hh : h.pure with
     | true => rfl
     | false => rw [hh] at he'; cases he'
    have hx : (h.call args σ fun r σ' => some (r, σ')) = some (r, σ') := by
     simp only [CH.H, CH.add, if_true] at hr
     rw [h.nat] at hr
     cases hx : (h.call args σ fun r σ' => some (r, σ')) with
     | none => rw [hx] at hr; simp at hr
     | some q =>
      rw [hx] at hr
      obtain ⟨q1, q2⟩ := q
      simp only [Option.bind_some] at hr
      rw [if_pos Ow.CY] at hr
      exact hr
    obtain ⟨h1, h2, h3⟩ := h.pok hp args σ r σ' hx
    refine ⟨h1, h2, fun σ2 => ?_⟩
    simp only [CH.H, CH.add, if_true]
    rw [h.nat, h3 σ2]
    simp only [Option.bind_some]
    rw [if_pos Ow.CY]
   ·have hr' : c.H f args σ = some (r, σ') := by simpa only [CH.H, CH.add, if_neg e] using hr
    obtain ⟨h1, h2, h3⟩ := hc.2.2.1 f args σ r σ' (by simpa only [CH.add, if_neg e] using he) hr'
    exact ⟨h1, h2, fun σ2 => by simpa only [CH.H, CH.add, if_neg e] using h3 σ2⟩
  ·by_cases e : f = g
   ·subst e
    have he' : cond h.pure 0 2 = 1 := by simpa only [CH.add, if_true] using he
    cases hh : h.pure with
    | true => rw [hh] at he'; cases he'
    | false => rw [hh] at he'; cases he'
   ·exact hc.2.2.2 f args σ r σ' (by simpa only [CH.add, if_neg e] using he) (by simpa only [CH.H, CH.add, if_neg e] using hr)
def FP (ch : CH) (o : Oper) : Bool :=
 match o.op with
 | .alloc _ | .box .. | .buildSlice .. => true
 | .makeMap _ none => true
 | .panic _ => true
 | .call { callee := .value (.func g), .. } => ch.ext g
 | .call { callee := .value _, .. } => false
 | _ => !cn ch.pf o
theorem Mt {ch : CH} {o : Oper} (h : FP ch o = true) (tm : LA_) : Dv ch o tm = true := by
 unfold FP at h
 unfold Dv
 split at h
 ·rename_i e; simp only [e]
 ·rename_i e; simp only [e]
 ·rename_i e; simp only [e]
 ·rename_i e; simp only [e]
 ·rename_i e; simp only [e]
 ·rename_i g args ats e
  simp only [e, ev]
  exact h
 ·cases h
 ·rename_i h1 h2 h3 h4 h7 h5 h6
  split
  ·rename_i e; exact absurd e (h1 _)
  ·rename_i e; exact absurd e (h2 _ _)
  ·rename_i e; exact absurd e (h3 _ _ _)
  ·rename_i e; exact absurd e (h4 _)
  ·rename_i e; exact absurd e (h7 _)
  ·rename_i e; exact absurd e (h6 _ _ _)
  ·exact h
def t7 (ch : CH) : Code → Bool
 | .skip | .label _ | .exit _ | .goto _ | .ret => true
 | .region _ ops _ => ops.toList.all (FP ch)
 | .seq a b | .cond _ a b => t7 ch a && t7 ch b
 | .block _ b | .loop b | .scope b => t7 ch b
 | _ => false
section
variable {T : av} {ch : CH}
def AC.mem : AC → Mem
 | .go s => s.mem
 | .pan _ s => s.mem
theorem AX {P : Program} (hH : aE P ch) {all : List Oper} {o : Oper} {s : St} {x : AC} (h : dr T ch.H all o s = some x) (he : FP ch o = true) : Ext s.mem x.mem := by
 have hx : ∀ r σ, aN T ch.H o.op s.tm s.mem = some (r, σ) → Ext s.mem σ := fun r σ hr => CZ hH hr (Mt he _)
 unfold dr at h
 split at h
 ·cases h
 ·split at h
  ·split at h
   ·rename_i hr; cases h; exact hx _ _ hr
   ·rename_i hr; cases h; exact hx _ _ hr
   ·rename_i hr; cases h; exact hx _ _ hr
   ·rename_i hr; cases h; exact hx _ _ hr
   ·cases h
  ·cases h; exact .refl _
theorem AY {P : Program} (hH : aE P ch) {all : List Oper} : ∀ {l : List Oper} {s : St} {x : AC}, dY T ch.H all l s = some x → l.all (FP ch) = true → Ext s.mem x.mem
 | [], s, x, h, _ => by simp only [dY, Option.some.injEq] at h; subst h; exact .refl _
 | o :: l, s, x, h, he => by
  simp only [List.all_cons, Bool.and_eq_true] at he
  simp only [dY] at h
  split at h
  ·rename_i s' hs
   exact (AX hH hs he.1).trans (AY (s := s') hH h he.2)
  ·rename_i y hy
   exact AX hH h he.1
theorem C3 {P : Program} (hH : aE P ch) {all : List Oper} : ∀ {l : List Oper} {s : St} {tr : List (St × ab)} {e : St}, trace T ch.H all l s = some (tr, e) → l.all (FP ch) = true → Ext s.mem e.mem
 | [], s, tr, e, h, _ => by simp only [trace, Option.some.injEq, Prod.mk.injEq] at h; obtain ⟨_, rfl⟩ := h; exact .refl _
 | o :: l, s, tr, e, h, he => by
  simp only [List.all_cons, Bool.and_eq_true] at he
  simp only [trace] at h
  split at h
  ·rename_i v σ hv
   split at h
   ·rename_i tr1 e1 hl
    simp only [Option.some.injEq, Prod.mk.injEq] at h
    obtain ⟨_, rfl⟩ := h
    exact (Jk hH hv (by rw [Mt he.1]; simp)).trans (C3 hH (s := ⟨bR s.tm o.dst v, s.df, σ⟩) hl he.2)
   ·cases h
  ·cases h
theorem OS {P : Program} (hH : aE P ch) : ∀ (n : Nat) {R : Type} (c : Code) (s : St) (ow : Ow) (K : an → St → Ow → Option R) (r : R), t7 ch c = true → bh T ch bt n c s ow K = some r →
  ∃ o s' ow', K o s' ow' = some r ∧ ow.le ow' ∧ (ow'.ok → Ext s.mem s'.mem) := by
 intro n
 induction n with
 | zero => intro R c s ow K r _ h; simp [bh] at h
 | succ n ih =>
  intro R c s ow K r he h
  cases c with
  | skip => exact ⟨_, _, _, by simpa only [bh] using h, .refl _, fun _ => .refl _⟩
  | label l => exact ⟨_, _, _, by simpa only [bh] using h, .refl _, fun _ => .refl _⟩
  | exit l => exact ⟨_, _, _, by simpa only [bh] using h, .refl _, fun _ => .refl _⟩
  | goto l => exact ⟨_, _, _, by simpa only [bh] using h, .refl _, fun _ => .refl _⟩
  | ret => exact ⟨_, _, _, by simpa only [bh] using h, .refl _, fun _ => .refl _⟩
  | region id ops d =>
   simp only [t7] at he
   cases d with
   | false =>
    simp only [bh] at h
    rcases iP h with ⟨s', ow', h1, h2, h3⟩ | ⟨v, s', ow', h1, h2, h3⟩
    ·exact ⟨_, _, _, h1, h2, fun ho => AY hH (h3 ho) he⟩
    ·exact ⟨_, _, _, h1, h2, fun ho => AY hH (h3 ho) he⟩
   | true =>
    simp only [bh] at h
    rcases FO h with ⟨tr, e, ow', h0, h2, h3⟩ | ⟨tr, e, v, σ, ow', h0, h2, oo, h3, h4⟩
    ·obtain ⟨_, h1⟩ := aH h0
     exact ⟨_, _, _, h1, h2.trans (Ow.gu _ _), fun ho => C3 hH (h3 ((Ow.gu _ _).ok ho)) he⟩
    ·obtain ⟨_, h1⟩ := aH h0
     refine ⟨_, _, _, h1, h2.trans (Ow.gu _ _), fun ho => ?_⟩
     obtain ⟨q1, q2⟩ := h4 ((Ow.gu _ _).ok ho)
     have e1 : (ops.toList.take tr.length).all (FP ch) = true := by
      rw [List.all_eq_true] at he ⊢
      exact fun x hx => he x (List.mem_of_mem_take hx)
     exact (C3 hH q1 e1).trans (AX hH q2 ((List.all_eq_true.1 he) oo (List.mem_of_getElem? h3)))
  | seq a b =>
   simp only [bh] at h
   simp only [t7, Bool.and_eq_true] at he
   obtain ⟨o, s1, ow1, h1, h2, h3⟩ := ih a s ow _ r he.1 h
   cases o with
   | normal =>
    obtain ⟨o2, s2, ow2, k1, k2, k3⟩ := ih b s1 ow1 K r he.2 h1
    exact ⟨o2, s2, ow2, k1, h2.trans k2, fun ho => (h3 (k2.ok ho)).trans (k3 ho)⟩
   | exit i => exact ⟨_, _, _, h1, h2, h3⟩
   | goto i => exact ⟨_, _, _, h1, h2, h3⟩
   | ret => exact ⟨_, _, _, h1, h2, h3⟩
   | pan v => exact ⟨_, _, _, h1, h2, h3⟩
  | cond c a b =>
   simp only [bh] at h
   simp only [t7, Bool.and_eq_true] at he
   split at h
   ·exact ih a s ow _ r he.1 h
   ·exact ih b s ow _ r he.2 h
   ·cases h
  | block id b =>
   simp only [bh] at h
   simp only [t7] at he
   obtain ⟨o, s1, ow1, h1, h2, h3⟩ := ih b s ow _ r he h
   cases o with
   | exit i =>
    simp only at h1
    split at h1
    ·exact ⟨_, _, _, h1, h2, h3⟩
    ·exact ⟨_, _, _, h1, h2, h3⟩
   | normal => exact ⟨_, _, _, h1, h2, h3⟩
   | goto i => exact ⟨_, _, _, h1, h2, h3⟩
   | ret => exact ⟨_, _, _, h1, h2, h3⟩
   | pan v => exact ⟨_, _, _, h1, h2, h3⟩
  | loop b =>
   simp only [t7] at he
   simp only [bh, bt] at h
   obtain ⟨o, s1, ow1, h1, h2, h3⟩ := ih b s ow _ r he h
   cases o with
   | normal =>
    obtain ⟨o2, s2, ow2, k1, k2, k3⟩ := ih (.loop b) s1 ow1 K r (by simpa only [t7] using he) h1
    exact ⟨o2, s2, ow2, k1, h2.trans k2, fun ho => (h3 (k2.ok ho)).trans (k3 ho)⟩
   | exit i => exact ⟨_, _, _, h1, h2, h3⟩
   | goto i => exact ⟨_, _, _, h1, h2, h3⟩
   | ret => exact ⟨_, _, _, h1, h2, h3⟩
   | pan v => exact ⟨_, _, _, h1, h2, h3⟩
  | scope b =>
   simp only [bh] at h
   simp only [t7] at he
   obtain ⟨o, s1, ow1, h1, h2, h3⟩ := ih b s ow _ r he h
   cases o with
   | goto i => cases h1
   | normal => exact ⟨_, _, _, h1, h2, h3⟩
   | exit i => exact ⟨_, _, _, h1, h2, h3⟩
   | ret => exact ⟨_, _, _, h1, h2, h3⟩
   | pan v => exact ⟨_, _, _, h1, h2, h3⟩
  | rangeFunc f ps a b => simp [bh] at h
  | refuse w => simp [bh] at h
end
def CH.inl (P : Program) (T : av) (gs : List FuncId) (fuel : Nat) (lo : CH) (c : CH) : CH where
 call := fun g args σ k => if gs.contains g then (match P.funcs[g]? with
  | some fn => match fn.body with
   | some b => bh T lo bt fuel b (bC fn.ntmps args σ) .nil fun o s ow => match AN T fn.results.toList o s with
    | some (r, σ') => k r σ' ow
    | .none => .none
   | .none => .none
  | .none => .none) else c.call g args σ k
 nat := fun g args σ k => by
  split
  ·split
   ·split
    ·conv => lhs; rw [jV]
     conv => rhs; rw [jV, Option.bind_assoc]
     congr 1
     funext q
     obtain ⟨o, s, w⟩ := q
     simp only
     split <;> rfl
    ·rfl
   ·rfl
  ·exact c.nat g args σ k
 ext := fun g => if gs.contains g then (match P.funcs[g]? with
  | some fn => match fn.body with
   | some b => t7 lo b
   | .none => false
  | .none => false) else c.ext g
 pf := fun g => if gs.contains g then 2 else c.pf g
theorem CH.Tn (hT : aY P T) (hm : P.follows .mixedOrders = true) (hN : ou P) {gs : List FuncId} {fuel : Nat} {lo c : CH} (hl : aE P lo) (hc : aE P c) : aE P (CH.inl P T gs fuel lo c) := by
 refine ⟨?_, fun g args σ r σ' he hr => ?_, ?_⟩
 rotate_left
 rotate_left
 ·refine ⟨fun g args σ r σ' he hr => ?_, fun g args σ r σ' he hr => ?_⟩
  ·by_cases e : gs.contains g = true
   ·simp only [CH.inl, e, if_true] at he; cases he
   ·obtain ⟨h1, h2, h3⟩ := hc.2.2.1 g args σ r σ' (by simpa only [CH.inl, if_neg e] using he) (by simpa only [CH.H, CH.inl, if_neg e] using hr)
    exact ⟨h1, h2, fun σ2 => by simpa only [CH.H, CH.inl, if_neg e] using h3 σ2⟩
  ·by_cases e : gs.contains g = true
   ·simp only [CH.inl, e, if_true] at he; cases he
   ·exact hc.2.2.2 g args σ r σ' (by simpa only [CH.inl, if_neg e] using he) (by simpa only [CH.H, CH.inl, if_neg e] using hr)
 rotate_left
 ·by_cases e : gs.contains g = true
  ·simp only [CH.inl, e, if_true] at he
   simp only [CH.H, CH.inl, e, if_true] at hr
   cases hf : P.funcs[g]? with
   | none => rw [hf] at he; cases he
   | some fn =>
    rw [hf] at he hr
    simp only at he hr
    cases hb : fn.body with
    | none => rw [hb] at he; cases he
    | some b =>
     rw [hb] at he hr
     simp only at he hr
     split at hr
     ·rename_i r1 σ1 ow hx
      split at hr
      ·rename_i hok
       simp only [Option.some.injEq, Prod.mk.injEq] at hr
       obtain ⟨rfl, rfl⟩ := hr
       obtain ⟨o, s, w, h1, h2, h3⟩ := OS hl fuel b _ _ _ _ he hx
       split at h1
       ·rename_i r2 σ2 hend
        simp only [Option.some.injEq, Prod.mk.injEq] at h1
        obtain ⟨rfl, rfl, rfl⟩ := h1
        have h4 := h3 hok
        unfold AN at hend
        split at hend
        ·split at hend
         ·obtain ⟨v, _, hv⟩ := Option.map_eq_some_iff.1 hend
          cases hv; exact h4
         ·cases hend
        ·split at hend
         ·obtain ⟨v, _, hv⟩ := Option.map_eq_some_iff.1 hend
          cases hv; exact h4
         ·cases hend
        ·split at hend
         ·cases hend; exact h4
         ·cases hend
        ·cases hend
       ·cases h1
      ·cases hr
     ·cases hr
  ·refine hc.2.1 g args σ r σ' (by simpa only [CH.inl, if_neg e] using he) ?_
   simpa only [CH.H, CH.inl, if_neg e] using hr
 intro g args σ r σ' hr
 by_cases e : gs.contains g = true
 ·simp only [CH.H, CH.inl, e, if_true] at hr
  cases hf : P.funcs[g]? with
  | none => rw [hf] at hr; simp at hr
  | some fn =>
   rw [hf] at hr
   simp only at hr
   cases hb : fn.body with
   | none => rw [hb] at hr; simp at hr
   | some b =>
    rw [hb] at hr
    simp only at hr
    split at hr
    ·rename_i r1 σ1 ow hx
     split at hr
     ·rename_i hok
      simp only [Option.some.injEq, Prod.mk.injEq] at hr
      obtain ⟨rfl, rfl⟩ := hr
      obtain ⟨o, s, w, h1, h2, h3⟩ := ja (k := σ.next) hT hl hm fuel b _ _ _ _ (fun _ _ la h => by simp [bt] at h) hx
      split at h1
      ·rename_i r2 σ2 he
       simp only [Option.some.injEq, Prod.mk.injEq] at h1
       obtain ⟨rfl, rfl, rfl⟩ := h1
       refine .inl ⟨⟨fn, hf, hN g fn hf, by rw [hb]; rfl⟩, ?_⟩
       intro w0 ρ w hrr hs
       have key : AWP P b (bC fn.ntmps args σ) fun o' s' => o' = o ∧ s' = s := dq.tg (s := bC fn.ntmps args σ) (h3 hok)
       have := CR (R := fun r3 σ3 => r3 = r2 ∧ σ3 = σ2) hT hf hb (key.mono fun o1 s1 hh => by
        obtain ⟨rfl, rfl⟩ := hh
        exact ⟨r2, σ2, he, rfl, rfl⟩) w0 ρ w hrr hs
       refine this.mono ?_
       rintro e w' ⟨r3, σ3, ρ', ⟨rfl, rfl⟩, k1, k2, k3⟩
       exact ⟨ρ', k1, k2, k3⟩
      ·cases h1
     ·cases hr
    ·cases hr
 ·refine hc.1 g args σ r σ' ?_
  simpa only [CH.H, CH.inl, if_neg e] using hr
end
def cQ : Nat → List ar → List (Nat × ar)
 | _, [] => []
 | k, b :: r => (k, b) :: cQ (k + 1) r
def dX : Nat → List kH → List (Nat × kH)
 | _, [] => []
 | k, b :: r => (k, b) :: dX (k + 1) r
def iBl : List kH → List ah → List ar
 | [], _ => []
 | p :: B, r => (iBk p r).1 :: iBl B (iBk p r).2
theorem La : ∀ {k : Nat} {B : List kH} {r : List ah}, (iB (dX k B) r).1 = cQ k (iBl B r)
 | k, [], r => rfl
 | k, p :: B, r => by simp only [dX, iB, iBl, cQ, La]
theorem AU : ∀ {B : List kH} {r : List ah}, (iBl B r).length = B.length
 | [], r => rfl
 | p :: B, r => by simp [iBl, AU]
structure FD where
 X : Type
 k : Nat
 pre : List (Tmp × Nat)
 F : St → List Nat
 M : Pat
 B : List kH
 toL : X → List ah
 ofL : List ah → Option X
 au : ∀ ls x, ofL ls = some x → ls = toL x
def FD.val (d : FD) (x : d.X) : ab := (ip d.M (d.toL x)).1
def FD.aL (d : FD) (x : d.X) : List ar := iBl d.B (ip d.M (d.toL x)).2
def Ax (T : av) (rs : List ResultVar) (pre : List (Tmp × Nat)) (o : an) (s : St) : Option St :=
 match o with
 | .normal | .ret => match (bZ pre s).df with
  | [] => (gF T (bZ pre s) rs).map fun v => ⟨[v], [], (bZ pre s).mem⟩
  | _ => none
 | _ => none
def Hu {R : Type} (T : av) (s : St) : List ResultVar → (LA_ → Option R) → Option R
 | [], k => k []
 | .tmp t :: r, k => Hu T s r fun vs => k (s.tm.getD t (.tup []) :: vs)
 | .cell a t :: r, k => xj T s.mem t (s.tm.getD a (.tup [])) fun v => Hu T s r fun vs => k (v :: vs)
theorem AZ {R : Type} {T : av} {s : St} : ∀ {rs : List ResultVar} {k : LA_ → Option R} {x : R}, Hu T s rs k = some x → ∃ vs, t0 T s rs = some vs ∧ k vs = some x
 | [], k, x, h => ⟨[], rfl, h⟩
 | .tmp t :: r, k, x, h => by
  obtain ⟨vs, h1, h2⟩ := AZ (rs := r) (show Hu T s r _ = some x from h)
  exact ⟨_, by simp only [t0, h1, Option.map_some], h2⟩
 | .cell a t :: r, k, x, h => by
  obtain ⟨v, q1, q2⟩ := Hj (show xj T s.mem t (s.tm.getD a (.tup [])) _ = some x from h)
  obtain ⟨vs, h1, h2⟩ := AZ (rs := r) q2
  exact ⟨_, by simp only [t0, q1, h1], h2⟩
def PN {R : Type} (T : av) (s : St) (rs : List ResultVar) (k : ab → Option R) : Option R :=
 Hu T s rs fun vs => match vs with
  | [v] => k v
  | vs => k (.tup vs)
theorem CL {R : Type} {T : av} {s : St} {rs : List ResultVar} {k : ab → Option R} {x : R} (h : PN T s rs k = some x) : ∃ v, gF T s rs = some v ∧ k v = some x := by
 obtain ⟨vs, h1, h2⟩ := AZ h
 unfold gF
 rw [h1]
 split at h2
 ·exact ⟨_, rfl, h2⟩
 ·rename_i hn
  refine ⟨_, ?_, h2⟩
  split
  ·rename_i e; cases e; exact absurd rfl (hn _)
  ·rename_i e; cases e; rfl
  ·rename_i e; cases e
def Aw {R : Type} (T : av) (rs : List ResultVar) (pre : List (Tmp × Nat)) (o : an) (s : St) (k : St → Option R) : Option R :=
 match o with
 | .normal | .ret => match (bZ pre s).df with
  | [] => PN T (bZ pre s) rs fun v => k ⟨[v], [], (bZ pre s).mem⟩
  | _ => none
 | _ => none
theorem mc {R : Type} {T : av} {rs : List ResultVar} {pre : List (Tmp × Nat)} {o : an} {s : St} {k : St → Option R} {x : R} (h : Aw T rs pre o s k = some x) : ∃ s2, Ax T rs pre o s = some s2 ∧ k s2 = some x := by
 unfold Aw at h
 split at h <;> first | (cases h; done) | skip
 all_goals
  split at h
  ·rename_i hd
   obtain ⟨v, h1, h2⟩ := CL h
   exact ⟨_, by simp only [Ax, hd, h1, Option.map_some], h2⟩
  ·cases h
def FD.leaf (d : FD) (T : av) (rs : List ResultVar) (o : an) (s : St) (w : Ow) : Option d.X :=
 match owB w with
 | true => Aw T rs d.pre o s fun s2 => (mSt d.k (d.k + d.B.length) (d.F s2) [some d.M] (dX d.k d.B) [] s2).bind d.ofL
 | false => none
def J5 : an → Option ab
 | .normal | .ret => some .dC
 | .pan v => some v
 | _ => none
def FD.Q7 (d : FD) (T : av) (rs : List ResultVar) (ch : CH) (fuel : Nat) (gd nt : Nat) (rest : Code) (t3 t2 : Tmp) (o : an) (s : St) (w : Ow) : Option d.X :=
 match owB w with
 | true => match s.df with
  | [⟨g, cap, []⟩] => if g = gd then (match J5 o with
   | some r => bh T ch bt fuel rest (Av nt cap s.mem t3 t2 r) .nil fun o' s2 w' => match owB w' with
    | true => match o', s2.df with
     | .normal, [] => Aw T rs [] .ret ⟨s.tm, [], s2.mem⟩ fun s3 => (mSt d.k (d.k + d.B.length) (d.F s3) [some d.M] (dX d.k d.B) [] s3).bind d.ofL
     | .ret, [] => Aw T rs [] .ret ⟨s.tm, [], s2.mem⟩ fun s3 => (mSt d.k (d.k + d.B.length) (d.F s3) [some d.M] (dX d.k d.B) [] s3).bind d.ofL
     | _, _ => none
    | false => none
   | none => none) else none
  | [] => Aw T rs [] o s fun s3 => (mSt d.k (d.k + d.B.length) (d.F s3) [some d.M] (dX d.k d.B) [] s3).bind d.ofL
  | _ => none
 | false => none
theorem Lb {n m : Nat} {b : ar} (h : scB m b = true) (hx : scX n b = true) : scB n b = true := by
 cases b <;> first | exact hx | exact h
theorem FM : ∀ {k : Nat} {bs : List ar}, ∀ x ∈ cQ k bs, k ≤ x.1 ∧ x.1 < k + bs.length ∧ bs[x.1 - k]? = some x.2
 | _, [], x, h => by simp [cQ] at h
 | k, b :: r, x, h => by
  simp only [cQ, List.mem_cons] at h
  rcases h with rfl | h
  ·simp
  ·obtain ⟨h1, h2, h3⟩ := FM x h
   refine ⟨by omega, by simp; omega, ?_⟩
   rw [show x.1 - k = (x.1 - (k + 1)) + 1 by omega]; simpa using h3
theorem Ju : ∀ {k : Nat} {bs : List ar} {j : Nat} {b : ar}, bs[j]? = some b → look (cQ k bs) (k + j) = some b
 | k, [], j, b, h => by simp at h
 | k, c :: r, 0, b, h => by simp only [List.getElem?_cons_zero, Option.some.injEq] at h; subst h; simp [cQ, look]
 | k, c :: r, j + 1, b, h => by
  simp only [List.getElem?_cons_succ] at h
  have := Ju (k := k + 1) h
  simp only [cQ, look]
  rw [if_neg (by simp)]
  rw [show k + (j + 1) = k + 1 + j by omega]; exact this
section
variable {P : Program} {T : av} {ch : CH} {A : qJ}
theorem FD.fin (d : FD) {g : FuncId} {cargs : LA_} {B0 : List (Nat × ar)} {x : d.X} {v : ab} {σ2 : Mem} (hg : nE P g)
  (hS : shP (d.k + d.B.length) [some d.M] (dX d.k d.B) = true)
  (q2 : (mSt d.k (d.k + d.B.length) (d.F ⟨[v], [], σ2⟩) [some d.M] (dX d.k d.B) [] ⟨[v], [], σ2⟩).bind d.ofL = some x)
  (hc : di P g cargs ⟨d.k, B0⟩ (.ret v) σ2) :
  nE P g ∧ di P g cargs ⟨d.k, B0⟩ (.ret (d.val x)) ⟨d.k + (d.aL x).length, cQ d.k (d.aL x)⟩ := by
 refine ⟨hg, ?_⟩
 obtain ⟨ls, q3, q4⟩ := bE_ q2
 have hls := d.au _ _ q4
 subst hls
 have hcov := uS hS q3
 intro w0 ρ w hr hs
 refine (hc w0 ρ w hr hs).mono ?_
 rintro e w' ⟨ρ', k3, k4, k5⟩
 have hSR : bJ w0 ρ' ⟨[v], [], σ2⟩ { tmps := (γL ρ' [v]).toArray, defers := [] } w' :=
  ⟨k4.rel, rfl, by simp only [scL, Bool.and_true]; exact k5, rfl, by simp⟩
 obtain ⟨ρ2, c1, c2⟩ := hcov.2 w0 ρ' _ w' hSR
 have eB : (iB (dX d.k d.B) (iM [some d.M] (d.toL x)).2).1 = cQ d.k (d.aL x) := La
 have eM : (iM [some d.M] (d.toL x)).1 = [some (d.val x)] := rfl
 rw [iSt, eB, eM] at c1
 have hlen : (d.aL x).length = d.B.length := AU
 have e1 : γ ρ2 (d.val x) = γ ρ' v := by
  have := c1.tm
  simp only [bd, qN, γL, List.toArray_inj] at this
  have h2 := congrArg Array.toList this
  simp at h2
  exact h2.symm
 unfold mSt at q3
 split at q3
 ·rename_i hf0
  simp only [fOk, Bool.and_eq_true, beq_iff_eq] at hf0
  split at q3
  ·rename_i a b ha hb'
   simp only [shP, Bool.and_eq_true] at hS
   obtain ⟨M0, m1, m2⟩ := za (n := d.k + d.B.length) _ _ a ha hS.1
   obtain ⟨B1, b1, b2⟩ := Dq (n := d.k + d.B.length) _ b hb' hS.2
   simp only [Option.some.injEq] at q3
   have f1 : iM [some d.M] (a ++ b) = (M0, b) := m1 b
   have f2 : (iB (dX d.k d.B) b).1 = B1 := by have := b1 []; rw [List.append_nil] at this; rw [this]
   rw [q3] at f1
   have f3 : M0 = [some (d.val x)] := by rw [← eM, f1]
   have f4 : B1 = cQ d.k (d.aL x) := by rw [← eB, f1, ← f2]
   subst f3 f4
   have hsv : sc (d.k + d.B.length) (d.val x) = true := m2.2.1
   have hget : ∀ i b, (⟨d.k + (d.aL x).length, cQ d.k (d.aL x)⟩ : Mem).get i = some b → (bd (d.k + d.B.length) [some (d.val x)] (cQ d.k (d.aL x)) []).mem.get i = some b := fun i b h => h
   have R := c1.rel
   refine ⟨ρ2, by rw [k3]; simp only [sA, e1], ⟨R.weaken (fun i b hb _ => hget i b hb) ?_ ?_, fun i hi => (c2 i hi).trans (k4.ext i hi), by simp⟩, ?_⟩
   ·intro i b hb
    show i < d.k + (d.aL x).length
    rw [hlen]
    exact (b2 _ (mn hb)).1
   ·intro i b hb
    show scB (d.k + (d.aL x).length) b = true
    rw [hlen]
    exact Lb (R.sco i b (hget i b hb)) (b2 _ (mn hb)).2.2
   ·show sc (d.k + (d.aL x).length) (d.val x) = true
    rw [hlen]; exact hsv
  ·cases q3
 ·cases q3
theorem FD.sem (hT : aY P T) (hH : aE P ch) (hm : P.follows .mixedOrders = true) (hN : ou P) (d : FD) {g : FuncId} {fn : Func} {c : Code} {fuel : Nat} {cargs : LA_} {B0 : List (Nat × ar)} {x : d.X}
  (hf : P.funcs[g]? = some fn) (hb : fn.body = some c) (hA : ∀ b ∈ bm c, ∀ la, A (dO b) = some la → cF P d.k la b)
  (hS : shP (d.k + d.B.length) [some d.M] (dX d.k d.B) = true)
  (hx : bh T ch A fuel c (bC fn.ntmps cargs ⟨d.k, B0⟩) .nil (d.leaf T fn.results.toList) = some x) :
  nE P g ∧ di P g cargs ⟨d.k, B0⟩ (.ret (d.val x)) ⟨d.k + (d.aL x).length, cQ d.k (d.aL x)⟩ := by
 rw [jV] at hx
 obtain ⟨⟨o, s, w1⟩, k1, k2⟩ := bE_ hx
 obtain ⟨o2, s2, w2, j1, j2, j3⟩ := ja (k := d.k) hT hH hm fuel c _ _ _ _ hA k1
 simp only [Option.some.injEq, Prod.mk.injEq] at j1
 obtain ⟨rfl, rfl, rfl⟩ := j1
 simp only [FD.leaf] at k2
 split at k2
 ·rename_i how
  have hAW := j3 (fj how)
  obtain ⟨s3, q1, q2⟩ := mc k2
  have hfin : (o2 = .normal ∨ o2 = .ret) ∧ (bZ d.pre s2).df = [] ∧ ∃ v, gF T (bZ d.pre s2) fn.results.toList = some v ∧ s3 = ⟨[v], [], (bZ d.pre s2).mem⟩ := by
   unfold Ax at q1
   cases o2 with
   | normal =>
    simp only at q1
    split at q1
    ·rename_i hd
     obtain ⟨v, hv, rfl⟩ := Option.map_eq_some_iff.1 q1
     exact ⟨.inl rfl, hd, v, hv, rfl⟩
    ·cases q1
   | ret =>
    simp only at q1
    split at q1
    ·rename_i hd
     obtain ⟨v, hv, rfl⟩ := Option.map_eq_some_iff.1 q1
     exact ⟨.inr rfl, hd, v, hv, rfl⟩
    ·cases q1
   | exit i => cases q1
   | goto i => cases q1
   | pan v => cases q1
  obtain ⟨ho, hdf, v, hres, rfl⟩ := hfin
  refine d.fin ⟨fn, hf, hN g fn hf, by rw [hb]; rfl⟩ hS q2 ?_
  intro w0 ρ w hr hs
  have key : AWP P c (bC fn.ntmps cargs ⟨d.k, B0⟩) fun o' s' => o' = o2 ∧ s' = bZ d.pre s2 := by
   refine dq.tg (s := bC fn.ntmps cargs ⟨d.k, B0⟩) (pn ?_)
   intro hn w0 ρ a w hr
   refine wp_mono (hAW hn w0 ρ a w hr) ?_
   rintro e' a' w' ⟨o3, s3, ⟨h1, h2⟩, hq⟩
   subst h1 h2
   obtain ⟨ρ', r1, r2, r3, r4, r5⟩ := hq
   refine ⟨_, _, ⟨?_, _, kC r4, rfl, rfl⟩, ⟨ρ', r1, r2, r3, r4, r5⟩⟩
   rintro v rfl
   rcases ho with h | h <;> cases h
  have := CR (R := fun r3 σ3 => r3 = .ret v ∧ σ3 = (bZ d.pre s2).mem) hT hf hb (key.mono fun o1 s1 hh => by
   obtain ⟨rfl, rfl⟩ := hh
   refine ⟨.ret v, (bZ d.pre s2).mem, ?_, rfl, rfl⟩
   rcases ho with rfl | rfl <;> simp [AN, hdf, hres]) w0 ρ w hr hs
  refine this.mono ?_
  rintro e w' ⟨r3, σ3, ρ', ⟨rfl, rfl⟩, k3, k4, k5⟩
  exact ⟨ρ', k3, k4, k5⟩
 ·cases k2
theorem FD.SG (hT : aY P T) (hH : aE P ch) (hm : P.follows .mixedOrders = true) (hN : ou P) (d : FD) {g : FuncId} {fn : Func} {c : Code} {fuel : Nat} {cargs : LA_} {B0 : List (Nat × ar)} {x : d.X}
  (hf : P.funcs[g]? = some fn) (hb : fn.body = some c) (hA : ∀ b ∈ bm c, ∀ la, A (dO b) = some la → cF P d.k la b)
  (hS : shP (d.k + d.B.length) [some d.M] (dX d.k d.B) = true)
  {gd : FuncId} {fd : Func} {id : Nat} {ops : Array Oper} {o0 o1 : Oper} {rest : Code} {t3 t2 : Tmp} (hk : wJ P gd fd id ops o0 o1 rest t3 t2) (hl : bm rest = [])
  (hx : bh T ch A fuel c (bC fn.ntmps cargs ⟨d.k, B0⟩) .nil (d.Q7 T fn.results.toList ch fuel gd fd.ntmps rest t3 t2) = some x) :
  nE P g ∧ di P g cargs ⟨d.k, B0⟩ (.ret (d.val x)) ⟨d.k + (d.aL x).length, cQ d.k (d.aL x)⟩ := by
 rw [jV] at hx
 obtain ⟨⟨o, s, w1⟩, k1, k2⟩ := bE_ hx
 obtain ⟨o2, s2, w2, j1, j2, j3⟩ := ja (k := d.k) hT hH hm fuel c _ _ _ _ hA k1
 simp only [Option.some.injEq, Prod.mk.injEq] at j1
 obtain ⟨rfl, rfl, rfl⟩ := j1
 simp only [FD.Q7] at k2
 split at k2
 rotate_left
 ·cases k2
 rename_i how
 have hAW := j3 (fj how)
 split at k2
 rotate_left
 ·rename_i hdf
  obtain ⟨s4, q1, q2⟩ := mc k2
  have hend : (o2 = .normal ∨ o2 = .ret) ∧ ∃ v, gF T s2 fn.results.toList = some v ∧ (mSt d.k (d.k + d.B.length) (d.F ⟨[v], [], s2.mem⟩) [some d.M] (dX d.k d.B) [] ⟨[v], [], s2.mem⟩).bind d.ofL = some x := by
   unfold Ax at q1
   split at q1
   ·simp only [bZ, hdf] at q1
    obtain ⟨v, hv, rfl⟩ := Option.map_eq_some_iff.1 q1
    exact ⟨.inl rfl, v, hv, q2⟩
   ·simp only [bZ, hdf] at q1
    obtain ⟨v, hv, rfl⟩ := Option.map_eq_some_iff.1 q1
    exact ⟨.inr rfl, v, hv, q2⟩
   ·cases q1
  obtain ⟨ho, v, hres, q2⟩ := hend
  refine d.fin ⟨fn, hf, hN g fn hf, by rw [hb]; rfl⟩ hS q2 ?_
  intro w0 ρ w hr hs
  have key : AWP P c (bC fn.ntmps cargs ⟨d.k, B0⟩) fun o1 s1 => o1 = o2 ∧ s1 = s2 := dq.tg (s := bC fn.ntmps cargs ⟨d.k, B0⟩) hAW
  have := iO (R := fun v3 σ3 => v3 = v ∧ σ3 = s2.mem) hT hf hb hk (key.mono fun o1 s1 hh => by
   obtain ⟨rfl, rfl⟩ := hh
   exact .inl ⟨hdf, ho, v, hres, rfl, rfl⟩) w0 ρ w hr hs
  refine this.mono ?_
  rintro e w' ⟨v3, σ3, ρ', ⟨rfl, rfl⟩, k3, k4, k5⟩
  exact ⟨ρ', k3, k4, k5⟩
 ·cases k2
 rename_i g' cap hdf
 split at k2
 rotate_left
 ·cases k2
 rename_i hgd
 subst hgd
 split at k2
 rotate_left
 ·cases k2
 rename_i r hrec
 rw [jV] at k2
 obtain ⟨⟨o', s', w'⟩, k3, k4⟩ := bE_ k2
 obtain ⟨o3, s3, w3, j4, j5, j6⟩ := ja (k := (Av fd.ntmps cap s2.mem t3 t2 r).mem.next) hT hH hm fuel rest _ _ _ _ (fun b hb => by rw [hl] at hb; cases hb) k3
 simp only [Option.some.injEq, Prod.mk.injEq] at j4
 obtain ⟨rfl, rfl, rfl⟩ := j4
 simp only at k4
 split at k4
 rotate_left
 ·cases k4
 rename_i how3
 have hAR := j6 (fj how3)
 have hend : (o3 = .normal ∨ o3 = .ret) ∧ s3.df = [] ∧ ∃ v, gF T ⟨s2.tm, [], s3.mem⟩ fn.results.toList = some v ∧ (mSt d.k (d.k + d.B.length) (d.F ⟨[v], [], s3.mem⟩) [some d.M] (dX d.k d.B) [] ⟨[v], [], s3.mem⟩).bind d.ofL = some x := by
  split at k4
  ·rename_i hd
   obtain ⟨s4, q1, q2⟩ := mc k4
   simp only [Ax, bZ] at q1
   obtain ⟨v, hv, rfl⟩ := Option.map_eq_some_iff.1 q1
   exact ⟨.inl rfl, hd, v, hv, q2⟩
  ·rename_i hd
   obtain ⟨s4, q1, q2⟩ := mc k4
   simp only [Ax, bZ] at q1
   obtain ⟨v, hv, rfl⟩ := Option.map_eq_some_iff.1 q1
   exact ⟨.inr rfl, hd, v, hv, q2⟩
  ·cases k4
 obtain ⟨ho3, hd3, v, hres, q2⟩ := hend
 refine d.fin ⟨fn, hf, hN g fn hf, by rw [hb]; rfl⟩ hS q2 ?_
 intro w0 ρ w hr hs
 have key : AWP P c (bC fn.ntmps cargs ⟨d.k, B0⟩) fun o1 s1 => o1 = o2 ∧ s1 = s2 := dq.tg (s := bC fn.ntmps cargs ⟨d.k, B0⟩) hAW
 have := iO (R := fun v3 σ3 => v3 = v ∧ σ3 = s3.mem) hT hf hb hk (key.mono fun o1 s1 hh => by
  obtain ⟨rfl, rfl⟩ := hh
  refine .inr ⟨cap, r, hdf, ?_, (dq.tg hAR).mono fun o5 s5 h5 => ?_⟩
  ·cases o1 <;> simp only [J5, Option.some.injEq, reduceCtorEq] at hrec
   ·exact .inl ⟨.inl rfl, hrec.symm⟩
   ·exact .inl ⟨.inr rfl, hrec.symm⟩
   ·exact .inr (by rw [hrec])
  ·obtain ⟨rfl, rfl⟩ := h5
   exact ⟨ho3, hd3, v, hres, rfl, rfl⟩) w0 ρ w hr hs
 refine this.mono ?_
 rintro e w' ⟨v3, σ3, ρ', ⟨rfl, rfl⟩, k3, k4, k5⟩
 exact ⟨ρ', k3, k4, k5⟩
mutual
def gG (ks : List Bool) : ab → Bool
 | .vec i => ks[i]? == some true
 | .ptr i _ => ks[i]? == some false
 | .slice .. | .emp _ | .map _ | .dD _ => false
 | .func _ fs cs => kS ks fs && kS ks cs
 | .iface _ v => gG ks v
 | .agg cs => wf ks cs
 | .tup vs => kS ks vs
 | _ => true
def kS (ks : List Bool) : LA_ → Bool
 | [] => true
 | v :: vs => gG ks v && kS ks vs
def wf (ks : List Bool) : LA_ → Bool
 | [] => true
 | v :: vs => v.fh && gG ks v && wf ks vs
end
mutual
def sub (xs : LA_) : ab → ab
 | .vec i => xs.getD i .aO
 | .ptr i o => match xs.getD i .aO with
  | .ptr b o' => .ptr b (o' + o)
  | _ => .el
 | .func f fs cs => .func f (rI xs fs) (rI xs cs)
 | .iface t v => .iface t (sub xs v)
 | .agg cs => .agg (rI xs cs)
 | .tup vs => .tup (rI xs vs)
 | v => v
def rI (xs : LA_) : LA_ → LA_
 | [] => []
 | v :: vs => sub xs v :: rI xs vs
end
mutual
theorem FQ {ks : List Bool} : ∀ v, gG ks v = true → sc ks.length v = true
 | .vec i, h => by
  simp only [gG, beq_iff_eq] at h; simp only [sc, decide_eq_true_eq]; exact (List.getElem?_eq_some_iff.1 h).1
 | .ptr i o, h => by
  simp only [gG, beq_iff_eq] at h; simp only [sc, decide_eq_true_eq]; exact (List.getElem?_eq_some_iff.1 h).1
 | .func f a b, h => by simp only [gG, Bool.and_eq_true] at h; simp only [sc, tv a h.1, tv b h.2, Bool.and_self]
 | .iface t v, h => by simp only [gG] at h; simp only [sc, FQ v h]
 | .agg cs, h => by simp only [gG] at h; simp only [sc, C4 cs h]
 | .tup vs, h => by simp only [gG] at h; simp only [sc, tv vs h]
 | .slice _ _ _ _ _, h | .emp _, h | .map _, h | .dD _, h => by simp [gG] at h
 | .bool _, _ | .int _ _, _ | .str _, _ | .el, _ | .aO, _ | .fx, _ | .cO, _ | .dC, _ => rfl
theorem tv {ks : List Bool} : ∀ l, kS ks l = true → scL ks.length l = true
 | [], _ => rfl
 | v :: vs, h => by simp only [kS, Bool.and_eq_true] at h; simp only [scL, FQ v h.1, tv vs h.2, Bool.and_self]
theorem C4 {ks : List Bool} : ∀ l, wf ks l = true → scC ks.length l = true
 | [], _ => rfl
 | v :: vs, h => by simp only [wf, Bool.and_eq_true] at h; simp only [scC, h.1.1, FQ v h.1.2, C4 vs h.2, Bool.and_self]
end
theorem FR {ks : List Bool} : ∀ {l : LA_}, wf ks l = true → kS ks l = true
 | [], _ => rfl
 | v :: vs, h => by simp only [wf, Bool.and_eq_true] at h; simp only [kS, h.1.2, FR h.2, Bool.and_self]
mutual
def fr (k : Nat) : ab → Bool
 | .ptr i _ | .slice i _ _ _ _ | .emp i | .map i | .dD i | .vec i => decide (k ≤ i)
 | .func _ fs cs => frL k fs && frL k cs
 | .iface _ v => fr k v
 | .agg cs => frL k cs
 | .tup vs => frL k vs
 | _ => true
def frL (k : Nat) : LA_ → Bool
 | [] => true
 | v :: vs => fr k v && frL k vs
end
def frB (k : Nat) : ar → Bool
 | .cells cs own _ => own && frL k cs
 | .vec _ _ _ own => own
 | .map _ _ => true
 | .iter _ _ _ _ => false
 | .jJ => false
 | .ci _ _ => false
 | .dead => true
mutual
theorem Nu {k : Nat} {ρ ρ' : Nat → Loc} (h : ∀ i, k ≤ i → ρ' i = ρ i) : ∀ v, fr k v = true → γ ρ' v = γ ρ v
 | .ptr i o, hv | .slice i o l e c, hv | .emp i, hv | .map i, hv | .dD i, hv | .vec i, hv => by simp only [fr, decide_eq_true_eq] at hv; simp only [γ, h i hv]
 | .func f a b, hv => by simp only [fr, Bool.and_eq_true] at hv; simp only [γ, zg h a hv.1, zg h b hv.2]
 | .iface t v, hv => by simp only [fr] at hv; simp only [γ, Nu h v hv]
 | .agg cs, hv => by simp only [fr] at hv; simp only [γ, zg h cs hv]
 | .tup vs, hv => by simp only [fr] at hv; simp only [γ, zg h vs hv]
 | .bool _, _ | .int _ _, _ | .str _, _ | .el, _ | .aO, _ | .fx, _ | .cO, _ | .dC, _ => by simp only [γ]
theorem zg {k : Nat} {ρ ρ' : Nat → Loc} (h : ∀ i, k ≤ i → ρ' i = ρ i) : ∀ l, frL k l = true → γL ρ' l = γL ρ l
 | [], _ => rfl
 | v :: vs, hv => by simp only [frL, Bool.and_eq_true] at hv; simp only [γL, Nu h v hv.1, zg h vs hv.2]
end
mutual
theorem Kb {k m N : Nat} {f : Nat → Nat} (h : ∀ i, k ≤ i → i < m → f i < N) : ∀ v, fr k v = true → sc m v = true → sc N (rn f v) = true
 | .ptr i o, hv, hs | .slice i o l e c, hv, hs | .emp i, hv, hs | .map i, hv, hs | .dD i, hv, hs | .vec i, hv, hs => by
  simp only [fr, sc, decide_eq_true_eq] at hv hs; simp only [rn, sc, decide_eq_true_eq]; exact h i hv hs
 | .func g a b, hv, hs => by simp only [fr, sc, Bool.and_eq_true] at hv hs; simp only [rn, sc, Bool.and_eq_true]; exact ⟨Hv h a hv.1 hs.1, Hv h b hv.2 hs.2⟩
 | .iface t v, hv, hs => by simp only [fr, sc] at hv hs; simp only [rn, sc]; exact Kb h v hv hs
 | .agg cs, hv, hs => by simp only [fr, sc] at hv hs; simp only [rn, sc]; exact Lp h cs hv hs
 | .tup vs, hv, hs => by simp only [fr, sc] at hv hs; simp only [rn, sc]; exact Hv h vs hv hs
 | .bool _, _, _ | .int _ _, _, _ | .str _, _, _ | .el, _, _ | .aO, _, _ | .fx, _, _ | .cO, _, _ | .dC, _, _ => rfl
theorem Hv {k m N : Nat} {f : Nat → Nat} (h : ∀ i, k ≤ i → i < m → f i < N) : ∀ l, frL k l = true → scL m l = true → scL N (rnL f l) = true
 | [], _, _ => rfl
 | v :: vs, hv, hs => by simp only [frL, scL, Bool.and_eq_true] at hv hs; simp only [rnL, scL, Bool.and_eq_true]; exact ⟨Kb h v hv.1 hs.1, Hv h vs hv.2 hs.2⟩
theorem Lp {k m N : Nat} {f : Nat → Nat} (h : ∀ i, k ≤ i → i < m → f i < N) : ∀ l, frL k l = true → scC m l = true → scC N (rnL f l) = true
 | [], _, _ => rfl
 | v :: vs, hv, hs => by
  simp only [frL, scC, Bool.and_eq_true] at hv hs; simp only [rnL, scC, Bool.and_eq_true]
  refine ⟨⟨?_, Kb h v hv.1 hs.1.2⟩, Lp h vs hv.2 hs.2⟩
  have := hs.1.1
  cases v <;> first | exact this | rfl
end
def qS (σ : Mem) (xs : LA_) (ks : List Bool) (x : ab) : ar → Prop
 | .vec cs n sz own => own = false ∧ bS σ sz x = some (cs, n) ∧ kA σ sz x = true ∧ sz ≠ 0
 | .cells cs own gr => own = false ∧ gr = none ∧ cs ≠ [] ∧ wf ks cs = true ∧ ∃ b o, x = .ptr b o ∧ cV σ b o cs.length = some (rI xs cs)
 | _ => False
def mo : ar → Bool
 | .vec .. => true
 | _ => false
structure bv (σ : Mem) (xs : LA_) (bs : List ar) : Prop where
 len : xs.length = bs.length
 at_ : ∀ (i : Nat) (x : ab) (b : ar), xs[i]? = some x → bs[i]? = some b → qS σ xs (bs.map mo) x b
structure Kc (ρ ρs : Nat → Loc) (xs : LA_) (ks : List Bool) : Prop where
 v : ∀ i, ks[i]? = some true → γ ρ (xs.getD i .aO) = .slice (ρs i).sp (ρs i).sl (ρs i).sk
 p : ∀ i, ks[i]? = some false → ∃ b o, xs.getD i .aO = .ptr b o ∧ (ρs i).blk = (ρ b).blk ∧ (ρs i).base = (ρ b).base + o
mutual
theorem OT {ρ ρs : Nat → Loc} {xs : LA_} {ks : List Bool} (h : Kc ρ ρs xs ks) : ∀ v, gG ks v = true → γ ρ (sub xs v) = γ ρs v
 | .vec i, hv => by simp only [gG, beq_iff_eq] at hv; simp only [sub, γ, h.v i hv]
 | .ptr i o, hv => by
  simp only [gG, beq_iff_eq] at hv
  obtain ⟨b, o', h1, h2, h3⟩ := h.p i hv
  simp only [sub, h1, γ, h2, h3, Nat.add_assoc]
 | .func f a b, hv => by simp only [gG, Bool.and_eq_true] at hv; simp only [sub, γ, sf h a hv.1, sf h b hv.2]
 | .iface t v, hv => by simp only [gG] at hv; simp only [sub, γ, OT h v hv]
 | .agg cs, hv => by simp only [gG] at hv; simp only [sub, γ, sf h cs (FR hv)]
 | .tup vs, hv => by simp only [gG] at hv; simp only [sub, γ, sf h vs hv]
 | .slice _ _ _ _ _, hv | .emp _, hv | .map _, hv | .dD _, hv => by simp [gG] at hv
 | .bool _, _ | .int _ _, _ | .str _, _ | .el, _ | .aO, _ | .fx, _ | .cO, _ | .dC, _ => by simp only [sub, γ]
theorem sf {ρ ρs : Nat → Loc} {xs : LA_} {ks : List Bool} (h : Kc ρ ρs xs ks) : ∀ l, kS ks l = true → γL ρ (rI xs l) = γL ρs l
 | [], _ => rfl
 | v :: vs, hv => by simp only [kS, Bool.and_eq_true] at hv; simp only [rI, γL, OT h v hv.1, sf h vs hv.2]
end
theorem bv.rel {w0 : W0} {ρ : Nat → Loc} {σ : Mem} {w : World} (hr : Rel w0 ρ σ w) {xs : LA_} {ls : List ar} (hL : bv σ xs ls) :
  Kc ρ (fun i => kG ρ (xs.getD i .aO)) xs (ls.map mo) ∧ Rel (W0.all w) (fun i => kG ρ (xs.getD i .aO)) ⟨ls.length, cQ 0 ls⟩ w := by
 have hget : ∀ {i : Nat} {b : ar}, ls[i]? = some b → ∃ x, xs[i]? = some x ∧ xs.getD i .aO = x ∧ qS σ xs (ls.map mo) x b := by
  intro i b hb
  have hi : i < xs.length := by rw [hL.len]; exact (List.getElem?_eq_some_iff.1 hb).1
  have hx : xs[i]? = some xs[i] := List.getElem?_eq_getElem hi
  exact ⟨_, hx, by simp only [List.getD_eq_getElem?_getD, hx, Option.getD_some], hL.at_ i _ b hx hb⟩
 have hbk : ∀ i b, (⟨ls.length, cQ 0 ls⟩ : Mem).get i = some b → i < ls.length ∧ ls[i]? = some b := by
  intro i b hi
  obtain ⟨_, h2, h3⟩ := FM _ (mn hi)
  simp only [Nat.zero_add, Nat.sub_zero] at h2 h3
  exact ⟨h2, h3⟩
 have hks : ∀ {i : Nat} {q : Bool}, (ls.map mo)[i]? = some q → ∃ b, ls[i]? = some b ∧ mo b = q := by
  intro i q hq
  rw [List.getElem?_map, Option.map_eq_some_iff] at hq
  exact hq
 have hS : Kc ρ (fun i => kG ρ (xs.getD i .aO)) xs (ls.map mo) := by
  constructor
  ·intro i hi
   obtain ⟨b, hb, hq⟩ := hks hi
   obtain ⟨x, h1, h2, h3⟩ := hget hb
   rw [h2]
   cases b <;> simp only [mo, Bool.false_eq_true, reduceCtorEq] at hq
   obtain ⟨_, q1, q2, q3⟩ := h3
   exact (qR hr q1 q2 q3 ρ).1
  ·intro i hi
   obtain ⟨b, hb, hq⟩ := hks hi
   obtain ⟨x, h1, h2, h3⟩ := hget hb
   rw [h2]
   cases b <;> simp only [qS, mo, Bool.true_eq_false, reduceCtorEq] at hq h3
   obtain ⟨_, _, _, _, bb, o, rfl, _⟩ := h3
   exact ⟨bb, o, rfl, rfl, rfl⟩
 have hown : ∀ i b, (⟨ls.length, cQ 0 ls⟩ : Mem).get i = some b → b.owned = true → False := by
  intro i b hi ho
  obtain ⟨x, h1, h2, h3⟩ := hget (hbk i b hi).2
  cases b <;> simp only [qS] at h3
  ·obtain ⟨rfl, _⟩ := h3; simp [ar.owned] at ho
  ·obtain ⟨rfl, _⟩ := h3; simp [ar.owned] at ho
 refine ⟨hS, fun i b hi => (hbk i b hi).1, ?_, ?_, ?_, fun i j bi bj hi hj hij hoi haj => (hown i bi hi hoi).elim, fun i b hi ho => (hown i b hi ho).elim, rfl, rfl, rfl, Nat.le_refl _, fun _ _ => rfl⟩
 ·intro i b hi
  obtain ⟨x, h1, h2, h3⟩ := hget (hbk i b hi).2
  cases b <;> simp only [qS] at h3
  ·obtain ⟨_, _, _, q, _⟩ := h3
   have := C4 _ q
   rw [List.length_map] at this
   exact this
  ·obtain ⟨_, q1, q2, q3⟩ := h3
   exact (qR hr q1 q2 q3 ρ).2.2.2
 ·intro i b hi
  obtain ⟨x, h1, h2, h3⟩ := hget (hbk i b hi).2
  rw [h2]
  cases b <;> simp only [qS] at h3
  ·rename_i cs own gr
   obtain ⟨rfl, rfl, hne, q, bb, o, rfl, hc⟩ := h3
   obtain ⟨bs, bk, hg, hbk, hl, he⟩ := fS hc
   obtain ⟨cc, e, fz, r1, pre, post, r2, r3⟩ := hr.row hg hbk (by rintro rfl; simp at hl; exact hne hl.2)
   refine ⟨cc, e, fz, r1, ⟨pre ++ γL ρ (bs.take o), γL ρ (bs.drop (o + cs.length)) ++ post, ?_, ?_⟩, by simp, by simp⟩
   ·rw [r2, ← sf hS cs (FR q), he]
    have e1 : bs = bs.take o ++ ((bs.drop o).take cs.length ++ bs.drop (o + cs.length)) := by
     rw [← List.drop_drop, List.take_append_drop, List.take_append_drop]
    conv => lhs; rw [e1]
    simp only [cu, List.append_assoc]
   ·simp only [List.length_append, aT, List.length_take, r3, kG]; omega
  ·obtain ⟨rfl, q1, q2, q3⟩ := h3
   exact (qR hr q1 q2 q3 _).2.1
 ·intro i b hi ha
  obtain ⟨x, h1, h2, h3⟩ := hget (hbk i b hi).2
  rw [h2]
  cases b <;> simp only [qS] at h3
  ·rename_i cs own gr
   obtain ⟨rfl, rfl, hne, q, bb, o, rfl, hc⟩ := h3
   obtain ⟨bs, bk, hg, hbk, hl, he⟩ := fS hc
   obtain ⟨cc, e, fz, r1, _⟩ := hr.row hg hbk (by rintro rfl; simp at hl; exact hne hl.2)
   exact (Array.getElem?_eq_some_iff.1 r1).1
  ·obtain ⟨rfl, q1, q2, q3⟩ := h3
   exact (qR hr q1 q2 q3 ρ).2.2.1 (by rintro rfl; simp [ar.alive] at ha)
def jP : Mem → List ar → Mem
 | σ, [] => σ
 | σ, b :: r => jP (σ.push b) r
theorem C5 : ∀ {σ : Mem} {bs : List ar}, (jP σ bs).next = σ.next + bs.length
 | σ, [] => rfl
 | σ, b :: r => by simp only [jP, C5, gI, List.length_cons]; omega
theorem EI : ∀ {σ : Mem} {bs : List ar}, Ext σ (jP σ bs)
 | σ, [] => .refl σ
 | σ, b :: r => (Ext.push σ b).trans EI
theorem EJ : ∀ {σ : Mem} {bs : List ar} {i : Nat} {b : ar}, (jP σ bs).get i = some b → (∃ j, i = σ.next + j ∧ bs[j]? = some b) ∨ ((∀ j, j < bs.length → i ≠ σ.next + j) ∧ σ.get i = some b)
 | σ, [], i, b, h => .inr ⟨fun j hj => by simp at hj, h⟩
 | σ, c :: r, i, b, h => by
  simp only [jP] at h
  rcases EJ h with ⟨j, h1, h2⟩ | ⟨h1, h2⟩
  ·exact .inl ⟨j + 1, by simp only [gI] at h1; omega, by simpa using h2⟩
  ·rw [ct] at h2
   split at h2
   ·rename_i e; exact .inl ⟨0, e.symm, by simpa using h2⟩
   ·rename_i e
    refine .inr ⟨fun j hj => ?_, h2⟩
    cases j with
    | zero => exact fun q => e q.symm
    | succ j => have := h1 j (by simpa using hj); simp only [gI] at this; omega
theorem di.lift {g : FuncId} {cargs xs : LA_} {ls bs : List ar} {v : ab} {σ : Mem} (hL : bv σ xs ls) (h : di P g cargs ⟨ls.length, cQ 0 ls⟩ (.ret v) ⟨ls.length + bs.length, cQ ls.length bs⟩)
  (ho : kS (ls.map mo) cargs = true) (hv : fr ls.length v = true) (hb : bs.all (frB ls.length) = true) :
  di P g (rI xs cargs) σ (.ret (rn (fun i => σ.next + (i - ls.length)) v)) (jP σ (bs.map (rnB fun i => σ.next + (i - ls.length)))) := by
 have hs : scL ls.length cargs = true := by have := tv _ ho; simpa only [List.length_map] using this
 intro w0 ρ w hr _
 obtain ⟨hS, Rs⟩ := hL.rel hr
 generalize (fun i => kG ρ (xs.getD i .aO)) = ρs at hS Rs
 have hargs : γL ρ (rI xs cargs) = γL ρs cargs := sf hS cargs ho
 have := h (W0.all w) ρs w Rs hs
 rw [hargs]
 refine this.mono ?_
 rintro e w' ⟨ρ', k1, k2, k3⟩
 have R := k2.rel
 have hsz : w.heap.size ≤ w'.heap.size := R.size
 have hold : ∀ q, q < w.heap.size → w'.heap[q]? = w.heap[q]? := fun q hq => R.old q hq
 let ρn : Nat → Loc := fun i => if i < σ.next then ρ i else ρ' (ls.length + (i - σ.next))
 have n1 : ∀ i, i < σ.next → ρn i = ρ i := fun i hi => by simp only [ρn, if_pos hi]
 have n2 : ∀ j, ρn (σ.next + j) = ρ' (ls.length + j) := fun j => by simp only [ρn, if_neg (show ¬ σ.next + j < σ.next by omega), Nat.add_sub_cancel_left]
 have n3 : ∀ i, ls.length ≤ i → ρn (σ.next + (i - ls.length)) = ρ' i := fun i hi => by rw [n2, show ls.length + (i - ls.length) = i by omega]
 have fresh : ∀ j b, bs[j]? = some b → (⟨ls.length + bs.length, cQ ls.length bs⟩ : Mem).get (ls.length + j) = some b := fun j b hj => Ju hj
 have hfr : ∀ j b, bs[j]? = some b → frB ls.length b = true := fun j b hj => (List.all_eq_true.1 hb) b (List.mem_of_getElem? hj)
 have hown : ∀ b, frB ls.length b = true → b.alive = true → b.owned = true := by
  intro b h1 h2
  cases b <;> simp_all [frB, ar.alive, ar.owned]
 have al : ∀ b, (rnB (fun i => σ.next + (i - ls.length)) b).alive = b.alive := fun b => tn _ b
 have ow : ∀ b, (rnB (fun i => σ.next + (i - ls.length)) b).owned = b.owned := fun b => to _ b
 have cases' : ∀ i b, (jP σ (bs.map (rnB fun i => σ.next + (i - ls.length)))).get i = some b →
   (∃ j c, i = σ.next + j ∧ bs[j]? = some c ∧ b = rnB (fun i => σ.next + (i - ls.length)) c) ∨ (i < σ.next ∧ σ.get i = some b) := by
  intro i b hi
  rcases EJ hi with ⟨j, h1, h2⟩ | ⟨_, h2⟩
  ·rw [List.getElem?_map, Option.map_eq_some_iff] at h2
   obtain ⟨c, h3, h4⟩ := h2
   exact .inl ⟨j, c, h1, h3, h4.symm⟩
  ·exact .inr ⟨hr.lt i b h2, h2⟩
 have hnext : (jP σ (bs.map (rnB fun i => σ.next + (i - ls.length)))).next = σ.next + bs.length := by rw [C5, List.length_map]
 have hbnd : ∀ i, ls.length ≤ i → i < ls.length + bs.length → σ.next + (i - ls.length) < σ.next + bs.length := fun i h1 h2 => by omega
 have jlt : ∀ {j : Nat} {c : ar}, bs[j]? = some c → j < bs.length := fun hj => (List.getElem?_eq_some_iff.1 hj).1
 refine ⟨ρn, ?_, ⟨⟨?_, ?_, ?_, ?_, ?_, ?_, R.os.trans hr.os, R.tape.trans hr.tape, R.output.trans hr.output, Nat.le_trans hr.size hsz, fun q hq => (hold q (by have := w0.lt q hq; have := hr.size; omega)).trans (hr.old q hq)⟩, fun i hi => n1 i hi, by rw [hnext]; omega⟩, ?_⟩
 ·rw [k1]
  simp only [sA, J9]
  rw [Nu (k := ls.length) (ρ := ρ') (fun i hi => n3 i hi) v hv]
 ·intro i b hi
  rw [hnext]
  rcases cases' i b hi with ⟨j, c, rfl, h2, _⟩ | ⟨h1, _⟩
  ·have := jlt h2; omega
  ·omega
 ·intro i b hi
  rw [hnext]
  rcases cases' i b hi with ⟨j, c, rfl, h2, rfl⟩ | ⟨_, h1⟩
  ·have hsc := R.sco _ _ (fresh j c h2)
   have hf := hfr j c h2
   cases c with
   | cells cs own gr =>
    simp only [frB, Bool.and_eq_true] at hf
    exact Lp hbnd cs hf.2 hsc
   | vec cs n sz own => exact hsc
   | map es c => exact hsc
   | iter m a b d => simp [frB] at hf
   | jJ => simp [frB] at hf
   | ci a b => simp [frB] at hf
   | dead => rfl
  ·exact fy (by omega) b (hr.sco i b h1)
 ·intro i b hi
  rcases cases' i b hi with ⟨j, c, rfl, h2, rfl⟩ | ⟨h0, h1⟩
  ·have hok := R.ok _ _ (fresh j c h2)
   have hsc := R.sco _ _ (fresh j c h2)
   have hf := hfr j c h2
   rw [n2]
   cases c with
   | cells cs own gr =>
    simp only [frB, Bool.and_eq_true] at hf
    obtain ⟨cc, e, fz, q1, ⟨pre, post, q2, q3⟩, q4, q5⟩ := hok
    refine ⟨cc, e, fz, q1, ⟨pre, post, ?_, q3⟩, q4, ?_⟩
    ·rw [tu, zg (k := ls.length) (ρ := ρ') (fun i hi => n3 i hi) cs hf.2]; exact q2
    ·rw [AT]; exact q5
   | vec cs n sz own => exact dl (n := 0) (fun i hi => by omega) rfl (.vec cs n sz own) hsc hok
   | map es c => exact dl (n := 0) (fun i hi => by omega) rfl (.map es c) hsc hok
   | iter m a b d => simp [frB] at hf
   | jJ => simp [frB] at hf
   | ci a b => simp [frB] at hf
   | dead => trivial
  ·rw [n1 i h0]
   by_cases ha : b.alive = true
   ·exact dl n1 (hold _ (hr.inb i b h1 ha)) b (hr.sco i b h1) (hr.ok i b h1)
   ·exact ma ha (hr.ok i b h1)
 ·intro i b hi ha
  rcases cases' i b hi with ⟨j, c, rfl, h2, rfl⟩ | ⟨h0, h1⟩
  ·rw [n2]; exact R.inb _ _ (fresh j c h2) (by rw [← al c]; exact ha)
  ·rw [n1 i h0]; have := hr.inb i b h1 ha; omega
 ·intro i j bi bj hi hj hij hoi haj
  rcases cases' i bi hi with ⟨a, c, rfl, h2, rfl⟩ | ⟨h0, h1⟩ <;> rcases cases' j bj hj with ⟨a', c', rfl, h2', rfl⟩ | ⟨h0', h1'⟩
  ·rw [n2, n2]
   exact R.ap _ _ _ _ (fresh a c h2) (fresh a' c' h2') (by omega) (by rw [← ow c]; exact hoi) (by rw [← al c']; exact haj)
  ·rw [n2, n1 j h0']
   have h3 := R.own _ _ (fresh a c h2) (by rw [← ow c]; exact hoi)
   have h4 := hr.inb j bj h1' haj
   intro q
   exact h3 (by rw [q]; exact h4)
  ·rw [n2, n1 i h0]
   have hal : c'.alive = true := by rw [← al c']; exact haj
   have h3 := R.own _ _ (fresh a' c' h2') (hown c' (hfr a' c' h2') hal)
   have h4 := hr.inb i bi h1 (ar.iZ hoi)
   intro q
   exact h3 (by rw [← q]; exact h4)
  ·rw [n1 i h0, n1 j h0']; exact hr.ap i j bi bj h1 h1' hij hoi haj
 ·intro i b hi hob
  rcases cases' i b hi with ⟨j, c, rfl, h2, rfl⟩ | ⟨h0, h1⟩
  ·rw [n2]
   have h3 := R.own _ _ (fresh j c h2) (by rw [← ow c]; exact hob)
   intro q
   exact h3 (Nat.lt_of_lt_of_le (w0.lt _ q) hr.size)
  ·rw [n1 i h0]; exact hr.own i b h1 hob
 ·rw [hnext]
  simp only [fR.value] at k3 ⊢
  exact Kb hbnd v hv k3
theorem Rg {σ : Mem} {b : Nat} {cs : LA_} {n sz : Nat} {own : Bool} {ks : List TK} (hb : σ.get b = some (.vec cs n sz own)) (hq : (aq ks cs 0 && Nat.beq (List.length cs) ks.length) = true) (hk : ks ≠ []) : cV σ b 0 ks.length = some (t6 cs 0 ks 0) := by
 rw [Bool.and_eq_true] at hq
 have hl := Nat.eq_of_beq_eq_true hq.2
 rcases zb (o := 0) (j := 0) (ks := ks) hq.1 with ⟨q1, q2⟩ | q
 ·simp only [cV, hb]
  rw [if_pos (by omega)]
  exact congrArg some q1
 ·exact absurd q hk
def cM {R : Type} (σ : Mem) (sz : Nat) (x : ab) (k : LA_ → Nat → Option R) : Option R :=
 match bS σ sz x with
 | some (cs, n) => if kA σ sz x then k cs n else none
 | none => none
theorem bA {R : Type} {σ : Mem} {sz : Nat} {x : ab} {k : LA_ → Nat → Option R} {r : R} (h : cM σ sz x k = some r) : ∃ cs n, bS σ sz x = some (cs, n) ∧ kA σ sz x = true ∧ k cs n = some r := by
 unfold cM at h
 split at h
 ·rename_i cs n he
  split at h
  ·rename_i hf; exact ⟨cs, n, he, hf, h⟩
  ·cases h
 ·cases h
theorem aw {R : Type} {σ : Mem} {sz : Nat} {x : ab} {S : Type} (k : LA_ → Nat → Option S) (f : S → Option R) : (cM σ sz x k).bind f = cM σ sz x fun a b => (k a b).bind f := by
 unfold cM
 split
 ·split <;> rfl
 ·rfl
end
end Go.Ev
namespace Go.Ev
inductive Nv where
 | c (i : Nat)
 | d (o : Nat)
 | k (i : Nat)
def follow (σ : Mem) : ab → List Nv → ab
 | v, [] => v
 | v, .c i :: p => match v with
  | .agg cs => follow σ (cs.getD i (.tup [])) p
  | .tup cs => follow σ (cs.getD i (.tup [])) p
  | _ => .tup []
 | v, .d o :: p => match v with
  | .ptr b _ => match σ.get b with
   | some (.cells cs _ _) => follow σ (cs.getD o (.tup [])) p
   | _ => .tup []
  | _ => .tup []
 | v, .k i :: p => match v with
  | .func _ _ cs => follow σ (cs.getD i (.tup [])) p
  | _ => .tup []
def T5 (s : St) (t : Nat) (p : List Nv) : ab := follow s.mem (s.tm.getD t (.tup [])) p
def nameOf : ab → Nat
 | .vec i | .ptr i _ | .map i | .slice i _ _ _ _ => i
 | _ => 0
def nameAt (s : St) (t : Nat) (p : List Nv) : Nat := nameOf (T5 s t p)
def vD (k : IntKind) (a b : Int) : Int := k.wrap (BitVec.ofInt k.bits a &&& BitVec.ofInt k.bits b).toNat
def ior (k : IntKind) (a b : Int) : Int := k.wrap (BitVec.ofInt k.bits a ||| BitVec.ofInt k.bits b).toNat
def xV (k : IntKind) (a b : Int) : Int := k.wrap (BitVec.ofInt k.bits a ^^^ BitVec.ofInt k.bits b).toNat
def ii (k : IntKind) (a b : Int) : Int := k.wrap (a * 2 ^ (min b.toNat k.bits))
def aC (k : IntKind) (a b : Int) : Int := a.fdiv (2 ^ (min b.toNat k.bits))
def shf (σ : Mem) (k : Nat) (i : Nat) : Nat := σ.next + (i - k)
def aA {R : Type} (σ : Mem) (kk : Nat) (v : ab) (bs : List ar) (k : fR → Mem → Option R) : Option R :=
 k (.ret (rn (shf σ kk) v)) (jP σ (bs.map (rnB (shf σ kk))))
theorem bp {X : Type} {o : Option X} {kk : Nat} {val : X → ab} {bl : X → List ar} {σ σ' : Mem} {r : fR} (h : (Option.bind o fun y => aA σ kk (val y) (bl y) fun r σ' => some (r, σ')) = some (r, σ'))
  (hb : ∀ y, bl y = []) (hv : ∀ y f, rn f (val y) = val y) : σ' = σ ∧ (∃ v, r = .ret v) ∧ ∀ σ2, (Option.bind o fun y => aA σ2 kk (val y) (bl y) fun r σ' => some (r, σ')) = some (r, σ2) := by
 cases o with
 | none => cases h
 | some y =>
  simp only [Option.bind_some, aA, hb, List.map_nil, jP, hv, Option.some.injEq, Prod.mk.injEq] at h ⊢
  obtain ⟨rfl, rfl⟩ := h
  exact ⟨rfl, ⟨_, rfl⟩, by simp⟩
def Hw (σ : Mem) (xs : LA_) (ks : List Bool) : LA_ → List ar → Prop
 | [], [] => True
 | x :: r, b :: s => qS σ xs ks x b ∧ Hw σ xs ks r s
 | _, _ => False
theorem Hw.spec {σ : Mem} {xs : LA_} {ks : List Bool} : ∀ {ys : LA_} {bs : List ar}, Hw σ xs ks ys bs → ys.length = bs.length ∧ ∀ (i : Nat) (x : ab) (b : ar), ys[i]? = some x → bs[i]? = some b → qS σ xs ks x b
 | [], [], _ => ⟨rfl, fun i x b h => by simp at h⟩
 | [], _ :: _, h => h.elim
 | _ :: _, [], h => h.elim
 | x :: r, b :: s, h => by
  obtain ⟨h1, h2⟩ := h
  obtain ⟨q1, q2⟩ := Hw.spec h2
  refine ⟨by simp [q1], fun i y c hy hc => ?_⟩
  cases i with
  | zero => simp only [List.getElem?_cons_zero, Option.some.injEq] at hy hc; subst hy hc; exact h1
  | succ i => simp only [List.getElem?_cons_succ] at hy hc; exact q2 i y c hy hc
theorem bv.of {σ : Mem} {xs : LA_} {bs : List ar} (h : Hw σ xs (bs.map mo) xs bs) : bv σ xs bs := ⟨h.spec.1, h.spec.2⟩
theorem lifted {P : Program} {g : FuncId} {cargs xs args : LA_} {ls bs : List ar} {kk : Nat} {v : ab} {σ σ' : Mem} {r : fR} (hL : bv σ xs ls) (hk : ls.length = kk)
  (h : nE P g ∧ di P g cargs ⟨kk, cQ 0 ls⟩ (.ret v) ⟨kk + bs.length, cQ kk bs⟩)
  (ho : kS (ls.map mo) cargs = true) (hv : fr kk v = true) (hb : bs.all (frB kk) = true) (ha : rI xs cargs = args) (hr : aA σ kk v bs (fun r σ' => some (r, σ')) = some (r, σ')) :
  GL P g args σ r σ' ∧ Ext σ σ' := by
 subst hk ha
 simp only [aA, Option.some.injEq, Prod.mk.injEq] at hr
 obtain ⟨rfl, rfl⟩ := hr
 exact ⟨.inl ⟨h.1, di.lift hL h.2 ho hv hb⟩, EI⟩
theorem bK {R S : Type} (c : Bool) (a b : Option S) (f : S → Option R) : (cond c a b).bind f = cond c (a.bind f) (b.bind f) := by cases c <;> rfl
theorem cb {A B R S : Type} (f : A → Option S) (g : B → Option S) (e : A ⊕ B) (k : S → Option R) : (Sum.elim f g e).bind k = Sum.elim (fun a => (f a).bind k) (fun b => (g b).bind k) e := by cases e <;> rfl
def Q8 {A R : Type} (x : Option (Option A)) (f : A → Option R) (g : Option R) : Option R :=
 match x with
 | some q => match q with
  | some p => f p
  | none => g
 | none => none
theorem bF {A R S : Type} (x : Option (Option A)) (f : A → Option S) (g : Option S) (k : S → Option R) : (Q8 x f g).bind k = Q8 x (fun p => (f p).bind k) (g.bind k) := by
 cases x with
 | none => rfl
 | some q => cases q <;> rfl
theorem bX {P : Program} {n : Nat} {b : Code} {x : Option LA} {la0 : LA} (e : x = some la0) (h : cF P n la0 b) : ∀ la, x = some la → cF P n la b := by
 intro la hla
 rw [e] at hla
 cases hla
 exact h
theorem eh {P : Program} {n : Nat} {b : Code} {x : Option LA} (e : x = none) : ∀ la, x = some la → cF P n la b := by
 intro la hla
 rw [e] at hla
 cases hla
def To (P : Program) (n : Nat) (A : qJ) : List Code → Prop
 | [] => True
 | b :: r => (∀ la, A (dO b) = some la → cF P n la b) ∧ To P n A r
theorem aI {P : Program} {n : Nat} {A : qJ} {c : Code} {l : List Code} (e : bm c = l) (h : To P n A l) : ∀ b ∈ bm c, ∀ la, A (dO b) = some la → cF P n la b := by
 rw [e]
 clear e
 induction l with
 | nil => intro b hb; cases hb
 | cons x l ih =>
  intro b hb
  cases hb with
  | head => exact h.1
  | tail _ hb => exact ih h.2 b hb
def eF (l : List (Nat × LA)) : qJ := fun r => match r with
 | some id => (l.find? fun x => x.1 == id).map (·.2)
 | none => none
def bq (fn : Func) : Code := fn.body.getD .skip
def MQ : Code → Code
 | .seq a _ => a
 | c => c
def Pr : Code → Code
 | .seq _ b => b
 | c => c
def MP : Code → Array Oper
 | .region _ ops _ => ops
 | _ => #[]
def HS (c : Code) (i : Nat) : Oper := (MP (MQ c)).toList.getD i default
def ib (x y c : Int) : Option (Int × Int) :=
 af (decide (0 ≤ x) && decide (0 ≤ y) && decide (0 ≤ c) && decide (c ≤ 1)) (some ((x + y + c) % 18446744073709551616, (x + y + c) / 18446744073709551616))
def Gz : HK where
 call := fun args σ k => match args with
  | [.int .u64 x, .int .u64 y, .int .u64 c] => Option.bind (ib x y c) fun r => k (.ret (.tup [.int .u64 r.1, .int .u64 r.2])) σ
  | _ => none
 nat := fun args σ k => by
  repeat' split
  all_goals simp only [Option.bind_assoc, Option.bind_none, Option.bind_some]
 pure := true
 pok := fun _ args σ r σ' h => by
  simp only at h
  split at h
  ·obtain ⟨q, h1, h2⟩ := bE_ h
   simp only [Option.some.injEq, Prod.mk.injEq] at h2
   obtain ⟨rfl, rfl⟩ := h2
   exact ⟨rfl, ⟨_, rfl⟩, fun σ2 => by simp only [h1, Option.bind_some]⟩
  ·cases h
theorem I6 {P : Program} {g : FuncId} {fn : Func} (hf : P.funcs[g]? = some fn) (hn : (fn.name == "runtime.NumGoroutine") = false) (hb : fn.body.isNone = true) (hx : Extern.findNext fn = none)
  (he : Extern.find fn = some add64Entry) : aW P g Gz := by
 intro args σ r σ' h
 simp only [Gz] at h
 split at h
 ·rename_i x y c
  obtain ⟨⟨s, t⟩, h1, h2⟩ := bE_ h
  simp only [Option.some.injEq, Prod.mk.injEq] at h2
  obtain ⟨rfl, rfl⟩ := h2
  unfold ib at h1
  obtain ⟨h3, h4⟩ := aH h1
  simp only [Bool.and_eq_true, decide_eq_true_eq] at h3
  simp only [Option.some.injEq, Prod.mk.injEq] at h4
  obtain ⟨rfl, rfl⟩ := h4
  refine ⟨.inr ⟨_, rfl, rfl, by simp [sc, scL], fun ρ w => ?_⟩, Ext.refl _⟩
  rw [run_callFunc_extern hf hn hb hx he]
  simp only [γL, γ]
  rw [run_add64 x y c h3.1.1.1 h3.1.1.2 h3.1.2 h3.2]
  rfl
 ·cases h
abbrev lC : List TK := [.int .i64, .int .i64, .int .i64]
abbrev fW : List TK := [.int .u64, .int .u64, .int .u64, .int .u64, .int .u64, .int .u64, .int .u64, .int .u64]
abbrev UE : List TK := [.int .u64, .int .u64, .int .u64, .int .u64, .int .u64, .int .u64, .int .u64, .int .u64, .int .u64, .int .u64, .int .u64, .int .u64, .int .u64, .int .u64, .int .u64, .int .u64, .int .u64, .int .u64, .int .u64, .int .u64, .int .u64, .int .u64, .int .u64, .int .u64]
abbrev I8 (R : Type) : Type := Int × Int × Int × Int × Int × Int × Int × Int × R
end Go.Ev
