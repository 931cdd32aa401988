import Derived.Test.YtcgajpdhbanhaaaGreatEvY
namespace Go.Ev
set_option linter.unusedVariables false
set_option linter.unusedSimpArgs false
inductive PStep where
  | c (i : Nat)
  | d (o : Nat)
  | k (i : Nat)
def follow (σ : Mem) : AVal → List PStep → AVal
  | v, [] => v
  | v, .c i :: p => match v with
    | .agg cs => follow σ (cs.getD i (.tup [])) p
    | .tup cs => follow σ (cs.getD i (.tup [])) p
    | _ => .tup []
  | v, .d o :: p => match v with
    | .ptr b _ => match σ.get b with
      | some (.cells cs _ _) => follow σ (cs.getD o (.tup [])) p
      | _ => .tup []
    | _ => .tup []
  | v, .k i :: p => match v with
    | .func _ _ cs => follow σ (cs.getD i (.tup [])) p
    | _ => .tup []
def getAt (s : St) (t : Nat) (p : List PStep) : AVal := follow s.mem (s.tm.getD t (.tup [])) p
def nameOf : AVal → Nat
  | .vec i | .ptr i _ | .map i | .slice i _ _ _ _ => i
  | _ => 0
def nameAt (s : St) (t : Nat) (p : List PStep) : Nat := nameOf (getAt s t p)
def iand (k : IntKind) (a b : Int) : Int := k.wrap (BitVec.ofInt k.bits a &&& BitVec.ofInt k.bits b).toNat
def ior (k : IntKind) (a b : Int) : Int := k.wrap (BitVec.ofInt k.bits a ||| BitVec.ofInt k.bits b).toNat
def ixor (k : IntKind) (a b : Int) : Int := k.wrap (BitVec.ofInt k.bits a ^^^ BitVec.ofInt k.bits b).toNat
def ishl (k : IntKind) (a b : Int) : Int := k.wrap (a * 2 ^ (min b.toNat k.bits))
def ishr (k : IntKind) (a b : Int) : Int := a.fdiv (2 ^ (min b.toNat k.bits))
def shf (σ : Mem) (k : Nat) (i : Nat) : Nat := σ.next + (i - k)
def retK {R : Type} (σ : Mem) (kk : Nat) (v : AVal) (bs : List ABlk) (k : ARes → Mem → Option R) : Option R :=
  k (.ret (rn (shf σ kk) v)) (pushAll σ (bs.map (rnB (shf σ kk))))
theorem pure_of {X : Type} {o : Option X} {kk : Nat} {val : X → AVal} {bl : X → List ABlk} {σ σ' : Mem} {r : ARes} (h : (Option.bind o fun y => retK σ kk (val y) (bl y) fun r σ' => some (r, σ')) = some (r, σ'))
    (hb : ∀ y, bl y = []) (hv : ∀ y f, rn f (val y) = val y) : σ' = σ ∧ (∃ v, r = .ret v) ∧ ∀ σ2, (Option.bind o fun y => retK σ2 kk (val y) (bl y) fun r σ' => some (r, σ')) = some (r, σ2) := by
  cases o with
  | none => cases h
  | some y =>
    simp only [Option.bind_some, retK, hb, List.map_nil, pushAll, hv, Option.some.injEq, Prod.mk.injEq] at h ⊢
    obtain ⟨rfl, rfl⟩ := h
    exact ⟨rfl, ⟨_, rfl⟩, by simp⟩
def AllAt (σ : Mem) (xs : List AVal) (ks : List Bool) : List AVal → List ABlk → Prop
  | [], [] => True
  | x :: r, b :: s => LentAt σ xs ks x b ∧ AllAt σ xs ks r s
  | _, _ => False
theorem AllAt.spec {σ : Mem} {xs : List AVal} {ks : List Bool} : ∀ {ys : List AVal} {bs : List ABlk}, AllAt σ xs ks ys bs → ys.length = bs.length ∧ ∀ (i : Nat) (x : AVal) (b : ABlk), ys[i]? = some x → bs[i]? = some b → LentAt σ xs ks x b
  | [], [], _ => ⟨rfl, fun i x b h => by simp at h⟩
  | [], _ :: _, h => h.elim
  | _ :: _, [], h => h.elim
  | x :: r, b :: s, h => by
    obtain ⟨h1, h2⟩ := h
    obtain ⟨q1, q2⟩ := AllAt.spec h2
    refine ⟨by simp [q1], fun i y c hy hc => ?_⟩
    cases i with
    | zero => simp only [List.getElem?_cons_zero, Option.some.injEq] at hy hc; subst hy hc; exact h1
    | succ i => simp only [List.getElem?_cons_succ] at hy hc; exact q2 i y c hy hc
theorem Lent.of {σ : Mem} {xs : List AVal} {bs : List ABlk} (h : AllAt σ xs (bs.map isVecB) xs bs) : Lent σ xs bs := ⟨h.spec.1, h.spec.2⟩
theorem lifted {P : Program} {g : FuncId} {cargs xs args : List AVal} {ls bs : List ABlk} {kk : Nat} {v : AVal} {σ σ' : Mem} {r : ARes} (hL : Lent σ xs ls) (hk : ls.length = kk)
    (h : IsFn P g ∧ SemCall P g cargs ⟨kk, numB 0 ls⟩ (.ret v) ⟨kk + bs.length, numB kk bs⟩)
    (ho : onlyVL (ls.map isVecB) cargs = true) (hv : fr kk v = true) (hb : bs.all (frB kk) = true) (ha : subL xs cargs = args) (hr : retK σ kk v bs (fun r σ' => some (r, σ')) = some (r, σ')) :
    CallOk P g args σ r σ' ∧ Ext σ σ' := by
  subst hk ha
  simp only [retK, Option.some.injEq, Prod.mk.injEq] at hr
  obtain ⟨rfl, rfl⟩ := hr
  exact ⟨.inl ⟨h.1, SemCall.lift hL h.2 ho hv hb⟩, pushAll_ext⟩
theorem cond_bind {R S : Type} (c : Bool) (a b : Option S) (f : S → Option R) : (cond c a b).bind f = cond c (a.bind f) (b.bind f) := by cases c <;> rfl
theorem sum_bind {A B R S : Type} (f : A → Option S) (g : B → Option S) (e : A ⊕ B) (k : S → Option R) : (Sum.elim f g e).bind k = Sum.elim (fun a => (f a).bind k) (fun b => (g b).bind k) e := by cases e <;> rfl
def lookC {A R : Type} (x : Option (Option A)) (f : A → Option R) (g : Option R) : Option R :=
  match x with
  | some q => match q with
    | some p => f p
    | none => g
  | none => none
theorem lookC_bind {A R S : Type} (x : Option (Option A)) (f : A → Option S) (g : Option S) (k : S → Option R) : (lookC x f g).bind k = lookC x (fun p => (f p).bind k) (g.bind k) := by
  cases x with
  | none => rfl
  | some q => cases q <;> rfl
theorem ann_one {P : Program} {n : Nat} {b : Code} {x : Option LA} {la0 : LA} (e : x = some la0) (h : LaOk P n la0 b) : ∀ la, x = some la → LaOk P n la b := by
  intro la hla
  rw [e] at hla
  cases hla
  exact h
theorem ann_none {P : Program} {n : Nat} {b : Code} {x : Option LA} (e : x = none) : ∀ la, x = some la → LaOk P n la b := by
  intro la hla
  rw [e] at hla
  cases hla
def AllL (P : Program) (n : Nat) (A : Anns) : List Code → Prop
  | [] => True
  | b :: r => (∀ la, A (regOf b) = some la → LaOk P n la b) ∧ AllL P n A r
theorem loops_ok {P : Program} {n : Nat} {A : Anns} {c : Code} {l : List Code} (e : loopsOf c = l) (h : AllL P n A l) : ∀ b ∈ loopsOf c, ∀ la, A (regOf b) = some la → LaOk P n la b := by
  rw [e]
  clear e
  induction l with
  | nil => intro b hb; cases hb
  | cons x l ih =>
    intro b hb
    cases hb with
    | head => exact h.1
    | tail _ hb => exact ih h.2 b hb
noncomputable def annsOf (l : List (Nat × LA)) : Anns := fun r => match r with
  | some id => (l.find? fun x => x.1 == id).map (·.2)
  | none => none
def bodyOf (fn : Func) : Code := fn.body.getD .skip
def seqL : Code → Code
  | .seq a _ => a
  | c => c
def seqR : Code → Code
  | .seq _ b => b
  | c => c
def regO : Code → Array Oper
  | .region _ ops _ => ops
  | _ => #[]
def opAt (c : Code) (i : Nat) : Oper := (regO (seqL c)).toList.getD i default
end Go.Ev

