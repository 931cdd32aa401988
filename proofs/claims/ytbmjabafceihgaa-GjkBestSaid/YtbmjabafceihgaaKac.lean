import Derived.Test.YtbmjabafceihgaaKab
set_option linter.unusedVariables false
set_option linter.unusedSimpArgs false
set_option maxRecDepth 100000
noncomputable section
namespace Go.Ev
def Ext (σ σ' : Mem) : Prop := σ.next ≤ σ'.next ∧ ∀ i, i < σ.next → σ'.get i = σ.get i
theorem Ext.refl (σ : Mem) : Ext σ σ := ⟨Nat.le_refl _, fun _ _ => rfl⟩
theorem Ext.trans {a b c : Mem} (h : Ext a b) (k : Ext b c) : Ext a c := ⟨Nat.le_trans h.1 k.1, fun i hi => (k.2 i (Nat.lt_of_lt_of_le hi h.1)).trans (h.2 i hi)⟩
theorem Ext.push (σ : Mem) (b : ar) : Ext σ (σ.push b) := ⟨by simp, fun i hi => by rw [ct, if_neg (by omega)]⟩
def sF : Option (cP × Mem) → Option ab
 | some (.val v, _) => some v
 | some (.skip, _) => some (.tup [])
 | _ => none
def Nf : Op → Bool
 | .call { callee := .value _, .. } => true
 | _ => false
def KW (op : Op) (tm : LA_) (n : Nat) : Bool := !Nf op && (tmpsOf op.operands.toList).all fun t => sc n (tm.getD t (.tup []))
section
variable {T : av}
def xh (p : Nat → Bool) : ab → Bool
 | .ptr i _ | .slice i _ _ _ _ | .vec i | .map i | .emp i => p i
 | _ => true
def AS (op : Op) (tm : LA_) (p : Nat → Bool) : Bool := !Nf op && (tmpsOf op.operands.toList).all fun t => xh p (tm.getD t (.tup []))
theorem LZ {p : Nat → Bool} {c : Value} {v : ab} (h : ofV c = some v) : xh p v = true := by
 unfold ofV at h
 split at h <;> first
  | (cases h; rfl)
  | cases h
theorem uX {op : Op} {tm : LA_} {p : Nat → Bool} (h : AS op tm p = true) {x : Operand} (hx : x ∈ op.operands.toList) {v : ab} (hv : ev tm x = some v) : xh p v = true := by
 cases x with
 | tmp t =>
  simp only [ev, Option.some.injEq] at hv
  subst hv
  exact (List.all_eq_true.1 (Bool.and_eq_true_iff.1 h).2) t (GS hx)
 | const c => exact LZ hv
 | func f => simp only [ev, Option.some.injEq] at hv; subst hv; rfl
 | global g => simp [ev] at hv
theorem K7 {σ σ' : Mem} {b o n : Nat} (h : σ'.get b = σ.get b) : cV σ' b o n = cV σ b o n := by simp only [cV, h]
theorem Ng {σ σ' : Mem} {t : TypeId} {x : ab} {p : Nat → Bool} (hs : xh p x = true) (hg : ∀ i, p i = true → σ'.get i = σ.get i) : qE T σ' t x = qE T σ t x := by
 unfold qE
 split
 ·rename_i i b o ht
  rw [K7 (hg b hs)]
 ·rfl
theorem Hf {σ σ' : Mem} {x : ab} {p : Nat → Bool} (hs : xh p x = true) (hg : ∀ i, p i = true → σ'.get i = σ.get i) : jt σ' x = jt σ x := by
 unfold jt
 split
 ·rename_i i
  rw [hg i hs]
 ·rfl
theorem K8 {σ σ' : Mem} {t : TypeId} {x k : ab} {ok : Bool} {p : Nat → Bool} (hs : xh p x = true) (hg : ∀ i, p i = true → σ'.get i = σ.get i) : uU T σ' t x k ok = uU T σ t x k ok := rfl
theorem Hg {σ σ' : Mem} {t : TypeId} {x k : ab} {p : Nat → Bool} (hs : xh p x = true) (hg : ∀ i, p i = true → σ'.get i = σ.get i) : dE T σ' t x k = dE T σ t x k := by
 unfold dE
 split
 ·rw [hg _ hs]
 all_goals rfl
theorem OJ {σ σ' : Mem} {t : TypeId} {x : ab} {p : Nat → Bool} (hs : xh p x = true) (hg : ∀ i, p i = true → σ'.get i = σ.get i) : Is T σ' t x = Is T σ t x := by
 unfold Is
 split
 ·rfl
 ·split <;> first
   | rfl
   | rw [hg _ hs]
theorem iR {σ : Mem} {r : Option ab} : sF (r.map fun v => ((cP.val v, σ) : cP × Mem)) = r := by cases r <;> rfl
theorem IF {pf : FuncId → Nat} {H : bO} {op : Op} {tm : LA_} {σ σ' : Mem} {p : Nat → Bool} (hk : bM pf op = 1) (hg : ∀ i, p i = true → σ'.get i = σ.get i) (hs : AS op tm p = true) : sF (aN T H op tm σ') = sF (aN T H op tm σ) := by
 cases op <;> simp only [bM] at hk <;> first | (cases hk; done) | skip
 case binOp o t x y u =>
  simp only [aN]
  cases hx : ev tm x with
  | none => rfl
  | some a =>
   cases hy : ev tm y with
   | none => rfl
   | some b =>
    simp only [iR, CE, CD, Hf (uX hs (by simp [Op.operands]) hx) hg, Hf (uX hs (by simp [Op.operands]) hy) hg]
 case convert src dst x =>
  have hd : Nat.beq dst pk = false := by
   cases hb : Nat.beq dst pk with
   | true => rw [hb] at hk; cases hk
   | false => rfl
  have hsr : Nat.beq src pk = true := by
   rw [hd] at hk
   cases hb : Nat.beq src pk with
   | true => rfl
   | false => rw [hb] at hk; cases hk
  simp only [aN, hd, hsr]
  cases hx : ev tm x with
  | none => rfl
  | some a => simp only [iR, wZ]
 case load t x =>
  simp only [aN]
  cases hx : ev tm x with
  | none => rfl
  | some a => simp only [iR]; exact Ng (uX hs (by simp [Op.operands]) hx) hg
 case indexAddr t x i =>
  simp only [aN]
  cases hx : ev tm x with
  | none => rfl
  | some a =>
   cases hi : ev tm i with
   | none => rfl
   | some b => simp only [iR]; exact Hg (uX hs (by simp [Op.operands]) hx) hg
 case lookup t x i ok =>
  simp only [aN]
  cases hx : ev tm x with
  | none => rfl
  | some a =>
   cases hi : ev tm i with
   | none => rfl
   | some b => simp only [iR]; exact K8 (uX hs (by simp [Op.operands]) hx) hg
 case call c =>
  obtain ⟨callee, args, argTypes⟩ := c
  cases callee with
  | invoke r m => simp [bM] at hk
  | value f => simp [AS, Nf] at hs
  | builtin b =>
   simp only [aN]
   cases hv : evL tm args.toList with
   | none => rfl
   | some vs =>
    have hk' : b = .len ∨ b = .max ∨ b = .min := by cases b <;> simp_all [bM]
    simp only [iY]
    split
    ·rename_i t ts x xs hts
     simp only [iR]
     have hx : ∃ o ∈ args.toList, ev tm o = some x := by
      cases ha : args.toList with
      | nil => rw [ha] at hv; simp [evL] at hv
      | cons o l =>
       rw [ha] at hv
       simp only [evL] at hv
       split at hv
       ·rename_i v us h1 h2
        simp only [Option.some.injEq, List.cons.injEq] at hv
        exact ⟨o, List.mem_cons_self .., by rw [h1, hv.1]⟩
       ·cases hv
     obtain ⟨o, ho, hox⟩ := hx
     refine OJ (uX hs ?_ hox) hg
     simp only [Op.operands, Call.operands, Array.toList_append, List.mem_append]
     exact .inr ho
    ·rcases hk' with h | h | h <;> cases h
    ·rcases hk' with h | h | h <;> cases h
    ·simp only [iR]
    ·simp only [iR]
    ·rfl
theorem Nh {op : Op} {tm : LA_} {n : Nat} (h : KW op tm n = true) : AS op tm (fun i => decide (i < n)) = true := by
 unfold KW at h
 unfold AS
 rw [Bool.and_eq_true, List.all_eq_true] at h ⊢
 refine ⟨h.1, fun t ht => ?_⟩
 have := h.2 t ht
 revert this
 generalize tm.getD t (.tup []) = v
 intro hv
 cases v <;> first
  | rfl
  | exact hv
theorem OA {pf : FuncId → Nat} {H : bO} {op : Op} {tm : LA_} {σ σ' : Mem} (hk : bM pf op = 1) (he : Ext σ σ') (hs : KW op tm σ.next = true) : sF (aN T H op tm σ') = sF (aN T H op tm σ) :=
 IF hk (fun i hi => he.2 i (by simpa using hi)) (Nh hs)
end
def am (pf : FuncId → Nat) (all : List Oper) (ms : List Nat) : List Nat :=
 (List.range all.length).filter fun i => match all[i]? with
  | some oi => cn pf oi && all.zipIdx.any fun (oj, j) => cn pf oj && (i != j && !(anc ms (min i j) (max i j)))
  | none => false
def FJ (o : Oper) : Bool := (match o.op with
 | .alloc _ => true
 | _ => false) && o.guard.isNone && o.dst.isSome
def AM (o : Oper) : Bool := (match o.op with
 | .store .. => true
 | _ => false) && o.guard.isNone
def fA (all : List Oper) (g : List Nat) : Bool := g.all fun i => match all[i]? with
 | some o => FJ o
 | none => false
def K9 (o : Oper) : Bool := match o.op with
 | .indexAddr .. => true
 | _ => false
def wc (σ : Mem) (b : Nat) : Option Nat := match σ.get b with
 | some (.vec _ l _ _) => some l
 | _ => none
theorem Oz {σ σ' : Mem} {b o : Nat} {vs : LA_} (h : dW σ b o vs = some σ') (i : Nat) : wc σ' i = wc σ i := by
 unfold dW at h
 split at h
 ·rename_i hg
  split at h
  ·cases h
   unfold wc
   rw [aF]
   by_cases e : b = i
   ·subst e; rw [if_pos rfl, hg]
   ·rw [if_neg e]
  ·cases h
 ·rename_i hg
  split at h
  ·cases h
   unfold wc
   rw [aF]
   by_cases e : b = i
   ·subst e; rw [if_pos rfl, hg]
   ·rw [if_neg e]
  ·cases h
 ·cases h
theorem Hh {T : av} {σ σ' : Mem} {t : TypeId} {x k : ab} (hv : ∀ b, wc σ b = wc σ' b) : dE T σ t x k = dE T σ' t x k := by
 unfold dE
 split
 ·rename_i e b kk n hT
  have hb := hv b
  unfold wc at hb
  cases T e with
  | none => rfl
  | some j =>
   cases h1 : σ.get b with
   | none =>
    rw [h1] at hb
    cases h2 : σ'.get b with
    | none => rfl
    | some c' => rw [h2] at hb; cases c' <;> first | rfl | cases hb
   | some c =>
    rw [h1] at hb
    cases h2 : σ'.get b with
    | none => rw [h2] at hb; cases c <;> first | rfl | cases hb
    | some c' => rw [h2] at hb; cases c <;> cases c' <;> first | rfl | (cases hb; rfl) | cases hb
 all_goals rfl
theorem PH {T : av} {H : bO} {o : Oper} (ho : K9 o = true) {tm : LA_} {σ σ' : Mem} {v : ab} (hv : ∀ b, wc σ b = wc σ' b) (h : aN T H o.op tm σ' = some (.val v, σ')) : aN T H o.op tm σ = some (.val v, σ) := by
 unfold K9 at ho
 split at ho
 ·rename_i t x i hop
  rw [hop] at h ⊢
  simp only [aN] at h ⊢
  split at h
  ·rename_i a b hx hi
   rw [Hh hv]
   obtain ⟨u, h1, h2⟩ := Option.map_eq_some_iff.1 h
   simp only [Prod.mk.injEq, cP.val.injEq, and_true] at h2
   rw [h1, h2]
   rfl
  ·cases h
 ·cases ho
def pv (pf : FuncId → Nat) (all : List Oper) (ms : List Nat) (g : List Nat) : Bool :=
 match g with
 | [p, q] => decide (p < q) && (match all[p]?, all[q]? with
  | some a, some b => AM a && AM b
  | _, _ => false) && all.zipIdx.all fun (o, r) => !(bM pf o.op == 1) || (anc ms r p && anc ms r q) || (anc ms p r && anc ms q r) || (K9 o && !anc ms p r && !anc ms q r)
 | _ => false
def pt (pf : FuncId → Nat) (all : List Oper) (ms g : List Nat) : Bool :=
 g.isEmpty || ((fA all g || pv pf all ms g) && all.zipIdx.all fun (_, r) => g.contains r || g.all (fun i => !anc ms i r) || g.all (fun i => anc ms i r))
def nS (pf : FuncId → Nat) (all : List Oper) : Bool := f0 all && rZ all (ag all []) && pt pf all (ag all []) (am pf all (ag all []))
def SP : Option ab → Option ab → Option ab → Option ab → Bool
 | some (.ptr b o), some v, some (.ptr b' o'), some v' => b != b' || decide (o + v.cellsOf.length ≤ o') || decide (o' + v'.cellsOf.length ≤ o)
 | _, _, _, _ => false
def qM (pf : FuncId → Nat) (all : List Oper) (ms g : List Nat) (tr : List (St × ab)) : Bool :=
 match g with
 | [] => true
 | i0 :: g' => if fA all g then
   (match tr[i0]? with
    | some (s0, _) => (all.zip tr).zipIdx.all fun ((o, s, v), r) => g.contains r || g.all (fun i => anc ms i r) || (sc s0.mem.next v && (!(bM pf o.op == 1) || KW o.op s.tm s0.mem.next))
    | none => false)
  else match g' with
   | [q] => (match all[i0]?, all[q]?, tr[i0]?, tr[q]? with
    | some a, some b, some (s, _), some (s', _) => (match a.op, b.op with
     | .store _ x y, .store _ x' y' => SP (ev s.tm x) (ev s.tm y) (ev s'.tm x') (ev s'.tm y')
     | _, _ => false)
    | _, _, _, _ => false)
   | _ => false
def jO (pf : FuncId → Nat) (T : av) (H : bO) (all : List Oper) (s : St) : Option St :=
 match trace T H all all s with
 | some (tr, e) => if pp pf T H all (ag all []) (tr.map (·.1.mem) ++ [e.mem]) all 0 tr && qM pf all (ag all []) (am pf all (ag all [])) tr then some e else none
 | none => none
mutual
def rn (f : Nat → Nat) : ab → ab
 | .bool b => .bool b
 | .int k n => .int k n
 | .str s => .str s
 | .ptr i o => .ptr (f i) o
 | .el => .el
 | .slice i o l e c => .slice (f i) o l e c
 | .aO => .aO
 | .emp i => .emp (f i)
 | .map i => .map (f i)
 | .fx => .fx
 | .func g fs cs => .func g (rnL f fs) (rnL f cs)
 | .cO => .cO
 | .iface t v => .iface t (rn f v)
 | .dC => .dC
 | .agg cs => .agg (rnL f cs)
 | .tup vs => .tup (rnL f vs)
 | .dD i => .dD (f i)
 | .vec i => .vec (f i)
def rnL (f : Nat → Nat) : LA_ → LA_
 | [] => []
 | v :: vs => rn f v :: rnL f vs
end
mutual
theorem J9 (ρ : Nat → Loc) (f : Nat → Nat) : ∀ v, γ ρ (rn f v) = γ (fun i => ρ (f i)) v
 | .bool _ | .int _ _ | .str _ | .ptr _ _ | .el | .slice _ _ _ _ _ | .aO | .emp _ | .map _ | .fx | .cO | .dC | .dD _ | .vec _ => by simp [rn, γ]
 | .func g x y => by simp only [rn, γ, tu ρ f x, tu ρ f y]
 | .iface t v => by simp only [rn, γ, J9 ρ f v]
 | .agg x => by simp only [rn, γ, tu ρ f x]
 | .tup x => by simp only [rn, γ, tu ρ f x]
theorem tu (ρ : Nat → Loc) (f : Nat → Nat) : ∀ l, γL ρ (rnL f l) = γL (fun i => ρ (f i)) l
 | [] => by simp [rnL, γL]
 | v :: vs => by simp only [rnL, γL, J9 ρ f v, tu ρ f vs]
end
theorem AT (f : Nat → Nat) : ∀ l, (rnL f l).length = l.length
 | [] => rfl
 | v :: vs => by simp [rnL, AT f vs]
def rnB (f : Nat → Nat) : ar → ar
 | .cells cs own gr => .cells (rnL f cs) own gr
 | .iter m a b c => .iter (f m) a b c
 | b => b
mutual
theorem Hi {f : Nat → Nat} {n : Nat} (hf : ∀ i, i < n → f i = i) : ∀ v, sc n v = true → rn f v = v
 | .bool _, _ | .int _ _, _ | .str _, _ | .el, _ | .aO, _ | .fx, _ | .cO, _ | .dC, _ => rfl
 | .ptr i o, h | .slice i o l e c, h | .map i, h | .emp i, h | .dD i, h | .vec i, h => by
  simp only [sc, decide_eq_true_eq] at h
  simp only [rn, hf i h]
 | .func g x y, h => by simp only [sc, Bool.and_eq_true] at h; simp only [rn, Dp hf x h.1, Dp hf y h.2]
 | .iface t v, h => by simp only [sc] at h; simp only [rn, Hi hf v h]
 | .agg x, h => by simp only [sc] at h; simp only [rn, IG hf x h]
 | .tup x, h => by simp only [sc] at h; simp only [rn, Dp hf x h]
theorem Dp {f : Nat → Nat} {n : Nat} (hf : ∀ i, i < n → f i = i) : ∀ l, scL n l = true → rnL f l = l
 | [], _ => rfl
 | v :: vs, h => by simp only [scL, Bool.and_eq_true] at h; simp only [rnL, Hi hf v h.1, Dp hf vs h.2]
theorem IG {f : Nat → Nat} {n : Nat} (hf : ∀ i, i < n → f i = i) : ∀ l, scC n l = true → rnL f l = l
 | [], _ => rfl
 | v :: vs, h => by simp only [scC, Bool.and_eq_true] at h; simp only [rnL, Hi hf v h.1.2, IG hf vs h.2]
end
theorem Mn {f : Nat → Nat} {n : Nat} (hf : ∀ i, i < n → f i = i) : ∀ b, scB n b = true → rnB f b = b
 | .cells cs _ _, h => by simp only [rnB, IG hf cs h]
 | .vec _ _ _ _, _ => rfl
 | .map _ _, _ => rfl
 | .iter m _ _ _, h => by simp only [scB, decide_eq_true_eq] at h; simp only [rnB, hf m h]
 | .jJ, _ => rfl
 | .ci _ _, _ => rfl
 | .dead, _ => rfl
theorem tn (f : Nat → Nat) (b : ar) : (rnB f b).alive = b.alive := by cases b <;> rfl
theorem to (f : Nat → Nat) (b : ar) : (rnB f b).owned = b.owned := by cases b <;> rfl
theorem OD {ρ : Nat → Loc} {f : Nat → Nat} {n : Nat} {L : Loc} {w : World} : ∀ {b : ar}, scB n (rnB f b) = true → BOk ρ L w (rnB f b) → BOk (fun i => ρ (f i)) L w b
 | .cells cs own gr, _, h => by
  obtain ⟨c, e, fz, h1, ⟨pre, post, h2, h3⟩, h4, h5⟩ := h
  rw [tu] at h2
  rw [AT] at h5
  exact ⟨c, e, fz, h1, ⟨pre, post, h2, h3⟩, h4, h5⟩
 | .vec cs n sz own, hs, h => dl (n := 0) (fun i hi => by omega) rfl (.vec cs n sz own) hs h
 | .map es clock, hs, h => dl (n := 0) (fun i hi => by omega) rfl (.map es clock) hs h
 | .iter m since seen last, _, h => ⟨h.1, h.2⟩
 | .jJ, _, h => h
 | .ci _ _, _, h => h
 | .dead, _, _ => trivial
theorem bJ.ren {w0 : W0} {ρ : Nat → Loc} {s s' : St} {a : Act} {w : World} (hr : bJ w0 ρ s a w) {f : Nat → Nat} {n : Nat}
  (htm : s.tm = rnL f s'.tm) (hsc : scL s'.mem.next s'.tm = true) (hdf : s'.df = s.df) (hdsc : ∀ d ∈ s.df, scL n d.cap = true ∧ scL n d.args = true) (hn : n ≤ s'.mem.next)
  (hfix : ∀ i, i < n → f i = i) (hinj : ∀ i j, i < s'.mem.next → j < s'.mem.next → f i = f j → i = j)
  (hb : ∀ i b, s'.mem.get i = some b → i < s'.mem.next ∧ s.mem.get (f i) = some (rnB f b) ∧ scB s'.mem.next b = true) : bJ w0 (fun i => ρ (f i)) s' a w := by
 have R := hr.rel
 refine ⟨⟨fun i b hi => (hb i b hi).1, fun i b hi => (hb i b hi).2.2, ?_, ?_, ?_, ?_, R.os, R.tape, R.output, R.size, R.old⟩, ?_, hsc, ?_, ?_⟩
 ·intro i b hi
  obtain ⟨_, q2, _⟩ := hb i b hi
  exact OD (R.sco _ _ q2) (R.ok _ _ q2)
 ·intro i b hi ha
  obtain ⟨_, q2, _⟩ := hb i b hi
  exact R.inb _ _ q2 (by rw [tn]; exact ha)
 ·intro i j bi bj hi hj hij hoi haj
  obtain ⟨q1, q2, _⟩ := hb i bi hi
  obtain ⟨p1, p2, _⟩ := hb j bj hj
  exact R.ap _ _ _ _ q2 p2 (fun e => hij (hinj i j q1 p1 e)) (by rw [to]; exact hoi) (by rw [tn]; exact haj)
 ·intro i b hi ho
  obtain ⟨_, q2, _⟩ := hb i b hi
  exact R.own _ _ q2 (by rw [to]; exact ho)
 ·rw [hr.tm, htm, tu]
 ·rw [hr.df, hdf]
  apply List.map_congr_left
  intro d hd
  have h2 := hdsc d hd
  simp only [γD, dk (ρ := ρ) (ρ' := fun i => ρ (f i)) (n := n) (fun i hi => by rw [hfix i hi]) _ h2.1, dk (ρ := ρ) (ρ' := fun i => ρ (f i)) (n := n) (fun i hi => by rw [hfix i hi]) _ h2.2]
 ·intro d hd
  rw [hdf] at hd
  exact ⟨cz hn _ (hdsc d hd).1, cz hn _ (hdsc d hd).2⟩
theorem Nb {P : Program} {T : av} {H : bO} (hT : aY P T) (hH : ir P H) {ops : Array Oper} {i : Nat} {o : Oper} (ho : ops[i]? = some o) {t : TypeId} {ti : TyI} (hop : o.op = .alloc t) (hg : o.guard = none) (hti : T t = some ti)
  {w0 : W0} {ρ : Nat → Loc} {tm : LA_} {df : List l9} {σ : Mem} {a : Act} {w : World} (h : bJ w0 ρ ⟨tm, df, σ⟩ a w) {m n0 : Nat} (hm0 : n0 ≤ m) (hm1 : m < σ.next) (hmn : σ.get m = none)
  (hdf : ∀ d ∈ df, scL n0 d.cap = true ∧ scL n0 d.args = true) (hbs : ∀ i b, σ.get i = some b → scB n0 b = true)
  (htm : ∀ t v, tm[t]? = some v → o.dst ≠ some t → sc n0 v = true ∨ ∃ m', v = .ptr m' 0 ∧ m' ≠ m) {Q : Exit → Act → World → Prop} {K : Act → World → Prop}
  (hK : ∀ ρ' a' w', bJ w0 ρ' ⟨bR tm o.dst (.ptr m 0), df, ⟨σ.next, (m, ju (ik T t) ti.zero) :: σ.bs⟩⟩ a' w' → (∀ i, i < n0 → ρ' i = ρ i) → K a' w') : wpOp P ops Q i K a w := by
 have hx : dr T H ops.toList o ⟨tm, df, σ⟩ = some (.go ⟨bR tm o.dst (.ptr σ.next 0), df, σ.push (ju (ik T t) ti.zero)⟩) := by
  simp only [dr, gj, bo, hg, Bool.false_eq_true, if_false, if_true, hop, aN, hti]
 refine eY hT hH h ho hx ?_
 intro ρ' a' w' k1 k2 k3
 let f : Nat → Nat := fun i => if i = m then σ.next else i
 have hfm : f m = σ.next := if_pos rfl
 have hfn : ∀ i, i ≠ m → f i = i := fun i hi => if_neg hi
 have hfix : ∀ i, i < n0 → f i = i := fun i hi => hfn i (by omega)
 have hblk : scB 0 (ju (ik T t) ti.zero) = true := by
  have := (hT t ti hti).zsc
  unfold ju
  split <;> exact this
 refine hK (fun i => ρ' (f i)) a' w' (k1.ren (s' := ⟨bR tm o.dst (.ptr m 0), df, ⟨σ.next, (m, ju (ik T t) ti.zero) :: σ.bs⟩⟩) (n := n0) ?_ ?_ rfl hdf (by simp only; omega) hfix ?_ ?_) ?_
 ·show bR tm o.dst (.ptr σ.next 0) = rnL f (bR tm o.dst (.ptr m 0))
  apply List.ext_getElem?
  intro t
  have key : ∀ l : LA_, (rnL f l)[t]? = (l[t]?).map (rn f) := by
   intro l
   induction l generalizing t with
   | nil => simp [rnL]
   | cons v l ih => cases t <;> simp [rnL, ih]
  rw [key]
  have base : o.dst ≠ some t → tm[t]? = (tm[t]?).map (rn f) := by
   intro hne
   cases hv : tm[t]? with
   | none => rfl
   | some v =>
    simp only [Option.map_some, Option.some.injEq]
    rcases htm t v hv hne with q | ⟨m', rfl, q⟩
    ·exact (Hi hfix v q).symm
    ·simp only [rn, hfn m' q]
  cases hd : o.dst with
  | none => simp only [bR]; exact base (by rw [hd]; simp)
  | some d =>
   simp only [bR]
   by_cases hdt : d = t
   ·subst hdt
    by_cases hl : d < tm.length
    ·rw [List.getElem?_set_self hl, List.getElem?_set_self hl]; simp only [Option.map_some, rn, hfm]
    ·have hl' := Nat.le_of_not_lt hl
     rw [List.getElem?_eq_none (by rw [List.length_set]; exact hl'), List.getElem?_eq_none (by rw [List.length_set]; exact hl')]; rfl
   ·rw [List.getElem?_set_ne hdt, List.getElem?_set_ne hdt]
    exact base (by rw [hd]; simpa using hdt)
 ·show scL σ.next (bR tm o.dst (.ptr m 0)) = true
  have h0 : scL σ.next tm = true := h.sct
  cases hd : o.dst with
  | none => exact h0
  | some d => exact y7 h0 (by simp only [sc, decide_eq_true_eq]; exact hm1)
 ·intro i j hi hj e
  simp only at hi hj
  by_cases h1 : i = m <;> by_cases h2 : j = m
  ·omega
  ·rw [h1, hfm, hfn j h2] at e; omega
  ·rw [h2, hfm, hfn i h1] at e; omega
  ·rw [hfn i h1, hfn j h2] at e; exact e
 ·intro i b hi
  simp only [Mem.get, look] at hi
  split at hi
  ·rename_i e
   rw [beq_iff_eq] at e
   cases hi
   subst e
   refine ⟨hm1, ?_, fy (Nat.zero_le _) _ hblk⟩
   rw [hfm, ct, if_pos rfl, Mn (n := 0) (fun i hi => by omega) _ hblk]
  ·rename_i e
   have hne : i ≠ m := fun q => e (by rw [q]; exact beq_self_eq_true m)
   have hi' : σ.get i = some b := hi
   have hlt : i < σ.next := h.rel.lt i b hi'
   have hsb := hbs i b hi'
   refine ⟨hlt, ?_, fy (by simp only; omega) _ hsb⟩
   rw [hfn i hne, ct, if_neg (by omega), Mn hfix b hsb]
   exact hi'
 ·intro i hi
  show ρ' (f i) = ρ i
  rw [hfix i hi]
  exact k2 i (by simp only; omega)
end Go.Ev
namespace Go.Ev
section
variable {P : Program} {T : av} {H : bO} {pf : FuncId → Nat}
theorem GU {all : List Oper} : ∀ (l : List Oper) (s : St) (tr : List (St × ab)) (e : St), trace T H all l s = some (tr, e) →
  tr.length = l.length ∧ (tr.map (·.1) ++ [e])[0]? = some s ∧ ∀ i o, l[i]? = some o → ∃ si vi σ, tr[i]? = some (si, vi) ∧ cr T H all o si = some (vi, σ) ∧
   (tr.map (·.1) ++ [e])[i + 1]? = some ⟨bR si.tm o.dst vi, si.df, σ⟩
 | [], s, tr, e, h => by
  simp only [trace, Option.some.injEq, Prod.mk.injEq] at h
  obtain ⟨rfl, rfl⟩ := h
  simp
 | o :: r, s, tr, e, h => by
  simp only [trace] at h
  split at h
  ·rename_i v σ hv
   split at h
   ·rename_i l' e' hl
    simp only [Option.some.injEq, Prod.mk.injEq] at h
    obtain ⟨rfl, rfl⟩ := h
    obtain ⟨h1, h2, h3⟩ := GU r _ l' e' hl
    refine ⟨by simp [h1], by simp, fun i o' hi => ?_⟩
    cases i with
    | zero =>
     simp only [List.getElem?_cons_zero, Option.some.injEq] at hi
     subst hi
     exact ⟨s, v, σ, by simp, hv, by simpa using h2⟩
    | succ i =>
     obtain ⟨si, vi, σi, q1, q2, q3⟩ := h3 i o' (by simpa using hi)
     exact ⟨si, vi, σi, by simpa using q1, q2, by simpa using q3⟩
   ·cases h
  ·cases h
theorem CN {all : List Oper} {ms : List Nat} {mems : List Mem} : ∀ (l : List Oper) (b : Nat) (tr : List (St × ab)), pp pf T H all ms mems l b tr = true →
  ∀ k o si vi, l[k]? = some o → tr[k]? = some (si, vi) → GR pf T H all ms mems (b + k) o si vi = true
 | [], b, tr, _, k, o, si, vi, h, _ => by simp at h
 | o :: r, b, [], _, k, o', si, vi, _, h => by simp at h
 | o :: r, b, (s, v) :: tr, h, k, o', si, vi, h1, h2 => by
  simp only [pp, Bool.and_eq_true] at h
  cases k with
  | zero =>
   simp only [List.getElem?_cons_zero, Option.some.injEq] at h1 h2
   obtain ⟨rfl, rfl⟩ := Prod.mk.inj h2
   subst h1
   exact h.1
  | succ k =>
   have := CN r (b + 1) tr h.2 k o' si vi (by simpa using h1) (by simpa using h2)
   rwa [show b + 1 + k = b + (k + 1) by omega] at this
theorem dQ {all : List Oper} {o : Oper} {s : St} {v : ab} {σ : Mem} (h : cr T H all o s = some (v, σ)) : dr T H all o s = some (.go ⟨bR s.tm o.dst v, s.df, σ⟩) := by
 unfold cr at h
 unfold dr
 cases hg : gj all o s.tm with
 | true => rw [hg] at h; cases h
 | false =>
 rw [hg] at h
 simp only [Bool.false_eq_true, if_false] at h ⊢
 split at h
 ·rename_i hw
  simp only [hw, if_true]
  split at h
  ·rename_i v' σ' hx
   cases h
   simp only [hx]
  ·rename_i σ' hx
   cases h
   simp only [hx]
  ·cases h
 ·rename_i hw
  cases h
  simp only [hw, Bool.false_eq_true, if_false]
structure Run (pf : FuncId → Nat) (T : av) (H : bO) (all : List Oper) (s e : St) (S : Nat → St) (V : Nat → ab) : Prop where
 zero : S 0 = s
 last : S all.length = e
 step : ∀ i o, all[i]? = some o → ∃ σ, cr T H all o (S i) = some (V i, σ) ∧ S (i + 1) = ⟨bR (S i).tm o.dst (V i), (S i).df, σ⟩
 reads : ∀ i o, all[i]? = some o → bM pf o.op = 1 → bo all o (S i).tm = true → ∀ c ∈ wa pf all, kE pf all (ag all []) i c = false →
  c ≤ all.length → aN T H o.op (S i).tm (S c).mem = some (.val (V i), (S c).mem)
 grp : ∃ tr : List (St × ab), tr.length = all.length ∧ (∀ i, i < all.length → tr[i]? = some (S i, V i)) ∧ qM pf all (ag all []) (am pf all (ag all [])) tr = true
theorem Ou (hP : fk pf H) {all : List Oper} {s e : St} (h : jO pf T H all s = some e) : ∃ S V, Run pf T H all s e S V := by
 unfold jO at h
 split at h
 ·rename_i tr e' htr
  split at h
  ·rename_i hrd0
   rw [Bool.and_eq_true] at hrd0
   obtain ⟨hrd, hgd⟩ := hrd0
   cases h
   obtain ⟨h1, h2, h3⟩ := GU all s tr e htr
   refine ⟨fun i => ((tr.map (·.1) ++ [e])[i]?).getD e, fun i => ((tr[i]?).map (·.2)).getD (.tup []), ?_, ?_, ?_, ?_, ⟨tr, h1, ?_, hgd⟩⟩
   ·show ((tr.map (·.1) ++ [e])[0]?).getD e = s
    rw [h2]; rfl
   ·simp [h1]
   ·intro i o hi
    obtain ⟨si, vi, σ, q1, q2, q3⟩ := h3 i o hi
    have hlt : i < tr.length := (List.getElem?_eq_some_iff.1 q1).1
    have hSi : ((tr.map (·.1) ++ [e])[i]?).getD e = si := by
     rw [List.getElem?_append_left (by simpa using hlt)]; simp [q1]
    refine ⟨σ, ?_, ?_⟩
    ·show cr T H all o (((tr.map (·.1) ++ [e])[i]?).getD e) = some (((tr[i]?).map (·.2)).getD (.tup []), σ)
     rw [hSi, q1]; exact q2
    ·simp only [q3, Option.getD_some, q1, Option.map_some]
     rw [List.getElem?_append_left (by simpa using hlt)]
     simp [q1]
   ·intro i o hi hk hw c hc hex hle
    obtain ⟨si, vi, σ, q1, q2, q3⟩ := h3 i o hi
    have hlt : i < tr.length := (List.getElem?_eq_some_iff.1 q1).1
    have hro := CN all 0 tr hrd i o si vi hi q1
    rw [Nat.zero_add] at hro
    have hSi : ((tr.map (·.1) ++ [e])[i]?).getD e = si := by
     rw [List.getElem?_append_left (by simpa using hlt)]; simp [q1]
    simp only [hSi] at hw ⊢
    unfold GR at hro
    simp only [hk, beq_self_eq_true, Bool.not_true, Bool.false_or, hw, List.all_eq_true] at hro
    have := hro c hc
    simp only [hex, Bool.false_or] at this
    split at this
    ·rename_i σc hσ
     have hcs : (((tr.map (·.1) ++ [e])[c]?).getD e).mem = σc := by
      have e1 : (tr.map (·.1.mem) ++ [e.mem]) = (tr.map (·.1) ++ [e]).map (·.mem) := by simp
      rw [e1, List.getElem?_map] at hσ
      cases hq : (tr.map (·.1) ++ [e])[c]? with
      | none => rw [hq] at hσ; cases hσ
      | some x => rw [hq] at hσ; simpa using hσ
     rw [hcs]
     split at this
     ·rename_i u σ' hu
      obtain ⟨rfl, _⟩ := jb hP (by omega) hu
      rw [hu, vY _ _ this]
      simp [q1]
     ·cases this
    ·cases this
   ·intro i hi
    have hlt : i < tr.length := by omega
    have q1 : tr[i]? = some tr[i] := List.getElem?_eq_getElem hlt
    rw [List.getElem?_append_left (by simpa using hlt)]
    simp [q1]
  ·cases h
 ·cases h
theorem Run.still (hP : fk pf H) {all : List Oper} {s e : St} {S : Nat → St} {V : Nat → ab} (h : Run pf T H all s e S V) {i : Nat} {o : Oper} (hi : all[i]? = some o) (hk : cn pf o = false) :
  (S (i + 1)).mem = (S i).mem := by
 obtain ⟨σ, h1, h2⟩ := h.step i o hi
 rw [h2]
 unfold cr at h1
 split at h1
 ·cases h1
 split at h1
 ·have hk' : bM pf o.op ≠ 2 := by simpa [cn] using hk
  split at h1
  ·rename_i v' σ' hx
   cases h1
   exact (jb hP hk' hx).1
  ·rename_i σ' hx
   obtain ⟨_, v, hv⟩ := jb hP hk' hx
   cases hv
  ·cases h1
 ·simp only [Option.some.injEq, Prod.mk.injEq] at h1
  exact h1.2.symm
theorem Run.uW (hP : fk pf H) {all : List Oper} {s e : St} {S : Nat → St} {V : Nat → ab} (h : Run pf T H all s e S V) {c : Nat} : ∀ (k : Nat), c + k ≤ all.length →
  (∀ q o, c ≤ q → q < c + k → all[q]? = some o → cn pf o = false) → (S (c + k)).mem = (S c).mem
 | 0, _, _ => rfl
 | k + 1, hle, hno => by
  have ih := Run.uW hP h k (by omega) fun q o h1 h2 => hno q o h1 (by omega)
  have hlt : c + k < all.length := by omega
  rw [← ih, ← Nat.add_assoc]
  exact Run.still hP h (List.getElem?_eq_getElem hlt) (hno (c + k) _ (by omega) (by omega) (List.getElem?_eq_getElem hlt))
theorem Run.tm {all : List Oper} {s e : St} {S : Nat → St} {V : Nat → ab} (h : Run pf T H all s e S V) (hp : rZ all (ag all []) = true) : ∀ i, i ≤ all.length →
  (S i).tm.length = s.tm.length ∧ (S i).df = s.df ∧ (∀ t, (∀ j o, j < i → all[j]? = some o → o.dst ≠ some t) → (S i).tm[t]? = s.tm[t]?) ∧
  ∀ j o t, j < i → all[j]? = some o → o.dst = some t → t < s.tm.length → (S i).tm[t]? = some (V j)
 | 0, _ => by rw [h.zero]; exact ⟨rfl, rfl, fun _ _ => rfl, fun j o t hj => by omega⟩
 | i + 1, hle => by
  obtain ⟨h1, h2, h3, h4⟩ := h.tm hp i (by omega)
  have ho : all[i]? = some all[i] := List.getElem?_eq_getElem (by omega)
  obtain ⟨σ, q1, q2⟩ := h.step i _ ho
  rw [q2]
  refine ⟨?_, h2, fun t ht => ?_, fun j o t hj hjo hd hlt => ?_⟩
  ·simp only [bR]; split <;> simp [h1]
  ·have hne := ht i _ (by omega) ho
   have := h3 t fun j o hj => ht j o (by omega)
   simp only [bR]
   split
   ·rename_i d hd
    rw [List.getElem?_set_ne (fun q => hne (by rw [hd, q]))]
    exact this
   ·exact this
  ·rcases Nat.lt_or_ge j i with hlt2 | hge
   ·have hdd := (AK hp hjo ho).1 (show j ≠ i by omega) t
    have := h4 j o t hlt2 hjo hd hlt
    simp only [bR]
    split
    ·rename_i d hd2
     rw [List.getElem?_set_ne (fun q => hdd d hd hd2 q.symm)]
     exact this
    ·exact this
   ·obtain rfl : j = i := by omega
    rw [ho] at hjo
    cases hjo
    simp only [bR, hd]
    rw [List.getElem?_set_self (Nat.lt_of_lt_of_eq hlt h1.symm)]
structure Inv (pf : FuncId → Nat) (w0 : W0) (ρ0 : Nat → Loc) (all : List Oper) (s : St) (S : Nat → St) (V : Nat → ab) (L : Nat → Bool) (c : Nat) (a : Act) (w : World) : Prop where
 st : ∃ ρ tm', bJ w0 ρ ⟨tm', s.df, (S c).mem⟩ a w ∧ (∀ i, i < s.mem.next → ρ i = ρ0 i) ∧ s.mem.next ≤ (S c).mem.next ∧ tm'.length = s.tm.length ∧
  (∀ t, (∀ j o, L j = true → all[j]? = some o → o.dst ≠ some t) → tm'[t]? = s.tm[t]?) ∧
  ∀ j o t, L j = true → all[j]? = some o → o.dst = some t → t < s.tm.length → tm'[t]? = some (V j)
 closed : mm all L
 inb : ∀ j, L j = true → j < all.length
 cut : c ∈ wa pf all
 cle : c ≤ all.length
 mem : ∀ q o, all[q]? = some o → cn pf o = true → (L q = true ↔ q < c)
 side : fA all (am pf all (ag all [])) = true → (∀ i ∈ am pf all (ag all []), c ≤ i) ∨ (∀ i ∈ am pf all (ag all []), i < c)
theorem CO {all : List Oper} {i : Nat} {o : Oper} (hi : all[i]? = some o) (hm : cn pf o = true) : i + 1 ∈ wa pf all := by
 unfold wa
 refine List.mem_cons_of_mem _ (List.mem_map.2 ⟨(o, i), List.mem_filter.2 ⟨List.mem_zipIdx_iff_getElem?.2 hi, hm⟩, rfl⟩)
theorem wb {all : List Oper} (he : f0 all = true) {L : Nat → Bool} (hc : mm all L) {c i : Nat} {o : Oper} (hi : all[i]? = some o) (hL : L i = false)
  (hr : ∀ e ∈ o.after, Region.binds .any e = true → L e.on = true) (hm : ∀ q o, all[q]? = some o → cn pf o = true → (L q = true → q < c ∨ anc (ag all []) q i = false) ∧ (q < c → L q = true)) :
  kE pf all (ag all []) i c = false := by
 unfold kE
 rw [List.any_eq_false]
 rintro ⟨o', q⟩ hq
 have hq' := List.mem_zipIdx_iff_getElem?.1 hq
 simp only [Bool.and_eq_true, Bool.or_eq_true, decide_eq_true_eq, not_and, not_or]
 intro hmem
 refine ⟨fun h1 h2 => ?_, fun h1 h2 => ?_⟩
 ·have := cZ he hc i i o (Nat.le_refl _) hi hr q h2
  rcases (hm q o' hq' hmem).1 this with h | h
  ·omega
  ·rw [h2] at h; cases h
 ·have hLq := (hm q o' hq' hmem).2 h1
  have := cZ he hc q q o' (Nat.le_refl _) hq' (hc q o' hq' hLq) i h2
  rw [hL] at this; cases this
theorem kZ {all : List Oper} {ms : List Nat} {q i : Nat} {oq oi : Oper} (hq : all[q]? = some oq) (hi : all[i]? = some oi) (mq : cn pf oq = true) (mi : cn pf oi = true) (h : q < i) :
  anc ms q i = true ∨ (q ∈ am pf all ms ∧ i ∈ am pf all ms) := by
 cases ha : anc ms q i with
 | true => exact .inl rfl
 | false =>
  refine .inr ⟨?_, ?_⟩
  ·refine List.mem_filter.2 ⟨List.mem_range.2 (List.getElem?_eq_some_iff.1 hq).1, ?_⟩
   rw [hq]
   simp only [mq, Bool.true_and, List.any_eq_true]
   refine ⟨(oi, i), List.mem_zipIdx_iff_getElem?.2 hi, ?_⟩
   simp only [mi, Bool.true_and, Bool.and_eq_true, bne_iff_ne, ne_eq, Bool.not_eq_true']
   exact ⟨by omega, by rw [Nat.min_eq_left (by omega), Nat.max_eq_right (by omega)]; exact ha⟩
  ·refine List.mem_filter.2 ⟨List.mem_range.2 (List.getElem?_eq_some_iff.1 hi).1, ?_⟩
   rw [hi]
   simp only [mi, Bool.true_and, List.any_eq_true]
   refine ⟨(oq, q), List.mem_zipIdx_iff_getElem?.2 hq, ?_⟩
   simp only [mq, Bool.true_and, Bool.and_eq_true, bne_iff_ne, ne_eq, Bool.not_eq_true']
   exact ⟨by omega, by rw [Nat.min_eq_right (by omega), Nat.max_eq_left (by omega)]; exact ha⟩
theorem ez {all : List Oper} {ms : List Nat} {i : Nat} (h : i ∈ am pf all ms) : ∃ o, all[i]? = some o ∧ cn pf o = true := by
 have h2 := (List.mem_filter.1 h).2
 cases ho : all[i]? with
 | none => rw [ho] at h2; cases h2
 | some o =>
  rw [ho] at h2
  simp only [Bool.and_eq_true] at h2
  exact ⟨o, rfl, h2.1⟩
theorem GV {all : List Oper} {ms : List Nat} : (am pf all ms).Pairwise (· < ·) := List.Pairwise.filter _ List.pairwise_lt_range
theorem Iz {all : List Oper} {ms : List Nat} (h : pt pf all ms (am pf all ms) = true) {r : Nat} {o : Oper} (hr : all[r]? = some o) (hn : r ∉ am pf all ms) :
  (∀ i ∈ am pf all ms, anc ms i r = false) ∨ (∀ i ∈ am pf all ms, anc ms i r = true) := by
 unfold pt at h
 rw [Bool.or_eq_true] at h
 rcases h with h | h
 ·rw [List.isEmpty_iff] at h; rw [h]; exact .inl fun i hi => by cases hi
 ·rw [Bool.and_eq_true, List.all_eq_true] at h
  have := h.2 (o, r) (List.mem_zipIdx_iff_getElem?.2 hr)
  simp only [Bool.or_eq_true, List.all_eq_true, Bool.not_eq_true', List.contains_iff_mem] at this
  rcases this with (h1 | h1) | h1
  ·exact absurd h1 hn
  ·exact .inl h1
  ·exact .inr h1
theorem Dn {all : List Oper} (hed : f0 all = true) (hst : pt pf all (ag all []) (am pf all (ag all [])) = true) {i0 i1 q : Nat} {oq : Oper} (h0 : i0 ∈ am pf all (ag all [])) (h1 : i1 ∈ am pf all (ag all []))
  (hq : all[q]? = some oq) (mq : cn pf oq = true) (hl : i0 ≤ q) (hu : q ≤ i1) : q ∈ am pf all (ag all []) := by
 by_cases hn : q ∈ am pf all (ag all [])
 ·exact hn
 ·exfalso
  obtain ⟨o0, a0, b0⟩ := ez h0
  obtain ⟨o1, a1, b1⟩ := ez h1
  have n0 : i0 ≠ q := fun e => hn (e ▸ h0)
  have n1 : q ≠ i1 := fun e => hn (e ▸ h1)
  have e0 : anc (ag all []) i0 q = true := by
   rcases kZ (pf := pf) (ms := ag all []) a0 hq b0 mq (by omega) with h | h
   ·exact h
   ·exact absurd h.2 hn
  rcases Iz hst hq hn with h | h
  ·rw [h i0 h0] at e0; cases e0
  ·have := SM hed hq (h i1 h1)
   omega
def cnt (g : List Nat) (p : Nat) : Nat := ((List.range p).filter fun i => g.contains i).length
theorem AL (g : List Nat) (p : Nat) : cnt g (p + 1) = cnt g p + if p ∈ g then 1 else 0 := by
 unfold cnt
 rw [List.range_succ, List.filter_append, List.length_append]
 congr 1
 by_cases h : p ∈ g <;> simp [h]
theorem PF (g : List Nat) {p q : Nat} (h : p ≤ q) : cnt g p ≤ cnt g q := by
 induction q with
 | zero => rw [Nat.le_zero.1 h]; exact Nat.le_refl _
 | succ q ih =>
  rcases Nat.lt_or_ge p (q + 1) with hx | hx
  ·rw [AL]; have := ih (by omega); omega
  ·rw [show p = q + 1 by omega]; exact Nat.le_refl _
theorem GW (g : List Nat) {i p : Nat} (hi : i ∈ g) (h : i < p) : cnt g i < cnt g p := by
 have := PF g (show i + 1 ≤ p by omega)
 rw [AL, if_pos hi] at this
 omega
theorem IA (g : List Nat) {i j : Nat} (hi : i ∈ g) (hj : j ∈ g) (h : cnt g i = cnt g j) : i = j := by
 rcases Nat.lt_trichotomy i j with hx | hx | hx
 ·have := GW g hi hx; omega
 ·exact hx
 ·have := GW g hj hx; omega
theorem Ov : ∀ {g : List Nat}, g ≠ [] → ∃ m ∈ g, ∀ i ∈ g, i ≤ m
 | [x], _ => ⟨x, by simp, by simp⟩
 | x :: y :: r, _ => by
  obtain ⟨m, h1, h2⟩ := Ov (g := y :: r) (by simp)
  rcases Nat.lt_or_ge m x with h | h
  ·refine ⟨x, by simp, fun i hi => ?_⟩
   rcases List.mem_cons.1 hi with rfl | hi
   ·exact Nat.le_refl _
   ·have := h2 i hi; omega
  ·refine ⟨m, List.mem_cons_of_mem _ h1, fun i hi => ?_⟩
   rcases List.mem_cons.1 hi with rfl | hi
   ·exact h
   ·exact h2 i hi
structure GA (T : av) (all : List Oper) (g : List Nat) (S : Nat → St) (V : Nat → ab) (i0 e : Nat) : Prop where
 op : ∀ i ∈ g, ∃ o t ti, all[i]? = some o ∧ o.op = .alloc t ∧ o.guard = none ∧ T t = some ti ∧ V i = .ptr ((S i0).mem.next + cnt g i) 0 ∧ (S e).mem.get ((S i0).mem.next + cnt g i) = some (ju (ik T t) ti.zero)
 next : (S e).mem.next = (S i0).mem.next + cnt g e
 old : ∀ j, j < (S i0).mem.next → (S e).mem.get j = (S i0).mem.get j
 new : ∀ j b, (S e).mem.get j = some b → j < (S i0).mem.next ∨ (∃ i ∈ g, j = (S i0).mem.next + cnt g i) ∨ (S i0).mem.get j = some b
theorem J8 {all : List Oper} {s e0 : St} {S : Nat → St} {V : Nat → ab} (hP : fk pf H) (hed : f0 all = true) (hst : pt pf all (ag all []) (am pf all (ag all [])) = true) (hrun : Run pf T H all s e0 S V)
  (hal : fA all (am pf all (ag all [])) = true) {i0 l : Nat} (h0 : i0 ∈ am pf all (ag all [])) (hmin : ∀ i ∈ am pf all (ag all []), i0 ≤ i)
  (hl : l ∈ am pf all (ag all [])) (hmax : ∀ i ∈ am pf all (ag all []), i ≤ l) : GA T all (am pf all (ag all [])) S V i0 (l + 1) := by
 have one : ∀ i ∈ am pf all (ag all []), ∃ o t ti, all[i]? = some o ∧ o.op = .alloc t ∧ o.guard = none ∧ T t = some ti ∧ V i = .ptr (S i).mem.next 0 ∧ (S (i + 1)).mem = (S i).mem.push (ju (ik T t) ti.zero) := by
  intro i hi
  obtain ⟨o, ho, hm⟩ := ez hi
  have hA := (List.all_eq_true.1 hal) i hi
  rw [ho] at hA
  simp only [FJ, Bool.and_eq_true] at hA
  obtain ⟨⟨hA1, hA2⟩, _⟩ := hA
  split at hA1
  rotate_left
  ·cases hA1
  rename_i t hop
  have hgu : o.guard = none := by simpa using hA2
  obtain ⟨σ, v1, v2⟩ := hrun.step i o ho
  simp only [cr, gj, bo, hgu, Bool.false_eq_true, if_false, if_true, hop, aN] at v1
  cases hT : T t with
  | none => rw [hT] at v1; cases v1
  | some ti =>
   rw [hT] at v1
   simp only [Option.some.injEq, Prod.mk.injEq] at v1
   exact ⟨o, t, ti, ho, hop, hgu, hT, v1.1.symm, by rw [v2, v1.2]⟩
 have key : ∀ d, i0 + d ≤ l + 1 → (S (i0 + d)).mem.next = (S i0).mem.next + cnt (am pf all (ag all [])) (i0 + d) ∧ (∀ j, j < (S i0).mem.next → (S (i0 + d)).mem.get j = (S i0).mem.get j) ∧
   (∀ i ∈ am pf all (ag all []), i < i0 + d → ∃ o t ti, all[i]? = some o ∧ o.op = .alloc t ∧ T t = some ti ∧ (S (i0 + d)).mem.get ((S i0).mem.next + cnt (am pf all (ag all [])) i) = some (ju (ik T t) ti.zero)) ∧
   (∀ j b, (S (i0 + d)).mem.get j = some b → j < (S i0).mem.next ∨ (∃ i ∈ am pf all (ag all []), j = (S i0).mem.next + cnt (am pf all (ag all [])) i) ∨ (S i0).mem.get j = some b) := by
  intro d
  induction d with
  | zero =>
   intro _
   have hz : cnt (am pf all (ag all [])) i0 = 0 := by
    unfold cnt
    rw [List.length_eq_zero_iff, List.filter_eq_nil_iff]
    intro i hi
    have := List.mem_range.1 hi
    simp only [List.contains_iff_mem]
    intro hm
    have := hmin i hm
    omega
   exact ⟨by simp [hz], fun j _ => rfl, fun i hi hlt => by have := hmin i hi; omega, fun j b h => .inr (.inr h)⟩
  | succ d ih =>
   intro hle
   obtain ⟨k1, k2, k3, k4⟩ := ih (by omega)
   obtain ⟨ol, hol, _⟩ := ez hl
   have hlen : i0 + d < all.length := by have := (List.getElem?_eq_some_iff.1 hol).1; omega
   have hod : all[i0 + d]? = some all[i0 + d] := List.getElem?_eq_getElem hlen
   by_cases hm : cn pf all[i0 + d] = true
   ·have hin := Dn hed hst h0 hl hod hm (by omega) (by omega)
    obtain ⟨o, t, ti, q1, q2, q3, q4, q5, q6⟩ := one _ hin
    rw [show i0 + (d + 1) = i0 + d + 1 by omega, q6]
    have hc := AL (am pf all (ag all [])) (i0 + d)
    rw [if_pos hin] at hc
    refine ⟨by rw [gI, k1, hc]; omega, fun j hj => ?_, fun i hi hlt => ?_, fun j b hj => ?_⟩
    ·rw [ct, if_neg (by omega)]; exact k2 j hj
    ·rcases Nat.lt_or_ge i (i0 + d) with hx | hx
     ·obtain ⟨o', t', ti', r1, r2, r3, r4⟩ := k3 i hi hx
      refine ⟨o', t', ti', r1, r2, r3, ?_⟩
      have := GW (am pf all (ag all [])) hi hx
      rw [ct, if_neg (by omega)]; exact r4
     ·obtain rfl : i = i0 + d := by omega
      exact ⟨o, t, ti, q1, q2, q4, by rw [ct, if_pos (by omega)]⟩
    ·rw [ct] at hj
     split at hj
     ·rename_i e
      exact .inr (.inl ⟨i0 + d, hin, by omega⟩)
     ·exact k4 j b hj
   ·have hnin : i0 + d ∉ am pf all (ag all []) := by
     intro hin
     obtain ⟨o, a1, a2⟩ := ez hin
     rw [hod] at a1; cases a1
     exact hm a2
    have hs := Run.still hP hrun hod (by simpa using hm)
    rw [show i0 + (d + 1) = i0 + d + 1 by omega, hs]
    have hc := AL (am pf all (ag all [])) (i0 + d)
    rw [if_neg hnin] at hc
    refine ⟨by rw [k1, hc]; omega, k2, fun i hi hlt => k3 i hi ?_, k4⟩
    rcases Nat.lt_or_ge i (i0 + d) with hx | hx
    ·exact hx
    ·exact absurd ((show i = i0 + d by omega) ▸ hi) hnin
 have hl0 := hmin l hl
 obtain ⟨k1, k2, k3, k4⟩ := key (l + 1 - i0) (by omega)
 rw [show i0 + (l + 1 - i0) = l + 1 by omega] at k1 k2 k3 k4
 refine ⟨fun i hi => ?_, k1, k2, k4⟩
 obtain ⟨o, t, ti, q1, q2, q3, q4, q5, q6⟩ := one i hi
 have hi0 := hmin i hi
 have hil := hmax i hi
 obtain ⟨o', t', ti', r1, r2, r3, r4⟩ := k3 i hi (by omega)
 rw [q1] at r1; cases r1
 rw [q2] at r2; cases r2
 rw [q4] at r3; cases r3
 obtain ⟨m1, _⟩ := key (i - i0) (by omega)
 rw [show i0 + (i - i0) = i by omega] at m1
 exact ⟨o, t, ti, q1, q2, q3, q4, by rw [q5, m1], r4⟩
structure yb (pf : FuncId → Nat) (w0 : W0) (ρ0 : Nat → Loc) (all : List Oper) (s : St) (S : Nat → St) (V : Nat → ab) (i0 e : Nat) (L : Nat → Bool) (c : Nat) (a : Act) (w : World) : Prop where
 st : ∃ ρ tm' σ, bJ w0 ρ ⟨tm', s.df, σ⟩ a w ∧ (∀ i, i < s.mem.next → ρ i = ρ0 i) ∧ tm'.length = s.tm.length ∧
  (∀ t, (∀ j o, L j = true → all[j]? = some o → o.dst ≠ some t) → tm'[t]? = s.tm[t]?) ∧
  (∀ j o t, L j = true → all[j]? = some o → o.dst = some t → t < s.tm.length → tm'[t]? = some (V j)) ∧
  σ.next = (S e).mem.next ∧ (∀ j, j < (S i0).mem.next → σ.get j = (S i0).mem.get j) ∧
  (∀ i ∈ am pf all (ag all []), L i = true → σ.get ((S i0).mem.next + cnt (am pf all (ag all [])) i) = (S e).mem.get ((S i0).mem.next + cnt (am pf all (ag all [])) i)) ∧
  (∀ i ∈ am pf all (ag all []), L i = false → σ.get ((S i0).mem.next + cnt (am pf all (ag all [])) i) = none) ∧
  (∀ j b, σ.get j = some b → j < (S i0).mem.next ∨ ∃ i ∈ am pf all (ag all []), j = (S i0).mem.next + cnt (am pf all (ag all [])) i)
 blt : ∀ j b, (S i0).mem.get j = some b → j < (S i0).mem.next ∧ scB (S i0).mem.next b = true
 hdf : ∀ d ∈ s.df, scL (S i0).mem.next d.cap = true ∧ scL (S i0).mem.next d.args = true
 sle : s.mem.next ≤ (S i0).mem.next
 cm : (S c).mem = (S i0).mem
 closed : mm all L
 inb : ∀ j, L j = true → j < all.length
 cut : c ∈ wa pf all
 cle : c ≤ all.length
 cg : ∀ i ∈ am pf all (ag all []), c ≤ i
 mem : ∀ q o, all[q]? = some o → cn pf o = true → q ∉ am pf all (ag all []) → (L q = true ↔ q < c)
theorem pu {σ σ1 : Mem} {b o : Nat} {vs : LA_} (h : dW σ b o vs = some σ1) : σ1.next = σ.next := by
 unfold dW at h
 split at h
 ·split at h
  ·cases h; rfl
  ·cases h
 ·split at h
  ·cases h; rfl
  ·cases h
 ·cases h
theorem f6 {cs : LA_} {o : Nat} {vs : LA_} (h : o + vs.length ≤ cs.length) : (spliced cs o vs).length = cs.length := by
 simp only [spliced, List.length_append, List.length_take, List.length_drop]; omega
theorem sE {cs : LA_} {o : Nat} {vs : LA_} (h : o + vs.length ≤ cs.length) (i : Nat) : (spliced cs o vs)[i]? = if i < o then cs[i]? else if i < o + vs.length then vs[i - o]? else cs[i]? := by
 unfold spliced
 rw [List.append_assoc]
 split
 ·rw [List.getElem?_append_left (by simp; omega), List.getElem?_take, if_pos (by assumption)]
 ·rename_i h1
  rw [List.getElem?_append_right (by simp; omega)]
  have e : (List.take o cs).length = o := by simp; omega
  rw [e]
  split
  ·rw [List.getElem?_append_left (by omega)]
  ·rw [List.getElem?_append_right (by omega), List.getElem?_drop]
   congr 1; omega
theorem CP {cs : LA_} {o o' : Nat} {vs vs' : LA_} (h : o + vs.length ≤ cs.length) (h' : o' + vs'.length ≤ cs.length) (hd : o + vs.length ≤ o' ∨ o' + vs'.length ≤ o) :
  spliced (spliced cs o vs) o' vs' = spliced (spliced cs o' vs') o vs := by
 apply List.ext_getElem?
 intro i
 rw [sE (cs := spliced cs o vs) (o := o') (vs := vs') (by rw [f6 h]; exact h'), sE (cs := spliced cs o' vs') (o := o) (vs := vs) (by rw [f6 h']; exact h), sE h, sE h']
 repeat' split
 all_goals first | rfl | omega
theorem Ox {σ σ1 σ2 : Mem} {b o b' o' : Nat} {vs vs' : LA_} (h1 : dW σ b o vs = some σ1) (h2 : dW σ1 b' o' vs' = some σ2) (hd : b ≠ b' ∨ o + vs.length ≤ o' ∨ o' + vs'.length ≤ o) :
  ∃ σ1' σ3, dW σ b' o' vs' = some σ1' ∧ dW σ1' b o vs = some σ3 ∧ σ3.next = σ2.next ∧ ∀ i, σ3.get i = σ2.get i := by
 by_cases hb : b = b'
 ·subst hb
  have hd' : o + vs.length ≤ o' ∨ o' + vs'.length ≤ o := by simpa using hd
  unfold dW at h1
  split at h1
  ·rename_i cs gr hg
   split at h1
   ·rename_i hl
    cases h1
    simp only [dW, aF, if_true] at h2
    split at h2
    ·rename_i hl'
     rw [f6 hl] at hl'
     cases h2
     refine ⟨σ.set b (.cells (spliced cs o' vs') true gr), (σ.set b (.cells (spliced cs o' vs') true gr)).set b (.cells (spliced (spliced cs o' vs') o vs) true gr), by simp only [dW, hg]; rw [if_pos hl'], by simp only [dW, aF, if_true]; rw [if_pos (by rw [f6 hl']; exact hl)], rfl, fun i => ?_⟩
     simp only [aF]
     split
     ·rw [CP hl hl' hd']
     ·rfl
    ·cases h2
   ·cases h1
  ·rename_i cs n sz hg
   split at h1
   ·rename_i hl
    cases h1
    simp only [dW, aF, if_true] at h2
    split at h2
    ·rename_i hl'
     rw [f6 hl.1] at hl'
     cases h2
     refine ⟨σ.set b (.vec (spliced cs o' vs') n sz true), (σ.set b (.vec (spliced cs o' vs') n sz true)).set b (.vec (spliced (spliced cs o' vs') o vs) n sz true), by simp only [dW, hg]; rw [if_pos hl'], by simp only [dW, aF, if_true]; rw [if_pos ⟨by rw [f6 hl'.1]; exact hl.1, hl.2⟩], rfl, fun i => ?_⟩
     simp only [aF]
     split
     ·rw [CP hl.1 hl'.1 hd']
     ·rfl
    ·cases h2
   ·cases h1
  ·cases h1
 ·have g1 : σ1.get b' = σ.get b' := by
   unfold dW at h1
   split at h1
   ·split at h1
    ·cases h1; rw [aF, if_neg hb]
    ·cases h1
   ·split at h1
    ·cases h1; rw [aF, if_neg hb]
    ·cases h1
   ·cases h1
  have e2 : ∃ B', σ2 = σ1.set b' B' ∧ dW σ b' o' vs' = some (σ.set b' B') := by
   unfold dW at h2 ⊢
   rw [g1] at h2
   split at h2
   ·split at h2
    ·rename_i hl; cases h2; exact ⟨_, rfl, by rw [if_pos hl]⟩
    ·cases h2
   ·split at h2
    ·rename_i hl; cases h2; exact ⟨_, rfl, by rw [if_pos hl]⟩
    ·cases h2
   ·cases h2
  obtain ⟨B', rfl, e2⟩ := e2
  have e1 : ∃ B, σ1 = σ.set b B ∧ dW (σ.set b' B') b o vs = some ((σ.set b' B').set b B) := by
   have g2 : (σ.set b' B').get b = σ.get b := by rw [aF, if_neg (Ne.symm hb)]
   unfold dW at h1 ⊢
   rw [g2]
   split at h1
   ·split at h1
    ·rename_i hl; cases h1; exact ⟨_, rfl, by rw [if_pos hl]⟩
    ·cases h1
   ·split at h1
    ·rename_i hl; cases h1; exact ⟨_, rfl, by rw [if_pos hl]⟩
    ·cases h1
   ·cases h1
  obtain ⟨B, rfl, e1⟩ := e1
  refine ⟨_, _, e2, e1, rfl, fun i => ?_⟩
  simp only [aF]
  by_cases h3 : b = i <;> by_cases h4 : b' = i
  ·exact absurd (h3.trans h4.symm) hb
  ·rw [if_pos h3, if_neg h4]; rw [if_pos h3]
  ·rw [if_neg h3, if_pos h4]; rw [if_pos h4]
  ·rw [if_neg h3, if_neg h4, if_neg h4, if_neg h3]
structure PG (pf : FuncId → Nat) (T : av) (H : bO) (w0 : W0) (ρ0 : Nat → Loc) (all : List Oper) (s : St) (S : Nat → St) (V : Nat → ab) (p q : Nat) (L : Nat → Bool) (c : Nat) (a : Act) (w : World) : Prop where
 st : ∃ ρ tm' σ, bJ w0 ρ ⟨tm', s.df, σ⟩ a w ∧ (∀ i, i < s.mem.next → ρ i = ρ0 i) ∧ tm'.length = s.tm.length ∧
  (∀ t, (∀ j o, L j = true → all[j]? = some o → o.dst ≠ some t) → tm'[t]? = s.tm[t]?) ∧
  (∀ j o t, L j = true → all[j]? = some o → o.dst = some t → t < s.tm.length → tm'[t]? = some (V j)) ∧
  σ.next = (S (q + 1)).mem.next ∧ s.mem.next ≤ σ.next ∧
  ∃ σ3 op, all[p]? = some op ∧ cr T H all op ⟨(S p).tm, s.df, σ⟩ = some (V p, σ3) ∧ σ3.next = (S (q + 1)).mem.next ∧ (∀ i, σ3.get i = (S (q + 1)).mem.get i) ∧ ∀ b, wc σ b = wc (S c).mem b
 lt : ∀ i b, (S (q + 1)).mem.get i = some b → i < (S (q + 1)).mem.next
 closed : mm all L
 inb : ∀ j, L j = true → j < all.length
 lp : L p = false
 lq : L q = true
 pq : p < q
 mem : ∀ r o, all[r]? = some o → cn pf o = true → r ≠ p → r ≠ q → (L r = true ↔ r < p)
 cut : c ∈ wa pf all
 cle : c ≤ all.length
 cp : c ≤ p
 SN : ∀ r o, all[r]? = some o → cn pf o = true → r ≠ p → r ≠ q → L r = true → r < c
def kF (L : Nat → Bool) (n : Nat) : Nat := ((List.range n).filter fun i => !L i).length
theorem JX {L : Nat → Bool} {n : Nat} (h : kF L n = 0) : ∀ i, i < n → L i = true := by
 intro i hi
 unfold kF at h
 have := List.filter_eq_nil_iff.1 (List.length_eq_zero_iff.1 h) i (List.mem_range.2 hi)
 simpa using this
theorem JY {L L' : Nat → Bool} {i : Nat} (hi : L i = false) (hL' : ∀ j, L' j = (L j || j == i)) : ∀ n, i < n → kF L' n + 1 = kF L n := by
 intro n
 unfold kF
 induction n with
 | zero => intro h; omega
 | succ n ih =>
  intro h
  rw [List.range_succ, List.filter_append, List.filter_append, List.length_append, List.length_append]
  rcases Nat.lt_or_ge i n with hlt | hge
  ·have := ih hlt
   have e : ([n].filter fun i => !L' i).length = ([n].filter fun i => !L i).length := by
    have : (n == i) = false := by simp; omega
    rw [List.filter_cons, List.filter_cons, hL' n, this, Bool.or_false]
    rfl
   omega
  ·obtain rfl : i = n := by omega
   have e1 : ((List.range i).filter fun j => !L' j) = (List.range i).filter fun j => !L j := by
    apply List.filter_congr
    intro j hj
    have hj' := List.mem_range.1 hj
    have : (j == i) = false := by simp; omega
    simp [hL', this]
   rw [e1]
   simp [hL', hi]
section
variable {all : List Oper} {s e : St} {S : Nat → St} {V : Nat → ab} {w0 : W0} {ρ0 : Nat → Loc} {L : Nat → Bool} {a : Act} {w : World}
theorem CQ (hed : f0 all = true) (hpr : rZ all (ag all []) = true) (hrun : Run pf T H all s e S V) (hcl : mm all L) {i : Nat} {o : Oper} (hio : all[i]? = some o) (hLi : L i = false)
  (hr : ∀ e ∈ o.after, Region.binds .any e = true → L e.on = true) {tm' : LA_} (h4 : tm'.length = s.tm.length)
  (h5 : ∀ t, (∀ j o, L j = true → all[j]? = some o → o.dst ≠ some t) → tm'[t]? = s.tm[t]?)
  (h6 : ∀ j o t, L j = true → all[j]? = some o → o.dst = some t → t < s.tm.length → tm'[t]? = some (V j)) : ∀ t ∈ kY all o, tm'[t]? = (S i).tm[t]? := by
 have hil : i < all.length := (List.getElem?_eq_some_iff.1 hio).1
 obtain ⟨t1, t2, t3, t4⟩ := hrun.tm hpr i (by omega)
 have hanc := cZ hed hcl i i o (Nat.le_refl _) hio hr
 intro t ht
 rcases Classical.em (∃ (j : Nat) (oj : Oper), j ≠ i ∧ all[j]? = some oj ∧ oj.dst = some t) with ⟨j, oj, q0, q1, q2⟩ | hno
 ·rcases Nat.lt_or_ge t s.tm.length with hlt3 | hge
  ·rcases (AK hpr hio q1).2 (Ne.symm q0) t q2 ht with ⟨r1, r2⟩ | ⟨r1, r2⟩
   ·rw [h6 j oj t (hanc j r2) q1 q2 hlt3, t4 j oj t r1 q1 q2 hlt3]
   ·have hLj : ¬ L j = true := by
     intro hLj
     have := cZ hed hcl j j oj (Nat.le_refl _) q1 (hcl j oj q1 hLj) i r2
     rw [hLi] at this; cases this
    have w1 : ∀ k ok, all[k]? = some ok → ok.dst = some t → k = j := by
     intro k ok k1 k2
     rcases Classical.em (k = j) with hk | hk
     ·exact hk
     ·exact absurd rfl ((AK hpr k1 q1).1 hk t t k2 q2)
    rw [h5 t (fun k ok k0 k1 k2 => hLj (w1 k ok k1 k2 ▸ k0)), t3 t (fun k ok k0 k1 k2 => (by have := w1 k ok k1 k2; omega))]
  ·rw [List.getElem?_eq_none (by omega), List.getElem?_eq_none (by omega)]
 ·have w1 : ∀ k ok, all[k]? = some ok → ok.dst = some t → k = i := by
   intro k ok k1 k2
   rcases Classical.em (k = i) with hk | hk
   ·exact hk
   ·exact absurd ⟨k, ok, hk, k1, k2⟩ hno
  rw [h5 t (fun k ok k0 k1 k2 => (by rw [w1 k ok k1 k2, hLi] at k0; cases k0)), t3 t (fun k ok k0 k1 k2 => (by have := w1 k ok k1 k2; omega))]
theorem sa (hpr : rZ all (ag all []) = true) {i : Nat} {o : Oper} (hio : all[i]? = some o) {tm' : LA_} (h4 : tm'.length = s.tm.length)
  (h5 : ∀ t, (∀ j o, L j = true → all[j]? = some o → o.dst ≠ some t) → tm'[t]? = s.tm[t]?)
  (h6 : ∀ j o t, L j = true → all[j]? = some o → o.dst = some t → t < s.tm.length → tm'[t]? = some (V j)) :
  (bR tm' o.dst (V i)).length = s.tm.length ∧ (∀ t, (∀ j o, (L j || j == i) = true → all[j]? = some o → o.dst ≠ some t) → (bR tm' o.dst (V i))[t]? = s.tm[t]?) ∧
  ∀ j oj t, (L j || j == i) = true → all[j]? = some oj → oj.dst = some t → t < s.tm.length → (bR tm' o.dst (V i))[t]? = some (V j) := by
 refine ⟨?_, ?_, ?_⟩
 ·simp only [bR]; split <;> simp [h4]
 ·intro t ht
  have ht' : ∀ j oj, L j = true → all[j]? = some oj → oj.dst ≠ some t := fun j oj hj => ht j oj (by rw [hj, Bool.true_or])
  have hne2 := ht i o (by simp) hio
  simp only [bR]
  split
  ·rename_i d hd
   rw [List.getElem?_set_ne (fun q => hne2 (by rw [hd, q]))]
   exact h5 t ht'
  ·exact h5 t ht'
 ·intro j oj t hj hjo hd hlt3
  rcases Classical.em (j = i) with hji | hji
  ·subst hji
   rw [hio] at hjo; cases hjo
   simp only [bR, hd]
   rw [List.getElem?_set_self (Nat.lt_of_lt_of_eq hlt3 h4.symm)]
  ·have hj2 : L j = true := by
    have e : (j == i) = false := by simp [hji]
    rw [e, Bool.or_false] at hj; exact hj
   have hdd := (AK hpr hjo hio).1 hji t
   simp only [bR]
   split
   ·rename_i d hd2
    rw [List.getElem?_set_ne (fun q => hdd d hd hd2 q.symm)]
    exact h6 j oj t hj2 hjo hd hlt3
   ·exact h6 j oj t hj2 hjo hd hlt3
theorem gJ (hcl : mm all L) {i : Nat} {o : Oper} (hio : all[i]? = some o) (hr : ∀ e ∈ o.after, Region.binds .any e = true → L e.on = true) : mm all fun j => L j || j == i := by
 intro j oj hjo hj e he hb
 simp only at hj ⊢
 rcases Classical.em (j = i) with hji | hji
 ·subst hji
  rw [hio] at hjo; cases hjo
  rw [hr e he hb, Bool.true_or]
 ·have hj2 : L j = true := by
   have e : (j == i) = false := by simp [hji]
   rw [e, Bool.or_false] at hj; exact hj
  rw [hcl j oj hjo hj2 e he hb, Bool.true_or]
theorem oT (hin : ∀ j, L j = true → j < all.length) {i : Nat} (hi : i < all.length) : ∀ j, (L j || j == i) = true → j < all.length := by
 intro j hj
 rcases Classical.em (j = i) with hji | hji
 ·subst hji; exact hi
 ·have e : (j == i) = false := by simp [hji]
  rw [e, Bool.or_false] at hj
  exact hin j hj
theorem yc (hP : fk pf H) (hrun : Run pf T H all s e S V) {i : Nat} {o : Oper} (hio : all[i]? = some o) (hm : cn pf o = false) {tm' : LA_} {σ : Mem}
  (hlook : ∀ t ∈ kY all o, tm'[t]? = (S i).tm[t]?) (hrd : bM pf o.op = 1 → bo all o (S i).tm = true → aN T H o.op (S i).tm σ = some (.val (V i), σ)) :
  cr T H all o ⟨tm', s.df, σ⟩ = some (V i, σ) := by
 rw [sC (tm' := (S i).tm) (df' := (S i).df) hlook]
 obtain ⟨σ1, v1, v2⟩ := hrun.step i o hio
 have hk2 : bM pf o.op ≠ 2 := by simpa [cn] using hm
 unfold cr at v1 ⊢
 cases hgj : gj all o (S i).tm with
 | true => rw [hgj] at v1; cases v1
 | false =>
 rw [hgj] at v1
 simp only [Bool.false_eq_true, if_false] at v1 ⊢
 cases hw : bo all o (S i).tm with
 | false =>
  rw [hw] at v1
  simp only [Bool.false_eq_true, if_false, Option.some.injEq, Prod.mk.injEq] at v1 ⊢
  exact ⟨v1.1, trivial⟩
 | true =>
  rw [hw] at v1
  simp only [if_true] at v1 ⊢
  rcases (show bM pf o.op = 0 ∨ bM pf o.op = 1 by have := M9 pf o.op; omega) with hk | hk
  ·split at v1
   ·rename_i v' σ' hx
    cases v1
    rw [Na hP hk hx σ]
   ·rename_i σ' hx
    obtain ⟨_, v', hv'⟩ := jb hP hk2 hx
    cases hv'
   ·cases v1
  ·rw [hrd hk hw]
theorem Ml (hrun : Run pf T H all s e S V) (hal : fA all (am pf all (ag all [])) = true) {i0 : Nat} (h0 : i0 ∈ am pf all (ag all [])) (hmin : ∀ i ∈ am pf all (ag all []), i0 ≤ i)
  {r : Nat} {o : Oper} (hr : all[r]? = some o) (hn : r ∉ am pf all (ag all [])) (ha : anc (ag all []) i0 r = false) :
  sc (S i0).mem.next (V r) = true ∧ (bM pf o.op = 1 → KW o.op (S r).tm (S i0).mem.next = true) := by
 obtain ⟨tr, t1, t2, t3⟩ := hrun.grp
 have hs := GV (pf := pf) (all := all) (ms := ag all [])
 revert h0 hmin hn ha hal t3 hs
 generalize am pf all (ag all []) = g
 intro hal h0 hmin hn ha t3 hs
 cases g with
 | nil => cases h0
 | cons x g' =>
  have hx : x = i0 := by
   rcases List.mem_cons.1 h0 with h | h
   ·exact h.symm
   ·have h1 := (List.pairwise_cons.1 hs).1 i0 h
    have h2 := hmin x (by simp)
    omega
  subst hx
  simp only [qM, hal, if_true] at t3
  have hrl : r < all.length := (List.getElem?_eq_some_iff.1 hr).1
  split at t3
  ·rename_i s0 v0 h1
   have hxl : x < all.length := by
    have := (List.getElem?_eq_some_iff.1 h1).1
    omega
   rw [t2 x hxl] at h1
   cases h1
   rw [List.all_eq_true] at t3
   have := t3 ((o, S r, V r), r) (List.mem_zipIdx_iff_getElem?.2 (by rw [List.getElem?_zip_eq_some]; exact ⟨hr, t2 r hrl⟩))
   simp only [Bool.or_eq_true, Bool.and_eq_true, List.all_eq_true, List.contains_iff_mem, Bool.not_eq_true', beq_eq_false_iff_ne, ne_eq] at this
   rcases this with (h | h) | h
   ·exact absurd h hn
   ·have := h x (by simp); rw [ha] at this; cases this
   ·exact ⟨h.1, fun hk => by rcases h.2 with h2 | h2; exact absurd hk h2; exact h2⟩
  ·cases t3
theorem SO (hP : fk pf H) (hed : f0 all = true) (hgs : pt pf all (ag all []) (am pf all (ag all [])) = true) (hrun : Run pf T H all s e S V)
  (hal : fA all (am pf all (ag all [])) = true) {i0 l : Nat} (h0 : i0 ∈ am pf all (ag all [])) (hmin : ∀ i ∈ am pf all (ag all []), i0 ≤ i)
  (hl : l ∈ am pf all (ag all [])) (hmax : ∀ i ∈ am pf all (ag all []), i ≤ l) {c i : Nat} {o : Oper} (hI : Inv pf w0 ρ0 all s S V L c a w) (hio : all[i]? = some o) (hLi : L i = false)
  (hr : ∀ e ∈ o.after, Region.binds .any e = true → L e.on = true) (hig : i ∈ am pf all (ag all [])) : yb pf w0 ρ0 all s S V i0 (l + 1) L c a w := by
 have hG := J8 hP hed hgs hrun hal h0 hmin hl hmax
 obtain ⟨oi, hoi, hmi⟩ := ez hig
 rw [hio] at hoi; cases hoi
 have hci : ∀ x ∈ am pf all (ag all []), c ≤ x := by
  rcases hI.side hal with h | h
  ·exact h
  ·have := (hI.mem i o hio hmi).2 (h i hig)
   rw [hLi] at this; cases this
 have hanc := cZ hed hI.closed i i o (Nat.le_refl _) hio hr
 obtain ⟨o0, ho0, hm0⟩ := ez h0
 have hi0l : i0 < all.length := (List.getElem?_eq_some_iff.1 ho0).1
 have hcm : (S c).mem = (S i0).mem := by
  have hc0 := hci i0 h0
  have := Run.uW hP hrun (c := c) (i0 - c) (by omega) fun q oq q1 q2 q3 => by
   cases hq : cn pf oq with
   | false => rfl
   | true =>
    have hqi : q < i := by have := hmin i hig; omega
    rcases kZ (ms := ag all []) q3 hio hq hmi hqi with h | h
    ·have := (hI.mem q oq q3 hq).1 (hanc q h); omega
    ·have := hmin q h.1; omega
  rw [show c + (i0 - c) = i0 by omega] at this
  exact this.symm
 obtain ⟨ρ, tm', h1, h2, h3, h4, h5, h6⟩ := hI.st
 rw [hcm] at h1 h3
 have R : Rel w0 ρ (S i0).mem w := h1.rel
 have hnx : (S i0).mem.next ≤ (S (l + 1)).mem.next := by rw [hG.next]; omega
 have hblt : ∀ j b, (S i0).mem.get j = some b → j < (S i0).mem.next ∧ scB (S i0).mem.next b = true := fun j b hj => ⟨R.lt j b hj, R.sco j b hj⟩
 refine ⟨⟨ρ, tm', ⟨(S (l + 1)).mem.next, (S i0).mem.bs⟩, ⟨R.weaken (fun j b hj _ => hj) (fun j b hj => ?_) (fun j b hj => ?_), h1.tm, cz hnx _ h1.sct, h1.df, fun d hd => ?_⟩, h2, h4, h5, h6, rfl, fun j hj => rfl, ?_, ?_, ?_⟩,
  hblt, h1.scd, h3, hcm, hI.closed, hI.inb, hI.cut, hI.cle, hci, fun q oq q1 q2 _ => hI.mem q oq q1 q2⟩
 ·have := R.lt j b hj; simp only; omega
 ·exact fy hnx b (R.sco j b hj)
 ·exact ⟨cz hnx _ (h1.scd d hd).1, cz hnx _ (h1.scd d hd).2⟩
 ·intro x hx hLx
  obtain ⟨ox, hox, hmx⟩ := ez hx
  have := (hI.mem x ox hox hmx).1 hLx
  have := hci x hx
  omega
 ·intro x hx _
  show (S i0).mem.get _ = none
  cases hg : (S i0).mem.get ((S i0).mem.next + cnt (am pf all (ag all [])) x) with
  | none => rfl
  | some b => have := R.lt _ _ hg; omega
 ·exact fun j b hj => .inl (R.lt j b hj)
end
theorem yb.next {all : List Oper} {s e0 : St} {S : Nat → St} {V : Nat → ab} {w0 : W0} {ρ0 : Nat → Loc} {L : Nat → Bool} {a : Act} {w : World} {i0 e c : Nat} {L' : Nat → Bool} (h : yb pf w0 ρ0 all s S V i0 e L c a w) (hL : L = L') : yb pf w0 ρ0 all s S V i0 e L' c a w := hL ▸ h
theorem Oy (hT : aY P T) (hH : ir P H) (hP : fk pf H) {ops : Array Oper} {s e0 : St} {S : Nat → St} {V : Nat → ab} {w0 : W0} {ρ0 : Nat → Loc} {L : Nat → Bool} {a : Act} {w : World}
  (hed : f0 ops.toList = true) (hpr : rZ ops.toList (ag ops.toList []) = true) (hgs : pt pf ops.toList (ag ops.toList []) (am pf ops.toList (ag ops.toList [])) = true)
  (hrun : Run pf T H ops.toList s e0 S V) (hstm : scL s.mem.next s.tm = true) (hal : fA ops.toList (am pf ops.toList (ag ops.toList [])) = true) {i0 l : Nat} (h0 : i0 ∈ am pf ops.toList (ag ops.toList []))
  (hmin : ∀ i ∈ am pf ops.toList (ag ops.toList []), i0 ≤ i) (hl : l ∈ am pf ops.toList (ag ops.toList [])) (hmax : ∀ i ∈ am pf ops.toList (ag ops.toList []), i ≤ l)
  {c i : Nat} {o : Oper} (hI : yb pf w0 ρ0 ops.toList s S V i0 (l + 1) L c a w) (hio : ops[i]? = some o) (hLi : L i = false)
  (hr : ∀ e ∈ o.after, Region.binds .any e = true → L e.on = true) (hig : i ∈ am pf ops.toList (ag ops.toList [])) (hna : ∃ x ∈ am pf ops.toList (ag ops.toList []), L x = false) {Q : Exit → Act → World → Prop} {K : Act → World → Prop}
  (hK : ∀ a' w', yb pf w0 ρ0 ops.toList s S V i0 (l + 1) (fun j => L j || j == i) c a' w' → K a' w') : wpOp P ops Q i K a w := by
 have hG := J8 hP hed hgs hrun hal h0 hmin hl hmax
 have hiol : ops.toList[i]? = some o := by simpa using hio
 have hil : i < ops.toList.length := (List.getElem?_eq_some_iff.1 hiol).1
 obtain ⟨ρ, tm', σ, h1, h2, h4, h5, h6, h7, h8, h9, h10, h11⟩ := hI.st
 obtain ⟨o', t, ti, q1, q2, q3, q4, q5, q6⟩ := hG.op i hig
 rw [hiol] at q1; cases q1
 have hlt : cnt (am pf ops.toList (ag ops.toList [])) i < cnt (am pf ops.toList (ag ops.toList [])) (l + 1) := GW _ hig (by have := hmax i hig; omega)
 refine Nb hT hH hio q2 q3 q4 h1 (m := (S i0).mem.next + cnt (am pf ops.toList (ag ops.toList [])) i) (n0 := (S i0).mem.next) (by omega) (by rw [h7, hG.next]; omega) (h10 i hig hLi) hI.hdf ?_ ?_ ?_
 ·intro j b hj
  rcases h11 j b hj with hlt0 | ⟨x, hx, rfl⟩
  ·rw [h8 j hlt0] at hj; exact (hI.blt j b hj).2
  ·cases hLx : L x with
   | false => rw [h10 x hx hLx] at hj; cases hj
   | true =>
    rw [h9 x hx hLx] at hj
    obtain ⟨ox, tx, tix, p1, p2, p3, p4, p5, p6⟩ := hG.op x hx
    rw [p6] at hj
    cases hj
    have := (hT tx tix p4).zsc
    have hz : scB 0 (ju (ik T tx) tix.zero) = true := by unfold ju; split <;> exact this
    exact fy (Nat.zero_le _) _ hz
 ·intro t' v hv hne
  have hlen : t' < s.tm.length := by rw [← h4]; exact (List.getElem?_eq_some_iff.1 hv).1
  rcases Classical.em (∃ (j : Nat) (oj : Oper), L j = true ∧ ops.toList[j]? = some oj ∧ oj.dst = some t') with ⟨j, oj, g0, g1, g2⟩ | hno
  ·have := h6 j oj t' g0 g1 g2 hlen
   rw [hv] at this
   cases this
   by_cases hjg : j ∈ am pf ops.toList (ag ops.toList [])
   ·obtain ⟨ox, tx, tix, p1, p2, p3, p4, p5, p6⟩ := hG.op j hjg
    refine .inr ⟨_, p5, fun e => ?_⟩
    have := IA _ hjg hig (by omega)
    rw [this, hLi] at g0; cases g0
   ·left
    obtain ⟨x, hx, hLx⟩ := hna
    rcases Iz hgs g1 hjg with ha | ha
    ·exact (Ml hrun hal h0 hmin g1 hjg (ha i0 h0)).1
    ·have := cZ hed hI.closed j j oj (Nat.le_refl _) g1 (hI.closed j oj g1 g0) x (ha x hx)
     rw [hLx] at this; cases this
  ·left
   have := h5 t' (fun j oj g0 g1 g2 => hno ⟨j, oj, g0, g1, g2⟩)
   rw [hv] at this
   exact jL hI.sle _ ((iq _ _).1 hstm v (List.mem_of_getElem? this.symm))
 ·intro ρ' a' w' k1 k2
  refine hK a' w' ?_
  obtain ⟨m4, m5, m6⟩ := sa (L := L) (s := s) hpr hiol h4 h5 h6
  rw [q5] at m4 m5 m6
  refine ⟨⟨ρ', _, _, k1, fun j hj => (k2 j (by have := hI.sle; omega)).trans (h2 j hj), m4, m5, ?_, ?_, ?_, ?_, ?_, ?_⟩, hI.blt, hI.hdf, hI.sle, hI.cm, gJ hI.closed hiol hr, oT hI.inb hil, hI.cut, hI.cle, hI.cg, ?_⟩
  ·intro j oj t' g0 g1 g2 g3
   have := m6 j oj t' g0 g1 g2 g3
   exact this
  ·simp only; exact h7
  ·intro j hj
   simp only [Mem.get, look]
   rw [if_neg (by simp; omega)]
   exact h8 j hj
  ·intro x hx hLx
   by_cases hxi : x = i
   ·subst hxi
    simp only [Mem.get, look, beq_self_eq_true, if_true]
    exact q6.symm
   ·have hLx' : L x = true := by
     have e : (x == i) = false := by simp [hxi]
     simpa [e] using hLx
    have hne : ¬ cnt (am pf ops.toList (ag ops.toList [])) i = cnt (am pf ops.toList (ag ops.toList [])) x := fun e => hxi (IA _ hig hx e).symm
    simp only [Mem.get, look]
    rw [if_neg (by simp; omega)]
    exact h9 x hx hLx'
  ·intro x hx hLx
   simp only [Bool.or_eq_false_iff] at hLx
   have hxi : x ≠ i := by simpa using hLx.2
   have hne : ¬ cnt (am pf ops.toList (ag ops.toList [])) i = cnt (am pf ops.toList (ag ops.toList [])) x := fun e => hxi (IA _ hig hx e).symm
   simp only [Mem.get, look]
   rw [if_neg (by simp; omega)]
   exact h10 x hx hLx.1
  ·intro j b hj
   simp only [Mem.get, look] at hj
   split at hj
   ·rename_i e
    rw [beq_iff_eq] at e
    exact .inr ⟨i, hig, e.symm⟩
   ·exact h11 j b hj
  ·intro q oq p1 p2 p3
   have e : (q == i) = false := by simp; rintro rfl; exact p3 hig
   rw [e, Bool.or_false]
   exact hI.mem q oq p1 p2 p3
theorem GX {ops : Array Oper} (hT : aY P T) (hH : ir P H) (hP : fk pf H) {s e : St} {S : Nat → St} {V : Nat → ab} (hst : nS pf ops.toList = true) (hrun : Run pf T H ops.toList s e S V) (hstm : scL s.mem.next s.tm = true)
  {w0 : W0} {ρ0 : Nat → Loc} {Q : Exit → Act → World → Prop}
  (hQ : ∀ ρ' a' w', bJ w0 ρ' e a' w' → (∀ i, i < s.mem.next → ρ' i = ρ0 i) → s.mem.next ≤ e.mem.next → Q .normal a' w') :
  ∀ (fuel : Nat) (listed : Array Bool) (a : Act) (w : World), listed.size = ops.size → kF (fun i => listed.getD i false) ops.toList.length ≤ fuel →
   ((∃ c, Inv pf w0 ρ0 ops.toList s S V (fun i => listed.getD i false) c a w) ∨
    (∃ i0 l c, fA ops.toList (am pf ops.toList (ag ops.toList [])) = true ∧ i0 ∈ am pf ops.toList (ag ops.toList []) ∧ (∀ i ∈ am pf ops.toList (ag ops.toList []), i0 ≤ i) ∧ l ∈ am pf ops.toList (ag ops.toList []) ∧
     (∀ i ∈ am pf ops.toList (ag ops.toList []), i ≤ l) ∧ yb pf w0 ρ0 ops.toList s S V i0 (l + 1) (fun i => listed.getD i false) c a w ∧
     (∃ x ∈ am pf ops.toList (ag ops.toList []), listed.getD x false = true) ∧ ∃ x ∈ am pf ops.toList (ag ops.toList []), listed.getD x false = false) ∨
    (∃ p q c, am pf ops.toList (ag ops.toList []) = [p, q] ∧ pv pf ops.toList (ag ops.toList []) [p, q] = true ∧ PG pf T H w0 ρ0 ops.toList s S V p q (fun i => listed.getD i false) c a w)) →
   wpAny P .any ops Q fuel listed a w := by
 unfold nS at hst
 simp only [Bool.and_eq_true] at hst
 obtain ⟨⟨hed, hpr⟩, hgs⟩ := hst
 have fin : ∀ (listed : Array Bool) (c : Nat) (a : Act) (w : World), (∀ i, i < ops.toList.length → listed.getD i false = true) →
   Inv pf w0 ρ0 ops.toList s S V (fun i => listed.getD i false) c a w → Q .normal a w := by
  intro listed c a w hall hI
  obtain ⟨ρ, tm', h1, h2, h3, h4, h5, h6⟩ := hI.st
  obtain ⟨t1, t2, t3, t4⟩ := hrun.tm hpr ops.toList.length (Nat.le_refl _)
  have hm : (S ops.toList.length).mem = (S c).mem := by
   have := Run.uW hP hrun (c := c) (ops.toList.length - c) (by have := hI.cle; omega) fun q o q1 q2 q3 => by
    cases hmm : cn pf o with
    | false => rfl
    | true =>
     have := (hI.mem q o q3 hmm).1 (hall q (List.getElem?_eq_some_iff.1 q3).1)
     omega
   rwa [show c + (ops.toList.length - c) = ops.toList.length by have := hI.cle; omega] at this
  have htm : tm' = (S ops.toList.length).tm := by
   apply List.ext_getElem?
   intro t
   rcases Classical.em (∃ (j : Nat) (o : Oper), ops.toList[j]? = some o ∧ o.dst = some t) with ⟨j, o, q1, q2⟩ | hno
   ·rcases Nat.lt_or_ge t s.tm.length with hlt | hge
    ·have hj := (List.getElem?_eq_some_iff.1 q1).1
     rw [h6 j o t (hall j hj) q1 q2 hlt, t4 j o t hj q1 q2 hlt]
    ·rw [List.getElem?_eq_none (by omega), List.getElem?_eq_none (by omega)]
   ·have hno' : ∀ (j : Nat) (o : Oper), ops.toList[j]? = some o → o.dst ≠ some t := fun j o q1 q2 => hno ⟨j, o, q1, q2⟩
    rw [h5 t (fun j o _ q1 => hno' j o q1), t3 t (fun j o _ q1 => hno' j o q1)]
  have he : (⟨tm', s.df, (S c).mem⟩ : St) = e := by
   rw [← hrun.last, htm, ← hm, ← t2]
  rw [he] at h1
  exact hQ ρ a w h1 h2 (by rw [← hrun.last, hm]; exact h3)
 have glen : ∀ {x : Nat}, x ∈ am pf ops.toList (ag ops.toList []) → x < ops.toList.length := fun hx => by
  obtain ⟨o, h, _⟩ := ez hx
  exact (List.getElem?_eq_some_iff.1 h).1
 have fin2 : ∀ (listed : Array Bool) (a : Act) (w : World), (∀ i, i < ops.toList.length → listed.getD i false = true) →
   ((∃ c, Inv pf w0 ρ0 ops.toList s S V (fun i => listed.getD i false) c a w) ∨
    (∃ i0 l c, fA ops.toList (am pf ops.toList (ag ops.toList [])) = true ∧ i0 ∈ am pf ops.toList (ag ops.toList []) ∧ (∀ i ∈ am pf ops.toList (ag ops.toList []), i0 ≤ i) ∧ l ∈ am pf ops.toList (ag ops.toList []) ∧
     (∀ i ∈ am pf ops.toList (ag ops.toList []), i ≤ l) ∧ yb pf w0 ρ0 ops.toList s S V i0 (l + 1) (fun i => listed.getD i false) c a w ∧
     (∃ x ∈ am pf ops.toList (ag ops.toList []), listed.getD x false = true) ∧ ∃ x ∈ am pf ops.toList (ag ops.toList []), listed.getD x false = false) ∨
    (∃ p q c, am pf ops.toList (ag ops.toList []) = [p, q] ∧ pv pf ops.toList (ag ops.toList []) [p, q] = true ∧ PG pf T H w0 ρ0 ops.toList s S V p q (fun i => listed.getD i false) c a w)) → Q .normal a w := by
  intro listed a w hall hI
  rcases hI with ⟨c, hI⟩ | ⟨i0, l, c, _, _, _, _, _, _, _, x, hx, hLx⟩ | ⟨p, q, c, hg, _, hI⟩
  ·exact fin listed c a w hall hI
  ·have := hall x (glen hx); rw [hLx] at this; cases this
  ·have h1 := hI.lp
   have hp : p ∈ am pf ops.toList (ag ops.toList []) := by rw [hg]; simp
   try simp only at h1
   rw [hall p (glen hp)] at h1; cases h1
 have done : ∀ (listed : Array Bool), listed.size = ops.size → Region.ready .any ops listed = [] → ∀ i, i < ops.toList.length → listed.getD i false = true := by
  intro listed hsz hr
  have : ∀ n i, i ≤ n → i < ops.toList.length → listed.getD i false = true := by
   intro n
   induction n using Nat.strongRecOn with
   | _ n ih =>
    intro i hin hi
    cases hl : listed.getD i false with
    | true => rfl
    | false =>
     exfalso
     have hi' : i < ops.size := by simpa using hi
     have ho : ops.toList[i]? = some ops[i] := by simp [hi']
     have hmem : i ∈ Region.ready .any ops listed := by
      refine mem_ready.2 ⟨?_, ops[i], by simp [hi'], fun e he hb => ?_⟩
      ·have : i < listed.size := by omega
       simpa [this] using hl
      ·have := oS hed ho he hb
       exact ih e.on (by omega) e.on (Nat.le_refl _) (by omega)
     rw [hr] at hmem; cases hmem
  exact fun i hi => this i i (Nat.le_refl _) hi
 intro fuel
 induction fuel with
 | zero =>
  intro listed a w hsz hun hI
  have hall := JX (Nat.le_zero.1 hun)
  refine ⟨?_, fin2 listed a w hall hI⟩
  rw [List.eq_nil_iff_forall_not_mem]
  intro i hi
  obtain ⟨h1, o, h2, _⟩ := mem_ready.1 hi
  have hlt : i < ops.size := (Array.getElem?_eq_some_iff.1 h2).1
  have := hall i (by simpa using hlt)
  have hlt2 : i < listed.size := by omega
  simp [hlt2] at h1 this
  rw [this] at h1; cases h1
 | succ fuel ih =>
  intro listed a w hsz hun hI
  refine ⟨fun hr => fin2 listed a w (done listed hsz hr) hI, fun i hi => ?_⟩
  obtain ⟨hun1, o, hio, hedges⟩ := mem_ready.1 hi
  have hlt : i < ops.size := (Array.getElem?_eq_some_iff.1 hio).1
  have hlt2 : i < listed.size := by omega
  have hiol : ops.toList[i]? = some o := by simpa using hio
  have hil : i < ops.toList.length := by simpa using hlt
  have hLi : listed.getD i false = false := by simp [hlt2] at hun1 ⊢; exact hun1
  have hL' : ∀ j, (listed.setIfInBounds i true).getD j false = (listed.getD j false || j == i) := by
   intro j
   rcases Classical.em (i = j) with hij | hij
   ·subst hij; simp [hlt2]
   ·rw [getD_set_ne false hij]
    have : (j == i) = false := by simp; exact fun q => hij q.symm
    rw [this, Bool.or_false]
  have hfn : (fun j => (listed.setIfInBounds i true).getD j false) = fun j => listed.getD j false || j == i := funext hL'
  have hun' : kF (fun j => (listed.setIfInBounds i true).getD j false) ops.toList.length ≤ fuel := by
   have := JY (L := fun j => listed.getD j false) (L' := fun j => (listed.setIfInBounds i true).getD j false) hLi hL' ops.toList.length hil
   omega
  have go : ∀ a' w', ((∃ c, Inv pf w0 ρ0 ops.toList s S V (fun j => listed.getD j false || j == i) c a' w') ∨
    (∃ i0 l c, fA ops.toList (am pf ops.toList (ag ops.toList [])) = true ∧ i0 ∈ am pf ops.toList (ag ops.toList []) ∧ (∀ i ∈ am pf ops.toList (ag ops.toList []), i0 ≤ i) ∧ l ∈ am pf ops.toList (ag ops.toList []) ∧
     (∀ i ∈ am pf ops.toList (ag ops.toList []), i ≤ l) ∧ yb pf w0 ρ0 ops.toList s S V i0 (l + 1) (fun j => listed.getD j false || j == i) c a' w' ∧
     (∃ x ∈ am pf ops.toList (ag ops.toList []), (listed.getD x false || x == i) = true) ∧ ∃ x ∈ am pf ops.toList (ag ops.toList []), (listed.getD x false || x == i) = false) ∨
    (∃ p q c, am pf ops.toList (ag ops.toList []) = [p, q] ∧ pv pf ops.toList (ag ops.toList []) [p, q] = true ∧ PG pf T H w0 ρ0 ops.toList s S V p q (fun j => listed.getD j false || j == i) c a' w')) →
    wpAny P .any ops Q fuel (listed.setIfInBounds i true) a' w' := by
   intro a' w' h
   refine ih _ a' w' (by simp [hsz]) hun' ?_
   rw [hfn]
   simp only [hL']
   exact h
  have whole : ∀ {i0 l c : Nat} {a' : Act} {w' : World}, fA ops.toList (am pf ops.toList (ag ops.toList [])) = true → i0 ∈ am pf ops.toList (ag ops.toList []) → (∀ i ∈ am pf ops.toList (ag ops.toList []), i0 ≤ i) →
    l ∈ am pf ops.toList (ag ops.toList []) → (∀ i ∈ am pf ops.toList (ag ops.toList []), i ≤ l) → i ∈ am pf ops.toList (ag ops.toList []) →
    yb pf w0 ρ0 ops.toList s S V i0 (l + 1) (fun j => listed.getD j false || j == i) c a' w' → wpAny P .any ops Q fuel (listed.setIfInBounds i true) a' w' := by
   intro i0 l c a' w' hal h0 hmin hl hmax hig hA
   refine go a' w' ?_
   by_cases hall : ∃ x ∈ am pf ops.toList (ag ops.toList []), (listed.getD x false || x == i) = false
   ·exact .inr (.inl ⟨i0, l, c, hal, h0, hmin, hl, hmax, hA, ⟨i, hig, by simp⟩, hall⟩)
   ·refine .inl ⟨l + 1, ?_⟩
    have hall' : ∀ x ∈ am pf ops.toList (ag ops.toList []), (listed.getD x false || x == i) = true := fun x hx => by
     cases hb : (listed.getD x false || x == i) with
     | true => rfl
     | false => exact absurd ⟨x, hx, hb⟩ hall
    have hG := J8 hP hed hgs hrun hal h0 hmin hl hmax
    obtain ⟨ol, hol, hml⟩ := ez hl
    have hll := glen hl
    obtain ⟨ρ, tm', σ, h1, h2, h4, h5, h6, h7, h8, h9, h10, h11⟩ := hA.st
    have R : Rel w0 ρ σ w' := h1.rel
    have hnx : (S i0).mem.next ≤ (S (l + 1)).mem.next := by rw [hG.next]; omega
    have hget : ∀ j b, (S (l + 1)).mem.get j = some b → σ.get j = some b := by
     intro j b hj
     rcases hG.new j b hj with hx | ⟨x, hx, rfl⟩ | hx
     ·rw [h8 j hx, ← hG.old j hx]; exact hj
     ·rw [h9 x hx (hall' x hx)]; exact hj
     ·have := (hA.blt j b hx).1
      rw [h8 j this]; exact hx
    have R' : Rel w0 ρ (S (l + 1)).mem w' := R.weaken (fun j b hj _ => hget j b hj) (fun j b hj => by have := R.lt j b (hget j b hj); omega) (fun j b hj => by have := R.sco j b (hget j b hj); rw [h7] at this; exact this)
    refine ⟨⟨ρ, tm', ⟨R', h1.tm, by have := h1.sct; rw [show (⟨tm', s.df, σ⟩ : St).mem.next = (S (l + 1)).mem.next from h7] at this; exact this, h1.df, fun d hd => by have := h1.scd d hd; rw [show (⟨tm', s.df, σ⟩ : St).mem.next = (S (l + 1)).mem.next from h7] at this; exact this⟩,
     h2, by have := hA.sle; omega, h4, h5, h6⟩, hA.closed, hA.inb, CO hol hml, by omega, ?_, fun _ => .inr fun x hx => by have := hmax x hx; omega⟩
    intro q oq q1 q2
    by_cases hqg : q ∈ am pf ops.toList (ag ops.toList [])
    ·have := hmax q hqg
     exact ⟨fun _ => by omega, fun _ => hall' q hqg⟩
    ·rw [hA.mem q oq q1 q2 hqg]
     have hc0 := hA.cg i0 h0
     have hi0l := hmin l hl
     constructor
     ·intro _; omega
     ·intro hlt3
      rcases Nat.lt_or_ge q c with hx | hx
      ·exact hx
      ·exfalso
       obtain ⟨o0, ho0, hm0⟩ := ez h0
       rcases Nat.lt_or_ge q i0 with hy | hy
       ·rcases kZ (ms := ag ops.toList []) q1 ho0 q2 hm0 hy with h | h
        ·have h00 := hA.closed
         have := cZ hed h00 i0 i0 o0 (Nat.le_refl _) ho0 (h00 i0 o0 ho0 (hall' i0 h0)) q h
         have := (hA.mem q oq q1 q2 hqg).1 this
         omega
        ·exact hqg h.1
       ·exact hqg (Dn hed hgs h0 hl q1 q2 hy (by omega))
  rcases hI with ⟨c, hI⟩ | ⟨i0, l, c, hal, h0, hmin, hl, hmax, hI, ⟨x1, hx1, hLx1⟩, x2, hx2, hLx2⟩ | ⟨p, q, c, hg, hts, hI⟩
  ·
   obtain ⟨ρ, tm', h1, h2, h3, h4, h5, h6⟩ := hI.st
   have hanc := cZ hed hI.closed i i o (Nat.le_refl _) hiol hedges
   have hlook := CQ hed hpr hrun hI.closed hiol hLi hedges h4 h5 h6
   obtain ⟨σ, v1, v2⟩ := hrun.step i o hiol
   have chain : cn pf o = true → (∀ q oq, ops.toList[q]? = some oq → cn pf oq = true → q < i → listed.getD q false = true) →
     (fA ops.toList (am pf ops.toList (ag ops.toList [])) = true → (∀ x ∈ am pf ops.toList (ag ops.toList []), i + 1 ≤ x) ∨ (∀ x ∈ am pf ops.toList (ag ops.toList []), x < i + 1)) →
     wpOp P ops Q i (fun a' w' => wpAny P .any ops Q fuel (listed.setIfInBounds i true) a' w') a w := by
    intro hmm hex hside
    have hci : c ≤ i := by
     rcases Nat.lt_or_ge i c with hx | hx
     ·have := (hI.mem i o hiol hmm).2 hx
      rw [hLi] at this; cases this
     ·exact hx
    have hno : ∀ q oq, c ≤ q → q < i → ops.toList[q]? = some oq → cn pf oq = false := by
     intro q oq q1 q2 q3
     cases hq : cn pf oq with
     | false => rfl
     | true =>
      have := (hI.mem q oq q3 hq).1 (hex q oq q3 hq q2)
      omega
    have hmem : (S i).mem = (S c).mem := by
     have := Run.uW hP hrun (c := c) (i - c) (by omega) fun q oq q1 q2 q3 => hno q oq q1 (by omega) q3
     rwa [show c + (i - c) = i by omega] at this
    have hstep : cr T H ops.toList o ⟨tm', s.df, (S c).mem⟩ = some (V i, (S (i + 1)).mem) := by
     rw [sC (tm' := (S i).tm) (df' := (S i).df) hlook, ← hmem]
     have : (⟨(S i).tm, (S i).df, (S i).mem⟩ : St) = S i := rfl
     rw [this, v1, v2]
    refine eY hT hH h1 hio (dQ hstep) ?_
    intro ρ' a' w' k1 k2 k3
    obtain ⟨m4, m5, m6⟩ := sa (L := fun j => listed.getD j false) (s := s) hpr hiol h4 h5 h6
    simp only at k2 k3
    refine go a' w' (.inl ⟨i + 1, ⟨ρ', _, k1, fun j hj => (k2 j (by omega)).trans (h2 j hj), by omega, m4, m5, m6⟩, gJ hI.closed hiol hedges, oT hI.inb hil, CO hiol hmm, by omega, ?_, hside⟩)
    intro q oq q1 q2
    rcases Nat.lt_trichotomy q i with hq | hq | hq
    ·have e : (q == i) = false := by simp; omega
     rw [e, Bool.or_false]
     exact ⟨fun _ => by omega, fun _ => hex q oq q1 q2 hq⟩
    ·subst hq; simp
    ·have e : (q == i) = false := by simp; omega
     rw [e, Bool.or_false, hI.mem q oq q1 q2]; omega
   cases hmm : cn pf o with
   | false =>
    have hq : cr T H ops.toList o ⟨tm', s.df, (S c).mem⟩ = some (V i, (S c).mem) := by
     refine yc hP hrun hiol hmm hlook fun hk hw => hrun.reads i o hiol hk hw c hI.cut ?_ hI.cle
     exact wb hed hI.closed hiol hLi hedges fun q oq q1 q2 => ⟨fun h => .inl ((hI.mem q oq q1 q2).1 h), (hI.mem q oq q1 q2).2⟩
    refine eY hT hH h1 hio (dQ hq) ?_
    intro ρ' a' w' k1 k2 k3
    obtain ⟨m4, m5, m6⟩ := sa (L := fun j => listed.getD j false) (s := s) hpr hiol h4 h5 h6
    simp only at k2 k3
    refine go a' w' (.inl ⟨c, ⟨ρ', _, k1, fun j hj => (k2 j (by omega)).trans (h2 j hj), by omega, m4, m5, m6⟩, gJ hI.closed hiol hedges, oT hI.inb hil, hI.cut, hI.cle, ?_, hI.side⟩)
    intro q oq q1 q2
    have hqi : (q == i) = false := by
     simp only [beq_eq_false_iff_ne]
     rintro rfl
     rw [hiol] at q1; cases q1; rw [hmm] at q2; cases q2
    rw [hqi, Bool.or_false]
    exact hI.mem q oq q1 q2
   | true =>
    by_cases hig : i ∈ am pf ops.toList (ag ops.toList [])
    ·have hne : (am pf ops.toList (ag ops.toList [])).isEmpty = false := by
      cases hx : am pf ops.toList (ag ops.toList []) with
      | nil => rw [hx] at hig; cases hig
      | cons x r => rfl
     have hgs' := hgs
     unfold pt at hgs'
     rw [hne, Bool.false_or, Bool.and_eq_true, Bool.or_eq_true] at hgs'
     rcases hgs'.1 with hal | hts
     ·
      obtain ⟨l, hl, hmax⟩ := Ov (g := am pf ops.toList (ag ops.toList [])) (by intro e; rw [e] at hig; cases hig)
      obtain ⟨i0, h0, hmin⟩ : ∃ i0 ∈ am pf ops.toList (ag ops.toList []), ∀ x ∈ am pf ops.toList (ag ops.toList []), i0 ≤ x := by
       have hs := GV (pf := pf) (all := ops.toList) (ms := ag ops.toList [])
       revert hs hig
       generalize am pf ops.toList (ag ops.toList []) = g
       intro hig hs
       cases g with
       | nil => cases hig
       | cons x r =>
        refine ⟨x, by simp, fun y hy => ?_⟩
        rcases List.mem_cons.1 hy with rfl | hy
        ·exact Nat.le_refl _
        ·exact Nat.le_of_lt ((List.pairwise_cons.1 hs).1 y hy)
      exact Oy hT hH hP hed hpr hgs hrun hstm hal h0 hmin hl hmax (SO hP hed hgs hrun hal h0 hmin hl hmax hI hiol hLi hedges hig) hio hLi hedges hig ⟨i, hig, hLi⟩ fun a' w' hA => whole hal h0 hmin hl hmax hig hA
     ·
      have hts0 := hts
      unfold pv at hts
      split at hts
      rotate_left
      ·cases hts
      rename_i p q hg
      rw [hg] at hts0
      simp only [Bool.and_eq_true, decide_eq_true_eq] at hts
      obtain ⟨⟨hpq, hab⟩, hrd⟩ := hts
      have hnal : fA ops.toList (am pf ops.toList (ag ops.toList [])) = true → False := by
       intro hal
       have hp : p ∈ am pf ops.toList (ag ops.toList []) := by rw [hg]; simp
       have := (List.all_eq_true.1 hal) p hp
       split at hab
       ·rename_i oa ob hoa hob
        rw [hoa] at this
        simp only [Bool.and_eq_true, AM, FJ] at hab this
        have h1 := hab.1.1
        have h2 := this.1.1
        split at h1
        ·rename_i e1; rw [e1] at h2; cases h2
        ·cases h1
       ·cases hab
      rw [hg] at hig
      have hcases : i = p ∨ i = q := by simpa using hig
      have hord : ∀ r orr, ops.toList[r]? = some orr → cn pf orr = true → r < i → r ≠ p → listed.getD r false = true := by
       intro r orr r1 r2 r3 r4
       rcases kZ (ms := ag ops.toList []) r1 hiol r2 hmm r3 with h | h
       ·exact hanc r h
       ·exfalso
        have h1 := h.1
        rw [hg] at h1
        have : r = p ∨ r = q := by simpa using h1
        rcases this with h | h
        ·exact r4 h
        ·rcases hcases with h2 | h2 <;> omega
      rcases hcases with rfl | rfl
      ·refine chain hmm (fun r orr r1 r2 r3 => hord r orr r1 r2 r3 (by omega)) fun hal => (hnal hal).elim
      ·cases hLp : listed.getD p false with
       | true =>
        refine chain hmm (fun r orr r1 r2 r3 => ?_) fun hal => (hnal hal).elim
        by_cases hrp : r = p
        ·rw [hrp]; exact hLp
        ·exact hord r orr r1 r2 r3 hrp
       | false =>
        split at hab
        rotate_left
        ·cases hab
        rename_i op oq hop hoq
        rw [hiol] at hoq; cases hoq
        simp only [Bool.and_eq_true, AM] at hab
        obtain ⟨⟨hsp, hgp⟩, hsq, hgq⟩ := hab
        split at hsp
        rotate_left
        ·cases hsp
        rename_i tp xp yp eop
        split at hsq
        rotate_left
        ·cases hsq
        rename_i tq xq yq eoq
        have hgp' : op.guard = none := by simpa using hgp
        have hgq' : o.guard = none := by simpa using hgq
        have hmp : cn pf op = true := by simp [cn, bM, eop]
        have hpl : p < ops.toList.length := (List.getElem?_eq_some_iff.1 hop).1
        have hcp : c ≤ p := by
         rcases Nat.lt_or_ge p c with hx | hx
         ·have := (hI.mem p op hop hmp).2 hx
          rw [hLp] at this; cases this
         ·exact hx
        have hmem0 : (S p).mem = (S c).mem := by
         have := Run.uW hP hrun (c := c) (p - c) (by omega) fun r orr r1 r2 r3 => by
          cases hr : cn pf orr with
          | false => rfl
          | true =>
           have := (hI.mem r orr r3 hr).1 (hord r orr r3 hr (by omega) (by omega))
           omega
         rwa [show c + (p - c) = p by omega] at this
        have hmem1 : (S i).mem = (S (p + 1)).mem := by
         have := Run.uW hP hrun (c := p + 1) (i - (p + 1)) (by omega) fun r orr r1 r2 r3 => by
          cases hr : cn pf orr with
          | false => rfl
          | true =>
           have := (hI.mem r orr r3 hr).1 (hord r orr r3 hr (by omega) (by omega))
           omega
         rwa [show p + 1 + (i - (p + 1)) = i by omega] at this
        obtain ⟨σp, u1, u2⟩ := hrun.step p op hop
        have eSp : (S (p + 1)).mem = σp := by rw [u2]
        have eSi : (S (i + 1)).mem = σ := by rw [v2]
        have hsimp : ∀ {oo : Oper} {tt xx yy} {ss : St} {vv ss'}, oo.op = .store tt xx yy → oo.guard = none → cr T H ops.toList oo ss = some (vv, ss') →
          ∃ b oo' v ti, ev ss.tm xx = some (.ptr b oo') ∧ ev ss.tm yy = some v ∧ T tt = some ti ∧ v.cellsOf.length = ti.size ∧ v.mQ = false ∧ dW ss.mem b oo' v.cellsOf = some ss' ∧ vv = .tup [] := by
         intro oo tt xx yy ss vv ss' e1 e2 e3
         simp only [cr, gj, bo, e2, Bool.false_eq_true, if_false, if_true, e1, aN] at e3
         cases hx : ev ss.tm xx with
         | none => rw [hx] at e3; simp at e3
         | some xv =>
          cases hy : ev ss.tm yy with
          | none => rw [hx, hy] at e3; simp at e3
          | some yv =>
           rw [hx, hy] at e3
           simp only at e3
           cases hs : kR T ss.mem tt xv yv with
           | none => rw [hs] at e3; simp at e3
           | some σs =>
            rw [hs] at e3
            simp only [Option.map_some, Option.some.injEq, Prod.mk.injEq] at e3
            unfold kR at hs
            split at hs
            ·rename_i ti b oo' hti
             split at hs
             ·rename_i hcc
              exact ⟨b, oo', yv, ti, rfl, rfl, hti, hcc.1, hcc.2, by rw [hs, e3.2], e3.1.symm⟩
             ·cases hs
            ·cases hs
        have hback : ∀ {oo : Oper} {tt xx yy} {tmm : LA_} {dff : List l9} {σa σb : Mem} {b oo' v ti}, oo.op = .store tt xx yy → oo.guard = none → ev tmm xx = some (.ptr b oo') → ev tmm yy = some v → T tt = some ti →
          v.cellsOf.length = ti.size → v.mQ = false → dW σa b oo' v.cellsOf = some σb → cr T H ops.toList oo ⟨tmm, dff, σa⟩ = some (.tup [], σb) := by
         intro oo tt xx yy tmm dff σa σb b oo' v ti e1 e2 e3 e4 e5 e6 e7 e8
         simp only [cr, gj, bo, e2, Bool.false_eq_true, if_false, if_true, e1, aN, e3, e4, kR, e5]
         rw [if_pos ⟨e6, e7⟩, e8]
         rfl
        obtain ⟨b, oo, v, ti, a1, a2, a3, a4, a5, a6, a7⟩ := hsimp eop hgp' u1
        obtain ⟨b', oo', v', ti', b1, b2, b3, b4, b5, b6, b7⟩ := hsimp eoq hgq' v1
        rw [hmem0] at a6
        rw [hmem1, eSp] at b6
        have hdis : b ≠ b' ∨ oo + v.cellsOf.length ≤ oo' ∨ oo' + v'.cellsOf.length ≤ oo := by
         obtain ⟨tr, t1, t2, t3⟩ := hrun.grp
         rw [hg] at t3 hnal
         simp only [qM] at t3
         split at t3
         ·rename_i hal; exact (hnal hal).elim
         ·rw [hop, hiol, t2 p hpl, t2 i hil] at t3
          simp only [eop, eoq, a1, a2, b1, b2, SP, Bool.or_eq_true, bne_iff_ne, ne_eq, decide_eq_true_eq] at t3
          rcases t3 with (h | h) | h
          ·exact .inl h
          ·exact .inr (.inl h)
          ·exact .inr (.inr h)
        obtain ⟨σ1', σ3, c1, c2, c3, c4⟩ := Ox a6 b6 hdis
        have hstep : cr T H ops.toList o ⟨tm', s.df, (S c).mem⟩ = some (V i, σ1') := by
         rw [sC (tm' := (S i).tm) (df' := (S i).df) hlook, b7]
         exact hback eoq hgq' b1 b2 b3 b4 b5 c1
        refine eY hT hH h1 hio (dQ hstep) ?_
        intro ρ' a' w' k1 k2 k3
        obtain ⟨m4, m5, m6⟩ := sa (L := fun j => listed.getD j false) (s := s) hpr hiol h4 h5 h6
        simp only at k2 k3
        have hn1 : σ1'.next = (S c).mem.next := pu c1
        have hn2 : σ.next = (S c).mem.next := by rw [pu b6, pu a6]
        refine go a' w' (.inr (.inr ⟨p, i, c, hg, hts0, ⟨ρ', _, σ1', k1, fun j hj => (k2 j (by omega)).trans (h2 j hj), m4, m5, m6, by rw [eSi, hn1, hn2], by omega, σ3, op, hop, ?_, by rw [eSi]; exact c3, by rw [eSi]; exact c4, Oz c1⟩, ?_, gJ hI.closed hiol hedges, oT hI.inb hil, ?_, by simp, hpq, ?_, hI.cut, hI.cle, hcp, ?_⟩))
        ·rw [a7]; exact hback eop hgp' a1 a2 a3 a4 a5 c2
        ·have R : Rel w0 ρ (S c).mem w := h1.rel
         intro j bb hj
         rw [eSi] at hj ⊢
         rw [hn2]
         have step1 : ∀ {σa σb : Mem} {b o : Nat} {vs : LA_}, (∀ j x, σa.get j = some x → j < σa.next) → dW σa b o vs = some σb → ∀ j x, σb.get j = some x → j < σa.next := by
          intro σa σb b o vs hlt hput j x hjx
          unfold dW at hput
          split at hput
          ·rename_i hgb
           split at hput
           ·cases hput
            rw [aF] at hjx
            split at hjx
            ·rename_i e; subst e; exact hlt _ _ hgb
            ·exact hlt _ _ hjx
           ·cases hput
          ·rename_i hgb
           split at hput
           ·cases hput
            rw [aF] at hjx
            split at hjx
            ·rename_i e; subst e; exact hlt _ _ hgb
            ·exact hlt _ _ hjx
           ·cases hput
          ·cases hput
         have l1 := step1 R.lt a6
         have l2 := step1 (fun j x hx => by rw [pu a6]; exact l1 j x hx) b6 j bb hj
         rw [pu a6] at l2
         exact l2
        ·have e : (p == i) = false := by simp; omega
         simp only [e, Bool.or_false]; exact hLp
        ·intro r orr r1 r2 r3 r4
         have e : (r == i) = false := by simp [r4]
         rw [e, Bool.or_false, hI.mem r orr r1 r2]
         constructor
         ·intro _; omega
         ·intro hlt3
          exact (hI.mem r orr r1 r2).1 (hord r orr r1 r2 (by omega) r3)
        ·intro r orr r1 r2 r3 r4 r5
         have e : (r == i) = false := by simp [r4]
         rw [e, Bool.or_false] at r5
         exact (hI.mem r orr r1 r2).1 r5
    ·refine chain hmm (fun q oq q1 q2 q3 => ?_) fun hal => ?_
     ·rcases kZ (ms := ag ops.toList []) q1 hiol q2 hmm q3 with h | h
      ·exact hanc q h
      ·exact absurd h.2 hig
     ·have hci : c ≤ i := by
       rcases Nat.lt_or_ge i c with hx | hx
       ·have := (hI.mem i o hiol hmm).2 hx
        rw [hLi] at this; cases this
       ·exact hx
      rcases hI.side hal with h | h
      ·left
       intro x hx
       rcases Nat.lt_trichotomy x i with hy | hy | hy
       ·exfalso
        obtain ⟨ox, hox, hmx⟩ := ez hx
        rcases kZ (ms := ag ops.toList []) hox hiol hmx hmm hy with h3 | h3
        ·have := (hI.mem x ox hox hmx).1 (hanc x h3)
         have := h x hx
         omega
        ·exact hig h3.2
       ·subst hy; exact absurd hx hig
       ·omega
      ·right
       intro x hx
       have := h x hx
       omega
  ·
   obtain ⟨ρ, tm', σ, h1, h2, h4, h5, h6, h7, h8, h9, h10, h11⟩ := hI.st
   have hG := J8 hP hed hgs hrun hal h0 hmin hl hmax
   have hanc := cZ hed hI.closed i i o (Nat.le_refl _) hiol hedges
   have hlook := CQ hed hpr hrun hI.closed hiol hLi hedges h4 h5 h6
   cases hmm : cn pf o with
   | true =>
    by_cases hig : i ∈ am pf ops.toList (ag ops.toList [])
    ·exact Oy hT hH hP hed hpr hgs hrun hstm hal h0 hmin hl hmax hI hio hLi hedges hig ⟨x2, hx2, hLx2⟩ fun a' w' hA => whole hal h0 hmin hl hmax hig hA
    ·exfalso
     obtain ⟨o1, ho1, hm1⟩ := ez hx1
     obtain ⟨o2, ho2, hm2⟩ := ez hx2
     rcases Nat.lt_trichotomy i x1 with hy | hy | hy
     ·rcases kZ (ms := ag ops.toList []) hiol ho1 hmm hm1 hy with h | h
      ·have := cZ hed hI.closed x1 x1 o1 (Nat.le_refl _) ho1 (hI.closed x1 o1 ho1 hLx1) i h
       try simp only at this
       rw [hLi] at this; cases this
      ·exact hig h.1
     ·subst hy; exact hig hx1
     ·rcases Nat.lt_trichotomy i x2 with hz | hz | hz
      ·exact hig (Dn hed hgs hx1 hx2 hiol hmm (by omega) (by omega))
      ·subst hz; exact hig hx2
      ·rcases kZ (ms := ag ops.toList []) ho2 hiol hm2 hmm hz with h | h
       ·have := hanc x2 h
        try simp only at this
        rw [hLx2] at this; cases this
       ·exact hig h.2
   | false =>
    have hig : i ∉ am pf ops.toList (ag ops.toList []) := by
     intro hx
     obtain ⟨ox, hox, hmx⟩ := ez hx
     rw [hiol] at hox; cases hox
     rw [hmm] at hmx; cases hmx
    have hnanc : ∀ x ∈ am pf ops.toList (ag ops.toList []), anc (ag ops.toList []) x i = false := by
     rcases Iz hgs hiol hig with h | h
     ·exact h
     ·have := hanc x2 (h x2 hx2)
      try simp only at this
      rw [hLx2] at this; cases this
    have hdy := Ml hrun hal h0 hmin hiol hig (hnanc i0 h0)
    have hq : cr T H ops.toList o ⟨tm', s.df, σ⟩ = some (V i, σ) := by
     refine yc hP hrun hiol hmm hlook fun hk hw => ?_
     have hne : kE pf ops.toList (ag ops.toList []) i c = false := by
      refine wb hed hI.closed hiol hLi hedges fun q oq q1 q2 => ⟨fun h => ?_, fun h => ?_⟩
      ·by_cases hqg : q ∈ am pf ops.toList (ag ops.toList [])
       ·exact .inr (hnanc q hqg)
       ·exact .inl ((hI.mem q oq q1 q2 hqg).1 h)
      ·by_cases hqg : q ∈ am pf ops.toList (ag ops.toList [])
       ·have := hI.cg q hqg; omega
       ·exact (hI.mem q oq q1 q2 hqg).2 h
     have hr1 := hrun.reads i o hiol hk hw c hI.cut hne hI.cle
     rw [hI.cm] at hr1
     have hext : Ext (S i0).mem σ := ⟨by rw [h7, hG.next]; omega, h8⟩
     have hr2 := OA (T := T) (H := H) hk hext (hdy.2 hk)
     rw [hr1] at hr2
     cases hx : aN T H o.op (S i).tm σ with
     | none => rw [hx] at hr2; cases hr2
     | some y =>
      obtain ⟨r, σ'⟩ := y
      obtain ⟨rfl, u, rfl⟩ := jb hP (by omega) hx
      rw [hx] at hr2
      simp only [sF, Option.some.injEq] at hr2
      rw [hr2]
    refine eY hT hH h1 hio (dQ hq) ?_
    intro ρ' a' w' k1 k2 k3
    obtain ⟨m4, m5, m6⟩ := sa (L := fun j => listed.getD j false) (s := s) hpr hiol h4 h5 h6
    simp only at k2 k3
    have hne2 : ∀ {x : Nat}, x ∈ am pf ops.toList (ag ops.toList []) → (x == i) = false := fun {x} hx => by
     simp only [beq_eq_false_iff_ne]
     rintro rfl
     exact hig hx
    have hsn : s.mem.next ≤ σ.next := by have := hI.sle; rw [h7, hG.next]; omega
    refine go a' w' (.inr (.inl ⟨i0, l, c, hal, h0, hmin, hl, hmax, ⟨⟨ρ', _, σ, k1, fun j hj => (k2 j (by omega)).trans (h2 j hj), m4, m5, m6, h7, h8, ?_, ?_, h11⟩, hI.blt, hI.hdf, hI.sle, hI.cm, gJ hI.closed hiol hedges, oT hI.inb hil, hI.cut, hI.cle, hI.cg, ?_⟩,
     ⟨x1, hx1, by rw [hLx1, Bool.true_or]⟩, x2, hx2, by rw [hne2 hx2, hLx2]; rfl⟩))
    ·intro x hx hLx
     rw [hne2 hx, Bool.or_false] at hLx
     exact h9 x hx hLx
    ·intro x hx hLx
     rw [hne2 hx, Bool.or_false] at hLx
     exact h10 x hx hLx
    ·intro q oq q1 q2 q3
     have e : (q == i) = false := by
      simp only [beq_eq_false_iff_ne]
      rintro rfl
      rw [hiol] at q1; cases q1; rw [hmm] at q2; cases q2
     rw [e, Bool.or_false]
     exact hI.mem q oq q1 q2 q3
  ·
   obtain ⟨ρ, tm', σ, h1, h2, h4, h5, h6, h7, h8, σ3, op, hop, c1, c2, c3, c5⟩ := hI.st
   have hanc := cZ hed hI.closed i i o (Nat.le_refl _) hiol hedges
   have hlook := CQ hed hpr hrun hI.closed hiol hLi hedges h4 h5 h6
   have hpg : p ∈ am pf ops.toList (ag ops.toList []) := by rw [hg]; simp
   have hqg : q ∈ am pf ops.toList (ag ops.toList []) := by rw [hg]; simp
   obtain ⟨opp, hopp, hmp⟩ := ez hpg
   obtain ⟨oq, hoq, hmq⟩ := ez hqg
   have hLp : listed.getD p false = false := hI.lp
   have hLq : listed.getD q false = true := hI.lq
   have hpq := hI.pq
   cases hmm : cn pf o with
   | true =>
    by_cases hip : i = p
    ·subst hip
     rw [hiol] at hop; cases hop
     have hstep : cr T H ops.toList o ⟨tm', s.df, σ⟩ = some (V i, σ3) := by
      rw [sC (tm' := (S i).tm) (df' := s.df) hlook]
      exact c1
     refine eY hT hH h1 hio (dQ hstep) ?_
     intro ρ' a' w' k1 k2 k3
     obtain ⟨m4, m5, m6⟩ := sa (L := fun j => listed.getD j false) (s := s) hpr hiol h4 h5 h6
     simp only at k2 k3
     have R : Rel w0 ρ' σ3 w' := k1.rel
     have R' : Rel w0 ρ' (S (q + 1)).mem w' := R.weaken (fun j b hj _ => by rw [c3]; exact hj) (fun j b hj => hI.lt j b hj) (fun j b hj => by have := R.sco j b (by rw [c3]; exact hj); rw [c2] at this; exact this)
     have hql := glen hqg
     refine go a' w' (.inl ⟨q + 1, ⟨ρ', _, ⟨R', k1.tm, by have := k1.sct; rw [show (⟨bR tm' o.dst (V i), s.df, σ3⟩ : St).mem.next = (S (q + 1)).mem.next from c2] at this; exact this, k1.df, fun d hd => by have := k1.scd d hd; rw [show (⟨bR tm' o.dst (V i), s.df, σ3⟩ : St).mem.next = (S (q + 1)).mem.next from c2] at this; exact this⟩, fun j hj => (k2 j (by omega)).trans (h2 j hj), by rw [← h7]; exact h8, m4, m5, m6⟩,
      gJ hI.closed hiol hedges, oT hI.inb hil, CO hoq hmq, by omega, ?_, ?_⟩)
     ·intro r orr r1 r2
      by_cases hrp : r = i
      ·subst hrp; simp; omega
      ·have e : (r == i) = false := by simp [hrp]
       rw [e, Bool.or_false]
       by_cases hrq : r = q
       ·subst hrq
        exact ⟨fun _ => by omega, fun _ => hLq⟩
       ·rw [hI.mem r orr r1 r2 hrp hrq]
        constructor
        ·intro _; omega
        ·intro hlt3
         rcases Nat.lt_or_ge r i with hx | hx
         ·exact hx
         ·exfalso
          have := Dn hed hgs hpg hqg r1 r2 (by omega) (by omega)
          rw [hg] at this
          have : r = i ∨ r = q := by simpa using this
          rcases this with h | h
          ·exact hrp h
          ·exact hrq h
     ·intro hal
      right
      intro x hx
      rw [hg] at hx
      have : x = i ∨ x = q := by simpa using hx
      omega
    ·exfalso
     have hiq : i ≠ q := by rintro rfl; rw [hLq] at hLi; cases hLi
     have hig : i ∉ am pf ops.toList (ag ops.toList []) := by
      rw [hg]
      simp only [List.mem_cons, List.not_mem_nil, or_false, not_or]
      exact ⟨hip, hiq⟩
     rcases Nat.lt_or_ge i q with hy | hy
     ·rcases kZ (ms := ag ops.toList []) hiol hoq hmm hmq hy with h | h
      ·have := cZ hed hI.closed q q oq (Nat.le_refl _) hoq (hI.closed q oq hoq hLq) i h
       try simp only at this
       rw [hLi] at this; cases this
      ·exact hig h.1
     ·rcases kZ (ms := ag ops.toList []) hopp hiol hmp hmm (by omega) with h | h
      ·have := hanc p h
       try simp only at this
       rw [hLp] at this; cases this
      ·exact hig h.2
   | false =>
    have hq : cr T H ops.toList o ⟨tm', s.df, σ⟩ = some (V i, σ) := by
     refine yc hP hrun hiol hmm hlook fun hk hw => ?_
     simp only [pv, Bool.and_eq_true, List.all_eq_true] at hts
     have := hts.2 (o, i) (List.mem_zipIdx_iff_getElem?.2 hiol)
     simp only [hk, beq_self_eq_true, Bool.not_true, Bool.false_or, Bool.or_eq_true, Bool.and_eq_true] at this
     rcases this with (h | h) | h
     ·exfalso
      have := cZ hed hI.closed q q oq (Nat.le_refl _) hoq (hI.closed q oq hoq hLq) i h.2
      try simp only at this
      rw [hLi] at this; cases this
     ·exfalso
      have := hanc p h.1
      try simp only at this
      rw [hLp] at this; cases this
     ·have hex : kE pf ops.toList (ag ops.toList []) i c = false := wb (L := fun j => listed.getD j false) hed hI.closed hiol hLi hedges fun r orr r1 r2 => ⟨fun hL => by
       by_cases hrp : r = p
       ·subst hrp
        try simp only at hL
        rw [hLp] at hL; cases hL
       ·by_cases hrq : r = q
        ·subst hrq
         exact .inr (by simpa using h.2)
        ·exact .inl (hI.SN r orr r1 r2 hrp hrq hL), fun hlt => (hI.mem r orr r1 r2 (by have := hI.cp; omega) (by have := hI.cp; omega)).2 (by have := hI.cp; omega)⟩
      exact PH h.1.1 c5 (hrun.reads i o hiol hk hw c hI.cut hex hI.cle)
    refine eY hT hH h1 hio (dQ hq) ?_
    intro ρ' a' w' k1 k2 k3
    obtain ⟨m4, m5, m6⟩ := sa (L := fun j => listed.getD j false) (s := s) hpr hiol h4 h5 h6
    simp only at k2 k3
    have hip : (p == i) = false := by simp; rintro rfl; rw [hiol] at hopp; cases hopp; rw [hmm] at hmp; cases hmp
    refine go a' w' (.inr (.inr ⟨p, q, c, hg, hts, ⟨ρ', _, σ, k1, fun j hj => (k2 j (by omega)).trans (h2 j hj), m4, m5, m6, h7, h8, σ3, op, hop, c1, c2, c3, c5⟩, hI.lt, gJ hI.closed hiol hedges, oT hI.inb hil, ?_, ?_, hpq, ?_, hI.cut, hI.cle, hI.cp, ?_⟩))
    ·simp only [hip, Bool.or_false]; exact hLp
    ·simp only [hLq, Bool.true_or]
    ·intro r orr r1 r2 r3 r4
     have e : (r == i) = false := by
      simp only [beq_eq_false_iff_ne]
      rintro rfl
      rw [hiol] at r1; cases r1; rw [hmm] at r2; cases r2
     rw [e, Bool.or_false]
     exact hI.mem r orr r1 r2 r3 r4
    ·intro r orr r1 r2 r3 r4 r5
     have e : (r == i) = false := by
      simp only [beq_eq_false_iff_ne]
      rintro rfl
      rw [hiol] at r1; cases r1; rw [hmm] at r2; cases r2
     rw [e, Bool.or_false] at r5
     exact hI.SN r orr r1 r2 r3 r4 r5
theorem FH (hT : aY P T) (hH : ir P H) (hP : fk pf H) {ops : Array Oper} {s s' : St} {Φ : an → St → Prop} (hst : nS pf ops.toList = true)
  (hx : jO pf T H ops.toList s = some s') (hΦ : Φ .normal s') :
  ∀ w0 ρ a w, bJ w0 ρ s a w → wpAny P .any ops (fun e a' w' => ∃ o s', Φ o s' ∧ db w0 ρ s.mem.next o s' e a' w') ops.size (Array.replicate ops.size false) a { w with drawn := w.drawn + 1 } := by
 obtain ⟨S, V, hrun⟩ := Ou hP hx
 intro w0 ρ a w h
 refine GX hT hH hP hst hrun h.sct (w0 := w0) (ρ0 := ρ) (fun ρ' a' w' k1 k2 k3 => ⟨.normal, s', hΦ, ⟨ρ', rfl, k1, k2, k3, by simp⟩⟩) ops.size _ a _ (by simp) ?_ (.inl ⟨0, ?_⟩)
 ·unfold kF
  refine Nat.le_trans (List.length_filter_le _ _) (by simp)
 ·have hfalse : ∀ j, (Array.replicate ops.size false).getD j false = false := by
   intro j
   rw [Array.getD_eq_getD_getElem?]
   rcases Nat.lt_or_ge j ops.size with hj | hj
   ·simp [hj]
   ·rw [Array.getElem?_eq_none (by simpa using hj)]; rfl
  have hst0 : (⟨s.tm, s.df, (S 0).mem⟩ : St) = s := by rw [hrun.zero]
  refine ⟨⟨ρ, s.tm, ?_, fun _ _ => rfl, by rw [hrun.zero]; exact Nat.le_refl _, rfl, fun _ _ => rfl, fun j o t hj => ?_⟩, ?_, ?_, by simp [wa], Nat.zero_le _, ?_, fun _ => .inl fun _ _ => Nat.zero_le _⟩
  ·rw [hst0]
   exact ⟨h.rel.drew _, h.tm, h.sct, h.df, h.scd⟩
  ·rw [hfalse j] at hj; cases hj
  ·intro j o _ hj
   simp only [hfalse j] at hj; cases hj
  ·intro j hj
   simp only [hfalse j] at hj; cases hj
  ·intro q o _ _
   simp only [hfalse q]; simp
theorem PI (hT : aY P T) (hH : ir P H) (hP : fk pf H) (hm : P.follows .mixedOrders = true) {id : Nat} {ops : Array Oper} {s s' : St} {Φ : an → St → Prop} (hst : nS pf ops.toList = true)
  (hx : jO pf T H ops.toList s = some s') (hΦ : Φ .normal s') : AWP P (.region id ops true) s Φ :=
 fun w0 ρ a w h => wp_region_any hm (FH hT hH hP hst hx hΦ w0 ρ a w h)
end
def xe (all : List Oper) (n : Nat) : Bool :=
 f0 all && (all.zipIdx.all fun (o, j) => (!decide (j < n) || (anc (ag all []) j n && (match o.guard with
  | some (g, _) => decide (g < n)
  | none => true))) && (!decide (n < j) || anc (ag all []) n j)) && (match (all[n]?).bind (·.guard) with
  | some (g, _) => decide (g < n)
  | none => true)
section
variable {P : Program} {T : av} {H : bO} {pf : FuncId → Nat}
theorem OB {ops opsn : Array Oper} {n : Nat} (ht : opsn.toList = ops.toList.take n) (hn : n ≤ ops.toList.length) {i : Nat} (hi : i < n) (hg : ∀ o, ops[i]? = some o → ∀ g b, o.guard = some (g, b) → g < n)
  {Q Q' : Exit → Act → World → Prop} (hQ : ∀ o a w K, Oper.wp P o a w K Q' → Oper.wp P o a w K Q) (hL : LetsOut Q' → LetsOut Q) {K K' : Act → World → Prop} (hK : ∀ a w, K a w → K' a w) {a : Act} {w : World} (h : wpOp P opsn Q' i K a w) : wpOp P ops Q i K' a w := by
 have e : ∀ j, j < n → opsn[j]? = ops[j]? := by
  intro j hj
  rw [← Array.getElem?_toList, ht, List.getElem?_take, if_pos hj, Array.getElem?_toList]
 have hio : ∃ o, ops[i]? = some o := by
  have : i < ops.size := by simp at hn; omega
  exact ⟨ops[i], by simp [this]⟩
 obtain ⟨o, hio⟩ := hio
 refine wpOp_mono hK ?_
 unfold wpOp at h ⊢
 rw [e i hi, hio] at h
 rw [hio]
 simp only at h ⊢
 have hw : Region.wanted o (yielded opsn a.tmps) = Region.wanted o (yielded ops a.tmps) := by
  unfold Region.wanted
  cases hgu : o.guard with
  | none => rfl
  | some g =>
   obtain ⟨j, b⟩ := g
   have := hg o hio j b hgu
   simp only [yielded, e j this]
 rw [hw] at h
 split at h
 ·rename_i hw'
  rw [if_pos hw']
  rcases h with h | h
  ·exact .inl (hQ o a w K h)
  ·exact .inr ⟨h.1, hL h.2⟩
 ·rename_i hw'
  rw [if_neg hw']
  exact h
theorem KX {ops opsn : Array Oper} {n : Nat} (ht : opsn.toList = ops.toList.take n) (hn : n < ops.toList.length) (hC : xe ops.toList n = true) {Q : Exit → Act → World → Prop} :
  ∀ (f g : Nat) (listed listed' : Array Bool) (a : Act) (w : World), f + 1 ≤ g → listed.size = ops.size → listed'.size = n → (∀ j, j < n → listed.getD j false = listed'.getD j false) → (∀ j, n ≤ j → listed.getD j false = false) →
   mm ops.toList (fun j => listed.getD j false) →
   wpAny P .any opsn (fun e a w => match e with
    | .normal => ∀ K, wpOp P ops Q n K a w
    | e => Q e a w) f listed' a w → wpAny P .any ops Q g listed a w := by
 have hC0 := hC
 unfold xe at hC
 simp only [Bool.and_eq_true, List.all_eq_true] at hC
 obtain ⟨⟨hed, hall⟩, hgn⟩ := hC
 have e : ∀ j, j < n → opsn[j]? = ops[j]? := by
  intro j hj
  rw [← Array.getElem?_toList, ht, List.getElem?_take, if_pos hj, Array.getElem?_toList]
 have hnn : opsn.size = n := by rw [← Array.length_toList, ht, List.length_take]; omega
 have hszl : ops.toList.length = ops.size := by simp
 have rd : ∀ {listed listed' : Array Bool}, listed.size = ops.size → listed'.size = n → (∀ j, j < n → listed.getD j false = listed'.getD j false) → (∀ j, n ≤ j → listed.getD j false = false) → mm ops.toList (fun j => listed.getD j false) →
   (∀ i, i ∈ Region.ready .any ops listed → (i < n ∧ i ∈ Region.ready .any opsn listed') ∨ (i = n ∧ Region.ready .any opsn listed' = [])) ∧ (Region.ready .any opsn listed' = [] → n ∈ Region.ready .any ops listed) := by
  intro listed listed' s1 s2 r1 r2 hcl
  have noneReady : (∀ j, j < n → listed.getD j false = true) → Region.ready .any opsn listed' = [] := by
   intro h
   rw [List.eq_nil_iff_forall_not_mem]
   intro i hi
   obtain ⟨q1, o, q2, _⟩ := mem_ready.1 hi
   have hlt : i < n := by rw [← hnn]; exact (Array.getElem?_eq_some_iff.1 q2).1
   have := h i hlt
   rw [r1 i hlt] at this
   have hlt2 : i < listed'.size := by omega
   simp [hlt2] at q1 this
   rw [this] at q1; cases q1
  refine ⟨fun i hi => ?_, fun hnil => ?_⟩
  ·obtain ⟨q1, o, q2, q3⟩ := mem_ready.1 hi
   have hio : ops.toList[i]? = some o := by simpa using q2
   have hlt : i < ops.size := (Array.getElem?_eq_some_iff.1 q2).1
   have hanc := cZ hed hcl i i o (Nat.le_refl _) hio q3
   have hci := hall (o, i) (List.mem_zipIdx_iff_getElem?.2 hio)
   simp only [Bool.and_eq_true, Bool.or_eq_true, Bool.not_eq_true', decide_eq_false_iff_not] at hci
   rcases Nat.lt_trichotomy i n with hx | hx | hx
   ·left
    refine ⟨hx, mem_ready.2 ⟨?_, o, by rw [e i hx]; exact q2, fun ed he hb => ?_⟩⟩
    ·have : listed.getD i false = false := by
      have hlt2 : i < listed.size := by omega
      simp [hlt2] at q1 ⊢; exact q1
     rw [r1 i hx] at this
     have hlt2 : i < listed'.size := by omega
     simp [hlt2] at this ⊢; exact this
    ·have := oS hed hio he hb
     rw [← r1 ed.on (by omega)]
     exact q3 ed he hb
   ·right
    subst hx
    refine ⟨rfl, noneReady fun j hj => hanc j ?_⟩
    have hjl : j < ops.toList.length := by omega
    have hcj := hall (ops.toList[j], j) (List.mem_zipIdx_iff_getElem?.2 (List.getElem?_eq_getElem hjl))
    simp only [Bool.and_eq_true, Bool.or_eq_true, Bool.not_eq_true', decide_eq_false_iff_not] at hcj
    rcases hcj.1 with h | h
    ·exact absurd hj h
    ·exact h.1
   ·exfalso
    rcases hci.2 with h | h
    ·exact h hx
    ·have := hanc n h
     have h2 := r2 n (Nat.le_refl _)
     try simp only at this
     rw [h2] at this; cases this
  ·have hallL : ∀ m j, j ≤ m → j < n → listed.getD j false = true := by
    intro m
    induction m using Nat.strongRecOn with
    | _ m ih =>
     intro j hjm hj
     cases hl : listed.getD j false with
     | true => rfl
     | false =>
      exfalso
      have hjl : j < ops.toList.length := by omega
      have hjo : ops.toList[j]? = some ops.toList[j] := List.getElem?_eq_getElem hjl
      have : j ∈ Region.ready .any opsn listed' := by
       refine mem_ready.2 ⟨?_, ops.toList[j], by rw [e j hj, ← Array.getElem?_toList]; exact hjo, fun ed he hb => ?_⟩
       ·rw [r1 j hj] at hl
        have hlt2 : j < listed'.size := by omega
        simp [hlt2] at hl ⊢; exact hl
       ·have := oS hed hjo he hb
        rw [← r1 ed.on (by omega)]
        exact ih ed.on (by omega) ed.on (Nat.le_refl _) (by omega)
      rw [hnil] at this; cases this
   have hno : ops.toList[n]? = some ops.toList[n] := List.getElem?_eq_getElem hn
   refine mem_ready.2 ⟨?_, ops.toList[n], by rw [← Array.getElem?_toList]; exact hno, fun ed he hb => ?_⟩
   ·have := r2 n (Nat.le_refl _)
    have hlt2 : n < listed.size := by omega
    simp [hlt2] at this ⊢; exact this
   ·exact hallL ed.on ed.on (Nat.le_refl _) (oS hed hno he hb)
 have gd : ∀ i, i < n → ∀ o, ops[i]? = some o → ∀ g b, o.guard = some (g, b) → g < n := by
  intro i hi o ho g b hg
  have hio : ops.toList[i]? = some o := by simpa using ho
  have hci := hall (o, i) (List.mem_zipIdx_iff_getElem?.2 hio)
  simp only [Bool.and_eq_true, Bool.or_eq_true, Bool.not_eq_true', decide_eq_false_iff_not, hg, decide_eq_true_eq] at hci
  rcases hci.1 with h | h
  ·exact absurd hi h
  ·exact h.2
 intro f
 induction f with
 | zero =>
  intro g listed listed' a w hfg s1 s2 r1 r2 hcl h
  obtain ⟨g, rfl⟩ : ∃ k, g = k + 1 := ⟨g - 1, by omega⟩
  obtain ⟨h1, h2⟩ := h
  obtain ⟨rd1, rd2⟩ := rd s1 s2 r1 r2 hcl
  have hnr := rd2 h1
  refine ⟨fun hnil => (by rw [hnil] at hnr; cases hnr), fun i hi => ?_⟩
  rcases rd1 i hi with ⟨_, q⟩ | ⟨rfl, _⟩
  ·rw [h1] at q; cases q
  ·exact h2 _
 | succ f ih =>
  intro g listed listed' a w hfg s1 s2 r1 r2 hcl h
  obtain ⟨g, rfl⟩ : ∃ k, g = k + 1 := ⟨g - 1, by omega⟩
  obtain ⟨h1, h2⟩ := h
  obtain ⟨rd1, rd2⟩ := rd s1 s2 r1 r2 hcl
  refine ⟨fun hnil => ?_, fun i hi => ?_⟩
  ·exfalso
   by_cases hr : Region.ready .any opsn listed' = []
   ·have := rd2 hr; rw [hnil] at this; cases this
   ·obtain ⟨i, hi⟩ := List.exists_mem_of_ne_nil _ hr
    obtain ⟨q1, o, q2, q3⟩ := mem_ready.1 hi
    have hlt : i < n := by rw [← hnn]; exact (Array.getElem?_eq_some_iff.1 q2).1
    have hio : ops[i]? = some o := by rw [← e i hlt]; exact q2
    have : i ∈ Region.ready .any ops listed := by
     refine mem_ready.2 ⟨?_, o, hio, fun ed he hb => ?_⟩
     ·have h3 : listed'.getD i false = false := by
       have hlt2 : i < listed'.size := by omega
       simp [hlt2] at q1 ⊢; exact q1
      rw [← r1 i hlt] at h3
      have hlt2 : i < listed.size := by omega
      simp [hlt2] at h3 ⊢; exact h3
     ·have := oS hed (show ops.toList[i]? = some o by simpa using hio) he hb
      rw [r1 ed.on (by omega)]
      exact q3 ed he hb
    rw [hnil] at this; cases this
  ·rcases rd1 i hi with ⟨hin, q⟩ | ⟨rfl, q⟩
   ·refine OB ht (by omega) hin (gd i hin) (fun o a w K hh => hh) (fun hh => hh) ?_ (h2 i q)
    intro a' w' hk
    obtain ⟨_, o, q2, q3⟩ := mem_ready.1 hi
    have hio : ops.toList[i]? = some o := by simpa using q2
    have hil : i < listed.size := by have := (Array.getElem?_eq_some_iff.1 q2).1; omega
    refine ih g _ _ a' w' (by omega) (by simp [s1]) (by simp [s2]) (fun j hj => ?_) (fun j hj => ?_) ?_ hk
    ·rcases Classical.em (i = j) with hij | hij
     ·subst hij
      have : i < listed'.size := by omega
      simp [hil, this]
     ·rw [getD_set_ne false hij, getD_set_ne false hij]; exact r1 j hj
    ·rw [getD_set_ne false (by omega)]; exact r2 j hj
    ·have hL' : (fun j => (listed.setIfInBounds i true).getD j false) = fun j => listed.getD j false || j == i := by
      funext j
      rcases Classical.em (i = j) with hij | hij
      ·subst hij; simp [hil]
      ·rw [getD_set_ne false hij]
       have : (j == i) = false := by simp; exact fun q => hij q.symm
       rw [this, Bool.or_false]
     rw [hL']
     exact gJ hcl hio q3
   ·exact h1 q _
theorem v7 (hT : aY P T) (hH : ir P H) (hP : fk pf H) {ops : Array Oper} {n : Nat} {o : Oper} {s s1 s' : St} {v : ab} {Φ : an → St → Prop} (ho : ops.toList[n]? = some o)
  (hst : nS pf (ops.toList.take n) = true) (hC : xe ops.toList n = true) (hx : jO pf T H (ops.toList.take n) s = some s1) (hp : dr T H ops.toList o s1 = some (.pan v s')) (hΦ : Φ (.pan v) s') :
  ∀ w0 ρ a w, bJ w0 ρ s a w → wpAny P .any ops (fun e a' w' => ∃ o s', Φ o s' ∧ db w0 ρ s.mem.next o s' e a' w') ops.size (Array.replicate ops.size false) a { w with drawn := w.drawn + 1 } := by
 obtain ⟨S, V, hrun⟩ := Ou hP hx
 have hn : n < ops.toList.length := (List.getElem?_eq_some_iff.1 ho).1
 have hn' : n < ops.size := by rw [← Array.length_toList]; exact hn
 intro w0 ρ a w h
 have hto : (ops.toList.take n).toArray.toList = ops.toList.take n := by simp
 have hfalse : ∀ m j, (Array.replicate m false).getD j false = false := by
  intro m j
  rw [Array.getD_eq_getD_getElem?]
  rcases Nat.lt_or_ge j m with hj | hj
  ·simp [hj]
  ·rw [Array.getElem?_eq_none (by simpa using hj)]; rfl
 refine KX (opsn := (ops.toList.take n).toArray) (n := n) hto hn hC n ops.size _ (Array.replicate n false) a _ (by rw [← Array.length_toList]; omega) (by simp) (by simp) (fun j _ => by rw [hfalse, hfalse]) (fun j _ => hfalse _ _) (fun j oj _ hj => by simp only [hfalse] at hj; cases hj) ?_
 refine GX (ops := (ops.toList.take n).toArray) hT hH hP (by rw [hto]; exact hst) (by rw [hto]; exact hrun) h.sct (w0 := w0) (ρ0 := ρ) (fun ρ' a' w' k1 k2 k3 => ?_) n _ a _ (by simp; omega) ?_ (.inl ⟨0, ?_⟩)
 ·intro K
  refine eY hT hH k1 (i := n) (o := o) (by simpa using ho) hp ?_
  intro ρ2 a2 w2 j1 j2 j3 j4
  exact ⟨.pan v, s', hΦ, ⟨ρ2, rfl, j1, fun i hi => (j2 i (by omega)).trans (k2 i hi), by omega, fun v' hv' => by cases hv'; exact j4⟩⟩
 ·unfold kF
  refine Nat.le_trans (List.length_filter_le _ _) (by simp; omega)
 ·rw [hto]
  have hst0 : (⟨s.tm, s.df, (S 0).mem⟩ : St) = s := by rw [hrun.zero]
  refine ⟨⟨ρ, s.tm, ?_, fun _ _ => rfl, by rw [hrun.zero]; exact Nat.le_refl _, rfl, fun _ _ => rfl, fun j o t hj => ?_⟩, ?_, ?_, by simp [wa], Nat.zero_le _, ?_, fun _ => .inl fun _ _ => Nat.zero_le _⟩
  ·rw [hst0]
   exact ⟨h.rel.drew _, h.tm, h.sct, h.df, h.scd⟩
  ·rw [hfalse _ j] at hj; cases hj
  ·intro j o _ hj
   simp only [hfalse _ j] at hj; cases hj
  ·intro j hj
   simp only [hfalse _ j] at hj; cases hj
  ·intro q o _ _
   simp only [hfalse _ q]; simp
theorem KY (hT : aY P T) (hH : ir P H) (hP : fk pf H) (hm : P.follows .mixedOrders = true) {id : Nat} {ops : Array Oper} {n : Nat} {o : Oper} {s s1 s' : St} {v : ab} {Φ : an → St → Prop} (ho : ops.toList[n]? = some o)
  (hst : nS pf (ops.toList.take n) = true) (hC : xe ops.toList n = true) (hx : jO pf T H (ops.toList.take n) s = some s1) (hp : dr T H ops.toList o s1 = some (.pan v s')) (hΦ : Φ (.pan v) s') : AWP P (.region id ops true) s Φ :=
 fun w0 ρ a w h => wp_region_any hm (v7 hT hH hP ho hst hC hx hp hΦ w0 ρ a w h)
end
end Go.Ev
