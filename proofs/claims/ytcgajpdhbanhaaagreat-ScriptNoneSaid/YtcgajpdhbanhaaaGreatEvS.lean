import Derived.Test.YtcgajpdhbanhaaaGreatEvK
namespace Go.Ev
set_option linter.unusedVariables false
set_option linter.unusedSimpArgs false
def Ext (σ σ' : Mem) : Prop := σ.next ≤ σ'.next ∧ ∀ i, i < σ.next → σ'.get i = σ.get i
theorem Ext.refl (σ : Mem) : Ext σ σ := ⟨Nat.le_refl _, fun _ _ => rfl⟩
theorem Ext.trans {a b c : Mem} (h : Ext a b) (k : Ext b c) : Ext a c := ⟨Nat.le_trans h.1 k.1, fun i hi => (k.2 i (Nat.lt_of_lt_of_le hi h.1)).trans (h.2 i hi)⟩
theorem Ext.push (σ : Mem) (b : ABlk) : Ext σ (σ.push b) := ⟨by simp, fun i hi => by rw [get_push, if_neg (by omega)]⟩
def rawOf : Option (ORes × Mem) → Option AVal
  | some (.val v, _) => some v
  | some (.skip, _) => some (.tup [])
  | _ => none
def isFnO : Op → Bool
  | .call { callee := .value _, .. } => true
  | _ => false
def opSc (op : Op) (tm : List AVal) (n : Nat) : Bool := !isFnO op && (tmpsOf op.operands.toList).all fun t => sc n (tm.getD t (.tup []))
section
variable {T : TTab}
def topOk (p : Nat → Bool) : AVal → Bool
  | .ptr i _ | .slice i _ _ _ _ | .vec i | .map i | .emp i => p i
  | _ => true
def opAv (op : Op) (tm : List AVal) (p : Nat → Bool) : Bool := !isFnO op && (tmpsOf op.operands.toList).all fun t => topOk p (tm.getD t (.tup []))
theorem topOk_const {p : Nat → Bool} {c : Value} {v : AVal} (h : ofV c = some v) : topOk p v = true := by
  unfold ofV at h
  split at h <;> first
    | (cases h; rfl)
    | cases h
theorem ev_opAv {op : Op} {tm : List AVal} {p : Nat → Bool} (h : opAv op tm p = true) {x : Operand} (hx : x ∈ op.operands.toList) {v : AVal} (hv : ev tm x = some v) : topOk p v = true := by
  cases x with
  | tmp t =>
    simp only [ev, Option.some.injEq] at hv
    subst hv
    exact (List.all_eq_true.1 (Bool.and_eq_true_iff.1 h).2) t (tmpsOf_mem hx)
  | const c => exact topOk_const hv
  | func f => simp only [ev, Option.some.injEq] at hv; subst hv; rfl
  | global g => simp [ev] at hv
theorem cellsAt_same {σ σ' : Mem} {b o n : Nat} (h : σ'.get b = σ.get b) : cellsAt σ' b o n = cellsAt σ b o n := by simp only [cellsAt, h]
theorem loadA_same {σ σ' : Mem} {t : TypeId} {x : AVal} {p : Nat → Bool} (hs : topOk p x = true) (hg : ∀ i, p i = true → σ'.get i = σ.get i) : loadA T σ' t x = loadA T σ t x := by
  unfold loadA
  split
  · rename_i i b o ht
    rw [cellsAt_same (hg b hs)]
  · rfl
theorem fullV_same {σ σ' : Mem} {x : AVal} {p : Nat → Bool} (hs : topOk p x = true) (hg : ∀ i, p i = true → σ'.get i = σ.get i) : fullV σ' x = fullV σ x := by
  unfold fullV
  split
  · rename_i i
    rw [hg i hs]
  · rfl
theorem lookupA_same {σ σ' : Mem} {t : TypeId} {x k : AVal} {ok : Bool} {p : Nat → Bool} (hs : topOk p x = true) (hg : ∀ i, p i = true → σ'.get i = σ.get i) : lookupA T σ' t x k ok = lookupA T σ t x k ok := by
  have : entriesA σ' x = entriesA σ x := by
    unfold entriesA
    split
    · rfl
    · rename_i b; rw [hg b hs]
    · rfl
  unfold lookupA
  rw [this]
theorem indexAddrA_same {σ σ' : Mem} {t : TypeId} {x k : AVal} {p : Nat → Bool} (hs : topOk p x = true) (hg : ∀ i, p i = true → σ'.get i = σ.get i) : indexAddrA T σ' t x k = indexAddrA T σ t x k := by
  unfold indexAddrA
  split
  · rw [hg _ hs]
  all_goals rfl
theorem lenA_same {σ σ' : Mem} {t : TypeId} {x : AVal} {p : Nat → Bool} (hs : topOk p x = true) (hg : ∀ i, p i = true → σ'.get i = σ.get i) : lenA T σ' t x = lenA T σ t x := by
  unfold lenA
  split
  · rfl
  · split <;> first
      | rfl
      | rw [hg _ hs]
theorem elemsA_same {σ σ' : Mem} {n : Nat} {x : AVal} {p : Nat → Bool} (hs : topOk p x = true) (hg : ∀ i, p i = true → σ'.get i = σ.get i) : elemsA σ' n x = elemsA σ n x := by
  unfold elemsA
  split
  · rfl
  · rfl
  · rw [cellsAt_same (hg _ hs)]
  · rw [hg _ hs]
  · rfl
theorem rawOf_pure {σ : Mem} {r : Option AVal} : rawOf (r.map fun v => ((ORes.val v, σ) : ORes × Mem)) = r := by cases r <;> rfl
theorem read_av {pf : FuncId → Nat} {H : Hooks} {op : Op} {tm : List AVal} {σ σ' : Mem} {p : Nat → Bool} (hk : kindOf pf op = 1) (hg : ∀ i, p i = true → σ'.get i = σ.get i) (hs : opAv op tm p = true) : rawOf (aexec T H op tm σ') = rawOf (aexec T H op tm σ) := by
  cases op <;> simp only [kindOf] at hk <;> first | (cases hk; done) | skip
  case binOp o t x y u =>
    simp only [aexec]
    cases hx : ev tm x with
    | none => rfl
    | some a =>
      cases hy : ev tm y with
      | none => rfl
      | some b =>
        simp only [rawOf_pure, binM, nilB, fullV_same (ev_opAv hs (by simp [Op.operands]) hx) hg, fullV_same (ev_opAv hs (by simp [Op.operands]) hy) hg]
  case convert src dst x =>
    have hd : Nat.beq dst bytesTy = false := by
      cases hb : Nat.beq dst bytesTy with
      | true => rw [hb] at hk; cases hk
      | false => rfl
    have hsr : Nat.beq src bytesTy = true := by
      rw [hd] at hk
      cases hb : Nat.beq src bytesTy with
      | true => rfl
      | false => rw [hb] at hk; cases hk
    simp only [aexec, hd, hsr]
    cases hx : ev tm x with
    | none => rfl
    | some a => simp only [rawOf_pure, bytesStrA, elemsA_same (ev_opAv hs (by simp [Op.operands]) hx) hg]
  case load t x =>
    simp only [aexec]
    cases hx : ev tm x with
    | none => rfl
    | some a => simp only [rawOf_pure]; exact loadA_same (ev_opAv hs (by simp [Op.operands]) hx) hg
  case indexAddr t x i =>
    simp only [aexec]
    cases hx : ev tm x with
    | none => rfl
    | some a =>
      cases hi : ev tm i with
      | none => rfl
      | some b => simp only [rawOf_pure]; exact indexAddrA_same (ev_opAv hs (by simp [Op.operands]) hx) hg
  case lookup t x i ok =>
    simp only [aexec]
    cases hx : ev tm x with
    | none => rfl
    | some a =>
      cases hi : ev tm i with
      | none => rfl
      | some b => simp only [rawOf_pure]; exact lookupA_same (ev_opAv hs (by simp [Op.operands]) hx) hg
  case call c =>
    obtain ⟨callee, args, argTypes⟩ := c
    cases callee with
    | invoke r m => simp [kindOf] at hk
    | value f => simp [opAv, isFnO] at hs
    | builtin b =>
      simp only [aexec]
      cases hv : evL tm args.toList with
      | none => rfl
      | some vs =>
        have hk' : b = .len ∨ b = .max ∨ b = .min := by cases b <;> simp_all [kindOf]
        simp only [builtinA]
        split
        · rename_i t ts x xs hts
          simp only [rawOf_pure]
          have hx : ∃ o ∈ args.toList, ev tm o = some x := by
            cases ha : args.toList with
            | nil => rw [ha] at hv; simp [evL] at hv
            | cons o l =>
              rw [ha] at hv
              simp only [evL] at hv
              split at hv
              · rename_i v us h1 h2
                simp only [Option.some.injEq, List.cons.injEq] at hv
                exact ⟨o, List.mem_cons_self .., by rw [h1, hv.1]⟩
              · cases hv
          obtain ⟨o, ho, hox⟩ := hx
          refine lenA_same (ev_opAv hs ?_ hox) hg
          simp only [Op.operands, Call.operands, Array.toList_append, List.mem_append]
          exact .inr ho
        · rcases hk' with h | h | h <;> cases h
        · rcases hk' with h | h | h <;> cases h
        · simp only [rawOf_pure]
        · simp only [rawOf_pure]
        · rfl
theorem opAv_of_sc {op : Op} {tm : List AVal} {n : Nat} (h : opSc op tm n = true) : opAv op tm (fun i => decide (i < n)) = true := by
  unfold opSc at h
  unfold opAv
  rw [Bool.and_eq_true, List.all_eq_true] at h ⊢
  refine ⟨h.1, fun t ht => ?_⟩
  have := h.2 t ht
  revert this
  generalize tm.getD t (.tup []) = v
  intro hv
  cases v <;> first
    | rfl
    | exact hv
theorem read_same {pf : FuncId → Nat} {H : Hooks} {op : Op} {tm : List AVal} {σ σ' : Mem} (hk : kindOf pf op = 1) (he : Ext σ σ') (hs : opSc op tm σ.next = true) : rawOf (aexec T H op tm σ') = rawOf (aexec T H op tm σ) :=
  read_av hk (fun i hi => he.2 i (by simpa using hi)) (opAv_of_sc hs)
end
def grpOf (pf : FuncId → Nat) (all : List Oper) (ms : List Nat) : List Nat :=
  (List.range all.length).filter fun i => match all[i]? with
    | some oi => isMem pf oi && all.zipIdx.any fun (oj, j) => isMem pf oj && (i != j && !(anc ms (min i j) (max i j)))
    | none => false
def isAllocO (o : Oper) : Bool := (match o.op with
  | .alloc _ => true
  | _ => false) && o.guard.isNone && o.dst.isSome
def isStoreO (o : Oper) : Bool := (match o.op with
  | .store .. => true
  | _ => false) && o.guard.isNone
def allAlloc (all : List Oper) (g : List Nat) : Bool := g.all fun i => match all[i]? with
  | some o => isAllocO o
  | none => false
def isIdxO (o : Oper) : Bool := match o.op with
  | .indexAddr .. => true
  | _ => false
def vlen (σ : Mem) (b : Nat) : Option Nat := match σ.get b with
  | some (.vec _ l _ _) => some l
  | _ => none
theorem vlen_putA {σ σ' : Mem} {b o : Nat} {vs : List AVal} (h : putA σ b o vs = some σ') (i : Nat) : vlen σ' i = vlen σ i := by
  unfold putA at h
  split at h
  · rename_i hg
    split at h
    · cases h
      unfold vlen
      rw [get_set]
      by_cases e : b = i
      · subst e; rw [if_pos rfl, hg]
      · rw [if_neg e]
    · cases h
  · rename_i hg
    split at h
    · cases h
      unfold vlen
      rw [get_set]
      by_cases e : b = i
      · subst e; rw [if_pos rfl, hg]
      · rw [if_neg e]
    · cases h
  · cases h
theorem indexAddrA_vlen {T : TTab} {σ σ' : Mem} {t : TypeId} {x k : AVal} (hv : ∀ b, vlen σ b = vlen σ' b) : indexAddrA T σ t x k = indexAddrA T σ' t x k := by
  unfold indexAddrA
  split
  · rename_i e b kk n hT
    have hb := hv b
    unfold vlen at hb
    cases T e with
    | none => rfl
    | some j =>
      cases h1 : σ.get b with
      | none =>
        rw [h1] at hb
        cases h2 : σ'.get b with
        | none => rfl
        | some c' => rw [h2] at hb; cases c' <;> first | rfl | cases hb
      | some c =>
        rw [h1] at hb
        cases h2 : σ'.get b with
        | none => rw [h2] at hb; cases c <;> first | rfl | cases hb
        | some c' => rw [h2] at hb; cases c <;> cases c' <;> first | rfl | (cases hb; rfl) | cases hb
  all_goals rfl
theorem idx_vlen {T : TTab} {H : Hooks} {o : Oper} (ho : isIdxO o = true) {tm : List AVal} {σ σ' : Mem} {v : AVal} (hv : ∀ b, vlen σ b = vlen σ' b) (h : aexec T H o.op tm σ' = some (.val v, σ')) : aexec T H o.op tm σ = some (.val v, σ) := by
  unfold isIdxO at ho
  split at ho
  · rename_i t x i hop
    rw [hop] at h ⊢
    simp only [aexec] at h ⊢
    split at h
    · rename_i a b hx hi
      rw [indexAddrA_vlen hv]
      obtain ⟨u, h1, h2⟩ := Option.map_eq_some_iff.1 h
      simp only [Prod.mk.injEq, ORes.val.injEq, and_true] at h2
      rw [h1, h2]
      rfl
    · cases h
  · cases ho
def twoStores (pf : FuncId → Nat) (all : List Oper) (ms : List Nat) (g : List Nat) : Bool :=
  match g with
  | [p, q] => decide (p < q) && (match all[p]?, all[q]? with
    | some a, some b => isStoreO a && isStoreO b
    | _, _ => false) && all.zipIdx.all fun (o, r) => !(kindOf pf o.op == 1) || (anc ms r p && anc ms r q) || (anc ms p r && anc ms q r) || (isIdxO o && !anc ms p r && !anc ms q r)
  | _ => false
def grpStat (pf : FuncId → Nat) (all : List Oper) (ms g : List Nat) : Bool :=
  g.isEmpty || ((allAlloc all g || twoStores pf all ms g) && all.zipIdx.all fun (_, r) => g.contains r || g.all (fun i => !anc ms i r) || g.all (fun i => anc ms i r))
def statOk (pf : FuncId → Nat) (all : List Oper) : Bool := edgesOk all && pairsOk all (masks all []) && grpStat pf all (masks all []) (grpOf pf all (masks all []))
def disj : Option AVal → Option AVal → Option AVal → Option AVal → Bool
  | some (.ptr b o), some v, some (.ptr b' o'), some v' => b != b' || decide (o + v.cellsOf.length ≤ o') || decide (o' + v'.cellsOf.length ≤ o)
  | _, _, _, _ => false
def grpDyn (pf : FuncId → Nat) (all : List Oper) (ms g : List Nat) (tr : List (St × AVal)) : Bool :=
  match g with
  | [] => true
  | i0 :: g' => if allAlloc all g then
      (match tr[i0]? with
       | some (s0, _) => (all.zip tr).zipIdx.all fun ((o, s, v), r) => g.contains r || g.all (fun i => anc ms i r) || (sc s0.mem.next v && (!(kindOf pf o.op == 1) || opSc o.op s.tm s0.mem.next))
       | none => false)
    else match g' with
      | [q] => (match all[i0]?, all[q]?, tr[i0]?, tr[q]? with
        | some a, some b, some (s, _), some (s', _) => (match a.op, b.op with
          | .store _ x y, .store _ x' y' => disj (ev s.tm x) (ev s.tm y) (ev s'.tm x') (ev s'.tm y')
          | _, _ => false)
        | _, _, _, _ => false)
      | _ => false
def runDraw (pf : FuncId → Nat) (T : TTab) (H : Hooks) (all : List Oper) (s : St) : Option St :=
  match trace T H all all s with
  | some (tr, e) => if readsOk pf T H all (masks all []) (tr.map (·.1.mem) ++ [e.mem]) all 0 tr && grpDyn pf all (masks all []) (grpOf pf all (masks all [])) tr then some e else none
  | none => none
mutual
def rn (f : Nat → Nat) : AVal → AVal
  | .bool b => .bool b
  | .int k n => .int k n
  | .str s => .str s
  | .ptr i o => .ptr (f i) o
  | .nilp => .nilp
  | .slice i o l e c => .slice (f i) o l e c
  | .nils => .nils
  | .emp i => .emp (f i)
  | .map i => .map (f i)
  | .nilm => .nilm
  | .func g fs cs => .func g (rnL f fs) (rnL f cs)
  | .nilf => .nilf
  | .iface t v => .iface t (rn f v)
  | .nili => .nili
  | .agg cs => .agg (rnL f cs)
  | .tup vs => .tup (rnL f vs)
  | .junk i => .junk (f i)
  | .vec i => .vec (f i)
def rnL (f : Nat → Nat) : List AVal → List AVal
  | [] => []
  | v :: vs => rn f v :: rnL f vs
end
mutual
theorem γ_rn (ρ : Nat → Loc) (f : Nat → Nat) : ∀ v, γ ρ (rn f v) = γ (fun i => ρ (f i)) v
  | .bool _ | .int _ _ | .str _ | .ptr _ _ | .nilp | .slice _ _ _ _ _ | .nils | .emp _ | .map _ | .nilm | .nilf | .nili | .junk _ | .vec _ => by simp [rn, γ]
  | .func g x y => by simp only [rn, γ, γL_rn ρ f x, γL_rn ρ f y]
  | .iface t v => by simp only [rn, γ, γ_rn ρ f v]
  | .agg x => by simp only [rn, γ, γL_rn ρ f x]
  | .tup x => by simp only [rn, γ, γL_rn ρ f x]
theorem γL_rn (ρ : Nat → Loc) (f : Nat → Nat) : ∀ l, γL ρ (rnL f l) = γL (fun i => ρ (f i)) l
  | [] => by simp [rnL, γL]
  | v :: vs => by simp only [rnL, γL, γ_rn ρ f v, γL_rn ρ f vs]
end
theorem rnL_length (f : Nat → Nat) : ∀ l, (rnL f l).length = l.length
  | [] => rfl
  | v :: vs => by simp [rnL, rnL_length f vs]
def rnB (f : Nat → Nat) : ABlk → ABlk
  | .cells cs own gr => .cells (rnL f cs) own gr
  | .iter m a b c => .iter (f m) a b c
  | b => b
mutual
theorem rn_zero (f : Nat → Nat) : ∀ v, sc 0 v = true → rn f v = v
  | .bool _, _ | .int _ _, _ | .str _, _ | .nilp, _ | .nils, _ | .nilm, _ | .nilf, _ | .nili, _ => rfl
  | .ptr i o, h | .slice i o l e c, h | .map i, h | .emp i, h | .junk i, h | .vec i, h => by simp [sc] at h
  | .func g x y, h => by simp only [sc, Bool.and_eq_true] at h; simp only [rn, rnL_zero f x h.1, rnL_zero f y h.2]
  | .iface t v, h => by simp only [sc] at h; simp only [rn, rn_zero f v h]
  | .agg x, h => by simp only [sc] at h; simp only [rn, rnC_zero f x h]
  | .tup x, h => by simp only [sc] at h; simp only [rn, rnL_zero f x h]
theorem rnL_zero (f : Nat → Nat) : ∀ l, scL 0 l = true → rnL f l = l
  | [], _ => rfl
  | v :: vs, h => by simp only [scL, Bool.and_eq_true] at h; simp only [rnL, rn_zero f v h.1, rnL_zero f vs h.2]
theorem rnC_zero (f : Nat → Nat) : ∀ l, scC 0 l = true → rnL f l = l
  | [], _ => rfl
  | v :: vs, h => by simp only [scC, Bool.and_eq_true] at h; simp only [rnL, rn_zero f v h.1.2, rnC_zero f vs h.2]
end
mutual
theorem rn_fix {f : Nat → Nat} {n : Nat} (hf : ∀ i, i < n → f i = i) : ∀ v, sc n v = true → rn f v = v
  | .bool _, _ | .int _ _, _ | .str _, _ | .nilp, _ | .nils, _ | .nilm, _ | .nilf, _ | .nili, _ => rfl
  | .ptr i o, h | .slice i o l e c, h | .map i, h | .emp i, h | .junk i, h | .vec i, h => by
    simp only [sc, decide_eq_true_eq] at h
    simp only [rn, hf i h]
  | .func g x y, h => by simp only [sc, Bool.and_eq_true] at h; simp only [rn, rnL_fix hf x h.1, rnL_fix hf y h.2]
  | .iface t v, h => by simp only [sc] at h; simp only [rn, rn_fix hf v h]
  | .agg x, h => by simp only [sc] at h; simp only [rn, rnC_fix hf x h]
  | .tup x, h => by simp only [sc] at h; simp only [rn, rnL_fix hf x h]
theorem rnL_fix {f : Nat → Nat} {n : Nat} (hf : ∀ i, i < n → f i = i) : ∀ l, scL n l = true → rnL f l = l
  | [], _ => rfl
  | v :: vs, h => by simp only [scL, Bool.and_eq_true] at h; simp only [rnL, rn_fix hf v h.1, rnL_fix hf vs h.2]
theorem rnC_fix {f : Nat → Nat} {n : Nat} (hf : ∀ i, i < n → f i = i) : ∀ l, scC n l = true → rnL f l = l
  | [], _ => rfl
  | v :: vs, h => by simp only [scC, Bool.and_eq_true] at h; simp only [rnL, rn_fix hf v h.1.2, rnC_fix hf vs h.2]
end
theorem rnB_fix {f : Nat → Nat} {n : Nat} (hf : ∀ i, i < n → f i = i) : ∀ b, scB n b = true → rnB f b = b
  | .cells cs _ _, h => by simp only [rnB, rnC_fix hf cs h]
  | .vec _ _ _ _, _ => rfl
  | .map _ _, _ => rfl
  | .iter m _ _ _, h => by simp only [scB, decide_eq_true_eq] at h; simp only [rnB, hf m h]
  | .coll, _ => rfl
  | .turn _ _, _ => rfl
  | .dead, _ => rfl
theorem rnB_alive (f : Nat → Nat) (b : ABlk) : (rnB f b).alive = b.alive := by cases b <;> rfl
theorem rnB_owned (f : Nat → Nat) (b : ABlk) : (rnB f b).owned = b.owned := by cases b <;> rfl
theorem BOk_rn {ρ : Nat → Loc} {f : Nat → Nat} {n : Nat} {L : Loc} {w : World} : ∀ {b : ABlk}, scB n (rnB f b) = true → BOk ρ L w (rnB f b) → BOk (fun i => ρ (f i)) L w b
  | .cells cs own gr, _, h => by
    obtain ⟨c, e, fz, h1, ⟨pre, post, h2, h3⟩, h4, h5⟩ := h
    rw [γL_rn] at h2
    rw [rnL_length] at h5
    exact ⟨c, e, fz, h1, ⟨pre, post, h2, h3⟩, h4, h5⟩
  | .vec cs n sz own, hs, h => BOk_congr (n := 0) (fun i hi => by omega) rfl (.vec cs n sz own) hs h
  | .map es clock, hs, h => BOk_congr (n := 0) (fun i hi => by omega) rfl (.map es clock) hs h
  | .iter m since seen last, _, h => ⟨h.1, h.2⟩
  | .coll, _, h => h
  | .turn _ _, _, h => h
  | .dead, _, _ => trivial
theorem SRel.ren {w0 : W0} {ρ : Nat → Loc} {s s' : St} {a : Act} {w : World} (hr : SRel w0 ρ s a w) {f : Nat → Nat} {n : Nat}
    (htm : s.tm = rnL f s'.tm) (hsc : scL s'.mem.next s'.tm = true) (hdf : s'.df = s.df) (hdsc : ∀ d ∈ s.df, scL n d.cap = true ∧ scL n d.args = true) (hn : n ≤ s'.mem.next)
    (hfix : ∀ i, i < n → f i = i) (hinj : ∀ i j, i < s'.mem.next → j < s'.mem.next → f i = f j → i = j)
    (hb : ∀ i b, s'.mem.get i = some b → i < s'.mem.next ∧ s.mem.get (f i) = some (rnB f b) ∧ scB s'.mem.next b = true) : SRel w0 (fun i => ρ (f i)) s' a w := by
  have R := hr.rel
  refine ⟨⟨fun i b hi => (hb i b hi).1, fun i b hi => (hb i b hi).2.2, ?_, ?_, ?_, ?_, R.os, R.tape, R.output, R.size, R.old⟩, ?_, hsc, ?_, ?_⟩
  · intro i b hi
    obtain ⟨_, q2, _⟩ := hb i b hi
    exact BOk_rn (R.sco _ _ q2) (R.ok _ _ q2)
  · intro i b hi ha
    obtain ⟨_, q2, _⟩ := hb i b hi
    exact R.inb _ _ q2 (by rw [rnB_alive]; exact ha)
  · intro i j bi bj hi hj hij hoi haj
    obtain ⟨q1, q2, _⟩ := hb i bi hi
    obtain ⟨p1, p2, _⟩ := hb j bj hj
    exact R.ap _ _ _ _ q2 p2 (fun e => hij (hinj i j q1 p1 e)) (by rw [rnB_owned]; exact hoi) (by rw [rnB_alive]; exact haj)
  · intro i b hi ho
    obtain ⟨_, q2, _⟩ := hb i b hi
    exact R.own _ _ q2 (by rw [rnB_owned]; exact ho)
  · rw [hr.tm, htm, γL_rn]
  · rw [hr.df, hdf]
    apply List.map_congr_left
    intro d hd
    have h2 := hdsc d hd
    simp only [γD, γL_congr (ρ := ρ) (ρ' := fun i => ρ (f i)) (n := n) (fun i hi => by rw [hfix i hi]) _ h2.1, γL_congr (ρ := ρ) (ρ' := fun i => ρ (f i)) (n := n) (fun i hi => by rw [hfix i hi]) _ h2.2]
  · intro d hd
    rw [hdf] at hd
    exact ⟨scL_mono hn _ (hdsc d hd).1, scL_mono hn _ (hdsc d hd).2⟩
theorem alloc_step {P : Program} {T : TTab} {H : Hooks} (hT : TabOk P T) (hH : HooksOk P H) {ops : Array Oper} {i : Nat} {o : Oper} (ho : ops[i]? = some o) {t : TypeId} {ti : TyI} (hop : o.op = .alloc t) (hg : o.guard = none) (hti : T t = some ti)
    {w0 : W0} {ρ : Nat → Loc} {tm : List AVal} {df : List ADef} {σ : Mem} {a : Act} {w : World} (h : SRel w0 ρ ⟨tm, df, σ⟩ a w) {m n0 : Nat} (hm0 : n0 ≤ m) (hm1 : m < σ.next) (hmn : σ.get m = none)
    (hdf : ∀ d ∈ df, scL n0 d.cap = true ∧ scL n0 d.args = true) (hbs : ∀ i b, σ.get i = some b → scB n0 b = true)
    (htm : ∀ t v, tm[t]? = some v → o.dst ≠ some t → sc n0 v = true ∨ ∃ m', v = .ptr m' 0 ∧ m' ≠ m) {Q : Exit → Act → World → Prop} {K : Act → World → Prop}
    (hK : ∀ ρ' a' w', SRel w0 ρ' ⟨setD tm o.dst (.ptr m 0), df, ⟨σ.next, (m, blkOf (arrLike T t) ti.zero) :: σ.bs⟩⟩ a' w' → (∀ i, i < n0 → ρ' i = ρ i) → K a' w') : wpOp P ops Q i K a w := by
  have hx : stepOp T H ops.toList o ⟨tm, df, σ⟩ = some (.go ⟨setD tm o.dst (.ptr σ.next 0), df, σ.push (blkOf (arrLike T t) ti.zero)⟩) := by
    simp only [stepOp, gj, wantedA, hg, Bool.false_eq_true, if_false, if_true, hop, aexec, hti]
  refine stepOp_wp hT hH h ho hx ?_
  intro ρ' a' w' k1 k2 k3
  let f : Nat → Nat := fun i => if i = m then σ.next else i
  have hfm : f m = σ.next := if_pos rfl
  have hfn : ∀ i, i ≠ m → f i = i := fun i hi => if_neg hi
  have hfix : ∀ i, i < n0 → f i = i := fun i hi => hfn i (by omega)
  have hblk : scB 0 (blkOf (arrLike T t) ti.zero) = true := by
    have := (hT t ti hti).zsc
    unfold blkOf
    split <;> exact this
  refine hK (fun i => ρ' (f i)) a' w' (k1.ren (s' := ⟨setD tm o.dst (.ptr m 0), df, ⟨σ.next, (m, blkOf (arrLike T t) ti.zero) :: σ.bs⟩⟩) (n := n0) ?_ ?_ rfl hdf (by simp only; omega) hfix ?_ ?_) ?_
  · show setD tm o.dst (.ptr σ.next 0) = rnL f (setD tm o.dst (.ptr m 0))
    apply List.ext_getElem?
    intro t
    have key : ∀ l : List AVal, (rnL f l)[t]? = (l[t]?).map (rn f) := by
      intro l
      induction l generalizing t with
      | nil => simp [rnL]
      | cons v l ih => cases t <;> simp [rnL, ih]
    rw [key]
    have base : o.dst ≠ some t → tm[t]? = (tm[t]?).map (rn f) := by
      intro hne
      cases hv : tm[t]? with
      | none => rfl
      | some v =>
        simp only [Option.map_some, Option.some.injEq]
        rcases htm t v hv hne with q | ⟨m', rfl, q⟩
        · exact (rn_fix hfix v q).symm
        · simp only [rn, hfn m' q]
    cases hd : o.dst with
    | none => simp only [setD]; exact base (by rw [hd]; simp)
    | some d =>
      simp only [setD]
      by_cases hdt : d = t
      · subst hdt
        by_cases hl : d < tm.length
        · rw [List.getElem?_set_self hl, List.getElem?_set_self hl]; simp only [Option.map_some, rn, hfm]
        · have hl' := Nat.le_of_not_lt hl
          rw [List.getElem?_eq_none (by rw [List.length_set]; exact hl'), List.getElem?_eq_none (by rw [List.length_set]; exact hl')]; rfl
      · rw [List.getElem?_set_ne hdt, List.getElem?_set_ne hdt]
        exact base (by rw [hd]; simpa using hdt)
  · show scL σ.next (setD tm o.dst (.ptr m 0)) = true
    have h0 : scL σ.next tm = true := h.sct
    cases hd : o.dst with
    | none => exact h0
    | some d => exact scL_set h0 (by simp only [sc, decide_eq_true_eq]; exact hm1)
  · intro i j hi hj e
    simp only at hi hj
    by_cases h1 : i = m <;> by_cases h2 : j = m
    · omega
    · rw [h1, hfm, hfn j h2] at e; omega
    · rw [h2, hfm, hfn i h1] at e; omega
    · rw [hfn i h1, hfn j h2] at e; exact e
  · intro i b hi
    simp only [Mem.get, look] at hi
    split at hi
    · rename_i e
      rw [beq_iff_eq] at e
      cases hi
      subst e
      refine ⟨hm1, ?_, scB_mono (Nat.zero_le _) _ hblk⟩
      rw [hfm, get_push, if_pos rfl, rnB_fix (n := 0) (fun i hi => by omega) _ hblk]
    · rename_i e
      have hne : i ≠ m := fun q => e (by rw [q]; exact beq_self_eq_true m)
      have hi' : σ.get i = some b := hi
      have hlt : i < σ.next := h.rel.lt i b hi'
      have hsb := hbs i b hi'
      refine ⟨hlt, ?_, scB_mono (by simp only; omega) _ hsb⟩
      rw [hfn i hne, get_push, if_neg (by omega), rnB_fix hfix b hsb]
      exact hi'
  · intro i hi
    show ρ' (f i) = ρ i
    rw [hfix i hi]
    exact k2 i (by simp only; omega)
end Go.Ev

