/- The abstract interpreter over symbols: an evaluator that hands on to a continuation, parts at comparisons and notes what is owed. No statement is proved here. -/
import Derived.Test.YthjoljondlhhmaaEvQ
import Derived.LoopN
namespace Go.Ev
set_option linter.unusedVariables false
set_option linter.unusedSimpArgs false

/-- What is owed: equations of what is read. -/
abbrev Ow := List (Option AVal × Option AVal)

def Ow.nil : Ow := []
def Ow.app (a b : Ow) : Ow := a ++ b
def Ow.ok (a : Ow) : Prop := ∀ x ∈ a, x.1 = x.2
def Ow.le (a b : Ow) : Prop := ∃ x, b = a ++ x

theorem Ow.le.refl (a : Ow) : a.le a := ⟨[], by simp⟩
theorem Ow.le.trans {a b c : Ow} (h : a.le b) (k : b.le c) : a.le c := by
  obtain ⟨x, h1⟩ := h
  obtain ⟨z, k1⟩ := k
  exact ⟨x ++ z, by rw [k1, h1, List.append_assoc]⟩
theorem Ow.le.ok {a b : Ow} (h : a.le b) (k : b.ok) : a.ok := by
  obtain ⟨x, h1⟩ := h
  exact fun q hq => k q (by rw [h1]; exact List.mem_append_left _ hq)
theorem Ow.le_app (a b : Ow) : a.le (a.app b) := ⟨_, rfl⟩
theorem Ow.ok_app {a b : Ow} (h : (a.app b).ok) : b.ok := fun q hq => h q (List.mem_append_right _ hq)
theorem Ow.ok_nil : Ow.nil.ok := fun _ h => (by cases h)

/-- What was there is there as it was. -/
def Ext (σ σ' : Mem) : Prop := σ.next ≤ σ'.next ∧ ∀ i, i < σ.next → σ'.get i = σ.get i
theorem Ext.refl (σ : Mem) : Ext σ σ := ⟨Nat.le_refl _, fun _ _ => rfl⟩
theorem Ext.trans {a b c : Mem} (h : Ext a b) (k : Ext b c) : Ext a c := ⟨Nat.le_trans h.1 k.1, fun i hi => (k.2 i (Nat.lt_of_lt_of_le hi h.1)).trans (h.2 i hi)⟩
theorem Ext.push (σ : Mem) (b : ABlk) : Ext σ (σ.push b) := ⟨by simp, fun i hi => by rw [get_push, if_neg (by omega)]⟩

/-- Calls, handing on. -/
structure CH where
  call : {R : Type} → FuncId → List AVal → Mem → (ARes → Mem → Ow → Option R) → Option R
  nat : ∀ {R : Type} (g : FuncId) (args : List AVal) (σ : Mem) (k : ARes → Mem → Ow → Option R),
    call g args σ k = (call g args σ fun r σ' o => some (r, σ', o)).bind fun x => k x.1 x.2.1 x.2.2
  ext : FuncId → Bool

open Classical in
noncomputable def CH.H (ch : CH) : Hooks := fun g args σ =>
  match ch.call g args σ fun r σ' o => some (r, σ', o) with
  | some (r, σ', o) => if o.ok then some (r, σ') else none
  | none => none

def CHOk (P : Program) (ch : CH) : Prop := HooksOk P ch.H ∧ ∀ g args σ r σ', ch.ext g = true → ch.H g args σ = some (r, σ') → Ext σ σ'

theorem CH.of_call {ch : CH} {R : Type} {g : FuncId} {args : List AVal} {σ : Mem} {k : ARes → Mem → Ow → Option R} {x : R} (h : ch.call g args σ k = some x) :
    ∃ r σ' o, k r σ' o = some x ∧ (o.ok → ch.H g args σ = some (r, σ')) := by
  rw [ch.nat] at h
  obtain ⟨⟨r, σ', o⟩, h1, h2⟩ := Option.bind_eq_some_iff.1 h
  exact ⟨r, σ', o, h2, fun ho => by simp only [CH.H, h1, if_pos ho]⟩

/-- A condition that must be. -/
def need {R : Type} (c : Bool) (x : Option R) : Option R :=
  match c with
  | true => x
  | false => none

theorem need_some {R : Type} {c : Bool} {x : Option R} {r : R} (h : need c x = some r) : c = true ∧ x = some r := by
  cases c with
  | true => exact ⟨rfl, h⟩
  | false => cases h
@[simp] theorem need_true {R : Type} (x : Option R) : need true x = x := rfl
@[simp] theorem need_false {R : Type} (x : Option R) : need false x = none := rfl

/-- A truth value is looked at at once. -/
def splitB {R : Type} (v : AVal) (k : AVal → Option R) : Option R :=
  match v with
  | .bool b => cond b (k (.bool true)) (k (.bool false))
  | v => k v

theorem splitB_eq {R : Type} (v : AVal) (k : AVal → Option R) : splitB v k = k v := by
  cases v <;> try rfl
  case bool b => cases b <;> rfl

/-! ### Cells of flat kinds, read out of a list that is not written out -/

def geti (cs : List AVal) (i : Nat) : Int := match cs[i]? with
  | some (.int _ n) => n
  | _ => 0
def getb (cs : List AVal) (i : Nat) : Bool := match cs[i]? with
  | some (.bool b) => b
  | _ => false
def gets (cs : List AVal) (i : Nat) : ByteArray := match cs[i]? with
  | some (.str s) => s
  | _ => ⟨#[]⟩
def isK : TK → Option AVal → Bool
  | .int k, some (.int l _) => decide (k = l)
  | .bool, some (.bool _) => true
  | .str, some (.str _) => true
  | _, _ => false
def rowOk : List TK → List AVal → Nat → Bool
  | [], _, _ => true
  | k :: ks, cs, o => isK k (cs[o]?) && rowOk ks cs (o + 1)
def cellV (k : TK) (cs : List AVal) (i : Nat) : AVal :=
  match k with
  | .int k => .int k (geti cs i)
  | .bool => .bool (getb cs i)
  | .str => .str (gets cs i)
  | _ => .tup []
def rowV (cs : List AVal) (o : Nat) : List TK → Nat → List AVal
  | [], _ => []
  | k :: ks, j => cellV k cs (o + j) :: rowV cs o ks (j + 1)

theorem cellV_of {k : TK} {cs : List AVal} {i : Nat} (h : isK k (cs[i]?) = true) : cs[i]? = some (cellV k cs i) := by
  cases hc : cs[i]? with
  | none => rw [hc] at h; cases k <;> cases h
  | some v =>
    rw [hc] at h
    cases k <;> cases v <;> simp only [isK, Bool.false_eq_true, decide_eq_true_eq] at h
    · subst h; simp [cellV, geti, hc]
    · simp [cellV, getb, hc]
    · simp [cellV, gets, hc]

theorem rowV_of {cs : List AVal} {o : Nat} : ∀ {ks : List TK} {j : Nat}, rowOk ks cs (o + j) = true → (cs.drop (o + j)).take ks.length = rowV cs o ks j ∧ o + j + ks.length ≤ cs.length ∨ ks = []
  | [], j, _ => .inr rfl
  | k :: ks, j, h => by
    simp only [rowOk, Bool.and_eq_true] at h
    have h1 := cellV_of h.1
    have hl := (List.getElem?_eq_some_iff.1 h1).1
    refine .inl ?_
    have hd : cs.drop (o + j) = cellV k cs (o + j) :: cs.drop (o + j + 1) := by
      rw [List.drop_eq_getElem_cons hl]
      congr 1
      exact (List.getElem?_eq_some_iff.1 h1).2
    rcases rowV_of (j := j + 1) h.2 with ⟨i1, i2⟩ | rfl
    · refine ⟨?_, by simp only [List.length_cons]; omega⟩
      rw [hd]
      simp only [List.length_cons, List.take_succ_cons, rowV]
      congr 1
    · refine ⟨?_, by simp only [List.length_cons, List.length_nil]; omega⟩
      rw [hd]
      simp [rowV]

def flatOf (i : TyI) : Option (List TK) := if i.agg then i.flat else some [i.k]

/-- A load. -/
def loadK {R : Type} (T : TTab) (σ : Mem) (t : TypeId) (x : AVal) (k : AVal → Option R) : Option R :=
  match x with
  | .ptr b o =>
    match T t, σ.get b with
    | some i, some (.vec cs _ _ _) => match flatOf i with
      | some ks => if ks.length = i.size ∧ ks ≠ [] then need (rowOk ks cs o) (k (if i.agg then .agg (rowV cs o ks 0) else (rowV cs o ks 0).headD (.tup []))) else none
      | none => none
    | some _, some (.cells _ _ _) => match loadA T σ t (.ptr b o) with
      | some v => k v
      | none => none
    | _, _ => none
  | _ => none

theorem loadK_spec {R : Type} {T : TTab} {σ : Mem} {t : TypeId} {x : AVal} {k : AVal → Option R} {r : R} (h : loadK T σ t x k = some r) : ∃ v, loadA T σ t x = some v ∧ k v = some r := by
  unfold loadK at h
  split at h
  · rename_i b o
    split at h
    · rename_i i cs _ _ _ hT hg
      split at h
      · rename_i ks hks
        split at h
        · rename_i hl
          obtain ⟨h1, h2⟩ := need_some h
          refine ⟨_, ?_, h2⟩
          rcases rowV_of (o := o) (j := 0) (ks := ks) h1 with ⟨q1, q2⟩ | q
          · simp only [Nat.add_zero] at q1 q2
            have hc : cellsAt σ b o i.size = some (rowV cs o ks 0) := by
              simp only [cellsAt, hg]
              rw [if_pos (by omega), ← hl.1, q1]
            simp only [loadA, hT, hc]
            split
            · rfl
            · cases ks with
              | nil => exact absurd rfl hl.2
              | cons a l => rfl
          · exact absurd q hl.2
        · cases h
      · cases h
    · split at h
      · rename_i v hv; exact ⟨v, hv, h⟩
      · cases h
    · cases h
  · cases h

/-- The address of an element. -/
def idxK {R : Type} (T : TTab) (σ : Mem) (t : TypeId) (x i : AVal) (k : AVal → Option R) : Option R :=
  match T t, x, i with
  | some { k := .slice e, .. }, .vec b, .int _ n =>
    match T e, σ.get b with
    | some j, some (.vec _ l _ _) => need (decide (0 ≤ n) && decide (n < (l : Int))) (k (.ptr b (n.toNat * j.size)))
    | _, _ => none
  | some { k := .slice e, .. }, .slice b o l _ _, .int _ n =>
    match T e with
    | none => none
    | some j => need (decide (0 ≤ n) && decide (n < (l : Int))) (k (.ptr b (o + n.toNat * j.size)))
  | some { k := .arr l e, .. }, .ptr b o, .int _ n =>
    match T e with
    | none => none
    | some j => need (decide (0 ≤ n) && decide (n < (l : Int))) (k (.ptr b (o + n.toNat * j.size)))
  | _, _, _ => none

theorem idxK_spec {R : Type} {T : TTab} {σ : Mem} {t : TypeId} {x i : AVal} {k : AVal → Option R} {r : R} (h : idxK T σ t x i k = some r) : ∃ v, indexAddrA T σ t x i = some v ∧ k v = some r := by
  unfold idxK at h
  split at h
  · rename_i hT
    split at h
    · rename_i hTe hg
      obtain ⟨h1, h2⟩ := need_some h
      simp only [Bool.and_eq_true, decide_eq_true_eq] at h1
      exact ⟨_, by simp only [indexAddrA, hT, hTe, hg]; rw [if_pos h1], h2⟩
    · cases h
  · rename_i hT
    split at h
    · cases h
    · rename_i hTe
      obtain ⟨h1, h2⟩ := need_some h
      simp only [Bool.and_eq_true, decide_eq_true_eq] at h1
      exact ⟨_, by simp only [indexAddrA, hT, hTe]; rw [if_pos h1], h2⟩
  · rename_i hT
    split at h
    · cases h
    · rename_i hTe
      obtain ⟨h1, h2⟩ := need_some h
      simp only [Bool.and_eq_true, decide_eq_true_eq] at h1
      exact ⟨_, by simp only [indexAddrA, hT, hTe]; rw [if_pos h1], h2⟩
  · cases h

/-- Append. -/
def appK {R : Type} (T : TTab) (σ : Mem) (t : TypeId) (s x : AVal) (k : AVal → Mem → Option R) : Option R :=
  match T t with
  | some { k := .slice e, .. } =>
    match T e with
    | none => none
    | some j =>
      match elemsA σ j.size s, elemsA σ j.size x with
      | some (cs, l), some (ds, m) =>
        if j.size = 0 ∨ j.bytes = 0 then none else
        need (decide (2 * (l + m) * j.bytes ≤ 2 ^ 48)) (match appendB σ j cs l ds m s x with
          | some (v, σ') => k v σ'
          | none => none)
      | _, _ => none
  | _ => none

theorem appK_spec {R : Type} {T : TTab} {σ : Mem} {t : TypeId} {s x : AVal} {k : AVal → Mem → Option R} {r : R} (h : appK T σ t s x k = some r) : ∃ v σ', appendA T σ t s x = some (v, σ') ∧ k v σ' = some r := by
  unfold appK at h
  split at h
  · rename_i hT
    split at h
    · cases h
    · rename_i hTe
      split at h
      · rename_i hcs hds
        split at h
        · cases h
        · rename_i hz
          obtain ⟨h1, h2⟩ := need_some h
          simp only [decide_eq_true_eq] at h1
          split at h2
          · rename_i v σ' hb
            refine ⟨v, σ', ?_, h2⟩
            simp only [appendA, hT, hTe, hcs, hds]
            rw [if_neg (by rintro (q | q | q); exact hz (.inl q); exact hz (.inr q); omega), hb]
          · cases h2
      · cases h
  · cases h

/-- Operations of two. -/
def binK {R : Type} (T : TTab) (op : BinOp) (t : TypeId) (x y : AVal) (k : AVal → Option R) : Option R :=
  match op, x, y with
  | .quo, .int κ a, .int l b => if κ = l then need (!decide (b = 0)) (k (.int κ (κ.wrap (a.tdiv b)))) else none
  | .rem, .int κ a, .int l b => if κ = l then need (!decide (b = 0)) (k (.int κ (a.tmod b))) else none
  | .shl, .int κ a, .int _ b => need (!decide (b < 0)) (k (.int κ (κ.wrap (a * 2 ^ (min b.toNat κ.bits)))))
  | .shr, .int κ a, .int _ b => need (!decide (b < 0)) (k (.int κ (a.fdiv (2 ^ (min b.toNat κ.bits)))))
  | op, x, y => match binA T op t x y with
    | some v => k v
    | none => none

theorem binK_spec {R : Type} {T : TTab} {op : BinOp} {t : TypeId} {x y : AVal} {k : AVal → Option R} {r : R} (h : binK T op t x y k = some r) : ∃ v, binA T op t x y = some v ∧ k v = some r := by
  unfold binK at h
  split at h
  · rename_i κ a l b
    split at h
    · rename_i hk
      obtain ⟨h1, h2⟩ := need_some h
      have h1' : ¬ b = 0 := by simpa using h1
      exact ⟨_, by simp only [binA, hk, if_true, intOp]; rw [if_neg h1'], by rw [← hk]; exact h2⟩
    · cases h
  · rename_i κ a l b
    split at h
    · rename_i hk
      obtain ⟨h1, h2⟩ := need_some h
      have h1' : ¬ b = 0 := by simpa using h1
      exact ⟨_, by simp only [binA, hk, if_true, intOp]; rw [if_neg h1'], by rw [← hk]; exact h2⟩
    · cases h
  · obtain ⟨h1, h2⟩ := need_some h
    refine ⟨_, ?_, h2⟩
    simp only [binA, shiftOp]
    rw [if_neg (by simpa using h1)]
  · obtain ⟨h1, h2⟩ := need_some h
    refine ⟨_, ?_, h2⟩
    simp only [binA, shiftOp]
    rw [if_neg (by simpa using h1)]
  · split at h
    · rename_i v hv; exact ⟨v, hv, h⟩
    · cases h

/-- A map with one entry more, or another one in its place. -/
def putE (i : TyI) (k v : AVal) (es : List (AVal × AVal × Nat)) (c : Nat) : List (AVal × AVal × Nat) :=
  match findA i k es 0 with
  | some (some (n, _)) => es.modify n fun e => (k, v, e.2.2)
  | _ => es ++ [(k, v, c)]
def putC (i : TyI) (k : AVal) (es : List (AVal × AVal × Nat)) (c : Nat) : Nat :=
  match findA i k es 0 with
  | some (some _) => c
  | _ => c + 1

def mapPutK {R : Type} (T : TTab) (σ : Mem) (t : TypeId) (x k v : AVal) (K : Mem → Option R) : Option R :=
  match T t, x with
  | some { k := .map kt _, .. }, .map b =>
    match T kt, σ.get b with
    | some ki, some (.map es c) =>
      if (keyEq ki k k).isSome ∧ sc 0 k = true ∧ sc 0 v = true then
        need (findA ki k es 0).isSome (K (σ.set b (.map (putE ki k v es c) (putC ki k es c))))
      else none
    | _, _ => none
  | _, _ => none

theorem mapPutK_spec {R : Type} {T : TTab} {σ : Mem} {t : TypeId} {x k v : AVal} {K : Mem → Option R} {r : R} (h : mapPutK T σ t x k v K = some r) : ∃ σ', mapPutA T σ t x k v = some σ' ∧ K σ' = some r := by
  unfold mapPutK at h
  split at h
  · rename_i hT
    split at h
    · rename_i ki es c hki hb
      split at h
      · rename_i hc
        obtain ⟨h1, h2⟩ := need_some h
        refine ⟨_, ?_, h2⟩
        simp only [mapPutA, hT, hki, hb]
        rw [if_pos hc]
        cases hf : findA ki k es 0 with
        | none => rw [hf] at h1; cases h1
        | some q =>
          cases q with
          | none => simp [putE, putC, hf]
          | some p => obtain ⟨n, u⟩ := p; simp [putE, putC, hf]
      · cases h
    · cases h
  · cases h

/-- What a map tells of a key. -/
def lookK {R : Type} (T : TTab) (σ : Mem) (t : TypeId) (x k : AVal) (ok : Bool) (K : AVal → Option R) : Option R :=
  match T t with
  | some { k := .map kt et, .. } =>
    match T kt, T et, entriesA σ x with
    | some ki, some ei, some es =>
      if (keyEq ki k k).isSome then
        match findA ki k es 0 with
        | some q => match q with
          | some p => match flatOf ei with
            | some ks => if ks ≠ [] ∧ ks.length = ei.size then
                need (rowOk ks p.2.cellsOf 0 && decide (p.2.cellsOf.length = ei.size) && (ei.agg == p.2.isAggV)) (K ((fun v => if ok then AVal.tup [v, .bool true] else v)
                  (if ei.agg then .agg (rowV p.2.cellsOf 0 ks 0) else (rowV p.2.cellsOf 0 ks 0).headD (.tup []))))
              else none
            | none => none
          | none => match zeroA ei with
            | some z => K (if ok then .tup [z, .bool false] else z)
            | none => none
        | none => none
      else none
    | _, _, _ => none
  | _ => none

theorem lookK_spec {R : Type} {T : TTab} {σ : Mem} {t : TypeId} {x k : AVal} {ok : Bool} {K : AVal → Option R} {r : R} (h : lookK T σ t x k ok K = some r) : ∃ v, lookupA T σ t x k ok = some v ∧ K v = some r := by
  unfold lookK at h
  split at h
  · rename_i hT
    split at h
    · rename_i ki ei es hki hei hes
      split at h
      · rename_i hk
        split at h
        · rename_i q hf
          split at h
          · rename_i p
            split at h
            · rename_i ks hks
              split at h
              · rename_i hl
                obtain ⟨n, v⟩ := p
                obtain ⟨h1, h2⟩ := need_some h
                simp only [Bool.and_eq_true, decide_eq_true_eq, beq_iff_eq] at h1
                refine ⟨_, ?_, h2⟩
                simp only [lookupA, hT, hki, hei, hes]
                rw [if_pos hk, hf]
                simp only [Option.some.injEq]
                have hv : v = (if ei.agg then .agg (rowV v.cellsOf 0 ks 0) else (rowV v.cellsOf 0 ks 0).headD (.tup [])) := by
                  rcases rowV_of (o := 0) (j := 0) (ks := ks) h1.1.1 with ⟨q1, q2⟩ | q
                  · simp only [Nat.add_zero, List.drop_zero] at q1
                    rw [List.take_of_length_le (by omega)] at q1
                    rw [← q1]
                    cases ha : ei.agg with
                    | true =>
                      have hv2 : v.isAggV = true := h1.2.symm.trans ha
                      cases v <;> simp only [AVal.isAggV, Bool.false_eq_true] at hv2
                      rfl
                    | false =>
                      have hv2 : v.isAggV = false := h1.2.symm.trans ha
                      cases v <;> simp only [AVal.isAggV, Bool.true_eq_false] at hv2 <;> rfl
                  · exact absurd q hl.1
                rw [← hv]
              · cases h
            · cases h
          · split at h
            · rename_i z hz
              refine ⟨_, ?_, h⟩
              simp only [lookupA, hT, hki, hei, hes]
              rw [if_pos hk, hf]
              simp only [hz, Option.map_some]
            · cases h
        · cases h
      · cases h
    · cases h
  · cases h

/-- One operation. -/
def opK {R : Type} (T : TTab) (ch : CH) (op : Op) (tm : List AVal) (σ : Mem) (k : ORes → Mem → Ow → Option R) : Option R :=
  match op with
  | .call { callee := .value f, args, .. } => match ev tm f, evL tm args.toList with
    | some (.func g fs cs), some vs => ch.call g (fs ++ vs ++ cs) σ fun r σ' o => match r with
      | .ret v => k (.val v) σ' o
      | .pan v => k (.pan v) σ' o
    | _, _ => none
  | .call { callee := .builtin .append, args, argTypes } => match argTypes.toList, evL tm args.toList with
    | [t, u], some [s, x] => match T u with
      | some { k := .slice _, .. } => appK T σ t s x fun v σ' => k (.val v) σ' .nil
      | _ => none
    | _, _ => none
  | .load t x => match ev tm x with
    | some a => loadK T σ t a fun v => k (.val v) σ .nil
    | none => none
  | .indexAddr t x i => match ev tm x, ev tm i with
    | some a, some b => idxK T σ t a b fun v => k (.val v) σ .nil
    | _, _ => none
  | .binOp o t x y _ => match ev tm x, ev tm y with
    | some a, some b => binK T o t a b fun v => k (.val v) σ .nil
    | _, _ => none
  | .mapUpdate t m kx x => match ev tm m, ev tm kx, ev tm x with
    | some a, some b, some v => mapPutK T σ t a b v fun σ' => k .skip σ' .nil
    | _, _, _ => none
  | .lookup t x kx ok => match ev tm x, ev tm kx with
    | some a, some b => lookK T σ t a b ok fun v => k (.val v) σ .nil
    | _, _ => none
  | op => match aexec T noHooks op tm σ with
    | some (r, σ') => k r σ' .nil
    | none => none

theorem aexec_noHooks {T : TTab} {H : Hooks} {op : Op} {tm : List AVal} {σ : Mem} {r : ORes × Mem} (h : aexec T noHooks op tm σ = some r) : aexec T H op tm σ = some r := by
  unfold aexec at h ⊢
  split at h <;> first | exact h | skip
  split at h
  · simp [callA, noHooks] at h
    split at h <;> cases h
  · cases h

theorem opK_spec {R : Type} {T : TTab} {ch : CH} {op : Op} {tm : List AVal} {σ : Mem} {k : ORes → Mem → Ow → Option R} {r : R} (h : opK T ch op tm σ k = some r) :
    ∃ x σ' o, k x σ' o = some r ∧ (o.ok → aexec T ch.H op tm σ = some (x, σ')) := by
  unfold opK at h
  split at h
  · split at h
    · rename_i g fs cs vs hf hvs
      obtain ⟨r1, σ', o, h1, h2⟩ := CH.of_call h
      cases r1 with
      | ret v => exact ⟨_, _, _, h1, fun ho => by simp only [aexec, hf, hvs, callA, h2 ho]⟩
      | pan v => exact ⟨_, _, _, h1, fun ho => by simp only [aexec, hf, hvs, callA, h2 ho]⟩
    · cases h
  · split at h
    · rename_i hts hvs
      split at h
      · rename_i hTu
        obtain ⟨v, σ', h1, h2⟩ := appK_spec h
        exact ⟨_, _, _, h2, fun _ => by simp only [aexec, hvs, hts, builtinA, hTu, h1, Option.map_some]⟩
      · cases h
    · cases h
  · split at h
    · rename_i hx
      obtain ⟨v, h1, h2⟩ := loadK_spec h
      exact ⟨_, _, _, h2, fun _ => by simp only [aexec, hx, h1, Option.map_some]⟩
    · cases h
  · split at h
    · rename_i hx hi
      obtain ⟨v, h1, h2⟩ := idxK_spec h
      exact ⟨_, _, _, h2, fun _ => by simp only [aexec, hx, hi, h1, Option.map_some]⟩
    · cases h
  · split at h
    · rename_i hx hi
      obtain ⟨v, h1, h2⟩ := binK_spec h
      exact ⟨_, _, _, h2, fun _ => by simp only [aexec, hx, hi, h1, Option.map_some]⟩
    · cases h
  · split at h
    · rename_i hx hi hv
      obtain ⟨v, h1, h2⟩ := mapPutK_spec h
      exact ⟨_, _, _, h2, fun _ => by simp only [aexec, hx, hi, hv, h1, Option.map_some]⟩
    · cases h
  · split at h
    · rename_i hx hi
      obtain ⟨v, h1, h2⟩ := lookK_spec h
      exact ⟨_, _, _, h2, fun _ => by simp only [aexec, hx, hi, h1, Option.map_some]⟩
    · cases h
  · split at h
    · rename_i hx
      exact ⟨_, _, _, h, fun _ => aexec_noHooks hx⟩
    · cases h

def stepK {R : Type} (T : TTab) (ch : CH) (all : List Oper) (o : Oper) (s : St) (k : AVal → Mem → Ow → Option R) (kp : AVal → Mem → Ow → Option R) : Option R :=
  if gj all o s.tm then none else if wantedA all o s.tm then
    opK T ch o.op s.tm s.mem fun r σ ow => match r with
      | .val v => splitB v fun v => k v σ ow
      | .skip => k (.tup []) σ ow
      | .pan v => kp v σ ow
  else k (.tup []) s.mem .nil

def runK {R : Type} (T : TTab) (ch : CH) (all : List Oper) : List Oper → St → Ow → (St → Ow → Option R) → (AVal → St → Ow → Option R) → Option R
  | [], s, ow, k, _ => k s ow
  | o :: r, s, ow, k, kp => stepK T ch all o s (fun v σ o' => runK T ch all r ⟨setD s.tm o.dst v, s.df, σ⟩ (ow.app o') k kp) (fun v σ o' => kp v ⟨s.tm, s.df, σ⟩ (ow.app o'))

def trK {R : Type} (T : TTab) (ch : CH) (all : List Oper) : List Oper → St → Ow → (List (St × AVal) → St → Ow → Option R) → Option R
  | [], s, ow, k => k [] s ow
  | o :: r, s, ow, k => stepK T ch all o s (fun v σ o' => trK T ch all r ⟨setD s.tm o.dst v, s.df, σ⟩ (ow.app o') fun l e ow' => k ((s, v) :: l) e ow') (fun _ _ _ => none)

/-- An operation that leaves what was there as it was. -/
def extOp (ch : CH) (o : Oper) (tm : List AVal) : Bool :=
  match o.op with
  | .alloc _ | .box .. | .buildSlice .. => true
  | .makeMap _ none => true
  | .call { callee := .value f, .. } => match ev tm f with
    | some (.func g _ _) => ch.ext g
    | _ => false
  | _ => !isMem o

/-- The names that an operation looks at are older. -/
def opSc (op : Op) (tm : List AVal) (n : Nat) : Bool := (tmpsOf op.operands.toList).all fun t => sc n (tm.getD t (.tup []))

def allExt (ch : CH) (all : List Oper) : List Oper → List (St × AVal) → List Bool
  | o :: r, (s, _) :: tr => (!(wantedA all o s.tm) || extOp ch o s.tm) :: allExt ch all r tr
  | _, _ => []

/-- Between two places nothing older is changed. -/
def quietB (es : List Bool) (i c : Nat) : Bool := ((es.drop (min i c)).take (max i c - min i c)).all id

/-- What the reading operations read where they may come up and something may have changed, and what they read in their place. -/
noncomputable def readX (T : TTab) (H : Hooks) (all : List Oper) (es : List Bool) (mems : List Mem) : List Oper → Nat → List (List Nat) → List (St × AVal) → List (Option AVal × Option AVal)
  | o :: r, i, cs :: ps, (s, _) :: tr => (if wantedA all o s.tm then (cs.filter fun c => !(quietB es i c && decide (c < mems.length) && opSc o.op s.tm (min s.mem.next (mems.getD c ⟨0, []⟩).next))).map fun c => ((mems[c]?).bind fun σ => (aexec T H o.op s.tm σ).bind fun x => match x.1 with
      | .val u => some u
      | _ => none, rawOf (aexec T H o.op s.tm s.mem)) else []) ++ readX T H all es mems r (i + 1) ps tr
  | _, _, _, _ => []

noncomputable def drawK {R : Type} (T : TTab) (ch : CH) (all : List Oper) (s : St) (ow : Ow) (k : St → Ow → Option R) : Option R :=
  trK T ch all all s ow fun tr e ow' => k e (ow'.app (readX T ch.H all (allExt ch all all tr) (tr.map (·.1.mem) ++ [e.mem]) all 0 (planOf all) tr))

/-- A loop by what it does. -/
structure LA where
  run : {R : Type} → St → (AOut → St → Option R) → Option R
  nat : ∀ {R : Type} (s : St) (k : AOut → St → Option R), run s k = (run s fun o s' => some (o, s')).bind fun x => k x.1 x.2

def LaOk (P : Program) (n : Nat) (la : LA) (b : Code) : Prop :=
  ∀ s o s', (la.run s fun o s' => some (o, s')) = some (o, s') → AWPn P n (.loop b) s fun o1 s1 => o1 = o ∧ s1 = s'

def regOf : Code → Option Nat
  | .region id _ _ => some id
  | .seq a b => (regOf a).orElse fun _ => regOf b
  | .cond _ a b => (regOf a).orElse fun _ => regOf b
  | .block _ b => regOf b
  | .loop b => regOf b
  | .scope b => regOf b
  | .rangeFunc _ _ a b => (regOf a).orElse fun _ => regOf b
  | _ => none

abbrev Anns := Option Nat → Option LA
def noAnns : Anns := fun _ => none

noncomputable def evalK {R : Type} (T : TTab) (ch : CH) (A : Anns) : Nat → Code → St → Ow → (AOut → St → Ow → Option R) → Option R
  | 0, _, _, _, _ => none
  | n + 1, c, s, ow, K =>
    match c with
    | .skip => K .normal s ow
    | .label _ => K .normal s ow
    | .region _ ops false => runK T ch ops.toList ops.toList s ow (fun s' o' => K .normal s' o') (fun v s' o' => K (.pan v) s' o')
    | .region _ ops true => if statOk ops.toList then drawK T ch ops.toList s ow (fun s' o' => K .normal s' o') else none
    | .seq a b => evalK T ch A n a s ow fun o s' ow' => match o with
      | .normal => evalK T ch A n b s' ow' K
      | o => K o s' ow'
    | .cond c a b => match ev s.tm c with
      | some (.bool true) => evalK T ch A n a s ow K
      | some (.bool false) => evalK T ch A n b s ow K
      | _ => none
    | .block id b => evalK T ch A n b s ow fun o s' ow' => match o with
      | .exit i => if i = id then K .normal s' ow' else K (.exit i) s' ow'
      | o => K o s' ow'
    | .loop b => match A (regOf b) with
      | some la => la.run s fun o s' => K o s' ow
      | none => evalK T ch A n b s ow fun o s' ow' => match o with
        | .normal => evalK T ch A n (.loop b) s' ow' K
        | o => K o s' ow'
    | .exit id => K (.exit id) s ow
    | .goto l => K (.goto l) s ow
    | .ret => K .ret s ow
    | _ => none

/-! ### Soundness -/

section
variable {R : Type} {T : TTab} {ch : CH}

theorem stepK_spec {all : List Oper} {o : Oper} {s : St} {k kp : AVal → Mem → Ow → Option R} {r : R} (h : stepK T ch all o s k kp = some r) :
    (∃ v σ ow, k v σ ow = some r ∧ (ow.ok → stepV T ch.H all o s = some (v, σ))) ∨
    (∃ v σ ow, kp v σ ow = some r ∧ (ow.ok → stepOp T ch.H all o s = some (.pan v ⟨s.tm, s.df, σ⟩))) := by
  unfold stepK at h
  cases hg : gj all o s.tm with
  | true => rw [hg] at h; simp at h
  | false =>
    rw [hg] at h
    simp only [Bool.false_eq_true, if_false] at h
    split at h
    · rename_i hw
      obtain ⟨x, σ', ow, h1, h2⟩ := opK_spec h
      cases x with
      | val v =>
        simp only [splitB_eq] at h1
        exact .inl ⟨v, σ', ow, h1, fun ho => by simp only [stepV, hg, hw, h2 ho, Bool.false_eq_true, if_false, if_true]⟩
      | skip => exact .inl ⟨_, σ', ow, h1, fun ho => by simp only [stepV, hg, hw, h2 ho, Bool.false_eq_true, if_false, if_true]⟩
      | pan v => exact .inr ⟨v, σ', ow, h1, fun ho => by simp only [stepOp, hg, hw, h2 ho, Bool.false_eq_true, if_false, if_true]⟩
    · rename_i hw
      exact .inl ⟨_, _, _, h, fun _ => by simp only [stepV, hg, hw, Bool.false_eq_true, if_false]⟩

theorem runK_spec {all : List Oper} : ∀ {l : List Oper} {s : St} {ow : Ow} {k : St → Ow → Option R} {kp : AVal → St → Ow → Option R} {r : R}, runK T ch all l s ow k kp = some r →
    (∃ s' ow', k s' ow' = some r ∧ ow.le ow' ∧ (ow'.ok → runOps T ch.H all l s = some (.go s'))) ∨
    (∃ v s' ow', kp v s' ow' = some r ∧ ow.le ow' ∧ (ow'.ok → runOps T ch.H all l s = some (.pan v s')))
  | [], s, ow, k, kp, r, h => .inl ⟨s, ow, h, .refl _, fun _ => rfl⟩
  | o :: l, s, ow, k, kp, r, h => by
    simp only [runK] at h
    rcases stepK_spec h with ⟨v, σ, o', h1, h2⟩ | ⟨v, σ, o', h1, h2⟩
    · rcases runK_spec h1 with ⟨s', ow', k1, k2, k3⟩ | ⟨v', s', ow', k1, k2, k3⟩
      · exact .inl ⟨s', ow', k1, (Ow.le_app ow o').trans k2, fun ho => by
          simp only [runOps, stepOp_of_stepV (h2 (Ow.ok_app (k2.ok ho)))]; exact k3 ho⟩
      · exact .inr ⟨v', s', ow', k1, (Ow.le_app ow o').trans k2, fun ho => by
          simp only [runOps, stepOp_of_stepV (h2 (Ow.ok_app (k2.ok ho)))]; exact k3 ho⟩
    · exact .inr ⟨v, _, _, h1, Ow.le_app _ _, fun ho => by simp only [runOps, h2 (Ow.ok_app ho)]⟩

theorem trK_spec {all : List Oper} : ∀ {l : List Oper} {s : St} {ow : Ow} {k : List (St × AVal) → St → Ow → Option R} {r : R}, trK T ch all l s ow k = some r →
    ∃ tr e ow', k tr e ow' = some r ∧ ow.le ow' ∧ (ow'.ok → trace T ch.H all l s = some (tr, e))
  | [], s, ow, k, r, h => ⟨[], s, ow, h, .refl _, fun _ => rfl⟩
  | o :: l, s, ow, k, r, h => by
    simp only [trK] at h
    rcases stepK_spec h with ⟨v, σ, o', h1, h2⟩ | ⟨v, σ, o', h1, _⟩
    · obtain ⟨tr, e, ow', k1, k2, k3⟩ := trK_spec h1
      exact ⟨_, e, ow', k1, (Ow.le_app ow o').trans k2, fun ho => by simp only [trace, h2 (Ow.ok_app (k2.ok ho)), k3 ho]⟩
    · cases h1

theorem ev_opSc {op : Op} {tm : List AVal} {n : Nat} (h : opSc op tm n = true) {x : Operand} (hx : x ∈ op.operands.toList) {v : AVal} (hv : ev tm x = some v) : sc n v = true := by
  cases x with
  | tmp t =>
    simp only [ev, Option.some.injEq] at hv
    subst hv
    exact (List.all_eq_true.1 h) t (tmpsOf_mem hx)
  | const c => exact (ofV_γ hv (fun _ => default) n).2
  | func f => simp only [ev, Option.some.injEq] at hv; subst hv; rfl
  | global g => simp [ev] at hv

theorem cellsAt_same {σ σ' : Mem} {b o n : Nat} (h : σ'.get b = σ.get b) : cellsAt σ' b o n = cellsAt σ b o n := by simp only [cellsAt, h]

theorem loadA_same {σ σ' : Mem} {t : TypeId} {x : AVal} {n : Nat} (hs : sc n x = true) (hg : ∀ i, i < n → σ'.get i = σ.get i) : loadA T σ' t x = loadA T σ t x := by
  unfold loadA
  split
  · rename_i i b o ht
    simp only [sc, decide_eq_true_eq] at hs
    rw [cellsAt_same (hg b hs)]
  · rfl

theorem lookupA_same {σ σ' : Mem} {t : TypeId} {x k : AVal} {ok : Bool} {n : Nat} (hs : sc n x = true) (hg : ∀ i, i < n → σ'.get i = σ.get i) : lookupA T σ' t x k ok = lookupA T σ t x k ok := by
  have : entriesA σ' x = entriesA σ x := by
    unfold entriesA
    split
    · rfl
    · rename_i b; simp only [sc, decide_eq_true_eq] at hs; rw [hg b hs]
    · rfl
  unfold lookupA
  rw [this]

theorem indexAddrA_same {σ σ' : Mem} {t : TypeId} {x k : AVal} {n : Nat} (hs : sc n x = true) (hg : ∀ i, i < n → σ'.get i = σ.get i) : indexAddrA T σ' t x k = indexAddrA T σ t x k := by
  unfold indexAddrA
  split
  · simp only [sc, decide_eq_true_eq] at hs
    rw [hg _ hs]
  all_goals rfl

theorem lenA_same {σ σ' : Mem} {t : TypeId} {x : AVal} {n : Nat} (hs : sc n x = true) (hg : ∀ i, i < n → σ'.get i = σ.get i) : lenA T σ' t x = lenA T σ t x := by
  unfold lenA
  split
  · rfl
  · split <;> first
      | rfl
      | (simp only [sc, decide_eq_true_eq] at hs; rw [hg _ hs])

theorem rawOf_pure {σ : Mem} {r : Option AVal} : rawOf (r.map fun v => ((ORes.val v, σ) : ORes × Mem)) = r := by cases r <;> rfl

/-- A reading operation reads the same in a memory that has more. -/
theorem read_same {H : Hooks} {op : Op} {tm : List AVal} {σ σ' : Mem} (hk : kindOf op = 1) (he : Ext σ σ') (hs : opSc op tm σ.next = true) : rawOf (aexec T H op tm σ') = rawOf (aexec T H op tm σ) := by
  have hg := he.2
  cases op <;> simp only [kindOf] at hk <;> first | (cases hk; done) | skip
  case load t x =>
    simp only [aexec]
    cases hx : ev tm x with
    | none => rfl
    | some a => simp only [rawOf_pure]; exact loadA_same (ev_opSc hs (by simp [Op.operands]) hx) hg
  case indexAddr t x i =>
    simp only [aexec]
    cases hx : ev tm x with
    | none => rfl
    | some a =>
      cases hi : ev tm i with
      | none => rfl
      | some b => simp only [rawOf_pure]; exact indexAddrA_same (ev_opSc hs (by simp [Op.operands]) hx) hg
  case lookup t x i ok =>
    simp only [aexec]
    cases hx : ev tm x with
    | none => rfl
    | some a =>
      cases hi : ev tm i with
      | none => rfl
      | some b => simp only [rawOf_pure]; exact lookupA_same (ev_opSc hs (by simp [Op.operands]) hx) hg
  case call c =>
    obtain ⟨callee, args, argTypes⟩ := c
    cases callee with
    | invoke r m => simp [kindOf] at hk
    | value f => simp [kindOf] at hk
    | builtin b =>
      simp only [aexec]
      cases hv : evL tm args.toList with
      | none => rfl
      | some vs =>
        have hk' : b = .len ∨ b = .max ∨ b = .min := by cases b <;> simp_all [kindOf]
        simp only [builtinA]
        split
        · rename_i t ts x xs hts
          simp only [rawOf_pure]
          have hx : ∃ o ∈ args.toList, ev tm o = some x := by
            cases ha : args.toList with
            | nil => rw [ha] at hv; simp [evL] at hv
            | cons o l =>
              rw [ha] at hv
              simp only [evL] at hv
              split at hv
              · rename_i v us h1 h2
                simp only [Option.some.injEq, List.cons.injEq] at hv
                exact ⟨o, List.mem_cons_self .., by rw [h1, hv.1]⟩
              · cases hv
          obtain ⟨o, ho, hox⟩ := hx
          refine lenA_same (ev_opSc hs ?_ hox) hg
          simp only [Op.operands, Call.operands, Array.toList_append, List.mem_append]
          exact .inr ho
        · rcases hk' with h | h | h <;> cases h
        · simp only [rawOf_pure]
        · simp only [rawOf_pure]
        · rfl

/-- What an operation that only makes does. -/
theorem stepV_ext {P : Program} (hH : CHOk P ch) {all : List Oper} {o : Oper} {s : St} {v : AVal} {σ' : Mem} (h : stepV T ch.H all o s = some (v, σ')) (he : (!(wantedA all o s.tm) || extOp ch o s.tm) = true) : Ext s.mem σ' := by
  unfold stepV at h
  split at h
  · cases h
  · split at h
    · rename_i hw
      simp only [hw, Bool.not_true, Bool.false_or] at he
      have key : ∀ r, aexec T ch.H o.op s.tm s.mem = some (r, σ') → Ext s.mem σ' := by
        intro r hr
        by_cases hk : kindOf o.op = 2
        · unfold extOp at he
          split at he
          · rename_i t ho
            simp only [ho, aexec] at hr
            split at hr
            · cases hr
            · cases hr; exact .push _ _
          · rename_i t x ho
            simp only [ho, aexec] at hr
            split at hr
            · split at hr
              · cases hr
              · cases hr; exact .push _ _
            · cases hr
          · rename_i t n ps ho
            simp only [ho, aexec] at hr
            split at hr
            · rename_i vs _
              cases hb : buildSliceA T s.mem t n vs with
              | none => rw [hb] at hr; cases hr
              | some q =>
                rw [hb] at hr; cases hr
                unfold buildSliceA at hb
                split at hb
                · split at hb
                  · cases hb
                  · split at hb
                    · cases hb
                    · split at hb
                      · cases hb
                      · cases hb; exact .push _ _
                · cases hb
            · cases hr
          · rename_i t ho
            simp only [ho, aexec] at hr
            cases hr; exact .push _ _
          · rename_i f args ats ho
            simp only [ho, aexec] at hr
            split at he
            · rename_i g fs cs hf
              rw [hf] at hr
              split at hr
              · rename_i g' vs hg' hvs
                simp only [Option.some.injEq] at hg'
                subst hg'
                simp only [callA] at hr
                split at hr
                · rename_i v1 σ1 hh
                  cases hr; exact hH.2 _ _ _ _ _ he hh
                · rename_i v1 σ1 hh
                  cases hr; exact hH.2 _ _ _ _ _ he hh
                · cases hr
              · cases hr
            · cases he
          · simp [isMem, hk] at he
        · obtain ⟨q, _⟩ := aexec_still hk hr
          rw [q]; exact .refl _
      split at h
      · rename_i u σ1 hx
        simp only [Option.some.injEq, Prod.mk.injEq] at h
        obtain ⟨_, rfl⟩ := h
        exact key _ hx
      · rename_i σ1 hx
        simp only [Option.some.injEq, Prod.mk.injEq] at h
        obtain ⟨_, rfl⟩ := h
        exact key _ hx
      · cases h
    · simp only [Option.some.injEq, Prod.mk.injEq] at h
      obtain ⟨_, rfl⟩ := h
      exact .refl _

def memsOf (tr : List (St × AVal)) (e : St) : List Mem := tr.map (·.1.mem) ++ [e.mem]

theorem trace_mems {P : Program} (hH : CHOk P ch) {all : List Oper} : ∀ {l : List Oper} {s : St} {tr : List (St × AVal)} {e : St}, trace T ch.H all l s = some (tr, e) →
    tr.length = l.length ∧ (memsOf tr e)[0]? = some s.mem ∧ ∀ j, (allExt ch all l tr).getD j false = true → Ext ((memsOf tr e).getD j ⟨0, []⟩) ((memsOf tr e).getD (j + 1) ⟨0, []⟩)
  | [], s, tr, e, h => by
    simp only [trace, Option.some.injEq, Prod.mk.injEq] at h
    obtain ⟨rfl, rfl⟩ := h
    exact ⟨rfl, rfl, fun j hj => by simp [allExt] at hj⟩
  | o :: l, s, tr, e, h => by
    simp only [trace] at h
    split at h
    · rename_i v σ hv
      split at h
      · rename_i tr1 e1 hl
        simp only [Option.some.injEq, Prod.mk.injEq] at h
        obtain ⟨rfl, rfl⟩ := h
        obtain ⟨i1, i2, i3⟩ := trace_mems hH hl
        refine ⟨by simp [i1], rfl, fun j hj => ?_⟩
        cases j with
        | zero =>
          simp only [allExt, List.getD_cons_zero] at hj
          have := stepV_ext hH hv hj
          have e2 : (memsOf ((s, v) :: tr1) e1).getD 1 ⟨0, []⟩ = σ := by
            have : (memsOf ((s, v) :: tr1) e1)[1]? = some σ := i2
            rw [List.getD_eq_getElem?_getD, this]; rfl
          rw [e2]; exact this
        | succ j =>
          simp only [allExt, List.getD_cons_succ] at hj
          exact i3 j hj
      · cases h
    · cases h

theorem ext_range {mems : List Mem} {es : List Bool} (hE : ∀ j, es.getD j false = true → Ext (mems.getD j ⟨0, []⟩) (mems.getD (j + 1) ⟨0, []⟩)) {a : Nat} : ∀ (n : Nat), ((es.drop a).take n).all id = true → n ≤ es.length - a → Ext (mems.getD a ⟨0, []⟩) (mems.getD (a + n) ⟨0, []⟩)
  | 0, _, _ => .refl _
  | n + 1, h, hn => by
    have hlt : a + n < es.length := by omega
    have h1 : ((es.drop a).take n).all id = true := by
      rw [List.all_eq_true] at h ⊢
      exact fun x hx => h x ((List.take_prefix_take_left (Nat.le_succ n)).subset hx)
    have h2 : es.getD (a + n) false = true := by
      rw [List.all_eq_true] at h
      have : es[a + n] ∈ (es.drop a).take (n + 1) := by
        rw [List.mem_take_iff_getElem]
        exact ⟨n, by simp; omega, by simp⟩
      have := h _ this
      rw [List.getD_eq_getElem?_getD, List.getElem?_eq_getElem hlt]; exact this
    exact (ext_range hE n h1 (by omega)).trans (hE _ h2)

theorem opSc_mono {op : Op} {tm : List AVal} {n m : Nat} (h : n ≤ m) (hs : opSc op tm n = true) : opSc op tm m = true := by
  unfold opSc at *
  rw [List.all_eq_true] at *
  exact fun t ht => sc_mono h _ (hs t ht)

theorem readX_ok {H : Hooks} {all : List Oper} {es : List Bool} {mems : List Mem} (hE : ∀ j, es.getD j false = true → Ext (mems.getD j ⟨0, []⟩) (mems.getD (j + 1) ⟨0, []⟩)) (hlen : mems.length = es.length + 1) :
    ∀ (l : List Oper) (i : Nat) (pl : List (List Nat)) (tr : List (St × AVal)), (∀ (j : Nat) (q : St × AVal), tr[j]? = some q → mems[i + j]? = some q.1.mem) → (∀ (j : Nat) (o : Oper) (cs : List Nat), l[j]? = some o → pl[j]? = some cs → cs ≠ [] → kindOf o.op = 1) →
    (∀ p ∈ readX T H all es mems l i pl tr, p.1 = p.2) → ∀ p ∈ readG3 T H all mems l pl tr, p.1 = p.2
  | [], i, pl, tr, _, _, _ => by cases pl <;> cases tr <;> (intro p hp; simp [readG3] at hp)
  | o :: r, i, [], tr, _, _, _ => by cases tr <;> (intro p hp; simp [readG3] at hp)
  | o :: r, i, cs :: ps, [], _, _, _ => by intro p hp; simp [readG3] at hp
  | o :: r, i, cs :: ps, (s, v) :: tr, hm, hk, h => by
    simp only [readX, List.mem_append] at h
    intro p hp
    simp only [readG3, List.mem_append] at hp
    rcases hp with hp | hp
    · cases hw : wantedA all o s.tm with
      | false => rw [hw] at hp; simp at hp
      | true =>
        rw [hw] at hp h
        simp only [if_true, List.mem_map] at hp h
        obtain ⟨c, hc, rfl⟩ := hp
        cases hq : quietB es i c && decide (c < mems.length) && opSc o.op s.tm (min s.mem.next (mems.getD c ⟨0, []⟩).next) with
        | false => exact h _ (.inl ⟨c, List.mem_filter.2 ⟨hc, by rw [hq]; rfl⟩, rfl⟩)
        | true =>
          simp only [Bool.and_eq_true, decide_eq_true_eq] at hq
          obtain ⟨⟨q1, q2⟩, q3⟩ := hq
          have hk1 : kindOf o.op = 1 := hk 0 o cs rfl rfl (List.ne_nil_of_mem hc)
          have hmi : mems[i]? = some s.mem := hm 0 (s, v) rfl
          have hil : i < mems.length := (List.getElem?_eq_some_iff.1 hmi).1
          have hmc : mems[c]? = some (mems.getD c ⟨0, []⟩) := by rw [List.getD_eq_getElem?_getD, List.getElem?_eq_getElem q2]; rfl
          have hgi : mems.getD i ⟨0, []⟩ = s.mem := by rw [List.getD_eq_getElem?_getD, hmi]; rfl
          have hval : ∀ σ, ((aexec T H o.op s.tm σ).bind fun x => match x.1 with
              | .val u => some u
              | _ => none) = rawOf (aexec T H o.op s.tm σ) := by
            intro σ
            cases hx : aexec T H o.op s.tm σ with
            | none => rfl
            | some x =>
              obtain ⟨x, y⟩ := x
              obtain ⟨_, u, hu⟩ := aexec_still (by omega) hx
              subst hu; rfl
          simp only [hmc, Option.bind_some]
          refine (hval _).trans ?_
          unfold quietB at q1
          rcases Nat.le_total c i with hci | hci
          · have := ext_range hE (a := c) (i - c) (by rwa [Nat.min_eq_right hci, Nat.max_eq_left hci] at q1) (by omega)
            rw [show c + (i - c) = i by omega, hgi] at this
            exact (read_same hk1 this (opSc_mono (Nat.min_le_right _ _) q3)).symm
          · have := ext_range hE (a := i) (c - i) (by rwa [Nat.min_eq_left hci, Nat.max_eq_right hci] at q1) (by omega)
            rw [show i + (c - i) = c by omega, hgi] at this
            exact read_same hk1 this (opSc_mono (Nat.min_le_left _ _) q3)
    · refine readX_ok hE hlen r (i + 1) ps tr ?_ ?_ (fun q hq => h q (.inr hq)) p hp
      · intro j q hj
        have := hm (j + 1) q (by simpa using hj)
        rw [show i + 1 + j = i + (j + 1) by omega]; exact this
      · intro j o' cs' h1 h2 h3
        exact hk (j + 1) o' cs' (by simpa using h1) (by simpa using h2) h3

theorem planOf_kind {all : List Oper} {j : Nat} {o : Oper} {cs : List Nat} (h1 : all[j]? = some o) (h2 : (planOf all)[j]? = some cs) (h3 : cs ≠ []) : kindOf o.op = 1 := by
  simp only [planOf, List.getElem?_map, List.getElem?_zipIdx, h1, Option.map_some, Option.some.injEq] at h2
  split at h2
  · rename_i hk; simpa using hk
  · exact absurd h2.symm h3

theorem allExt_length {all : List Oper} : ∀ {l : List Oper} {tr : List (St × AVal)}, tr.length = l.length → (allExt ch all l tr).length = l.length
  | [], [], _ => rfl
  | [], _ :: _, h => by simp at h
  | _ :: _, [], h => by simp at h
  | o :: l, (s, v) :: tr, h => by simp only [allExt, List.length_cons] at *; rw [allExt_length (by omega)]

theorem drawK_spec {P : Program} (hH : CHOk P ch) {all : List Oper} {s : St} {ow : Ow} {k : St → Ow → Option R} {r : R} (h : drawK T ch all s ow k = some r) :
    ∃ s' ow', k s' ow' = some r ∧ ow.le ow' ∧ (ow'.ok → runDraw T ch.H all s = some s') := by
  obtain ⟨tr, e, ow', h1, h2, h3⟩ := trK_spec h
  refine ⟨e, _, h1, h2.trans (Ow.le_app _ _), fun ho => ?_⟩
  have ht := h3 ((Ow.le_app _ _).ok ho)
  obtain ⟨t1, t2, t3⟩ := trace_mems hH ht
  refine runDraw_of_plan rfl ?_
  unfold runPlan
  rw [ht]
  show (if readsP T ch.H all (memsOf tr e) all (planOf all) tr = true then some e else none) = some e
  rw [if_pos (readG_ok _ _ _ (readG3_ok _ _ _ _ _ ht (readX_ok (es := allExt ch all all tr) (mems := memsOf tr e) t3 (by simp [memsOf, t1, allExt_length t1]) all 0 (planOf all) tr ?_ (fun j o cs q1 q2 q3 => planOf_kind q1 q2 q3) (fun q hq => Ow.ok_app ho q hq))))]
  intro j q hj
  simp only [memsOf, Nat.zero_add]
  rw [List.getElem?_append_left (by have := (List.getElem?_eq_some_iff.1 hj).1; simpa using this), List.getElem?_map, hj]; rfl

/-- Rounds of a loop. -/
def RoundsA (P : Program) (n : Nat) (b : Code) : Nat → St → AOut → St → Prop
  | 0, _, _, _ => False
  | m + 1, s, o, s' => (o ≠ .normal ∧ AWPn P n b s fun o1 s1 => o1 = o ∧ s1 = s') ∨ ∃ s1, (AWPn P n b s fun o1 s2 => o1 = .normal ∧ s2 = s1) ∧ RoundsA P n b m s1 o s'

theorem rounds_of {P : Program} {n : Nat} {b : Code} {w0 : W0} : ∀ (m : Nat) {s : St} {o : AOut} {s' : St} (ρ : Nat → Loc) (a : Act) (w : World), RoundsA P n b m s o s' → n ≤ s.mem.next → SRel w0 ρ s a w →
    Code.rounds P b (fun e a' w' => ∃ o1 s1, (o1 = o ∧ s1 = s') ∧ After w0 ρ n o1 s1 e a' w') m a w
  | 0, s, o, s', ρ, a, w, h, _, _ => h.elim
  | m + 1, s, o, s', ρ, a, w, h, hn, hr => by
    rw [rounds_succ]
    rcases h with ⟨ho, h⟩ | ⟨s1, h, k⟩
    · refine wp_mono (h hn w0 ρ a w hr) ?_
      rintro e a' w' ⟨o1, s1, ⟨rfl, rfl⟩, ha⟩
      obtain ⟨ρ', rfl, k1, k2, k3, k4⟩ := ha
      cases o1 with
      | normal => exact absurd rfl ho
      | exit id => exact ⟨.exit id, s1, ⟨rfl, rfl⟩, ⟨ρ', rfl, k1, k2, k3, k4⟩⟩
      | goto id => exact ⟨.goto id, s1, ⟨rfl, rfl⟩, ⟨ρ', rfl, k1, k2, k3, k4⟩⟩
      | ret => exact ⟨.ret, s1, ⟨rfl, rfl⟩, ⟨ρ', rfl, k1, k2, k3, k4⟩⟩
      | pan v => exact ⟨.pan v, s1, ⟨rfl, rfl⟩, ⟨ρ', rfl, k1, k2, k3, k4⟩⟩
    · refine wp_mono (h hn w0 ρ a w hr) ?_
      rintro e a' w' ⟨o1, s2, ⟨rfl, rfl⟩, ha⟩
      obtain ⟨ρ', rfl, k1, k2, k3, k4⟩ := ha
      have := rounds_of m ρ' a' w' k k3 k1
      have mono : ∀ (m : Nat) (a : Act) (w : World), Code.rounds P b (fun e a' w' => ∃ o1 s1, (o1 = o ∧ s1 = s') ∧ After w0 ρ' n o1 s1 e a' w') m a w →
          Code.rounds P b (fun e a' w' => ∃ o1 s1, (o1 = o ∧ s1 = s') ∧ After w0 ρ n o1 s1 e a' w') m a w := by
        intro m
        induction m with
        | zero => intro a w h; exact h
        | succ m ih =>
          intro a w h
          rw [rounds_succ] at h ⊢
          refine wp_mono h ?_
          intro e a' w' q
          cases e with
          | normal => exact ih _ _ q
          | _ => obtain ⟨o1, s1, q1, q2⟩ := q; exact ⟨o1, s1, q1, q2.step k2⟩
      exact mono m a' w' this

theorem awpn_rounds {P : Program} {n m : Nat} {b : Code} {s : St} {o : AOut} {s' : St} (h : RoundsA P n b m s o s') : AWPn P n (.loop b) s fun o1 s1 => o1 = o ∧ s1 = s' :=
  fun hn _ ρ a w hr => wp_loop_rounds m (rounds_of m ρ a w h hn hr)

theorem evalK_sound {P : Program} {A : Anns} {k : Nat} (hT : TabOk P T) (hH : CHOk P ch) (hm : P.follows .mixedOrders = true) :
    ∀ (n : Nat) {R : Type} (c : Code) (s : St) (ow : Ow) (K : AOut → St → Ow → Option R) (r : R), (∀ b ∈ loopsOf c, ∀ la, A (regOf b) = some la → LaOk P k la b) → evalK T ch A n c s ow K = some r →
      ∃ o s' ow', K o s' ow' = some r ∧ ow.le ow' ∧ (ow'.ok → AWPn P k c s fun o1 s1 => o1 = o ∧ s1 = s') := by
  intro n
  induction n using Nat.strongRecOn with
  | _ n ih =>
    cases n with
    | zero => intro R c s ow K r _ h; simp [evalK] at h
    | succ n =>
      intro R c s ow K r hA h
      cases c with
      | skip => exact ⟨_, _, _, by simpa only [evalK] using h, .refl _, fun _ => (awp_skip (Φ := fun o1 s1 => o1 = .normal ∧ s1 = s) ⟨rfl, rfl⟩).to_n⟩
      | label l => exact ⟨_, _, _, by simpa only [evalK] using h, .refl _, fun _ => (awp_label (Φ := fun o1 s1 => o1 = .normal ∧ s1 = s) ⟨rfl, rfl⟩).to_n⟩
      | exit l => exact ⟨_, _, _, by simpa only [evalK] using h, .refl _, fun _ => (awp_exit (Φ := fun o1 s1 => o1 = .exit l ∧ s1 = s) ⟨rfl, rfl⟩).to_n⟩
      | goto l => exact ⟨_, _, _, by simpa only [evalK] using h, .refl _, fun _ => (awp_goto (Φ := fun o1 s1 => o1 = .goto l ∧ s1 = s) ⟨rfl, rfl⟩).to_n⟩
      | ret => exact ⟨_, _, _, by simpa only [evalK] using h, .refl _, fun _ => (awp_ret (Φ := fun o1 s1 => o1 = .ret ∧ s1 = s) ⟨rfl, rfl⟩).to_n⟩
      | region id ops d =>
        cases d with
        | false =>
          simp only [evalK] at h
          rcases runK_spec h with ⟨s', ow', h1, h2, h3⟩ | ⟨v, s', ow', h1, h2, h3⟩
          · exact ⟨_, _, _, h1, h2, fun ho => (awp_region hT hH.1 (h3 ho) (Φ := fun o1 s1 => o1 = .normal ∧ s1 = s') ⟨rfl, rfl⟩).to_n⟩
          · exact ⟨_, _, _, h1, h2, fun ho => (awp_region hT hH.1 (h3 ho) (Φ := fun o1 s1 => o1 = .pan v ∧ s1 = s') ⟨rfl, rfl⟩).to_n⟩
        | true =>
          simp only [evalK] at h
          split at h
          · rename_i hst
            obtain ⟨s', ow', h1, h2, h3⟩ := drawK_spec hH h
            exact ⟨_, _, _, h1, h2, fun ho => (awp_draw hT hH.1 hm hst (h3 ho) (Φ := fun o1 s1 => o1 = .normal ∧ s1 = s') ⟨rfl, rfl⟩).to_n⟩
          · cases h
      | seq a b =>
        simp only [evalK] at h
        have hAa : ∀ b ∈ loopsOf a, ∀ la, A (regOf b) = some la → LaOk P k la b := fun q hq => hA q (List.mem_append_left _ hq)
        have hAb : ∀ q ∈ loopsOf b, ∀ la, A (regOf q) = some la → LaOk P k la q := fun q hq => hA q (List.mem_append_right _ hq)
        obtain ⟨o, s1, ow1, h1, h2, h3⟩ := ih n (Nat.lt_succ_self n) a s ow _ r hAa h
        cases o with
        | normal =>
          obtain ⟨o2, s2, ow2, k1, k2, k3⟩ := ih n (Nat.lt_succ_self n) b s1 ow1 K r hAb h1
          refine ⟨o2, s2, ow2, k1, h2.trans k2, fun ho => awpn_seq ((h3 (k2.ok ho)).mono ?_)⟩
          rintro o1 s' ⟨rfl, rfl⟩
          exact k3 ho
        | exit i => exact ⟨_, _, _, h1, h2, fun ho => awpn_seq ((h3 ho).mono (by rintro o1 s' ⟨rfl, rfl⟩; exact ⟨rfl, rfl⟩))⟩
        | goto i => exact ⟨_, _, _, h1, h2, fun ho => awpn_seq ((h3 ho).mono (by rintro o1 s' ⟨rfl, rfl⟩; exact ⟨rfl, rfl⟩))⟩
        | ret => exact ⟨_, _, _, h1, h2, fun ho => awpn_seq ((h3 ho).mono (by rintro o1 s' ⟨rfl, rfl⟩; exact ⟨rfl, rfl⟩))⟩
        | pan v => exact ⟨_, _, _, h1, h2, fun ho => awpn_seq ((h3 ho).mono (by rintro o1 s' ⟨rfl, rfl⟩; exact ⟨rfl, rfl⟩))⟩
      | cond c a b =>
        simp only [evalK] at h
        split at h
        · rename_i hc
          obtain ⟨o, s1, ow1, h1, h2, h3⟩ := ih n (Nat.lt_succ_self n) a s ow _ r (fun q hq => hA q (List.mem_append_left _ hq)) h
          exact ⟨o, s1, ow1, h1, h2, fun ho => awpn_cond hc (h3 ho)⟩
        · rename_i hc
          obtain ⟨o, s1, ow1, h1, h2, h3⟩ := ih n (Nat.lt_succ_self n) b s ow _ r (fun q hq => hA q (List.mem_append_right _ hq)) h
          exact ⟨o, s1, ow1, h1, h2, fun ho => awpn_cond hc (h3 ho)⟩
        · cases h
      | block id b =>
        simp only [evalK] at h
        obtain ⟨o, s1, ow1, h1, h2, h3⟩ := ih n (Nat.lt_succ_self n) b s ow _ r hA h
        cases o with
        | exit i =>
          simp only at h1
          split at h1
          · rename_i e
            exact ⟨_, _, _, h1, h2, fun ho => awpn_block ((h3 ho).mono (by rintro o1 s' ⟨rfl, rfl⟩; simp only [AOut.inBlock]; rw [if_pos e]; exact ⟨trivial, trivial⟩))⟩
          · rename_i e
            exact ⟨_, _, _, h1, h2, fun ho => awpn_block ((h3 ho).mono (by rintro o1 s' ⟨rfl, rfl⟩; simp only [AOut.inBlock]; rw [if_neg e]; exact ⟨trivial, trivial⟩))⟩
        | normal => exact ⟨_, _, _, h1, h2, fun ho => awpn_block ((h3 ho).mono (by rintro o1 s' ⟨rfl, rfl⟩; exact ⟨rfl, rfl⟩))⟩
        | goto i => exact ⟨_, _, _, h1, h2, fun ho => awpn_block ((h3 ho).mono (by rintro o1 s' ⟨rfl, rfl⟩; exact ⟨rfl, rfl⟩))⟩
        | ret => exact ⟨_, _, _, h1, h2, fun ho => awpn_block ((h3 ho).mono (by rintro o1 s' ⟨rfl, rfl⟩; exact ⟨rfl, rfl⟩))⟩
        | pan v => exact ⟨_, _, _, h1, h2, fun ho => awpn_block ((h3 ho).mono (by rintro o1 s' ⟨rfl, rfl⟩; exact ⟨rfl, rfl⟩))⟩
      | loop b =>
        cases hla : A (regOf b) with
        | some la =>
          simp only [evalK, hla] at h
          rw [la.nat] at h
          obtain ⟨⟨o, s'⟩, h1, h2⟩ := Option.bind_eq_some_iff.1 h
          exact ⟨o, s', _, h2, .refl _, fun ho => hA b (by simp [loopsOf]) la hla s o s' h1⟩
        | none =>
          have hAb : ∀ q ∈ loopsOf b, ∀ la, A (regOf q) = some la → LaOk P k la q := fun q hq => hA q (by simp [loopsOf, hq])
          have key : ∀ (m : Nat), m ≤ n + 1 → ∀ (s : St) (ow : Ow), evalK T ch A m (.loop b) s ow K = some r →
              ∃ o s' ow', K o s' ow' = some r ∧ ow.le ow' ∧ (ow'.ok → ∃ j, RoundsA P k b j s o s') := by
            intro m
            induction m with
            | zero => intro _ s ow h; simp [evalK] at h
            | succ m ihm =>
              intro hmn s ow h
              simp only [evalK, hla] at h
              obtain ⟨o, s1, ow1, h1, h2, h3⟩ := ih m (by omega) b s ow _ r hAb h
              cases o with
              | normal =>
                obtain ⟨o2, s2, ow2, k1, k2, k3⟩ := ihm (by omega) s1 ow1 h1
                exact ⟨o2, s2, ow2, k1, h2.trans k2, fun ho => by
                  obtain ⟨j, hj⟩ := k3 ho
                  exact ⟨j + 1, .inr ⟨s1, h3 (k2.ok ho), hj⟩⟩⟩
              | exit i => exact ⟨_, _, _, h1, h2, fun ho => ⟨1, .inl ⟨by simp, h3 ho⟩⟩⟩
              | goto i => exact ⟨_, _, _, h1, h2, fun ho => ⟨1, .inl ⟨by simp, h3 ho⟩⟩⟩
              | ret => exact ⟨_, _, _, h1, h2, fun ho => ⟨1, .inl ⟨by simp, h3 ho⟩⟩⟩
              | pan v => exact ⟨_, _, _, h1, h2, fun ho => ⟨1, .inl ⟨by simp, h3 ho⟩⟩⟩
          obtain ⟨o, s', ow', h1, h2, h3⟩ := key (n + 1) (Nat.le_refl _) s ow h
          exact ⟨o, s', ow', h1, h2, fun ho => by obtain ⟨j, hj⟩ := h3 ho; exact awpn_rounds hj⟩
      | scope b => simp [evalK] at h
      | rangeFunc f ps a b => simp [evalK] at h
      | refuse w => simp [evalK] at h

end
end Go.Ev
