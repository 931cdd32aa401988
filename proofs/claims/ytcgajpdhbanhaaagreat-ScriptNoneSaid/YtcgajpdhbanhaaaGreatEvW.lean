import Derived.Test.YtcgajpdhbanhaaaGreatEvQ
import Derived.LoopN
import Derived.Scope
namespace Go.Ev
set_option linter.unusedVariables false
set_option linter.unusedSimpArgs false
abbrev Ow := List (Option AVal × Option AVal)
def Ow.nil : Ow := []
def Ow.app (a b : Ow) : Ow := a ++ b
def Ow.ok (a : Ow) : Prop := ∀ x ∈ a, x.1 = x.2
def Ow.le (a b : Ow) : Prop := ∃ x, b = a ++ x
theorem Ow.le.refl (a : Ow) : a.le a := ⟨[], by simp⟩
theorem Ow.le.trans {a b c : Ow} (h : a.le b) (k : b.le c) : a.le c := by
  obtain ⟨x, h1⟩ := h
  obtain ⟨z, k1⟩ := k
  exact ⟨x ++ z, by rw [k1, h1, List.append_assoc]⟩
theorem Ow.le.ok {a b : Ow} (h : a.le b) (k : b.ok) : a.ok := by
  obtain ⟨x, h1⟩ := h
  exact fun q hq => k q (by rw [h1]; exact List.mem_append_left _ hq)
theorem Ow.le_app (a b : Ow) : a.le (a.app b) := ⟨_, rfl⟩
theorem Ow.ok_app {a b : Ow} (h : (a.app b).ok) : b.ok := fun q hq => h q (List.mem_append_right _ hq)
theorem Ow.ok_nil : Ow.nil.ok := fun _ h => (by cases h)
structure CH where
  call : {R : Type} → FuncId → List AVal → Mem → (ARes → Mem → Ow → Option R) → Option R
  nat : ∀ {R : Type} (g : FuncId) (args : List AVal) (σ : Mem) (k : ARes → Mem → Ow → Option R),
    call g args σ k = (call g args σ fun r σ' o => some (r, σ', o)).bind fun x => k x.1 x.2.1 x.2.2
  ext : FuncId → Bool
  pf : FuncId → Nat
open Classical in
noncomputable def CH.H (ch : CH) : Hooks := fun g args σ =>
  match ch.call g args σ fun r σ' o => some (r, σ', o) with
  | some (r, σ', o) => if o.ok then some (r, σ') else none
  | none => none
def CH.Hb (ch : CH) : Hooks := fun g args σ =>
  match ch.call g args σ fun r σ' o => some (r, σ', o) with
  | some (r, σ', []) => some (r, σ')
  | _ => none
theorem CH.Hb_H {ch : CH} {g : FuncId} {args : List AVal} {σ : Mem} {x : ARes × Mem} (h : ch.Hb g args σ = some x) : ch.H g args σ = some x := by
  unfold CH.Hb at h
  split at h
  · rename_i r σ' hx
    simp only [CH.H, hx]
    rw [if_pos (show Ow.ok [] from Ow.ok_nil)]
    exact h
  · cases h
def CHOk (P : Program) (ch : CH) : Prop := HooksOk P ch.H ∧ (∀ g args σ r σ', ch.ext g = true → ch.H g args σ = some (r, σ') → Ext σ σ') ∧ PureOk ch.pf ch.H
theorem CH.of_call {ch : CH} {R : Type} {g : FuncId} {args : List AVal} {σ : Mem} {k : ARes → Mem → Ow → Option R} {x : R} (h : ch.call g args σ k = some x) :
    ∃ r σ' o, k r σ' o = some x ∧ (o.ok → ch.H g args σ = some (r, σ')) := by
  rw [ch.nat] at h
  obtain ⟨⟨r, σ', o⟩, h1, h2⟩ := Option.bind_eq_some_iff.1 h
  exact ⟨r, σ', o, h2, fun ho => by simp only [CH.H, h1, if_pos ho]⟩
def need {R : Type} (c : Bool) (x : Option R) : Option R :=
  match c with
  | true => x
  | false => none
theorem need_some {R : Type} {c : Bool} {x : Option R} {r : R} (h : need c x = some r) : c = true ∧ x = some r := by
  cases c with
  | true => exact ⟨rfl, h⟩
  | false => cases h
@[simp] theorem need_true {R : Type} (x : Option R) : need true x = x := rfl
@[simp] theorem need_false {R : Type} (x : Option R) : need false x = none := rfl
def splitB {R : Type} (v : AVal) (k : AVal → Option R) : Option R :=
  match v with
  | .bool b => cond b (k (.bool true)) (k (.bool false))
  | v => k v
theorem splitB_eq {R : Type} (v : AVal) (k : AVal → Option R) : splitB v k = k v := by
  cases v <;> try rfl
  case bool b => cases b <;> rfl
def geti (cs : List AVal) (i : Nat) : Int := match cs[i]? with
  | some (.int _ n) => n
  | _ => 0
def getb (cs : List AVal) (i : Nat) : Bool := match cs[i]? with
  | some (.bool b) => b
  | _ => false
def gets (cs : List AVal) (i : Nat) : ByteArray := match cs[i]? with
  | some (.str s) => s
  | _ => ⟨#[]⟩
def isK : TK → Option AVal → Bool
  | .int k, some (.int l _) => decide (k = l)
  | .bool, some (.bool _) => true
  | .str, some (.str _) => true
  | _, _ => false
def rowOk : List TK → List AVal → Nat → Bool
  | [], _, _ => true
  | k :: ks, cs, o => isK k (cs[o]?) && rowOk ks cs (o + 1)
def cellV (k : TK) (cs : List AVal) (i : Nat) : AVal :=
  match k with
  | .int k => .int k (geti cs i)
  | .bool => .bool (getb cs i)
  | .str => .str (gets cs i)
  | _ => .tup []
def rowV (cs : List AVal) (o : Nat) : List TK → Nat → List AVal
  | [], _ => []
  | k :: ks, j => cellV k cs (o + j) :: rowV cs o ks (j + 1)
theorem cellV_of {k : TK} {cs : List AVal} {i : Nat} (h : isK k (cs[i]?) = true) : cs[i]? = some (cellV k cs i) := by
  cases hc : cs[i]? with
  | none => rw [hc] at h; cases k <;> cases h
  | some v =>
    rw [hc] at h
    cases k <;> cases v <;> simp only [isK, Bool.false_eq_true, decide_eq_true_eq] at h
    · subst h; simp [cellV, geti, hc]
    · simp [cellV, getb, hc]
    · simp [cellV, gets, hc]
theorem rowV_of {cs : List AVal} {o : Nat} : ∀ {ks : List TK} {j : Nat}, rowOk ks cs (o + j) = true → (cs.drop (o + j)).take ks.length = rowV cs o ks j ∧ o + j + ks.length ≤ cs.length ∨ ks = []
  | [], j, _ => .inr rfl
  | k :: ks, j, h => by
    simp only [rowOk, Bool.and_eq_true] at h
    have h1 := cellV_of h.1
    have hl := (List.getElem?_eq_some_iff.1 h1).1
    refine .inl ?_
    have hd : cs.drop (o + j) = cellV k cs (o + j) :: cs.drop (o + j + 1) := by
      rw [List.drop_eq_getElem_cons hl]
      congr 1
      exact (List.getElem?_eq_some_iff.1 h1).2
    rcases rowV_of (j := j + 1) h.2 with ⟨i1, i2⟩ | rfl
    · refine ⟨?_, by simp only [List.length_cons]; omega⟩
      rw [hd]
      simp only [List.length_cons, List.take_succ_cons, rowV]
      congr 1
    · refine ⟨?_, by simp only [List.length_cons, List.length_nil]; omega⟩
      rw [hd]
      simp [rowV]
def flatOf (i : TyI) : Option (List TK) := if i.agg then i.flat else match i.k with
  | .slice _ => none
  | k => some [k]
def loadK {R : Type} (T : TTab) (σ : Mem) (t : TypeId) (x : AVal) (k : AVal → Option R) : Option R :=
  match x with
  | .ptr b o =>
    match T t, σ.get b with
    | some i, some (.vec cs _ _ _) => match flatOf i with
      | some ks => if ks.length = i.size ∧ ks ≠ [] then need (rowOk ks cs o) (k (if i.agg then .agg (rowV cs o ks 0) else (rowV cs o ks 0).headD (.tup []))) else none
      | none => match loadA T σ t (.ptr b o) with
        | some v => k v
        | none => none
    | some _, some (.cells _ _ _) => match loadA T σ t (.ptr b o) with
      | some v => k v
      | none => none
    | _, _ => none
  | _ => none
theorem loadK_spec {R : Type} {T : TTab} {σ : Mem} {t : TypeId} {x : AVal} {k : AVal → Option R} {r : R} (h : loadK T σ t x k = some r) : ∃ v, loadA T σ t x = some v ∧ k v = some r := by
  unfold loadK at h
  split at h
  · rename_i b o
    split at h
    · rename_i i cs _ _ _ hT hg
      split at h
      · rename_i ks hks
        split at h
        · rename_i hl
          obtain ⟨h1, h2⟩ := need_some h
          refine ⟨_, ?_, h2⟩
          rcases rowV_of (o := o) (j := 0) (ks := ks) h1 with ⟨q1, q2⟩ | q
          · simp only [Nat.add_zero] at q1 q2
            have hc : cellsAt σ b o i.size = some (rowV cs o ks 0) := by
              simp only [cellsAt, hg]
              rw [if_pos (by omega), ← hl.1, q1]
            simp only [loadA, hT, hc]
            split
            · rfl
            · cases ks with
              | nil => exact absurd rfl hl.2
              | cons a l => rfl
          · exact absurd q hl.2
        · cases h
      · split at h
        · rename_i v hv; exact ⟨v, hv, h⟩
        · cases h
    · split at h
      · rename_i v hv; exact ⟨v, hv, h⟩
      · cases h
    · cases h
  · cases h
def idxK {R : Type} (T : TTab) (σ : Mem) (t : TypeId) (x i : AVal) (k : AVal → Option R) : Option R :=
  match T t, x, i with
  | some { k := .slice e, .. }, .vec b, .int _ n =>
    match T e, σ.get b with
    | some j, some (.vec _ l _ _) => need (decide (0 ≤ n) && decide (n < (l : Int))) (k (.ptr b (n.toNat * j.size)))
    | _, _ => none
  | some { k := .slice e, .. }, .slice b o l _ _, .int _ n =>
    match T e with
    | none => none
    | some j => need (decide (0 ≤ n) && decide (n < (l : Int))) (k (.ptr b (o + n.toNat * j.size)))
  | some { k := .arr l e, .. }, .ptr b o, .int _ n =>
    match T e with
    | none => none
    | some j => need (decide (0 ≤ n) && decide (n < (l : Int))) (k (.ptr b (o + n.toNat * j.size)))
  | _, _, _ => none
theorem idxK_spec {R : Type} {T : TTab} {σ : Mem} {t : TypeId} {x i : AVal} {k : AVal → Option R} {r : R} (h : idxK T σ t x i k = some r) : ∃ v, indexAddrA T σ t x i = some v ∧ k v = some r := by
  unfold idxK at h
  split at h
  · rename_i hT
    split at h
    · rename_i hTe hg
      obtain ⟨h1, h2⟩ := need_some h
      simp only [Bool.and_eq_true, decide_eq_true_eq] at h1
      exact ⟨_, by simp only [indexAddrA, hT, hTe, hg]; rw [if_pos h1], h2⟩
    · cases h
  · rename_i hT
    split at h
    · cases h
    · rename_i hTe
      obtain ⟨h1, h2⟩ := need_some h
      simp only [Bool.and_eq_true, decide_eq_true_eq] at h1
      exact ⟨_, by simp only [indexAddrA, hT, hTe]; rw [if_pos h1], h2⟩
  · rename_i hT
    split at h
    · cases h
    · rename_i hTe
      obtain ⟨h1, h2⟩ := need_some h
      simp only [Bool.and_eq_true, decide_eq_true_eq] at h1
      exact ⟨_, by simp only [indexAddrA, hT, hTe]; rw [if_pos h1], h2⟩
  · cases h
def appK {R : Type} (T : TTab) (σ : Mem) (t : TypeId) (s x : AVal) (k : AVal → Mem → Option R) : Option R :=
  match T t with
  | some { k := .slice e, .. } =>
    match T e with
    | none => none
    | some j =>
      match elemsA σ j.size s, elemsA σ j.size x with
      | some (cs, l), some (ds, m) =>
        if j.size = 0 ∨ j.bytes = 0 then none else
        need (decide (2 * (l + m) * j.bytes ≤ 2 ^ 48)) (match appendB σ j cs l ds m s x with
          | some (v, σ') => k v σ'
          | none => none)
      | _, _ => none
  | _ => none
theorem appK_spec {R : Type} {T : TTab} {σ : Mem} {t : TypeId} {s x : AVal} {k : AVal → Mem → Option R} {r : R} (h : appK T σ t s x k = some r) : ∃ v σ', appendA T σ t s x = some (v, σ') ∧ k v σ' = some r := by
  unfold appK at h
  split at h
  · rename_i hT
    split at h
    · cases h
    · rename_i hTe
      split at h
      · rename_i hcs hds
        split at h
        · cases h
        · rename_i hz
          obtain ⟨h1, h2⟩ := need_some h
          simp only [decide_eq_true_eq] at h1
          split at h2
          · rename_i v σ' hb
            refine ⟨v, σ', ?_, h2⟩
            simp only [appendA, hT, hTe, hcs, hds]
            rw [if_neg (by rintro (q | q | q); exact hz (.inl q); exact hz (.inr q); omega), hb]
          · cases h2
      · cases h
  · cases h
def binK {R : Type} (T : TTab) (c : Bool) (op : BinOp) (t : TypeId) (x y : AVal) (k : AVal → Option R) : Option R :=
  match op, x, y with
  | .quo, .int κ a, .int l b => if κ = l then need (!decide (b = 0)) (k (.int κ (κ.wrap (a.tdiv b)))) else none
  | .rem, .int κ a, .int l b => if κ = l then need (!decide (b = 0)) (k (.int κ (a.tmod b))) else none
  | .shl, .int κ a, .int _ b => need (!decide (b < 0)) (k (.int κ (κ.wrap (a * 2 ^ (min b.toNat κ.bits)))))
  | .shr, .int κ a, .int _ b => need (!decide (b < 0)) (k (.int κ (a.fdiv (2 ^ (min b.toNat κ.bits)))))
  | op, x, y => match binA T c op t x y with
    | some v => k v
    | none => none
def makeK {R : Type} (T : TTab) (σ : Mem) (t : TypeId) (n : Int) (k : AVal → Mem → Option R) : Option R :=
  match T t with
  | some { k := .slice e, .. } =>
    match T e with
    | none => none
    | some j => need (makeB j n) (k (.slice σ.next 0 n.toNat true n.toNat) (σ.push (.cells (times j.zero n.toNat) true (some j.size))))
  | _ => none
theorem makeK_spec {R : Type} {T : TTab} {σ : Mem} {t : TypeId} {n : Int} {k : AVal → Mem → Option R} {r : R} (h : makeK T σ t n k = some r) : ∃ v σ', makeA T σ t n = some (v, σ') ∧ k v σ' = some r := by
  unfold makeK at h
  unfold makeA
  split at h
  · rename_i e hT
    split at h
    · cases h
    · rename_i j hj
      obtain ⟨h1, h2⟩ := need_some h
      exact ⟨_, _, by simp only [hT, hj, h1, cond_true], h2⟩
  · cases h
def binMK {R : Type} (T : TTab) (σ : Mem) (c n : Bool) (op : BinOp) (t : TypeId) (x y : AVal) (k : AVal → Option R) : Option R :=
  cond n (match nilB T σ op t x y with
    | some v => k v
    | none => binK T c op t x y k) (binK T c op t x y k)
theorem binK_spec {R : Type} {T : TTab} {c : Bool} {op : BinOp} {t : TypeId} {x y : AVal} {k : AVal → Option R} {r : R} (h : binK T c op t x y k = some r) : ∃ v, binA T c op t x y = some v ∧ k v = some r := by
  unfold binK at h
  split at h
  · rename_i κ a l b
    split at h
    · rename_i hk
      obtain ⟨h1, h2⟩ := need_some h
      have h1' : ¬ b = 0 := by simpa using h1
      exact ⟨_, by simp only [binA, hk, if_true, intOp]; rw [if_neg h1'], by rw [← hk]; exact h2⟩
    · cases h
  · rename_i κ a l b
    split at h
    · rename_i hk
      obtain ⟨h1, h2⟩ := need_some h
      have h1' : ¬ b = 0 := by simpa using h1
      exact ⟨_, by simp only [binA, hk, if_true, intOp]; rw [if_neg h1'], by rw [← hk]; exact h2⟩
    · cases h
  · obtain ⟨h1, h2⟩ := need_some h
    refine ⟨_, ?_, h2⟩
    simp only [binA, shiftOp]
    rw [if_neg (by simpa using h1)]
  · obtain ⟨h1, h2⟩ := need_some h
    refine ⟨_, ?_, h2⟩
    simp only [binA, shiftOp]
    rw [if_neg (by simpa using h1)]
  · split at h
    · rename_i v hv; exact ⟨v, hv, h⟩
    · cases h
theorem binMK_spec {R : Type} {T : TTab} {σ : Mem} {c n : Bool} {op : BinOp} {t : TypeId} {x y : AVal} {k : AVal → Option R} {r : R} (h : binMK T σ c n op t x y k = some r) : ∃ v, binM T σ c n op t x y = some v ∧ k v = some r := by
  unfold binMK at h
  cases n with
  | false => obtain ⟨v, h1, h2⟩ := binK_spec h; exact ⟨v, h1, h2⟩
  | true =>
    simp only [cond_true] at h
    split at h
    · rename_i v hv
      exact ⟨v, by simp only [binM, cond_true, hv], h⟩
    · rename_i hv
      obtain ⟨v, h1, h2⟩ := binK_spec h
      exact ⟨v, by simp only [binM, cond_true, hv]; exact h1, h2⟩
def putE (i : TyI) (k v : AVal) (es : List (AVal × AVal × Nat)) (c : Nat) : List (AVal × AVal × Nat) :=
  match findA i k es 0 with
  | some (some (n, _)) => es.modify n fun e => (k, v, e.2.2)
  | _ => es ++ [(k, v, c)]
def putC (i : TyI) (k : AVal) (es : List (AVal × AVal × Nat)) (c : Nat) : Nat :=
  match findA i k es 0 with
  | some (some _) => c
  | _ => c + 1
def mapPutK {R : Type} (T : TTab) (σ : Mem) (t : TypeId) (x k v : AVal) (K : Mem → Option R) : Option R :=
  match T t, x with
  | some { k := .map kt _, .. }, .map b =>
    match T kt, σ.get b with
    | some ki, some (.map es c) =>
      if (keyEq ki k k).isSome ∧ sc 0 k = true ∧ sc 0 v = true then
        need (findA ki k es 0).isSome (K (σ.set b (.map (putE ki k v es c) (putC ki k es c))))
      else none
    | _, _ => none
  | _, _ => none
theorem mapPutK_spec {R : Type} {T : TTab} {σ : Mem} {t : TypeId} {x k v : AVal} {K : Mem → Option R} {r : R} (h : mapPutK T σ t x k v K = some r) : ∃ σ', mapPutA T σ t x k v = some σ' ∧ K σ' = some r := by
  unfold mapPutK at h
  split at h
  · rename_i hT
    split at h
    · rename_i ki es c hki hb
      split at h
      · rename_i hc
        obtain ⟨h1, h2⟩ := need_some h
        refine ⟨_, ?_, h2⟩
        simp only [mapPutA, hT, hki, hb]
        rw [if_pos hc]
        cases hf : findA ki k es 0 with
        | none => rw [hf] at h1; cases h1
        | some q =>
          cases q with
          | none => simp [putE, putC, hf]
          | some p => obtain ⟨n, u⟩ := p; simp [putE, putC, hf]
      · cases h
    · cases h
  · cases h
def lookK {R : Type} (T : TTab) (σ : Mem) (t : TypeId) (x k : AVal) (ok : Bool) (K : AVal → Option R) : Option R :=
  match T t with
  | some { k := .map kt et, .. } =>
    match T kt, T et, entriesA σ x with
    | some ki, some ei, some es =>
      if (keyEq ki k k).isSome then
        match findA ki k es 0 with
        | some q => match q with
          | some p => match flatOf ei with
            | some ks => if ks ≠ [] ∧ ks.length = ei.size then
                need (rowOk ks p.2.cellsOf 0 && decide (p.2.cellsOf.length = ei.size) && (ei.agg == p.2.isAggV)) (K ((fun v => if ok then AVal.tup [v, .bool true] else v)
                  (if ei.agg then .agg (rowV p.2.cellsOf 0 ks 0) else (rowV p.2.cellsOf 0 ks 0).headD (.tup []))))
              else none
            | none => K (if ok then .tup [p.2, .bool true] else p.2)
          | none => match zeroA ei with
            | some z => K (if ok then .tup [z, .bool false] else z)
            | none => none
        | none => none
      else none
    | _, _, _ => none
  | _ => none
theorem lookK_spec {R : Type} {T : TTab} {σ : Mem} {t : TypeId} {x k : AVal} {ok : Bool} {K : AVal → Option R} {r : R} (h : lookK T σ t x k ok K = some r) : ∃ v, lookupA T σ t x k ok = some v ∧ K v = some r := by
  unfold lookK at h
  split at h
  · rename_i hT
    split at h
    · rename_i ki ei es hki hei hes
      split at h
      · rename_i hk
        split at h
        · rename_i q hf
          split at h
          · rename_i p
            split at h
            · rename_i ks hks
              split at h
              · rename_i hl
                obtain ⟨n, v⟩ := p
                obtain ⟨h1, h2⟩ := need_some h
                simp only [Bool.and_eq_true, decide_eq_true_eq, beq_iff_eq] at h1
                refine ⟨_, ?_, h2⟩
                simp only [lookupA, hT, hki, hei, hes]
                rw [if_pos hk, hf]
                simp only [Option.some.injEq]
                have hv : v = (if ei.agg then .agg (rowV v.cellsOf 0 ks 0) else (rowV v.cellsOf 0 ks 0).headD (.tup [])) := by
                  rcases rowV_of (o := 0) (j := 0) (ks := ks) h1.1.1 with ⟨q1, q2⟩ | q
                  · simp only [Nat.add_zero, List.drop_zero] at q1
                    rw [List.take_of_length_le (by omega)] at q1
                    rw [← q1]
                    cases ha : ei.agg with
                    | true =>
                      have hv2 : v.isAggV = true := h1.2.symm.trans ha
                      cases v <;> simp only [AVal.isAggV, Bool.false_eq_true] at hv2
                      rfl
                    | false =>
                      have hv2 : v.isAggV = false := h1.2.symm.trans ha
                      cases v <;> simp only [AVal.isAggV, Bool.true_eq_false] at hv2 <;> rfl
                  · exact absurd q hl.1
                rw [← hv]
              · cases h
            · obtain ⟨n, v⟩ := p
              refine ⟨_, ?_, h⟩
              simp only [lookupA, hT, hki, hei, hes]
              rw [if_pos hk, hf]
          · split at h
            · rename_i z hz
              refine ⟨_, ?_, h⟩
              simp only [lookupA, hT, hki, hei, hes]
              rw [if_pos hk, hf]
              simp only [hz, Option.map_some]
            · cases h
        · cases h
      · cases h
    · cases h
  · cases h
def storeK {R : Type} (T : TTab) (σ : Mem) (t : TypeId) (x v : AVal) (k : Mem → Option R) : Option R :=
  match T t, x with
  | some i, .ptr b o =>
    match σ.get b with
    | some (.vec cs n sz true) => if v.cellsOf.length = i.size ∧ v.isTup = false ∧ scC 0 v.cellsOf = true then
        need (decide (o + v.cellsOf.length ≤ cs.length)) (k (σ.set b (.vec (spliced cs o v.cellsOf) n sz true))) else none
    | some (.cells _ _ _) => match storeA T σ t (.ptr b o) v with
      | some σ' => k σ'
      | none => none
    | _ => none
  | _, _ => none
theorem storeK_spec {R : Type} {T : TTab} {σ : Mem} {t : TypeId} {x v : AVal} {k : Mem → Option R} {r : R} (h : storeK T σ t x v k = some r) : ∃ σ', storeA T σ t x v = some σ' ∧ k σ' = some r := by
  unfold storeK at h
  split at h
  · rename_i i b o hT
    split at h
    · rename_i cs n sz hg
      split at h
      · rename_i hc
        obtain ⟨h1, h2⟩ := need_some h
        rw [decide_eq_true_eq] at h1
        refine ⟨_, ?_, h2⟩
        simp only [storeA, hT]
        rw [if_pos ⟨hc.1, hc.2.1⟩]
        simp only [putA, hg]
        rw [if_pos ⟨h1, hc.2.2⟩]
      · cases h
    · split at h
      · rename_i σ' hs; exact ⟨σ', hs, h⟩
      · cases h
    · cases h
  · cases h
def byteAt (s : ByteArray) (i : Nat) : Int := match s[i]? with
  | some b => b.toNat
  | none => 0
def ixK {R : Type} (T : TTab) (t : TypeId) (x i : AVal) (k : AVal → Option R) : Option R :=
  match T t, x, i with
  | some { k := .str, .. }, .str s, .int _ n => need (decide (0 ≤ n) && decide (n < (s.size : Int))) (k (.int .u8 (byteAt s n.toNat)))
  | _, x, i => match indexA T t x i with
    | some v => k v
    | none => none
theorem ixK_spec {R : Type} {T : TTab} {t : TypeId} {x i : AVal} {k : AVal → Option R} {r : R} (h : ixK T t x i k = some r) : ∃ v, indexA T t x i = some v ∧ k v = some r := by
  unfold ixK at h
  split at h
  · rename_i hT
    obtain ⟨h1, h2⟩ := need_some h
    rw [Bool.and_eq_true, decide_eq_true_eq, decide_eq_true_eq] at h1
    refine ⟨_, ?_, h2⟩
    simp only [indexA, hT]
    rw [if_pos h1.1]
    rename_i s _ n
    have hn : n.toNat < s.size := by omega
    unfold byteAt
    rw [getElem?_pos s n.toNat hn]
    rfl
  · split at h
    · rename_i v hv; exact ⟨v, hv, h⟩
    · cases h
def opK {R : Type} (T : TTab) (ch : CH) (op : Op) (tm : List AVal) (σ : Mem) (k : ORes → Mem → Ow → Option R) : Option R :=
  match op with
  | .call { callee := .value f, args, argTypes } => match ev tm f, evL tm args.toList with
    | some (.func g fs cs), some vs => cond (dynRd f argTypes.toList)
      (cond (sc 0 (.func g fs cs) && scL 0 vs) (ch.call g (fs ++ vs ++ cs) ⟨0, []⟩ fun r σ' o => match r with
        | .ret v => cond (eqMem σ' ⟨0, []⟩ && sc 0 v) (k (.val v) σ o) none
        | .pan _ => none) none)
      (ch.call g (fs ++ vs ++ cs) σ fun r σ' o => match r with
        | .ret v => k (.val v) σ' o
        | .pan v => k (.pan v) σ' o)
    | _, _ => none
  | .call { callee := .builtin .append, args, argTypes } => match argTypes.toList, evL tm args.toList with
    | [t, u], some [s, x] => match T u with
      | some { k := .slice _, .. } => appK T σ t s x fun v σ' => k (.val v) σ' .nil
      | _ => none
    | _, _ => none
  | .load t x => match ev tm x with
    | some a => loadK T σ t a fun v => k (.val v) σ .nil
    | none => none
  | .indexAddr t x i => match ev tm x, ev tm i with
    | some a, some b => idxK T σ t a b fun v => k (.val v) σ .nil
    | _, _ => none
  | .store t x y => match ev tm x, ev tm y with
    | some a, some v => storeK T σ t a v fun σ' => k .skip σ' .nil
    | _, _ => none
  | .index t x i => match ev tm x, ev tm i with
    | some a, some b => ixK T t a b fun v => k (.val v) σ .nil
    | _, _ => none
  | .binOp o t x y _ => match ev tm x, ev tm y with
    | some a, some b => binMK T σ (isCst x || isCst y) (isNilC x || isNilC y) o t a b fun v => k (.val v) σ .nil
    | _, _ => none
  | .mapUpdate t m kx x => match ev tm m, ev tm kx, ev tm x with
    | some a, some b, some v => mapPutK T σ t a b v fun σ' => k .skip σ' .nil
    | _, _, _ => none
  | .makeSlice t l c => match sameO l c, ev tm l with
    | true, some (.int _ n) => makeK T σ t n fun v σ' => k (.val v) σ' .nil
    | _, _ => none
  | .lookup t x kx ok => match ev tm x, ev tm kx with
    | some a, some b => lookK T σ t a b ok fun v => k (.val v) σ .nil
    | _, _ => none
  | op => match aexec T noHooks op tm σ with
    | some (r, σ') => k r σ' .nil
    | none => none
theorem aexec_noHooks {T : TTab} {H : Hooks} {op : Op} {tm : List AVal} {σ : Mem} {r : ORes × Mem} (h : aexec T noHooks op tm σ = some r) : aexec T H op tm σ = some r := by
  unfold aexec at h ⊢
  split at h <;> first | exact h | skip
  split at h
  · rename_i g vs _ _
    have hn : ∀ σ, callA noHooks σ g vs = none := fun σ => by
      cases g <;> simp [callA, noHooks]
    simp only [dynR, hn] at h
    generalize dynRd _ _ = b at h
    cases b
    · cases h
    · simp only [cond_true] at h
      generalize (sc 0 g && scL 0 vs) = c at h
      cases c <;> cases h
  · cases h
theorem opK_spec {R : Type} {T : TTab} {ch : CH} {op : Op} {tm : List AVal} {σ : Mem} {k : ORes → Mem → Ow → Option R} {r : R} (h : opK T ch op tm σ k = some r) :
    ∃ x σ' o, k x σ' o = some r ∧ (o.ok → aexec T ch.H op tm σ = some (x, σ')) := by
  unfold opK at h
  split at h
  · rename_i f args ats
    split at h
    · rename_i g fs cs vs hf hvs
      cases hd : dynRd f ats.toList with
      | false =>
        rw [hd] at h
        obtain ⟨r1, σ', o, h1, h2⟩ := CH.of_call h
        cases r1 with
        | ret v => exact ⟨_, _, _, h1, fun ho => by simp only [aexec, hf, hvs, dynR, cond_false, callA, h2 ho, hd]⟩
        | pan v => exact ⟨_, _, _, h1, fun ho => by simp only [aexec, hf, hvs, dynR, cond_false, callA, h2 ho, hd]⟩
      | true =>
        rw [hd] at h
        simp only [cond_true] at h
        cases e1 : (sc 0 (.func g fs cs) && scL 0 vs) with
        | false => rw [e1] at h; cases h
        | true =>
          rw [e1] at h
          obtain ⟨r1, σ', o, h1, h2⟩ := CH.of_call h
          cases r1 with
          | ret v =>
            simp only at h1
            cases e2 : (eqMem σ' ⟨0, []⟩ && sc 0 v) with
            | false => rw [e2] at h1; cases h1
            | true =>
              rw [e2] at h1
              simp only [Bool.and_eq_true] at e1 e2
              refine ⟨_, _, _, h1, fun ho => ?_⟩
              simp only [aexec, hf, hvs, hd]
              exact dynR_of (by simp only [callA, h2 ho, eqMem_eq e2.1]) e2.2 e1.1 e1.2
          | pan v => cases h1
    · cases h
  · split at h
    · rename_i hts hvs
      split at h
      · rename_i hTu
        obtain ⟨v, σ', h1, h2⟩ := appK_spec h
        exact ⟨_, _, _, h2, fun _ => by simp only [aexec, hvs, hts, builtinA, hTu, h1, Option.map_some]⟩
      · cases h
    · cases h
  · split at h
    · rename_i hx
      obtain ⟨v, h1, h2⟩ := loadK_spec h
      exact ⟨_, _, _, h2, fun _ => by simp only [aexec, hx, h1, Option.map_some]⟩
    · cases h
  · split at h
    · rename_i hx hi
      obtain ⟨v, h1, h2⟩ := idxK_spec h
      exact ⟨_, _, _, h2, fun _ => by simp only [aexec, hx, hi, h1, Option.map_some]⟩
    · cases h
  · split at h
    · rename_i hx hv
      obtain ⟨σ', h1, h2⟩ := storeK_spec h
      exact ⟨_, _, _, h2, fun _ => by simp only [aexec, hx, hv, h1, Option.map_some]⟩
    · cases h
  · split at h
    · rename_i hx hi
      obtain ⟨v, h1, h2⟩ := ixK_spec h
      exact ⟨_, _, _, h2, fun _ => by simp only [aexec, hx, hi, h1, Option.map_some]⟩
    · cases h
  · split at h
    · rename_i hx hi
      obtain ⟨v, h1, h2⟩ := binMK_spec h
      exact ⟨_, _, _, h2, fun _ => by simp only [aexec, hx, hi, h1, Option.map_some]⟩
    · cases h
  · split at h
    · rename_i hx hi hv
      obtain ⟨v, h1, h2⟩ := mapPutK_spec h
      exact ⟨_, _, _, h2, fun _ => by simp only [aexec, hx, hi, hv, h1, Option.map_some]⟩
    · cases h
  · split at h
    · rename_i hs hx
      obtain ⟨v, σ', h1, h2⟩ := makeK_spec h
      exact ⟨_, _, _, h2, fun _ => by simp only [aexec, hs, hx, h1, Option.map_some]⟩
    · cases h
  · split at h
    · rename_i hx hi
      obtain ⟨v, h1, h2⟩ := lookK_spec h
      exact ⟨_, _, _, h2, fun _ => by simp only [aexec, hx, hi, h1, Option.map_some]⟩
    · cases h
  · split at h
    · rename_i hx
      exact ⟨_, _, _, h, fun _ => aexec_noHooks hx⟩
    · cases h
def stepK {R : Type} (T : TTab) (ch : CH) (all : List Oper) (o : Oper) (s : St) (k : AVal → Mem → Ow → Option R) (kp : AVal → Mem → Ow → Option R) (kd : ADef → Mem → Ow → Option R) : Option R :=
  if gj all o s.tm then none else if wantedA all o s.tm then
    opK T ch o.op s.tm s.mem fun r σ ow => match r with
      | .val v => splitB v fun v => k v σ ow
      | .skip => k (.tup []) σ ow
      | .pan v => kp v σ ow
      | .dfr d => kd d σ ow
  else k (.tup []) s.mem .nil
def runK {R : Type} (T : TTab) (ch : CH) (all : List Oper) : List Oper → St → Ow → (St → Ow → Option R) → (AVal → St → Ow → Option R) → Option R
  | [], s, ow, k, _ => k s ow
  | o :: r, s, ow, k, kp => stepK T ch all o s (fun v σ o' => runK T ch all r ⟨setD s.tm o.dst v, s.df, σ⟩ (ow.app o') k kp) (fun v σ o' => kp v ⟨s.tm, s.df, σ⟩ (ow.app o'))
    (fun d σ o' => runK T ch all r ⟨setD s.tm o.dst (.tup []), d :: s.df, σ⟩ (ow.app o') k kp)
def trK {R : Type} (T : TTab) (ch : CH) (all : List Oper) : List Oper → St → Ow → (List (St × AVal) → St → Ow → Option R) → (List (St × AVal) → St → AVal → Mem → Ow → Option R) → Option R
  | [], s, ow, k, _ => k [] s ow
  | o :: r, s, ow, k, kp => stepK T ch all o s (fun v σ o' => trK T ch all r ⟨setD s.tm o.dst v, s.df, σ⟩ (ow.app o') (fun l e ow' => k ((s, v) :: l) e ow') (fun l e u σ' ow' => kp ((s, v) :: l) e u σ' ow'))
    (fun v σ o' => kp [] s v σ (ow.app o')) (fun _ _ _ => none)
def extOp (ch : CH) (o : Oper) (tm : List AVal) : Bool :=
  match o.op with
  | .alloc _ | .box .. | .buildSlice .. => true
  | .makeMap _ none => true
  | .panic _ => true
  | .call { callee := .value f, .. } => match ev tm f with
    | some (.func g _ _) => ch.ext g
    | _ => false
  | _ => !isMem ch.pf o
def ExtB (bs : List Nat) (σ σ' : Mem) : Prop := σ.next ≤ σ'.next ∧ ∀ i, i < σ.next → bs.contains i = false → σ'.get i = σ.get i
theorem ExtB.refl (σ : Mem) : ExtB [] σ σ := ⟨Nat.le_refl _, fun _ _ _ => rfl⟩
theorem ExtB.trans {x y : List Nat} {a b c : Mem} (h : ExtB x a b) (k : ExtB y b c) : ExtB (x ++ y) a c := by
  refine ⟨Nat.le_trans h.1 k.1, fun i hi hc => ?_⟩
  have h1 : x.contains i = false ∧ y.contains i = false := by
    simp only [List.contains_eq_mem, List.mem_append, decide_eq_false_iff_not, not_or] at hc ⊢
    exact hc
  exact (k.2 i (Nat.lt_of_lt_of_le hi h.1) h1.2).trans (h.2 i hi h1.1)
def touchO (ch : CH) (all : List Oper) (o : Oper) (tm : List AVal) : Option (List Nat) :=
  match !(wantedA all o tm) || extOp ch o tm with
  | true => some []
  | false => match o.op with
    | .store _ x _ => match ev tm x with
      | some (.ptr b _) => some [b]
      | _ => none
    | .mapUpdate _ m _ _ => match ev tm m with
      | some (.map b) => some [b]
      | _ => none
    | _ => none
def allExt (ch : CH) (all : List Oper) : List Oper → List (St × AVal) → List (Option (List Nat))
  | o :: r, (s, _) :: tr => touchO ch all o s.tm :: allExt ch all r tr
  | _, _ => []
def joinT : List (Option (List Nat)) → Option (List Nat)
  | [] => some []
  | some l :: r => match joinT r with
    | some m => some (l ++ m)
    | none => none
  | none :: _ => none
def touched (es : List (Option (List Nat))) (i c : Nat) : Option (List Nat) := joinT ((es.drop (min i c)).take (max i c - min i c))
def quietB (es : List (Option (List Nat))) (op : Op) (tm : List AVal) (n i c : Nat) : Bool :=
  match touched es i c with
  | some bs => opAv op tm fun x => decide (x < n) && !bs.contains x
  | none => false
def fixP (p : Option AVal × Option AVal) : Option AVal × Option AVal := match p.2 with
  | some v => (p.1, some v)
  | none => (none, some (.tup []))
theorem fixP_eq {p : Option AVal × Option AVal} (h : (fixP p).1 = (fixP p).2) : ∃ v, p.1 = some v ∧ p.2 = some v := by
  obtain ⟨x, y⟩ := p
  cases y with
  | some v => exact ⟨v, h, rfl⟩
  | none => cases h
def readX (pf : FuncId → Nat) (T : TTab) (H : Hooks) (all : List Oper) (es : List (Option (List Nat))) (mems : List Mem) : List Oper → Nat → List (List Nat) → List (St × AVal) → List (Option AVal × Option AVal)
  | o :: r, i, cs :: ps, (s, _) :: tr => (if wantedA all o s.tm then (cs.filter fun c => !(decide (c < mems.length) && quietB es o.op s.tm (min s.mem.next (mems.getD c ⟨0, []⟩).next) i c)).map fun c => fixP ((mems[c]?).bind fun σ => (aexec T H o.op s.tm σ).bind fun x => match x.1 with
      | .val u => some u
      | _ => none, rawOf (aexec T H o.op s.tm s.mem)) else []) ++ readX pf T H all es mems r (i + 1) ps tr
  | _, _, _, _ => []
noncomputable def owed (T : TTab) (ch : CH) (all : List Oper) (tr : List (St × AVal)) (e : St) : Ow :=
  readX ch.pf T ch.Hb all (allExt ch all all tr) (tr.map (·.1.mem) ++ [e.mem]) all 0 (planOf ch.pf all) tr
def grpD (ch : CH) (all : List Oper) (tr : List (St × AVal)) : Bool := grpDyn ch.pf all (masks all []) (grpOf ch.pf all (masks all [])) tr
noncomputable def drawK {R : Type} (T : TTab) (ch : CH) (all : List Oper) (s : St) (ow : Ow) (k : St → Ow → Option R) (kp : AVal → St → Ow → Option R) : Option R :=
  trK T ch all all s ow (fun tr e ow' => need (statOk ch.pf all && grpD ch all tr) (k e (ow'.app (owed T ch all tr e))))
    (fun tr e v σ ow' => need (panAt all tr.length && statOk ch.pf (all.take tr.length) && grpD ch (all.take tr.length) tr) (kp v ⟨e.tm, e.df, σ⟩ (ow'.app (owed T ch (all.take tr.length) tr e))))
structure LA where
  run : {R : Type} → St → (AOut → St → Option R) → Option R
  nat : ∀ {R : Type} (s : St) (k : AOut → St → Option R), run s k = (run s fun o s' => some (o, s')).bind fun x => k x.1 x.2
def LaOk (P : Program) (n : Nat) (la : LA) (b : Code) : Prop :=
  ∀ s o s', (la.run s fun o s' => some (o, s')) = some (o, s') → AWPn P n (.loop b) s fun o1 s1 => o1 = o ∧ s1 = s'
def regOf : Code → Option Nat
  | .region id _ _ => some id
  | .seq a b => (regOf a).orElse fun _ => regOf b
  | .cond _ a b => (regOf a).orElse fun _ => regOf b
  | .block _ b => regOf b
  | .loop b => regOf b
  | .scope b => regOf b
  | .rangeFunc _ _ a b => (regOf a).orElse fun _ => regOf b
  | _ => none
abbrev Anns := Option Nat → Option LA
def noAnns : Anns := fun _ => none
noncomputable def evalK {R : Type} (T : TTab) (ch : CH) (A : Anns) : Nat → Code → St → Ow → (AOut → St → Ow → Option R) → Option R
  | 0, _, _, _, _ => none
  | n + 1, c, s, ow, K =>
    match c with
    | .skip => K .normal s ow
    | .label _ => K .normal s ow
    | .region _ ops false => runK T ch ops.toList ops.toList s ow (fun s' o' => K .normal s' o') (fun v s' o' => K (.pan v) s' o')
    | .region _ ops true => drawK T ch ops.toList s ow (fun s' o' => K .normal s' o') (fun v s' o' => K (.pan v) s' o')
    | .seq a b => evalK T ch A n a s ow fun o s' ow' => match o with
      | .normal => evalK T ch A n b s' ow' K
      | o => K o s' ow'
    | .cond c a b => match ev s.tm c with
      | some (.bool true) => evalK T ch A n a s ow K
      | some (.bool false) => evalK T ch A n b s ow K
      | _ => none
    | .block id b => evalK T ch A n b s ow fun o s' ow' => match o with
      | .exit i => if i = id then K .normal s' ow' else K (.exit i) s' ow'
      | o => K o s' ow'
    | .loop b => match A (regOf b) with
      | some la => la.run s fun o s' => K o s' ow
      | none => evalK T ch A n b s ow fun o s' ow' => match o with
        | .normal => evalK T ch A n (.loop b) s' ow' K
        | o => K o s' ow'
    | .scope b => evalK T ch A n b s ow fun o s' ow' => match o with
      | .goto _ => none
      | o => K o s' ow'
    | .exit id => K (.exit id) s ow
    | .goto l => K (.goto l) s ow
    | .ret => K .ret s ow
    | _ => none
section
variable {R : Type} {T : TTab} {ch : CH}
theorem stepK_spec {all : List Oper} {o : Oper} {s : St} {k kp : AVal → Mem → Ow → Option R} {kd : ADef → Mem → Ow → Option R} {r : R} (h : stepK T ch all o s k kp kd = some r) :
    (∃ v σ ow, k v σ ow = some r ∧ (ow.ok → stepV T ch.H all o s = some (v, σ))) ∨
    (∃ v σ ow, kp v σ ow = some r ∧ (ow.ok → stepOp T ch.H all o s = some (.pan v ⟨s.tm, s.df, σ⟩))) ∨
    (∃ d σ ow, kd d σ ow = some r ∧ (ow.ok → stepOp T ch.H all o s = some (.go ⟨setD s.tm o.dst (.tup []), d :: s.df, σ⟩))) := by
  unfold stepK at h
  cases hg : gj all o s.tm with
  | true => rw [hg] at h; simp at h
  | false =>
    rw [hg] at h
    simp only [Bool.false_eq_true, if_false] at h
    split at h
    · rename_i hw
      obtain ⟨x, σ', ow, h1, h2⟩ := opK_spec h
      cases x with
      | val v =>
        simp only [splitB_eq] at h1
        exact .inl ⟨v, σ', ow, h1, fun ho => by simp only [stepV, hg, hw, h2 ho, Bool.false_eq_true, if_false, if_true]⟩
      | skip => exact .inl ⟨_, σ', ow, h1, fun ho => by simp only [stepV, hg, hw, h2 ho, Bool.false_eq_true, if_false, if_true]⟩
      | pan v => exact .inr (.inl ⟨v, σ', ow, h1, fun ho => by simp only [stepOp, hg, hw, h2 ho, Bool.false_eq_true, if_false, if_true]⟩)
      | dfr d => exact .inr (.inr ⟨d, σ', ow, h1, fun ho => by simp only [stepOp, hg, hw, h2 ho, Bool.false_eq_true, if_false, if_true]⟩)
    · rename_i hw
      exact .inl ⟨_, _, _, h, fun _ => by simp only [stepV, hg, hw, Bool.false_eq_true, if_false]⟩
theorem runK_spec {all : List Oper} : ∀ {l : List Oper} {s : St} {ow : Ow} {k : St → Ow → Option R} {kp : AVal → St → Ow → Option R} {r : R}, runK T ch all l s ow k kp = some r →
    (∃ s' ow', k s' ow' = some r ∧ ow.le ow' ∧ (ow'.ok → runOps T ch.H all l s = some (.go s'))) ∨
    (∃ v s' ow', kp v s' ow' = some r ∧ ow.le ow' ∧ (ow'.ok → runOps T ch.H all l s = some (.pan v s')))
  | [], s, ow, k, kp, r, h => .inl ⟨s, ow, h, .refl _, fun _ => rfl⟩
  | o :: l, s, ow, k, kp, r, h => by
    simp only [runK] at h
    rcases stepK_spec h with ⟨v, σ, o', h1, h2⟩ | ⟨v, σ, o', h1, h2⟩ | ⟨d, σ, o', h1, h2⟩
    · rcases runK_spec h1 with ⟨s', ow', k1, k2, k3⟩ | ⟨v', s', ow', k1, k2, k3⟩
      · exact .inl ⟨s', ow', k1, (Ow.le_app ow o').trans k2, fun ho => by
          simp only [runOps, stepOp_of_stepV (h2 (Ow.ok_app (k2.ok ho)))]; exact k3 ho⟩
      · exact .inr ⟨v', s', ow', k1, (Ow.le_app ow o').trans k2, fun ho => by
          simp only [runOps, stepOp_of_stepV (h2 (Ow.ok_app (k2.ok ho)))]; exact k3 ho⟩
    · exact .inr ⟨v, _, _, h1, Ow.le_app _ _, fun ho => by simp only [runOps, h2 (Ow.ok_app ho)]⟩
    · rcases runK_spec h1 with ⟨s', ow', k1, k2, k3⟩ | ⟨v', s', ow', k1, k2, k3⟩
      · exact .inl ⟨s', ow', k1, (Ow.le_app ow o').trans k2, fun ho => by
          simp only [runOps, h2 (Ow.ok_app (k2.ok ho))]; exact k3 ho⟩
      · exact .inr ⟨v', s', ow', k1, (Ow.le_app ow o').trans k2, fun ho => by
          simp only [runOps, h2 (Ow.ok_app (k2.ok ho))]; exact k3 ho⟩
theorem trK_spec {all : List Oper} : ∀ {l : List Oper} {s : St} {ow : Ow} {k : List (St × AVal) → St → Ow → Option R} {kp : List (St × AVal) → St → AVal → Mem → Ow → Option R} {r : R}, trK T ch all l s ow k kp = some r →
    (∃ tr e ow', k tr e ow' = some r ∧ ow.le ow' ∧ (ow'.ok → trace T ch.H all l s = some (tr, e))) ∨
    (∃ tr e v σ ow', kp tr e v σ ow' = some r ∧ ow.le ow' ∧ ∃ o, l[tr.length]? = some o ∧ (ow'.ok → trace T ch.H all (l.take tr.length) s = some (tr, e) ∧ stepOp T ch.H all o e = some (.pan v ⟨e.tm, e.df, σ⟩)))
  | [], s, ow, k, kp, r, h => .inl ⟨[], s, ow, h, .refl _, fun _ => rfl⟩
  | o :: l, s, ow, k, kp, r, h => by
    simp only [trK] at h
    rcases stepK_spec h with ⟨v, σ, o', h1, h2⟩ | ⟨v, σ, o', h1, h2⟩ | ⟨v, σ, o', h1, _⟩
    · rcases trK_spec h1 with ⟨tr, e, ow', k1, k2, k3⟩ | ⟨tr, e, u, σ', ow', k1, k2, oo, k3, k4⟩
      · exact .inl ⟨_, e, ow', k1, (Ow.le_app ow o').trans k2, fun ho => by simp only [trace, h2 (Ow.ok_app (k2.ok ho)), k3 ho]⟩
      · refine .inr ⟨_, e, u, σ', ow', k1, (Ow.le_app ow o').trans k2, oo, by simpa using k3, fun ho => ?_⟩
        obtain ⟨q1, q2⟩ := k4 ho
        refine ⟨?_, q2⟩
        simp only [List.length_cons, List.take_succ_cons, trace, h2 (Ow.ok_app (k2.ok ho)), q1]
    · exact .inr ⟨[], s, v, σ, _, h1, Ow.le_app _ _, o, by simp, fun ho => ⟨by simp [trace], h2 (Ow.ok_app ho)⟩⟩
    · cases h1
theorem aexec_ext {P : Program} (hH : CHOk P ch) {o : Oper} {tm : List AVal} {σ σ' : Mem} {r : ORes} (hr : aexec T ch.H o.op tm σ = some (r, σ')) (he : extOp ch o tm = true) : Ext σ σ' := by
  by_cases hk : kindOf ch.pf o.op = 2
  · unfold extOp at he
    split at he
    · rename_i t ho
      simp only [ho, aexec] at hr
      split at hr
      · cases hr
      · cases hr; exact .push _ _
    · rename_i t x ho
      simp only [ho, aexec] at hr
      split at hr
      · split at hr
        · cases hr
        · cases hr; exact .push _ _
      · cases hr
    · rename_i t n ps ho
      simp only [ho, aexec] at hr
      split at hr
      · rename_i vs _
        cases hb : buildSliceA T σ t n vs with
        | none => rw [hb] at hr; cases hr
        | some q =>
          rw [hb] at hr; cases hr
          unfold buildSliceA at hb
          split at hb
          · split at hb
            · cases hb
            · split at hb
              · cases hb
              · split at hb
                · cases hb
                · cases hb; exact .push _ _
          · cases hb
      · cases hr
    · rename_i t ho
      simp only [ho, aexec] at hr
      cases hr; exact .push _ _
    · rename_i x ho
      simp only [ho, aexec] at hr
      split at hr
      · cases hr; exact .refl _
      · cases hr
    · rename_i f args ats ho
      simp only [ho, aexec] at hr
      split at he
      · rename_i g fs cs hf
        rw [hf] at hr
        split at hr
        · rename_i g' vs hg' hvs
          simp only [Option.some.injEq] at hg'
          subst hg'
          cases hd : dynRd f ats.toList with
          | true => rw [hd] at hr; obtain ⟨q, _⟩ := dynR_true hr; rw [q]; exact .refl _
          | false =>
          rw [hd] at hr
          simp only [dynR, cond_false, callA] at hr
          split at hr
          · rename_i v1 σ1 hh
            cases hr; exact hH.2.1 _ _ _ _ _ he hh
          · rename_i v1 σ1 hh
            cases hr; exact hH.2.1 _ _ _ _ _ he hh
          · cases hr
        · cases hr
      · cases he
    · simp [isMem, hk] at he
  · obtain ⟨q, _⟩ := aexec_still hH.2.2 hk hr
    rw [q]; exact .refl _
theorem stepV_ext {P : Program} (hH : CHOk P ch) {all : List Oper} {o : Oper} {s : St} {v : AVal} {σ' : Mem} (h : stepV T ch.H all o s = some (v, σ')) (he : (!(wantedA all o s.tm) || extOp ch o s.tm) = true) : Ext s.mem σ' := by
  unfold stepV at h
  split at h
  · cases h
  · split at h
    · rename_i hw
      simp only [hw, Bool.not_true, Bool.false_or] at he
      split at h
      · rename_i u σ1 hx
        simp only [Option.some.injEq, Prod.mk.injEq] at h
        obtain ⟨_, rfl⟩ := h
        exact aexec_ext hH hx he
      · rename_i σ1 hx
        simp only [Option.some.injEq, Prod.mk.injEq] at h
        obtain ⟨_, rfl⟩ := h
        exact aexec_ext hH hx he
      · cases h
    · simp only [Option.some.injEq, Prod.mk.injEq] at h
      obtain ⟨_, rfl⟩ := h
      exact .refl _
def memsOf (tr : List (St × AVal)) (e : St) : List Mem := tr.map (·.1.mem) ++ [e.mem]
theorem putA_touch {σ σ1 : Mem} {b o : Nat} {vs : List AVal} (h : putA σ b o vs = some σ1) : ExtB [b] σ σ1 := by
  refine ⟨by rw [putA_next h]; exact Nat.le_refl _, fun i _ hb => ?_⟩
  have hne : b ≠ i := by
    rintro rfl
    simp at hb
  unfold putA at h
  split at h
  · split at h
    · cases h; rw [get_set, if_neg hne]
    · cases h
  · split at h
    · cases h; rw [get_set, if_neg hne]
    · cases h
  · cases h
theorem stepV_touch {P : Program} (hH : CHOk P ch) {all : List Oper} {o : Oper} {s : St} {v : AVal} {σ' : Mem} (h : stepV T ch.H all o s = some (v, σ')) {bs : List Nat} (he : touchO ch all o s.tm = some bs) : ExtB bs s.mem σ' := by
  unfold touchO at he
  split at he
  · rename_i hx
    cases he
    have := stepV_ext hH h hx
    exact ⟨this.1, fun i hi _ => this.2 i hi⟩
  · rename_i hx
    have hw : wantedA all o s.tm = true := by
      simp only [Bool.or_eq_false_iff, Bool.not_eq_false'] at hx
      exact hx.1
    unfold stepV at h
    rw [hw] at h
    split at h
    · cases h
    simp only [if_true] at h
    split at he
    · rename_i t x y ho
      split at he
      · rename_i b off hb
        cases he
        simp only [ho, aexec, hb] at h
        cases hy : ev s.tm y with
        | none => rw [hy] at h; simp at h
        | some yv =>
          rw [hy] at h
          simp only at h
          cases hs : storeA T s.mem t (.ptr b off) yv with
          | none => rw [hs] at h; simp at h
          | some σs =>
            rw [hs] at h
            simp only [Option.map_some, Option.some.injEq, Prod.mk.injEq] at h
            obtain ⟨_, rfl⟩ := h
            unfold storeA at hs
            split at hs
            · rename_i ti b' o' hti hbb
              cases hbb
              split at hs
              · exact putA_touch hs
              · cases hs
            · cases hs
      · cases he
    · rename_i t m k x ho
      split at he
      · rename_i b hb
        cases he
        simp only [ho, aexec, hb] at h
        cases hk : ev s.tm k with
        | none => rw [hk] at h; simp at h
        | some kv =>
          cases hy : ev s.tm x with
          | none => rw [hk, hy] at h; simp at h
          | some yv =>
            rw [hk, hy] at h
            simp only at h
            cases hs : mapPutA T s.mem t (.map b) kv yv with
            | none => rw [hs] at h; simp at h
            | some σs =>
              rw [hs] at h
              simp only [Option.map_some, Option.some.injEq, Prod.mk.injEq] at h
              obtain ⟨_, rfl⟩ := h
              have set1 : ∀ B, ExtB [b] s.mem (s.mem.set b B) := fun B => ⟨Nat.le_refl _, fun i _ hi => by
                have hne : b ≠ i := by rintro rfl; simp at hi
                rw [get_set, if_neg hne]⟩
              unfold mapPutA at hs
              split at hs
              · rename_i hbb
                cases hbb
                split at hs
                · split at hs
                  · split at hs
                    · cases hs; exact set1 _
                    · cases hs; exact set1 _
                    · cases hs
                  · cases hs
                · cases hs
              · cases hs
      · cases he
    · cases he
theorem trace_mems {P : Program} (hH : CHOk P ch) {all : List Oper} : ∀ {l : List Oper} {s : St} {tr : List (St × AVal)} {e : St}, trace T ch.H all l s = some (tr, e) →
    tr.length = l.length ∧ (memsOf tr e)[0]? = some s.mem ∧ ∀ j bs, (allExt ch all l tr)[j]? = some (some bs) → ExtB bs ((memsOf tr e).getD j ⟨0, []⟩) ((memsOf tr e).getD (j + 1) ⟨0, []⟩)
  | [], s, tr, e, h => by
    simp only [trace, Option.some.injEq, Prod.mk.injEq] at h
    obtain ⟨rfl, rfl⟩ := h
    exact ⟨rfl, rfl, fun j bs hj => by simp [allExt] at hj⟩
  | o :: l, s, tr, e, h => by
    simp only [trace] at h
    split at h
    · rename_i v σ hv
      split at h
      · rename_i tr1 e1 hl
        simp only [Option.some.injEq, Prod.mk.injEq] at h
        obtain ⟨rfl, rfl⟩ := h
        obtain ⟨i1, i2, i3⟩ := trace_mems hH hl
        refine ⟨by simp [i1], rfl, fun j bs hj => ?_⟩
        cases j with
        | zero =>
          simp only [allExt, List.getElem?_cons_zero, Option.some.injEq] at hj
          have := stepV_touch hH hv hj
          have e2 : (memsOf ((s, v) :: tr1) e1).getD 1 ⟨0, []⟩ = σ := by
            have : (memsOf ((s, v) :: tr1) e1)[1]? = some σ := i2
            rw [List.getD_eq_getElem?_getD, this]; rfl
          rw [e2]; exact this
        | succ j =>
          simp only [allExt, List.getElem?_cons_succ] at hj
          exact i3 j bs hj
      · cases h
    · cases h
theorem ext_range {mems : List Mem} {es : List (Option (List Nat))} (hE : ∀ j bs, es[j]? = some (some bs) → ExtB bs (mems.getD j ⟨0, []⟩) (mems.getD (j + 1) ⟨0, []⟩)) : ∀ (n a : Nat) (bs : List Nat), joinT ((es.drop a).take n) = some bs → n ≤ es.length - a → ExtB bs (mems.getD a ⟨0, []⟩) (mems.getD (a + n) ⟨0, []⟩)
  | 0, a, bs, h, _ => by
    simp only [List.take_zero, joinT, Option.some.injEq] at h
    subst h
    exact .refl _
  | n + 1, a, bs, h, hn => by
    have hlt : a < es.length := by omega
    rw [List.drop_eq_getElem_cons hlt, List.take_succ_cons] at h
    cases hx : es[a] with
    | none => rw [hx] at h; simp [joinT] at h
    | some l =>
      rw [hx] at h
      simp only [joinT] at h
      split at h
      · rename_i m hm
        cases h
        have h1 := hE a l (by rw [List.getElem?_eq_getElem hlt, hx])
        have h2 := ext_range hE n (a + 1) m hm (by omega)
        rw [show a + 1 + n = a + (n + 1) by omega] at h2
        exact h1.trans h2
      · cases h
theorem opAv_mono {op : Op} {tm : List AVal} {p q : Nat → Bool} (h : ∀ i, p i = true → q i = true) (hs : opAv op tm p = true) : opAv op tm q = true := by
  unfold opAv at *
  rw [Bool.and_eq_true, List.all_eq_true] at *
  refine ⟨hs.1, fun t ht => ?_⟩
  have := hs.2 t ht
  revert this
  generalize tm.getD t (.tup []) = v
  intro hv
  cases v <;> first
    | rfl
    | exact h _ hv
theorem readX_ok {pf : FuncId → Nat} {H : Hooks} (hP : PureOk pf H) {all : List Oper} {es : List (Option (List Nat))} {mems : List Mem} (hE : ∀ j bs, es[j]? = some (some bs) → ExtB bs (mems.getD j ⟨0, []⟩) (mems.getD (j + 1) ⟨0, []⟩)) (hlen : mems.length = es.length + 1) :
    ∀ (l : List Oper) (i : Nat) (pl : List (List Nat)) (tr : List (St × AVal)), (∀ (j : Nat) (q : St × AVal), tr[j]? = some q → mems[i + j]? = some q.1.mem) → (∀ (j : Nat) (o : Oper) (cs : List Nat), l[j]? = some o → pl[j]? = some cs → cs ≠ [] → kindOf pf o.op = 1) →
    (∀ p ∈ readX pf T H all es mems l i pl tr, p.1 = p.2) → ∀ p ∈ readG3 pf T H all mems l pl tr, p.1 = p.2
  | [], i, pl, tr, _, _, _ => by cases pl <;> cases tr <;> (intro p hp; simp [readG3] at hp)
  | o :: r, i, [], tr, _, _, _ => by cases tr <;> (intro p hp; simp [readG3] at hp)
  | o :: r, i, cs :: ps, [], _, _, _ => by intro p hp; simp [readG3] at hp
  | o :: r, i, cs :: ps, (s, v) :: tr, hm, hk, h => by
    simp only [readX, List.mem_append] at h
    intro p hp
    simp only [readG3, List.mem_append] at hp
    rcases hp with hp | hp
    · cases hw : wantedA all o s.tm with
      | false => rw [hw] at hp; simp at hp
      | true =>
        rw [hw] at hp h
        simp only [if_true, List.mem_map] at hp h
        obtain ⟨c, hc, rfl⟩ := hp
        cases hq : decide (c < mems.length) && quietB es o.op s.tm (min s.mem.next (mems.getD c ⟨0, []⟩).next) i c with
        | false =>
          obtain ⟨v, h1, h2⟩ := fixP_eq (h _ (.inl ⟨c, List.mem_filter.2 ⟨hc, by rw [hq]; rfl⟩, rfl⟩))
          exact h1.trans h2.symm
        | true =>
          simp only [Bool.and_eq_true, decide_eq_true_eq] at hq
          obtain ⟨q2, q1⟩ := hq
          have hk1 : kindOf pf o.op = 1 := hk 0 o cs rfl rfl (List.ne_nil_of_mem hc)
          have hmi : mems[i]? = some s.mem := hm 0 (s, v) rfl
          have hil : i < mems.length := (List.getElem?_eq_some_iff.1 hmi).1
          have hmc : mems[c]? = some (mems.getD c ⟨0, []⟩) := by rw [List.getD_eq_getElem?_getD, List.getElem?_eq_getElem q2]; rfl
          have hgi : mems.getD i ⟨0, []⟩ = s.mem := by rw [List.getD_eq_getElem?_getD, hmi]; rfl
          have hval : ∀ σ, ((aexec T H o.op s.tm σ).bind fun x => match x.1 with
              | .val u => some u
              | _ => none) = rawOf (aexec T H o.op s.tm σ) := by
            intro σ
            cases hx : aexec T H o.op s.tm σ with
            | none => rfl
            | some x =>
              obtain ⟨x, y⟩ := x
              obtain ⟨_, u, hu⟩ := aexec_still hP (by omega) hx
              subst hu; rfl
          simp only [hmc, Option.bind_some]
          refine (hval _).trans ?_
          unfold quietB at q1
          split at q1
          · rename_i bs hbs
            unfold touched at hbs
            rcases Nat.le_total c i with hci | hci
            · rw [Nat.min_eq_right hci, Nat.max_eq_left hci] at hbs
              have hx := ext_range hE (i - c) c bs hbs (by omega)
              rw [show c + (i - c) = i by omega, hgi] at hx
              refine (read_av (p := fun x => decide (x < (mems.getD c ⟨0, []⟩).next) && !bs.contains x) hk1 (fun j hj => ?_) (opAv_mono (fun j hj => ?_) q1)).symm
              · simp only [Bool.and_eq_true, decide_eq_true_eq, Bool.not_eq_true'] at hj
                exact hx.2 j hj.1 hj.2
              · simp only [Bool.and_eq_true, decide_eq_true_eq] at hj ⊢
                exact ⟨by omega, hj.2⟩
            · rw [Nat.min_eq_left hci, Nat.max_eq_right hci] at hbs
              have hx := ext_range hE (c - i) i bs hbs (by omega)
              rw [show i + (c - i) = c by omega, hgi] at hx
              refine read_av (p := fun x => decide (x < s.mem.next) && !bs.contains x) hk1 (fun j hj => ?_) (opAv_mono (fun j hj => ?_) q1)
              · simp only [Bool.and_eq_true, decide_eq_true_eq, Bool.not_eq_true'] at hj
                exact hx.2 j hj.1 hj.2
              · simp only [Bool.and_eq_true, decide_eq_true_eq] at hj ⊢
                exact ⟨by omega, hj.2⟩
          · cases q1
    · refine readX_ok hP hE hlen r (i + 1) ps tr ?_ ?_ (fun q hq => h q (.inr hq)) p hp
      · intro j q hj
        have := hm (j + 1) q (by simpa using hj)
        rw [show i + 1 + j = i + (j + 1) by omega]; exact this
      · intro j o' cs' h1 h2 h3
        exact hk (j + 1) o' cs' (by simpa using h1) (by simpa using h2) h3
theorem planOf_kind {pf : FuncId → Nat} {all : List Oper} {j : Nat} {o : Oper} {cs : List Nat} (h1 : all[j]? = some o) (h2 : (planOf pf all)[j]? = some cs) (h3 : cs ≠ []) : kindOf pf o.op = 1 := by
  simp only [planOf, List.getElem?_map, List.getElem?_zipIdx, h1, Option.map_some, Option.some.injEq] at h2
  split at h2
  · rename_i hk; simpa using hk
  · exact absurd h2.symm h3
theorem allExt_length {all : List Oper} : ∀ {l : List Oper} {tr : List (St × AVal)}, tr.length = l.length → (allExt ch all l tr).length = l.length
  | [], [], _ => rfl
  | [], _ :: _, h => by simp at h
  | _ :: _, [], h => by simp at h
  | o :: l, (s, v) :: tr, h => by simp only [allExt, List.length_cons] at *; rw [allExt_length (by omega)]
theorem callA_Hb {ch : CH} {σ : Mem} {f : AVal} {vs : List AVal} {x : ORes × Mem} (h : callA ch.Hb σ f vs = some x) : callA ch.H σ f vs = some x := by
  unfold callA at h ⊢
  split at h
  · rename_i g fs cs
    split at h
    · rename_i v σ1 hh
      rw [CH.Hb_H hh]
      exact h
    · rename_i v σ1 hh
      rw [CH.Hb_H hh]
      exact h
    · cases h
  · cases h
theorem aexec_Hb {ch : CH} {op : Op} {tm : List AVal} {σ : Mem} {x : ORes × Mem} (h : aexec T ch.Hb op tm σ = some x) : aexec T ch.H op tm σ = some x := by
  cases op
  case call c =>
    obtain ⟨callee, args, argTypes⟩ := c
    cases callee with
    | invoke r m => exact h
    | builtin b => exact h
    | value f =>
      simp only [aexec] at h ⊢
      split at h
      · rename_i g vs h1 h2
        exact dynR_mono (fun _ _ hx => callA_Hb hx) h
      · cases h
  case makeFunc fn fs cs => cases fn <;> exact h
  case makeMap t rs => cases rs <;> exact h
  case slice t y l u m => cases m <;> exact h
  case next y b => cases b <;> exact h
  case defer c =>
    obtain ⟨callee, args, argTypes⟩ := c
    cases callee <;> first
      | exact h
      | (simp only [aexec] at h ⊢; exact h)
  all_goals exact h
theorem readX_Hb {ch : CH} {pf : FuncId → Nat} {all : List Oper} {es : List (Option (List Nat))} {mems : List Mem} : ∀ (l : List Oper) (i : Nat) (pl : List (List Nat)) (tr : List (St × AVal)),
    (∀ p ∈ readX pf T ch.Hb all es mems l i pl tr, p.1 = p.2) → ∀ p ∈ readX pf T ch.H all es mems l i pl tr, p.1 = p.2
  | [], i, pl, tr, _ => by cases pl <;> cases tr <;> (intro p hp; simp [readX] at hp)
  | o :: r, i, [], tr, _ => by cases tr <;> (intro p hp; simp [readX] at hp)
  | o :: r, i, cs :: ps, [], _ => by intro p hp; simp [readX] at hp
  | o :: r, i, cs :: ps, (s, v) :: tr, h => by
    simp only [readX, List.mem_append] at h
    intro p hp
    simp only [readX, List.mem_append] at hp
    rcases hp with hp | hp
    · cases hw : wantedA all o s.tm with
      | false => rw [hw] at hp; simp at hp
      | true =>
        rw [hw] at hp h
        simp only [if_true, List.mem_map] at hp h
        obtain ⟨c, hc, rfl⟩ := hp
        obtain ⟨u, h1, h2⟩ := fixP_eq (h _ (.inl ⟨c, hc, rfl⟩))
        simp only at h1 h2
        have e2 : rawOf (aexec T ch.H o.op s.tm s.mem) = some u := by
          cases hx : aexec T ch.Hb o.op s.tm s.mem with
          | none => rw [hx] at h2; cases h2
          | some x => rw [aexec_Hb hx, ← hx]; exact h2
        have e1 : ((mems[c]?).bind fun σ => (aexec T ch.H o.op s.tm σ).bind fun x => match x.1 with
            | .val u => some u
            | _ => none) = some u := by
          obtain ⟨σ, g1, g2⟩ := Option.bind_eq_some_iff.1 h1
          obtain ⟨x, g3, g4⟩ := Option.bind_eq_some_iff.1 g2
          rw [g1, Option.bind_some, aexec_Hb g3, Option.bind_some]
          exact g4
        rw [e1, e2]
        rfl
    · exact readX_Hb r (i + 1) ps tr (fun q hq => h q (.inr hq)) p hp
theorem run_owed {P : Program} (hH : CHOk P ch) {all : List Oper} {s e : St} {tr : List (St × AVal)} (ht : trace T ch.H all all s = some (tr, e)) (hg : grpD ch all tr = true) (ho : (owed T ch all tr e).ok) : runDraw ch.pf T ch.H all s = some e := by
  obtain ⟨t1, t2, t3⟩ := trace_mems hH ht
  refine runDraw_of_plan rfl ?_
  unfold runPlan
  rw [ht]
  have hrd : readsP ch.pf T ch.H all (memsOf tr e) all (planOf ch.pf all) tr = true := by
    refine readG_ok _ _ _ (readG3_ok _ _ _ _ _ ht (readX_ok hH.2.2 (es := allExt ch all all tr) (mems := memsOf tr e) t3 (by simp [memsOf, t1, allExt_length t1]) all 0 (planOf ch.pf all) tr ?_ (fun j o cs q1 q2 q3 => planOf_kind q1 q2 q3) (readX_Hb _ _ _ _ fun q hq => ho q hq)))
    intro j q hj
    simp only [memsOf, Nat.zero_add]
    rw [List.getElem?_append_left (by have := (List.getElem?_eq_some_iff.1 hj).1; simpa using this), List.getElem?_map, hj]; rfl
  show (if (readsP ch.pf T ch.H all (memsOf tr e) all (planOf ch.pf all) tr && grpDyn ch.pf all (masks all []) (grpOf ch.pf all (masks all [])) tr) = true then some e else none) = some e
  rw [if_pos (by rw [hrd, show grpDyn ch.pf all (masks all []) (grpOf ch.pf all (masks all [])) tr = true from hg]; rfl)]
theorem stepV_take {H : Hooks} {all : List Oper} {n : Nat} {o : Oper} {s : St} (hg : ∀ g b, o.guard = some (g, b) → g < n) : stepV T H (all.take n) o s = stepV T H all o s := by
  have e : ∀ g b, o.guard = some (g, b) → (all.take n)[g]? = all[g]? := fun g b h => by rw [List.getElem?_take, if_pos (hg g b h)]
  unfold stepV gj wantedA
  cases h : o.guard with
  | none => rfl
  | some q => obtain ⟨g, b⟩ := q; simp only [e g b h]
theorem trace_take {H : Hooks} {all : List Oper} {n : Nat} : ∀ {l : List Oper} {s : St}, (∀ o ∈ l, ∀ g b, o.guard = some (g, b) → g < n) → trace T H (all.take n) l s = trace T H all l s
  | [], _, _ => rfl
  | o :: l, s, h => by
    simp only [trace]
    rw [stepV_take (h o (by simp))]
    split
    · rw [trace_take (fun o' ho => h o' (by simp [ho]))]
    · rfl
theorem panAt_guard {all : List Oper} {n : Nat} (h : panAt all n = true) : ∀ o ∈ all.take n, ∀ g b, o.guard = some (g, b) → g < n := by
  intro o ho g b hg
  unfold panAt at h
  simp only [Bool.and_eq_true, List.all_eq_true] at h
  obtain ⟨j, hj, rfl⟩ := List.mem_take_iff_getElem.1 ho
  have := h.1.2 (all[j], j) (List.mem_zipIdx_iff_getElem?.2 (List.getElem?_eq_getElem (by omega)))
  simp only [Bool.and_eq_true, Bool.or_eq_true, Bool.not_eq_true', decide_eq_false_iff_not, hg, decide_eq_true_eq] at this
  rcases this.1 with q | q
  · omega
  · exact q.2
theorem drawK_spec {P : Program} (hH : CHOk P ch) {all : List Oper} {s : St} {ow : Ow} {k : St → Ow → Option R} {kp : AVal → St → Ow → Option R} {r : R} (h : drawK T ch all s ow k kp = some r) :
    (∃ s' ow', k s' ow' = some r ∧ ow.le ow' ∧ statOk ch.pf all = true ∧ (ow'.ok → runDraw ch.pf T ch.H all s = some s')) ∨
    (∃ v s' ow' n o, kp v s' ow' = some r ∧ ow.le ow' ∧ all[n]? = some o ∧ panAt all n = true ∧ statOk ch.pf (all.take n) = true ∧ (ow'.ok → ∃ s1, runDraw ch.pf T ch.H (all.take n) s = some s1 ∧ stepOp T ch.H all o s1 = some (.pan v s'))) := by
  rcases trK_spec h with ⟨tr, e, ow', h0, h2, h3⟩ | ⟨tr, e, v, σ, ow', h0, h2, o, h3, h4⟩
  · obtain ⟨hg, h1⟩ := need_some h0
    rw [Bool.and_eq_true] at hg
    exact .inl ⟨e, _, h1, h2.trans (Ow.le_app _ _), hg.1, fun ho => run_owed hH (h3 ((Ow.le_app _ _).ok ho)) hg.2 (Ow.ok_app ho)⟩
  · obtain ⟨hg, h1⟩ := need_some h0
    simp only [Bool.and_eq_true] at hg
    refine .inr ⟨v, _, _, tr.length, o, h1, h2.trans (Ow.le_app _ _), h3, hg.1.1, hg.1.2, fun ho => ?_⟩
    obtain ⟨q1, q2⟩ := h4 ((Ow.le_app _ _).ok ho)
    rw [← trace_take (panAt_guard hg.1.1)] at q1
    exact ⟨e, run_owed hH q1 hg.2 (Ow.ok_app ho), q2⟩
def RoundsA (P : Program) (n : Nat) (b : Code) : Nat → St → AOut → St → Prop
  | 0, _, _, _ => False
  | m + 1, s, o, s' => (o ≠ .normal ∧ AWPn P n b s fun o1 s1 => o1 = o ∧ s1 = s') ∨ ∃ s1, (AWPn P n b s fun o1 s2 => o1 = .normal ∧ s2 = s1) ∧ RoundsA P n b m s1 o s'
theorem rounds_of {P : Program} {n : Nat} {b : Code} {w0 : W0} : ∀ (m : Nat) {s : St} {o : AOut} {s' : St} (ρ : Nat → Loc) (a : Act) (w : World), RoundsA P n b m s o s' → n ≤ s.mem.next → SRel w0 ρ s a w →
    Code.rounds P b (fun e a' w' => ∃ o1 s1, (o1 = o ∧ s1 = s') ∧ After w0 ρ n o1 s1 e a' w') m a w
  | 0, s, o, s', ρ, a, w, h, _, _ => h.elim
  | m + 1, s, o, s', ρ, a, w, h, hn, hr => by
    rw [rounds_succ]
    rcases h with ⟨ho, h⟩ | ⟨s1, h, k⟩
    · refine wp_mono (h hn w0 ρ a w hr) ?_
      rintro e a' w' ⟨o1, s1, ⟨rfl, rfl⟩, ha⟩
      obtain ⟨ρ', rfl, k1, k2, k3, k4⟩ := ha
      cases o1 with
      | normal => exact absurd rfl ho
      | exit id => exact ⟨.exit id, s1, ⟨rfl, rfl⟩, ⟨ρ', rfl, k1, k2, k3, k4⟩⟩
      | goto id => exact ⟨.goto id, s1, ⟨rfl, rfl⟩, ⟨ρ', rfl, k1, k2, k3, k4⟩⟩
      | ret => exact ⟨.ret, s1, ⟨rfl, rfl⟩, ⟨ρ', rfl, k1, k2, k3, k4⟩⟩
      | pan v => exact ⟨.pan v, s1, ⟨rfl, rfl⟩, ⟨ρ', rfl, k1, k2, k3, k4⟩⟩
    · refine wp_mono (h hn w0 ρ a w hr) ?_
      rintro e a' w' ⟨o1, s2, ⟨rfl, rfl⟩, ha⟩
      obtain ⟨ρ', rfl, k1, k2, k3, k4⟩ := ha
      have := rounds_of m ρ' a' w' k k3 k1
      have mono : ∀ (m : Nat) (a : Act) (w : World), Code.rounds P b (fun e a' w' => ∃ o1 s1, (o1 = o ∧ s1 = s') ∧ After w0 ρ' n o1 s1 e a' w') m a w →
          Code.rounds P b (fun e a' w' => ∃ o1 s1, (o1 = o ∧ s1 = s') ∧ After w0 ρ n o1 s1 e a' w') m a w := by
        intro m
        induction m with
        | zero => intro a w h; exact h
        | succ m ih =>
          intro a w h
          rw [rounds_succ] at h ⊢
          refine wp_mono h ?_
          intro e a' w' q
          cases e with
          | normal => exact ih _ _ q
          | _ => obtain ⟨o1, s1, q1, q2⟩ := q; exact ⟨o1, s1, q1, q2.step k2⟩
      exact mono m a' w' this
theorem awpn_rounds {P : Program} {n m : Nat} {b : Code} {s : St} {o : AOut} {s' : St} (h : RoundsA P n b m s o s') : AWPn P n (.loop b) s fun o1 s1 => o1 = o ∧ s1 = s' :=
  fun hn _ ρ a w hr => wp_loop_rounds m (rounds_of m ρ a w h hn hr)
theorem awpn_scope {P : Program} {n : Nat} {s : St} {c : Code} {Φ : AOut → St → Prop} (h : AWPn P n c s fun o s' => (∀ i, o ≠ .goto i) ∧ Φ o s') : AWPn P n (.scope c) s Φ := by
  intro hn w0 ρ a w hr
  refine wp_scope_straight (wp_mono (h hn w0 ρ a w hr) ?_)
  rintro e a' w' ⟨o, s', ⟨h0, h1⟩, ⟨ρ', rfl, h2, h3, h4, h5⟩⟩
  cases o with
  | goto i => exact absurd rfl (h0 i)
  | normal => exact ⟨.normal, s', h1, ⟨ρ', rfl, h2, h3, h4, h5⟩⟩
  | exit i => exact ⟨.exit i, s', h1, ⟨ρ', rfl, h2, h3, h4, h5⟩⟩
  | ret => exact ⟨.ret, s', h1, ⟨ρ', rfl, h2, h3, h4, h5⟩⟩
  | pan v => exact ⟨.pan v, s', h1, ⟨ρ', rfl, h2, h3, h4, h5⟩⟩
theorem evalK_sound {P : Program} {A : Anns} {k : Nat} (hT : TabOk P T) (hH : CHOk P ch) (hm : P.follows .mixedOrders = true) :
    ∀ (n : Nat) {R : Type} (c : Code) (s : St) (ow : Ow) (K : AOut → St → Ow → Option R) (r : R), (∀ b ∈ loopsOf c, ∀ la, A (regOf b) = some la → LaOk P k la b) → evalK T ch A n c s ow K = some r →
      ∃ o s' ow', K o s' ow' = some r ∧ ow.le ow' ∧ (ow'.ok → AWPn P k c s fun o1 s1 => o1 = o ∧ s1 = s') := by
  intro n
  induction n using Nat.strongRecOn with
  | _ n ih =>
    cases n with
    | zero => intro R c s ow K r _ h; simp [evalK] at h
    | succ n =>
      intro R c s ow K r hA h
      cases c with
      | skip => exact ⟨_, _, _, by simpa only [evalK] using h, .refl _, fun _ => (awp_skip (Φ := fun o1 s1 => o1 = .normal ∧ s1 = s) ⟨rfl, rfl⟩).to_n⟩
      | label l => exact ⟨_, _, _, by simpa only [evalK] using h, .refl _, fun _ => (awp_label (Φ := fun o1 s1 => o1 = .normal ∧ s1 = s) ⟨rfl, rfl⟩).to_n⟩
      | exit l => exact ⟨_, _, _, by simpa only [evalK] using h, .refl _, fun _ => (awp_exit (Φ := fun o1 s1 => o1 = .exit l ∧ s1 = s) ⟨rfl, rfl⟩).to_n⟩
      | goto l => exact ⟨_, _, _, by simpa only [evalK] using h, .refl _, fun _ => (awp_goto (Φ := fun o1 s1 => o1 = .goto l ∧ s1 = s) ⟨rfl, rfl⟩).to_n⟩
      | ret => exact ⟨_, _, _, by simpa only [evalK] using h, .refl _, fun _ => (awp_ret (Φ := fun o1 s1 => o1 = .ret ∧ s1 = s) ⟨rfl, rfl⟩).to_n⟩
      | region id ops d =>
        cases d with
        | false =>
          simp only [evalK] at h
          rcases runK_spec h with ⟨s', ow', h1, h2, h3⟩ | ⟨v, s', ow', h1, h2, h3⟩
          · exact ⟨_, _, _, h1, h2, fun ho => (awp_region hT hH.1 (h3 ho) (Φ := fun o1 s1 => o1 = .normal ∧ s1 = s') ⟨rfl, rfl⟩).to_n⟩
          · exact ⟨_, _, _, h1, h2, fun ho => (awp_region hT hH.1 (h3 ho) (Φ := fun o1 s1 => o1 = .pan v ∧ s1 = s') ⟨rfl, rfl⟩).to_n⟩
        | true =>
          simp only [evalK] at h
          rcases drawK_spec hH h with ⟨s', ow', h1, h2, hst, h3⟩ | ⟨v, s', ow', m, o, h1, h2, ho, hC, hst, h3⟩
          · exact ⟨_, _, _, h1, h2, fun hok => (awp_draw hT hH.1 hH.2.2 hm hst (h3 hok) (Φ := fun o1 s1 => o1 = .normal ∧ s1 = s') ⟨rfl, rfl⟩).to_n⟩
          · exact ⟨_, _, _, h1, h2, fun hok => by
              obtain ⟨s1, q1, q2⟩ := h3 hok
              exact (awp_draw_pan hT hH.1 hH.2.2 hm ho hst hC q1 q2 (Φ := fun o1 s1 => o1 = .pan v ∧ s1 = s') ⟨rfl, rfl⟩).to_n⟩
      | seq a b =>
        simp only [evalK] at h
        have hAa : ∀ b ∈ loopsOf a, ∀ la, A (regOf b) = some la → LaOk P k la b := fun q hq => hA q (List.mem_append_left _ hq)
        have hAb : ∀ q ∈ loopsOf b, ∀ la, A (regOf q) = some la → LaOk P k la q := fun q hq => hA q (List.mem_append_right _ hq)
        obtain ⟨o, s1, ow1, h1, h2, h3⟩ := ih n (Nat.lt_succ_self n) a s ow _ r hAa h
        cases o with
        | normal =>
          obtain ⟨o2, s2, ow2, k1, k2, k3⟩ := ih n (Nat.lt_succ_self n) b s1 ow1 K r hAb h1
          refine ⟨o2, s2, ow2, k1, h2.trans k2, fun ho => awpn_seq ((h3 (k2.ok ho)).mono ?_)⟩
          rintro o1 s' ⟨rfl, rfl⟩
          exact k3 ho
        | exit i => exact ⟨_, _, _, h1, h2, fun ho => awpn_seq ((h3 ho).mono (by rintro o1 s' ⟨rfl, rfl⟩; exact ⟨rfl, rfl⟩))⟩
        | goto i => exact ⟨_, _, _, h1, h2, fun ho => awpn_seq ((h3 ho).mono (by rintro o1 s' ⟨rfl, rfl⟩; exact ⟨rfl, rfl⟩))⟩
        | ret => exact ⟨_, _, _, h1, h2, fun ho => awpn_seq ((h3 ho).mono (by rintro o1 s' ⟨rfl, rfl⟩; exact ⟨rfl, rfl⟩))⟩
        | pan v => exact ⟨_, _, _, h1, h2, fun ho => awpn_seq ((h3 ho).mono (by rintro o1 s' ⟨rfl, rfl⟩; exact ⟨rfl, rfl⟩))⟩
      | cond c a b =>
        simp only [evalK] at h
        split at h
        · rename_i hc
          obtain ⟨o, s1, ow1, h1, h2, h3⟩ := ih n (Nat.lt_succ_self n) a s ow _ r (fun q hq => hA q (List.mem_append_left _ hq)) h
          exact ⟨o, s1, ow1, h1, h2, fun ho => awpn_cond hc (h3 ho)⟩
        · rename_i hc
          obtain ⟨o, s1, ow1, h1, h2, h3⟩ := ih n (Nat.lt_succ_self n) b s ow _ r (fun q hq => hA q (List.mem_append_right _ hq)) h
          exact ⟨o, s1, ow1, h1, h2, fun ho => awpn_cond hc (h3 ho)⟩
        · cases h
      | block id b =>
        simp only [evalK] at h
        obtain ⟨o, s1, ow1, h1, h2, h3⟩ := ih n (Nat.lt_succ_self n) b s ow _ r hA h
        cases o with
        | exit i =>
          simp only at h1
          split at h1
          · rename_i e
            exact ⟨_, _, _, h1, h2, fun ho => awpn_block ((h3 ho).mono (by rintro o1 s' ⟨rfl, rfl⟩; simp only [AOut.inBlock]; rw [if_pos e]; exact ⟨trivial, trivial⟩))⟩
          · rename_i e
            exact ⟨_, _, _, h1, h2, fun ho => awpn_block ((h3 ho).mono (by rintro o1 s' ⟨rfl, rfl⟩; simp only [AOut.inBlock]; rw [if_neg e]; exact ⟨trivial, trivial⟩))⟩
        | normal => exact ⟨_, _, _, h1, h2, fun ho => awpn_block ((h3 ho).mono (by rintro o1 s' ⟨rfl, rfl⟩; exact ⟨rfl, rfl⟩))⟩
        | goto i => exact ⟨_, _, _, h1, h2, fun ho => awpn_block ((h3 ho).mono (by rintro o1 s' ⟨rfl, rfl⟩; exact ⟨rfl, rfl⟩))⟩
        | ret => exact ⟨_, _, _, h1, h2, fun ho => awpn_block ((h3 ho).mono (by rintro o1 s' ⟨rfl, rfl⟩; exact ⟨rfl, rfl⟩))⟩
        | pan v => exact ⟨_, _, _, h1, h2, fun ho => awpn_block ((h3 ho).mono (by rintro o1 s' ⟨rfl, rfl⟩; exact ⟨rfl, rfl⟩))⟩
      | loop b =>
        cases hla : A (regOf b) with
        | some la =>
          simp only [evalK, hla] at h
          rw [la.nat] at h
          obtain ⟨⟨o, s'⟩, h1, h2⟩ := Option.bind_eq_some_iff.1 h
          exact ⟨o, s', _, h2, .refl _, fun ho => hA b (by simp [loopsOf]) la hla s o s' h1⟩
        | none =>
          have hAb : ∀ q ∈ loopsOf b, ∀ la, A (regOf q) = some la → LaOk P k la q := fun q hq => hA q (by simp [loopsOf, hq])
          have key : ∀ (m : Nat), m ≤ n + 1 → ∀ (s : St) (ow : Ow), evalK T ch A m (.loop b) s ow K = some r →
              ∃ o s' ow', K o s' ow' = some r ∧ ow.le ow' ∧ (ow'.ok → ∃ j, RoundsA P k b j s o s') := by
            intro m
            induction m with
            | zero => intro _ s ow h; simp [evalK] at h
            | succ m ihm =>
              intro hmn s ow h
              simp only [evalK, hla] at h
              obtain ⟨o, s1, ow1, h1, h2, h3⟩ := ih m (by omega) b s ow _ r hAb h
              cases o with
              | normal =>
                obtain ⟨o2, s2, ow2, k1, k2, k3⟩ := ihm (by omega) s1 ow1 h1
                exact ⟨o2, s2, ow2, k1, h2.trans k2, fun ho => by
                  obtain ⟨j, hj⟩ := k3 ho
                  exact ⟨j + 1, .inr ⟨s1, h3 (k2.ok ho), hj⟩⟩⟩
              | exit i => exact ⟨_, _, _, h1, h2, fun ho => ⟨1, .inl ⟨by simp, h3 ho⟩⟩⟩
              | goto i => exact ⟨_, _, _, h1, h2, fun ho => ⟨1, .inl ⟨by simp, h3 ho⟩⟩⟩
              | ret => exact ⟨_, _, _, h1, h2, fun ho => ⟨1, .inl ⟨by simp, h3 ho⟩⟩⟩
              | pan v => exact ⟨_, _, _, h1, h2, fun ho => ⟨1, .inl ⟨by simp, h3 ho⟩⟩⟩
          obtain ⟨o, s', ow', h1, h2, h3⟩ := key (n + 1) (Nat.le_refl _) s ow h
          exact ⟨o, s', ow', h1, h2, fun ho => by obtain ⟨j, hj⟩ := h3 ho; exact awpn_rounds hj⟩
      | scope b =>
        simp only [evalK] at h
        obtain ⟨o, s1, ow1, h1, h2, h3⟩ := ih n (Nat.lt_succ_self n) b s ow _ r hA h
        cases o with
        | goto i => cases h1
        | normal => exact ⟨_, _, _, h1, h2, fun ho => awpn_scope ((h3 ho).mono (by rintro o1 s' ⟨rfl, rfl⟩; exact ⟨by simp, rfl, rfl⟩))⟩
        | exit i => exact ⟨_, _, _, h1, h2, fun ho => awpn_scope ((h3 ho).mono (by rintro o1 s' ⟨rfl, rfl⟩; exact ⟨by simp, rfl, rfl⟩))⟩
        | ret => exact ⟨_, _, _, h1, h2, fun ho => awpn_scope ((h3 ho).mono (by rintro o1 s' ⟨rfl, rfl⟩; exact ⟨by simp, rfl, rfl⟩))⟩
        | pan v => exact ⟨_, _, _, h1, h2, fun ho => awpn_scope ((h3 ho).mono (by rintro o1 s' ⟨rfl, rfl⟩; exact ⟨by simp, rfl, rfl⟩))⟩
      | rangeFunc f ps a b => simp [evalK] at h
      | refuse w => simp [evalK] at h
end
end Go.Ev

