import Derived.Test.YtbmjabafceihgaaKad
import Derived.LoopN
import Derived.Scope
set_option linter.unusedVariables false
set_option linter.unusedSimpArgs false
set_option maxRecDepth 100000
noncomputable section
namespace Go.Ev
abbrev Ow := List (Option ab × Option ab)
def Ow.nil : Ow := []
def Ow.app (a b : Ow) : Ow := a ++ b
def Ow.ok (a : Ow) : Prop := ∀ x ∈ a, x.1 = x.2
def Ow.le (a b : Ow) : Prop := ∃ x, b = a ++ x
theorem Ow.le.refl (a : Ow) : a.le a := ⟨[], by simp⟩
theorem Ow.le.trans {a b c : Ow} (h : a.le b) (k : b.le c) : a.le c := by
 obtain ⟨x, h1⟩ := h
 obtain ⟨z, k1⟩ := k
 exact ⟨x ++ z, by rw [k1, h1, UV]⟩
theorem Ow.le.ok {a b : Ow} (h : a.le b) (k : b.ok) : a.ok := by
 obtain ⟨x, h1⟩ := h
 exact fun q hq => k q (by rw [h1]; exact List.mem_append_left _ hq)
theorem Ow.f7 (a b : Ow) : a.le (a.app b) := ⟨_, rfl⟩
theorem Ow.nv {a b : Ow} (h : (a.app b).ok) : b.ok := fun q hq => h q (List.mem_append_right _ hq)
theorem Ow.Ct : Ow.nil.ok := fun _ h => (by cases h)
structure CH where
 call : {R : Type} → FuncId → LA_ → Mem → (fc → Mem → Ow → Option R) → Option R
 nat : ∀ {R : Type} (g : FuncId) (args : LA_) (σ : Mem) (k : fc → Mem → Ow → Option R),
  call g args σ k = (call g args σ fun r σ' o => some (r, σ', o)).bind fun x => k x.1 x.2.1 x.2.2
 ext : FuncId → Bool
 pf : FuncId → Nat
open Classical in
def CH.H (ch : CH) : bT := fun g args σ =>
 match ch.call g args σ fun r σ' o => some (r, σ', o) with
 | some (r, σ', o) => if o.ok then some (r, σ') else none
 | none => none
def CH.Hb (ch : CH) : bT := fun g args σ =>
 match ch.call g args σ fun r σ' o => some (r, σ', o) with
 | some (r, σ', []) => some (r, σ')
 | _ => none
theorem CH.S8 {ch : CH} {g : FuncId} {args : LA_} {σ : Mem} {x : fc × Mem} (h : ch.Hb g args σ = some x) : ch.H g args σ = some x := by
 unfold CH.Hb at h
 split at h
 ·rename_i r σ' hx
  simp only [CH.H, hx]
  rw [if_pos (show Ow.ok [] from Ow.Ct)]
  exact h
 ·cases h
def aG (P : Program) (ch : CH) : Prop := jo P ch.H ∧ (∀ g args σ r σ', ch.ext g = true → ch.H g args σ = some (r, σ') → Ext σ σ') ∧ eX ch.pf ch.H
theorem CH.cO {ch : CH} {R : Type} {g : FuncId} {args : LA_} {σ : Mem} {k : fc → Mem → Ow → Option R} {x : R} (h : ch.call g args σ k = some x) :
  ∃ r σ' o, k r σ' o = some x ∧ (o.ok → ch.H g args σ = some (r, σ')) := by
 rw [ch.nat] at h
 obtain ⟨⟨r, σ', o⟩, h1, h2⟩ := bE_ h
 exact ⟨r, σ', o, h2, fun ho => by simp only [CH.H, h1, if_pos ho]⟩
def af {R : Type} (c : Bool) (x : Option R) : Option R :=
 match c with
 | true => x
 | false => none
theorem aH {R : Type} {c : Bool} {x : Option R} {r : R} (h : af c x = some r) : c = true ∧ x = some r := by
 cases c with
 | true => exact ⟨rfl, h⟩
 | false => cases h
@[simp] theorem aw {R : Type} (x : Option R) : af true x = x := rfl
@[simp] theorem TU {R : Type} (x : Option R) : af false x = none := rfl
def Ol {R : Type} (v : ab) (k : ab → Option R) : Option R :=
 match v with
 | .bool b => cond b (k (.bool true)) (k (.bool false))
 | v => k v
theorem Iz {R : Type} (v : ab) (k : ab → Option R) : Ol v k = k v := by
 cases v <;> try rfl
 case bool b => cases b <;> rfl
def ac (cs : LA_) (i : Nat) : Int := match cs[i]? with
 | some (.int _ n) => n
 | _ => 0
def S9 (cs : LA_) (i : Nat) : Bool := match cs[i]? with
 | some (.bool b) => b
 | _ => false
def Ta (cs : LA_) (i : Nat) : ByteArray := match cs[i]? with
 | some (.str s) => s
 | _ => ⟨#[]⟩
def isK : TK → Option ab → Bool
 | .int k, some (.int l _) => decide (k = l)
 | .bool, some (.bool _) => true
 | .str, some (.str _) => true
 | _, _ => false
def aq : List TK → LA_ → Nat → Bool
 | [], _, _ => true
 | k :: ks, cs, o => isK k (cs[o]?) && aq ks cs (o + 1)
def CY (k : TK) (cs : LA_) (i : Nat) : ab :=
 match k with
 | .int k => .int k (ac cs i)
 | .bool => .bool (S9 cs i)
 | .str => .str (Ta cs i)
 | _ => .tup []
def tt (cs : LA_) (o : Nat) : List TK → Nat → LA_
 | [], _ => []
 | k :: ks, j => CY k cs (o + j) :: tt cs o ks (j + 1)
theorem PR {k : TK} {cs : LA_} {i : Nat} (h : isK k (cs[i]?) = true) : cs[i]? = some (CY k cs i) := by
 cases hc : cs[i]? with
 | none => rw [hc] at h; cases k <;> cases h
 | some v =>
  rw [hc] at h
  cases k <;> cases v <;> simp only [isK, UE, UI] at h
  ·subst h; simp [CY, ac, hc]
  ·simp [CY, S9, hc]
  ·simp [CY, Ta, hc]
theorem yC {cs : LA_} {o : Nat} : ∀ {ks : List TK} {j : Nat}, aq ks cs (o + j) = true → (cs.drop (o + j)).take ks.length = tt cs o ks j ∧ o + j + ks.length ≤ cs.length ∨ ks = []
 | [], j, _ => .inr rfl
 | k :: ks, j, h => by
  simp only [aq, UC] at h
  have h1 := PR h.1
  have hl := (UL.1 h1).1
  refine .inl ?_
  have hd : cs.drop (o + j) = CY k cs (o + j) :: cs.drop (o + j + 1) := by
   rw [List.drop_eq_getElem_cons hl]
   congr 1
   exact (UL.1 h1).2
  rcases yC (j := j + 1) h.2 with ⟨i1, i2⟩ | rfl
  ·refine ⟨?_, by simp only [UW]; omega⟩
   rw [hd]
   simp only [UW, List.take_succ_cons, tt]
   congr 1
  ·refine ⟨?_, by simp only [UW, List.length_nil]; omega⟩
   rw [hd]
   simp [tt]
def Om (i : TyI) : Option (List TK) := if i.agg then i.flat else match i.k with
 | .slice _ => none
 | k => some [k]
def wO {R : Type} (T : ar) (σ : Mem) (t : TypeId) (x : ab) (k : ab → Option R) : Option R :=
 match x with
 | .ptr b o =>
  match T t, σ.get b with
  | some i, some (.vec cs _ _ _) => match Om i with
   | some ks => if ks.length = i.size ∧ ks ≠ [] then af (aq ks cs o) (k (if i.agg then .agg (tt cs o ks 0) else (tt cs o ks 0).headD (.tup []))) else none
   | none => match p8 T σ t (.ptr b o) with
    | some v => k v
    | none => none
  | some _, some (.cells _ _ _) => match p8 T σ t (.ptr b o) with
   | some v => k v
   | none => none
  | _, _ => none
 | _ => none
theorem GB {R : Type} {T : ar} {σ : Mem} {t : TypeId} {x : ab} {k : ab → Option R} {r : R} (h : wO T σ t x k = some r) : ∃ v, p8 T σ t x = some v ∧ k v = some r := by
 unfold wO at h
 split at h
 ·rename_i b o
  split at h
  ·rename_i i cs _ _ _ hT hg
   split at h
   ·rename_i ks hks
    split at h
    ·rename_i hl
     obtain ⟨h1, h2⟩ := aH h
     refine ⟨_, ?_, h2⟩
     rcases yC (o := o) (j := 0) (ks := ks) h1 with ⟨q1, q2⟩ | q
     ·simp only [Nat.add_zero] at q1 q2
      have hc : cC σ b o i.size = some (tt cs o ks 0) := by
       simp only [cC, hg]
       rw [if_pos (by omega), ← hl.1, q1]
      simp only [p8, hT, hc]
      split
      ·rfl
      ·cases ks with
       | nil => exact absurd rfl hl.2
       | cons a l => rfl
     ·exact absurd q hl.2
    ·cases h
   ·split at h
    ·rename_i v hv; exact ⟨v, hv, h⟩
    ·cases h
  ·split at h
   ·rename_i v hv; exact ⟨v, hv, h⟩
   ·cases h
  ·cases h
 ·cases h
def H4 {R : Type} (T : ar) (σ : Mem) (t : TypeId) (x i : ab) (k : ab → Option R) : Option R :=
 match T t, x, i with
 | some { k := .slice e, .. }, .vec b, .int _ n =>
  match T e, σ.get b with
  | some j, some (.vec _ l _ _) => af (decide (0 ≤ n) && decide (n < (l : Int))) (k (.ptr b (n.toNat * j.size)))
  | _, _ => none
 | some { k := .slice e, .. }, .slice b o l _ _, .int _ n =>
  match T e with
  | none => none
  | some j => af (decide (0 ≤ n) && decide (n < (l : Int))) (k (.ptr b (o + n.toNat * j.size)))
 | some { k := .arr l e, .. }, .ptr b o, .int _ n =>
  match T e with
  | none => none
  | some j => af (decide (0 ≤ n) && decide (n < (l : Int))) (k (.ptr b (o + n.toNat * j.size)))
 | _, _, _ => none
theorem On {R : Type} {T : ar} {σ : Mem} {t : TypeId} {x i : ab} {k : ab → Option R} {r : R} (h : H4 T σ t x i k = some r) : ∃ v, fv T σ t x i = some v ∧ k v = some r := by
 unfold H4 at h
 split at h
 ·rename_i hT
  split at h
  ·rename_i hTe hg
   obtain ⟨h1, h2⟩ := aH h
   simp only [UC, UI] at h1
   exact ⟨_, by simp only [fv, hT, hTe, hg]; rw [if_pos h1], h2⟩
  ·cases h
 ·rename_i hT
  split at h
  ·cases h
  ·rename_i hTe
   obtain ⟨h1, h2⟩ := aH h
   simp only [UC, UI] at h1
   exact ⟨_, by simp only [fv, hT, hTe]; rw [if_pos h1], h2⟩
 ·rename_i hT
  split at h
  ·cases h
  ·rename_i hTe
   obtain ⟨h1, h2⟩ := aH h
   simp only [UC, UI] at h1
   exact ⟨_, by simp only [fv, hT, hTe]; rw [if_pos h1], h2⟩
 ·cases h
def GC (x : Option ab) (d : Nat) : Option (Bool × Nat) :=
 match x with
 | none => some (true, d)
 | some (.int _ n) => some (decide (0 ≤ n), n.toNat)
 | _ => none
theorem DY {x : Option ab} {d m : Nat} {c : Bool} (h : GC x d = some (c, m)) (hc : c = true) : dl x d = some m := by
 unfold GC at h
 unfold dl
 split at h
 ·cases h; rfl
 ·cases h
  simp only [UI] at hc
  simp only [hc, if_true]
 ·cases h
def ux {R : Type} (T : ar) (σ : Mem) (t : TypeId) (x : ab) (low high : Option ab) (k : ab → Option R) : Option R :=
 match T t, x with
 | some { k := .slice e, .. }, .vec b => match T e, σ.get b with
  | some j, some (.vec _ n sz false) => match GC low 0, GC high n with
   | some (c, lo), some (c', hi) => cond (Nat.beq sz j.size) (af (c && (c' && (decide (lo ≤ hi) && (decide (hi ≤ n) && decide (lo < n))))) (k (.slice b (lo * sz) (hi - lo) false lo))) none
   | _, _ => none
  | _, _ => none
 | _, _ => none
theorem KD {R : Type} {T : ar} {σ : Mem} {t : TypeId} {x : ab} {low high : Option ab} {k : ab → Option R} {r : R} (h : ux T σ t x low high k = some r) :
  ∃ v, sB T σ t x low high = some v ∧ k v = some r := by
 unfold ux at h
 split at h
 rotate_left
 ·cases h
 rename_i hT
 split at h
 rotate_left
 ·cases h
 rename_i j cs n sz hj hg
 split at h
 rotate_left
 ·cases h
 rename_i c lo c' hi h1 h2
 cases hz : Nat.beq sz j.size with
 | false => rw [hz] at h; cases h
 | true =>
  rw [hz] at h
  obtain ⟨q, h⟩ := aH h
  simp only [UC, UI] at q
  refine ⟨_, ?_, h⟩
  simp only [sB, hT, hj, hg, DY h1 q.1, DY h2 q.2.1]
  rw [if_pos ⟨q.2.2.1, q.2.2.2.1, q.2.2.2.2, UR hz⟩]
def Cu (σ : Mem) (size : Nat) (x : ab) : Bool × Option (LA_ × Nat) :=
 match x with
 | .slice b o l _ _ => match σ.get b with
  | some (.vec cs _ _ _) => (decide (o + l * size ≤ cs.length), some ((cs.drop o).take (l * size), l))
  | _ => (true, bN σ size x)
 | _ => (true, bN σ size x)
theorem Lu {σ : Mem} {size : Nat} {x : ab} (h : (Cu σ size x).1 = true) : bN σ size x = (Cu σ size x).2 := by
 unfold Cu at h ⊢
 split
 ·rename_i b o l ex c
  split
  ·rename_i cs n sz own hg
   simp only [hg, UI] at h
   simp only [bN, cC, hg, h, if_true, US]
  ·rfl
 ·rfl
def H5 {R : Type} (T : ar) (σ : Mem) (t : TypeId) (s x : ab) (k : ab → Mem → Option R) : Option R :=
 match T t with
 | some { k := .slice e, .. } =>
  match T e with
  | none => none
  | some j =>
   match bN σ j.size s, (Cu σ j.size x).2 with
   | some (cs, l), some (ds, m) =>
    if j.size = 0 ∨ j.bytes = 0 then none else
    af ((Cu σ j.size x).1) (af (decide (2 * (l + m) * j.bytes ≤ 2 ^ 48)) (match yu σ j cs l ds m s x with
     | some (v, σ') => k v σ'
     | none => none))
   | _, _ => none
 | _ => none
theorem Oo {R : Type} {T : ar} {σ : Mem} {t : TypeId} {s x : ab} {k : ab → Mem → Option R} {r : R} (h : H5 T σ t s x k = some r) : ∃ v σ', oL T σ t s x = some (v, σ') ∧ k v σ' = some r := by
 unfold H5 at h
 split at h
 ·rename_i hT
  split at h
  ·cases h
  ·rename_i hTe
   split at h
   ·rename_i hcs hds
    split at h
    ·cases h
    ·rename_i hz
     obtain ⟨h0, h⟩ := aH h
     rw [← Lu h0] at hds
     obtain ⟨h1, h2⟩ := aH h
     simp only [UI] at h1
     split at h2
     ·rename_i v σ' hb
      refine ⟨v, σ', ?_, h2⟩
      simp only [oL, hT, hTe, hcs, hds]
      rw [if_neg (by rintro (q | q | q); exact hz (.inl q); exact hz (.inr q); omega), hb]
     ·cases h2
   ·cases h
 ·cases h
def Fj {R : Type} (T : ar) (c : Bool) (op : BinOp) (t : TypeId) (x y : ab) (k : ab → Option R) : Option R :=
 match op, x, y with
 | .quo, .int κ a, .int l b => if κ = l then af (!decide (b = 0)) (k (.int κ (κ.wrap (a.tdiv b)))) else none
 | .rem, .int κ a, .int l b => if κ = l then af (!decide (b = 0)) (k (.int κ (a.tmod b))) else none
 | .shl, .int κ a, .int _ b => af (!decide (b < 0)) (k (.int κ (κ.wrap (a * 2 ^ (min b.toNat κ.bits)))))
 | .shr, .int κ a, .int _ b => af (!decide (b < 0)) (k (.int κ (a.fdiv (2 ^ (min b.toNat κ.bits)))))
 | op, x, y => match xy T c op t x y with
  | some v => k v
  | none => none
def CZ {R : Type} (T : ar) (σ : Mem) (t : TypeId) (n : Int) (k : ab → Mem → Option R) : Option R :=
 match T t with
 | some { k := .slice e, .. } =>
  match T e with
  | none => none
  | some j => af (Jm j n) (k (.slice σ.next 0 n.toNat true n.toNat) (σ.push (.cells (times j.zero n.toNat) true (some j.size))))
 | _ => none
theorem MR {R : Type} {T : ar} {σ : Mem} {t : TypeId} {n : Int} {k : ab → Mem → Option R} {r : R} (h : CZ T σ t n k = some r) : ∃ v σ', CM T σ t n = some (v, σ') ∧ k v σ' = some r := by
 unfold CZ at h
 unfold CM
 split at h
 ·rename_i e hT
  split at h
  ·cases h
  ·rename_i j hj
   obtain ⟨h1, h2⟩ := aH h
   exact ⟨_, _, by simp only [hT, hj, h1, cond_true], h2⟩
 ·cases h
def wP (σ : Mem) : ab → Option (LA_)
 | .vec i => match σ.get i with
  | some (.vec cs _ _ _) => some cs
  | _ => none
 | _ => none
def MS (T : ar) (σ : Mem) (op : BinOp) (t : TypeId) (x y : ab) : Option (LA_ × ab) :=
 cond (F9 (T t)) (match (cond (gJ x) (wP σ y) (cond (gJ y) (wP σ x) none)), op with
  | some cs, .eql => some (cs, .bool false)
  | some cs, .neq => some (cs, .bool true)
  | _, _ => none) none
theorem GD {σ : Mem} {x : ab} {cs : LA_} (h : wP σ x = some cs) (hc : (!cs.isEmpty) = true) : iX σ x = true := by
 unfold wP at h
 split at h
 ·split at h
  ·rename_i hg
   cases h
   cases cs with
   | nil => cases hc
   | cons a l => simp only [iX, hg]
  ·cases h
 ·cases h
theorem Oq {T : ar} {σ : Mem} {op : BinOp} {t : TypeId} {x y : ab} {cs : LA_} {v : ab} (h : MS T σ op t x y = some (cs, v)) (hc : (!cs.isEmpty) = true) : B9 T σ op t x y = some v := by
 unfold MS at h
 cases hs : F9 (T t) with
 | false => rw [hs] at h; cases h
 | true =>
  rw [hs] at h
  simp only [cond_true] at h
  have key : ∀ {o : Option (LA_)}, o = (cond (gJ x) (wP σ y) (cond (gJ y) (wP σ x) none)) → ∀ l, o = some l → (!l.isEmpty) = true → ((gJ x && iX σ y) || (iX σ x && gJ y)) = true := by
   intro o ho l hl hlc
   rw [ho] at hl
   cases hx : gJ x with
   | true => rw [hx] at hl; simp only [cond_true] at hl; simp [GD hl hlc]
   | false =>
    rw [hx] at hl
    simp only [cond_false] at hl
    cases hy : gJ y with
    | true => rw [hy] at hl; simp only [cond_true] at hl; simp [GD hl hlc]
    | false => rw [hy] at hl; cases hl
  split at h
  ·rename_i l hl
   simp only [UB, UD] at h
   obtain ⟨rfl, rfl⟩ := h
   simp only [B9, key rfl _ hl hc, hs, UF, cond_true]
  ·rename_i l hl
   simp only [UB, UD] at h
   obtain ⟨rfl, rfl⟩ := h
   simp only [B9, key rfl _ hl hc, hs, UF, cond_true]
  ·cases h
def C0 {R : Type} (T : ar) (σ : Mem) (c n : Bool) (op : BinOp) (t : TypeId) (x y : ab) (k : ab → Option R) : Option R :=
 cond n (match MS T σ op t x y with
  | some q => af (!q.1.isEmpty) (k q.2)
  | none => Fj T c op t x y k) (Fj T c op t x y k)
theorem IA {R : Type} {T : ar} {c : Bool} {op : BinOp} {t : TypeId} {x y : ab} {k : ab → Option R} {r : R} (h : Fj T c op t x y k = some r) : ∃ v, xy T c op t x y = some v ∧ k v = some r := by
 unfold Fj at h
 split at h
 ·rename_i κ a l b
  split at h
  ·rename_i hk
   obtain ⟨h1, h2⟩ := aH h
   have h1' : ¬ b = 0 := by simpa using h1
   exact ⟨_, by simp only [xy, hk, if_true, zP]; rw [if_neg h1'], by rw [← hk]; exact h2⟩
  ·cases h
 ·rename_i κ a l b
  split at h
  ·rename_i hk
   obtain ⟨h1, h2⟩ := aH h
   have h1' : ¬ b = 0 := by simpa using h1
   exact ⟨_, by simp only [xy, hk, if_true, zP]; rw [if_neg h1'], by rw [← hk]; exact h2⟩
  ·cases h
 ·obtain ⟨h1, h2⟩ := aH h
  refine ⟨_, ?_, h2⟩
  simp only [xy, yt]
  rw [if_neg (by simpa using h1)]
 ·obtain ⟨h1, h2⟩ := aH h
  refine ⟨_, ?_, h2⟩
  simp only [xy, yt]
  rw [if_neg (by simpa using h1)]
 ·split at h
  ·rename_i v hv; exact ⟨v, hv, h⟩
  ·cases h
theorem MT {R : Type} {T : ar} {σ : Mem} {c n : Bool} {op : BinOp} {t : TypeId} {x y : ab} {k : ab → Option R} {r : R} (h : C0 T σ c n op t x y k = some r) : ∃ v, Ca T σ c n op t x y = some v ∧ k v = some r := by
 unfold C0 at h
 cases n with
 | false => obtain ⟨v, h1, h2⟩ := IA h; exact ⟨v, h1, h2⟩
 | true =>
  simp only [cond_true] at h
  split at h
  ·rename_i q hv
   obtain ⟨h1, h2⟩ := aH h
   exact ⟨q.2, by simp only [Ca, cond_true, Oq hv h1], h2⟩
  ·rename_i hv
   obtain ⟨v, h1, h2⟩ := IA h
   cases hb : B9 T σ op t x y with
   | none => exact ⟨v, by simp only [Ca, cond_true, hb]; exact h1, h2⟩
   | some u =>
    exfalso
    simp only [B9] at hb
    have hcs : ∀ {c : Bool} {z : Option ab}, cond c z none = some u → c = true ∧ z = some u := by
     intro c z hz
     cases c with
     | true => exact ⟨rfl, hz⟩
     | false => cases hz
    obtain ⟨q1, q2⟩ := hcs hb
    simp only [UC, Bool.or_eq_true] at q1
    have full : ∀ {z : ab}, iX σ z = true → ∃ cs, wP σ z = some cs := by
     intro z hz
     unfold iX at hz
     split at hz
     ·split at hz
      ·rename_i hg; exact ⟨_, (by simp only [wP, hg]; rfl)⟩
      ·cases hz
     ·cases hz
    simp only [MS, q1.2, cond_true] at hv
    rcases q1.1 with ⟨a, b⟩ | ⟨a, b⟩
    ·obtain ⟨cs, hcs⟩ := full b
     simp only [a, cond_true, hcs] at hv
     split at q2 <;> simp_all
    ·obtain ⟨cs, hcs⟩ := full a
     cases hx : gJ x with
     | true =>
      unfold gJ at hx
      split at hx
      ·simp [iX] at a
      ·cases hx
     | false =>
      simp only [hx, cond_false, b, cond_true, hcs] at hv
      split at q2 <;> simp_all
def C1 {R : Type} (T : ar) (σ : Mem) (t : TypeId) (x k v : ab) (K : Mem → Option R) : Option R := none
theorem KE {R : Type} {T : ar} {σ : Mem} {t : TypeId} {x k v : ab} {K : Mem → Option R} {r : R} (h : C1 T σ t x k v K = some r) : ∃ σ', ut T σ t x k v = some σ' ∧ K σ' = some r := by cases h
def Jt {R : Type} (T : ar) (σ : Mem) (t : TypeId) (x k : ab) (ok : Bool) (K : ab → Option R) : Option R := none
theorem MU {R : Type} {T : ar} {σ : Mem} {t : TypeId} {x k : ab} {ok : Bool} {K : ab → Option R} {r : R} (h : Jt T σ t x k ok K = some r) : ∃ v, ur T σ t x k ok = some v ∧ K v = some r := by cases h
def yD {R : Type} (T : ar) (σ : Mem) (t : TypeId) (x v : ab) (k : Mem → Option R) : Option R :=
 match T t, x with
 | some i, .ptr b o =>
  match σ.get b with
  | some (.vec cs n sz true) => if v.cellsOf.length = i.size ∧ v.p9 = false ∧ scC 0 v.cellsOf = true then
    af (decide (o + v.cellsOf.length ≤ cs.length)) (k (σ.set b (.vec (spliced cs o v.cellsOf) n sz true))) else none
  | some (.cells _ _ _) => match qa T σ t (.ptr b o) v with
   | some σ' => k σ'
   | none => none
  | _ => none
 | _, _ => none
theorem Lv {R : Type} {T : ar} {σ : Mem} {t : TypeId} {x v : ab} {k : Mem → Option R} {r : R} (h : yD T σ t x v k = some r) : ∃ σ', qa T σ t x v = some σ' ∧ k σ' = some r := by
 unfold yD at h
 split at h
 ·rename_i i b o hT
  split at h
  ·rename_i cs n sz hg
   split at h
   ·rename_i hc
    obtain ⟨h1, h2⟩ := aH h
    rw [UI] at h1
    refine ⟨_, ?_, h2⟩
    simp only [qa, hT]
    rw [if_pos ⟨hc.1, hc.2.1⟩]
    simp only [xz, hg]
    rw [if_pos ⟨h1, hc.2.2⟩]
   ·cases h
  ·split at h
   ·rename_i σ' hs; exact ⟨σ', hs, h⟩
   ·cases h
  ·cases h
 ·cases h
def dN (s : ByteArray) (i : Nat) : Int := match s[i]? with
 | some b => b.toNat
 | none => 0
def ixK {R : Type} (T : ar) (t : TypeId) (x i : ab) (k : ab → Option R) : Option R :=
 match T t, x, i with
 | some { k := .str, .. }, .str s, .int _ n => af (decide (0 ≤ n) && decide (n < (s.size : Int))) (k (.int .u8 (dN s n.toNat)))
 | some { k := .arr l e, .. }, .agg cs, .int _ n => (match T e with
  | some j => (match Om j with
   | some ks => if ks.length = j.size ∧ ks ≠ [] then af (decide (0 ≤ n) && decide (n < (l : Int)) && aq ks cs (n.toNat * j.size)) (k (if j.agg then .agg (tt cs (n.toNat * j.size) ks 0) else (tt cs (n.toNat * j.size) ks 0).headD (.tup []))) else none
   | none => (match sA T t x i with
    | some v => k v
    | none => none))
  | none => none)
 | _, x, i => match sA T t x i with
  | some v => k v
  | none => none
theorem PS {R : Type} {T : ar} {t : TypeId} {x i : ab} {k : ab → Option R} {r : R} (h : ixK T t x i k = some r) : ∃ v, sA T t x i = some v ∧ k v = some r := by
 unfold ixK at h
 split at h
 ·rename_i hT
  obtain ⟨h1, h2⟩ := aH h
  rw [UC, UI, UI] at h1
  refine ⟨_, ?_, h2⟩
  simp only [sA, hT]
  rw [if_pos h1.1]
  rename_i s _ n
  have hn : n.toNat < s.size := by omega
  unfold dN
  rw [getElem?_pos s n.toNat hn]
  rfl
 ·rename_i l e cs kn n hT
  split at h
  ·rename_i j hj
   split at h
   ·rename_i ks hks
    split at h
    ·rename_i hl
     obtain ⟨h1, h2⟩ := aH h
     simp only [UC, UI] at h1
     refine ⟨_, ?_, h2⟩
     simp only [sA, hT, hj]
     rw [if_pos h1.1]
     rcases yC (o := n.toNat * j.size) (j := 0) (ks := ks) h1.2 with ⟨q1, q2⟩ | q
     ·simp only [Nat.add_zero] at q1 q2
      simp only [Ga, hj]
      split
      ·rw [hl.1] at q1; rw [q1]
      ·cases ks with
       | nil => exact absurd rfl hl.2
       | cons a r =>
        have e1 : (cs.drop (n.toNat * j.size)).take (r.length + 1) = tt cs (n.toNat * j.size) (a :: r) 0 := q1
        have e2 := congrArg List.head? e1
        rw [List.head?_take] at e2
        simp only [Nat.add_one_ne_zero, if_false, List.head?_drop] at e2
        rw [e2]
        rfl
     ·exact absurd q hl.2
    ·cases h
   ·split at h
    ·rename_i v hv; exact ⟨v, hv, h⟩
    ·cases h
  ·cases h
 ·split at h
  ·rename_i v hv; exact ⟨v, hv, h⟩
  ·cases h
def opK {R : Type} (T : ar) (ch : CH) (op : Op) (tm : LA_) (σ : Mem) (k : cF → Mem → Ow → Option R) : Option R :=
  match op with
  | .call { callee := .value f, args, argTypes } => match ev tm f, evL tm args.toList with
    | some (.func g fs cs), some vs => cond (nM f argTypes.toList)
      (cond (sc 0 (.func g fs cs) && scL 0 vs) (ch.call g (fs ++ vs ++ cs) ⟨0, []⟩ fun r σ' o => match r with
        | .ret v => cond (wH σ' ⟨0, []⟩ && sc 0 v) (k (.val v) σ o) none
        | .pan _ => none) none)
      (ch.call g (fs ++ vs ++ cs) σ fun r σ' o => match r with
        | .ret v => k (.val v) σ' o
        | .pan v => k (.pan v) σ' o)
    | _, _ => none
  | .call { callee := .builtin .append, args, argTypes } => match argTypes.toList, evL tm args.toList with
    | [t, u], some [s, x] => match T u with
      | some { k := .slice _, .. } => H5 T σ t s x fun v σ' => k (.val v) σ' .nil
      | _ => none
    | _, _ => none
  | .load t x => match ev tm x with
    | some a => wO T σ t a fun v => k (.val v) σ .nil
    | none => none
  | .indexAddr t x i => match ev tm x, ev tm i with
    | some a, some b => H4 T σ t a b fun v => k (.val v) σ .nil
    | _, _ => none
  | .store t x y => match ev tm x, ev tm y with
    | some a, some v => yD T σ t a v fun σ' => k .skip σ' .nil
    | _, _ => none
  | .index t x i => match ev tm x, ev tm i with
    | some a, some b => ixK T t a b fun v => k (.val v) σ .nil
    | _, _ => none
  | .binOp o t x y _ => match ev tm x, ev tm y with
    | some a, some b => C0 T σ (ml x || ml y) (nu x || nu y) o t a b fun v => k (.val v) σ .nil
    | _, _ => none
  | .mapUpdate t m kx x => match ev tm m, ev tm kx, ev tm x with
    | some a, some b, some v => C1 T σ t a b v fun σ' => k .skip σ' .nil
    | _, _, _ => none
  | .makeSlice t l c => match Jn l c, ev tm l with
    | true, some (.int _ n) => CZ T σ t n fun v σ' => k (.val v) σ' .nil
    | _, _ => none
  | .lookup t x kx ok => match ev tm x, ev tm kx with
    | some a, some b => Jt T σ t a b ok fun v => k (.val v) σ .nil
    | _, _ => none
  | .slice t x l h none => match ev tm x, evO tm l, evO tm h with
    | some a, some lo, some hi => cond xA (ux T σ t a lo hi fun v => k (.val v) σ .nil) (match Gd T σ t a lo hi with
      | some (v, σ') => k (.val v) σ' .nil
      | none => none)
    | _, _, _ => none
  | op => match aM T CV op tm σ with
    | some (r, σ') => k r σ' .nil
    | none => none
theorem Ji {T : ar} {H : bT} {op : Op} {tm : LA_} {σ : Mem} {r : cF × Mem} (h : aM T CV op tm σ = some r) : aM T H op tm σ = some r := by
 unfold aM at h ⊢
 split at h <;> first | exact h | skip
 split at h
 ·rename_i g vs _ _
  have hn : ∀ σ, gi CV σ g vs = none := fun σ => by
   cases g <;> simp [gi, CV]
  simp only [qd, hn] at h
  generalize nM _ _ = b at h
  cases b
  ·cases h
  ·simp only [cond_true] at h
   generalize (sc 0 g && scL 0 vs) = c at h
   cases c <;> cases h
 ·cases h
theorem PT {R : Type} {T : ar} {ch : CH} {op : Op} {tm : LA_} {σ : Mem} {k : cF → Mem → Ow → Option R} {r : R} (h : opK T ch op tm σ k = some r) :
  ∃ x σ' o, k x σ' o = some r ∧ (o.ok → aM T ch.H op tm σ = some (x, σ')) := by
 unfold opK at h
 split at h
 ·rename_i f args ats
  split at h
  ·rename_i g fs cs vs hf hvs
   cases hd : nM f ats.toList with
   | false =>
    rw [hd] at h
    obtain ⟨r1, σ', o, h1, h2⟩ := CH.cO h
    cases r1 with
    | ret v => exact ⟨_, _, _, h1, fun ho => by simp only [aM, hf, hvs, qd, cond_false, gi, h2 ho, hd]⟩
    | pan v => exact ⟨_, _, _, h1, fun ho => by simp only [aM, hf, hvs, qd, cond_false, gi, h2 ho, hd]⟩
   | true =>
    rw [hd] at h
    simp only [cond_true] at h
    cases e1 : (sc 0 (.func g fs cs) && scL 0 vs) with
    | false => rw [e1] at h; cases h
    | true =>
     rw [e1] at h
     obtain ⟨r1, σ', o, h1, h2⟩ := CH.cO h
     cases r1 with
     | ret v =>
      simp only at h1
      cases e2 : (wH σ' ⟨0, []⟩ && sc 0 v) with
      | false => rw [e2] at h1; cases h1
      | true =>
       rw [e2] at h1
       simp only [UC] at e1 e2
       refine ⟨_, _, _, h1, fun ho => ?_⟩
       simp only [aM, hf, hvs, hd]
       exact HY (by simp only [gi, h2 ho, JU e2.1]) e2.2 e1.1 e1.2
     | pan v => cases h1
  ·cases h
 ·split at h
  ·rename_i hts hvs
   split at h
   ·rename_i hTu
    obtain ⟨v, σ', h1, h2⟩ := Oo h
    exact ⟨_, _, _, h2, fun _ => by simp only [aM, hvs, hts, iL, hTu, h1, US]⟩
   ·cases h
  ·cases h
 ·split at h
  ·rename_i hx
   obtain ⟨v, h1, h2⟩ := GB h
   exact ⟨_, _, _, h2, fun _ => by simp only [aM, hx, h1, US]⟩
  ·cases h
 ·split at h
  ·rename_i hx hi
   obtain ⟨v, h1, h2⟩ := On h
   exact ⟨_, _, _, h2, fun _ => by simp only [aM, hx, hi, h1, US]⟩
  ·cases h
 ·split at h
  ·rename_i hx hv
   obtain ⟨σ', h1, h2⟩ := Lv h
   exact ⟨_, _, _, h2, fun _ => by simp only [aM, hx, hv, h1, US]⟩
  ·cases h
 ·split at h
  ·rename_i hx hi
   obtain ⟨v, h1, h2⟩ := PS h
   exact ⟨_, _, _, h2, fun _ => by simp only [aM, hx, hi, h1, US]⟩
  ·cases h
 ·split at h
  ·rename_i hx hi
   obtain ⟨v, h1, h2⟩ := MT h
   exact ⟨_, _, _, h2, fun _ => by simp only [aM, hx, hi, h1, US]⟩
  ·cases h
 ·split at h
  ·rename_i hx hi hv
   obtain ⟨v, h1, h2⟩ := KE h
   exact ⟨_, _, _, h2, fun _ => by simp only [aM, hx, hi, hv, h1, US]⟩
  ·cases h
 ·split at h
  ·rename_i hs hx
   obtain ⟨v, σ', h1, h2⟩ := MR h
   exact ⟨_, _, _, h2, fun _ => by simp only [aM, hs, hx, h1, US]⟩
  ·cases h
 ·split at h
  ·rename_i hx hi
   obtain ⟨v, h1, h2⟩ := MU h
   exact ⟨_, _, _, h2, fun _ => by simp only [aM, hx, hi, h1, US]⟩
  ·cases h
 ·split at h
  ·rename_i hx hl hh
   cases hsl : xA with
   | true =>
    rw [hsl, cond_true] at h
    obtain ⟨v, h1, h2⟩ := KD h
    exact ⟨_, _, _, h2, fun _ => by simp only [aM, hx, hl, hh, hsl, h1, US, cond_true]⟩
   | false =>
    rw [hsl] at h
    simp only [cond_false] at h
    split at h
    ·rename_i h1
     exact ⟨_, _, _, h, fun _ => by simp only [aM, hx, hl, hh, hsl, h1, US, cond_false]⟩
    ·cases h
  ·cases h
 ·split at h
  ·rename_i hx
   exact ⟨_, _, _, h, fun _ => Ji hx⟩
  ·cases h
def cw {R : Type} (T : ar) (ch : CH) (all : List Oper) (o : Oper) (s : St) (k : ab → Mem → Ow → Option R) (kp : ab → Mem → Ow → Option R) (kd : oh → Mem → Ow → Option R) : Option R :=
 if gj all o s.tm then none else if br all o s.tm then
  opK T ch o.op s.tm s.mem fun r σ ow => match r with
   | .val v => Ol v fun v => k v σ ow
   | .skip => k (.tup []) σ ow
   | .pan v => kp v σ ow
   | .dfr d => kd d σ ow
 else k (.tup []) s.mem .nil
def runK {R : Type} (T : ar) (ch : CH) (all : List Oper) : List Oper → St → Ow → (St → Ow → Option R) → (ab → St → Ow → Option R) → Option R
  | [], s, ow, k, _ => k s ow
  | o :: r, s, ow, k, kp => cw T ch all o s (fun v σ o' => runK T ch all r ⟨bJ s.tm o.dst v, s.df, σ⟩ (ow.app o') k kp) (fun v σ o' => kp v ⟨s.tm, s.df, σ⟩ (ow.app o'))
    (fun d σ o' => runK T ch all r ⟨bJ s.tm o.dst (.tup []), d :: s.df, σ⟩ (ow.app o') k kp)
def trK {R : Type} (T : ar) (ch : CH) (all : List Oper) : List Oper → St → Ow → (List (St × ab) → St → Ow → Option R) → (List (St × ab) → St → ab → Mem → Ow → Option R) → Option R
  | [], s, ow, k, _ => k [] s ow
  | o :: r, s, ow, k, kp => cw T ch all o s (fun v σ o' => trK T ch all r ⟨bJ s.tm o.dst v, s.df, σ⟩ (ow.app o') (fun l e ow' => k ((s, v) :: l) e ow') (fun l e u σ' ow' => kp ((s, v) :: l) e u σ' ow'))
    (fun v σ o' => kp [] s v σ (ow.app o')) (fun _ _ _ => none)
def C2 (ch : CH) (o : Oper) (tm : LA_) : Bool :=
 match o.op with
 | .alloc _ | .box .. | .buildSlice .. => true
 | .makeMap _ none => true
 | .panic _ => true
 | .call { callee := .value f, .. } => match ev tm f with
  | some (.func g _ _) => ch.ext g
  | _ => false
 | _ => !ck ch.pf o
def m9 (bs : List Nat) (σ σ' : Mem) : Prop := σ.next ≤ σ'.next ∧ ∀ i, i < σ.next → bs.contains i = false → σ'.get i = σ.get i
theorem m9.refl (σ : Mem) : m9 [] σ σ := ⟨Nat.le_refl _, fun _ _ _ => rfl⟩
theorem m9.trans {x y : List Nat} {a b c : Mem} (h : m9 x a b) (k : m9 y b c) : m9 (x ++ y) a c := by
 refine ⟨Nat.le_trans h.1 k.1, fun i hi hc => ?_⟩
 have h1 : x.contains i = false ∧ y.contains i = false := by
  simp only [List.contains_eq_mem, U1, decide_eq_false_iff_not, not_or] at hc ⊢
  exact hc
 exact (k.2 i (Nat.lt_of_lt_of_le hi h.1) h1.2).trans (h.2 i hi h1.1)
def Tb : ab → Option Nat
 | .vec b => some b
 | .slice b _ _ true _ => some b
 | _ => none
def KF (ch : CH) (all : List Oper) (o : Oper) (tm : LA_) : Option (List Nat) :=
 match !(br all o tm) || C2 ch o tm with
 | true => some []
 | false => match o.op with
  | .store _ x _ => match ev tm x with
   | some (.ptr b _) => some [b]
   | _ => none
  | .mapUpdate _ m _ _ => match ev tm m with
   | some (.map b) => some [b]
   | _ => none
  | .call { callee := .builtin .append, args, .. } => match evL tm args.toList with
   | some [x, _] => (Tb x).map fun b => [b]
   | _ => none
  | _ => none
def qr (ch : CH) (all : List Oper) : List Oper → List (St × ab) → List (Option (List Nat))
 | o :: r, (s, _) :: tr => KF ch all o s.tm :: qr ch all r tr
 | _, _ => []
def C3 : List (Option (List Nat)) → Option (List Nat)
 | [] => some []
 | some l :: r => match C3 r with
  | some m => some (l ++ m)
  | none => none
 | none :: _ => none
def LW (es : List (Option (List Nat))) (i c : Nat) : Option (List Nat) := C3 ((es.drop (min i c)).take (max i c - min i c))
def KG (es : List (Option (List Nat))) (op : Op) (tm : LA_) (n i c : Nat) : Bool :=
 match LW es i c with
 | some bs => Fi op tm fun x => decide (x < n) && !bs.contains x
 | none => false
def PU (p : Option ab × Option ab) : Option ab × Option ab := match p.2 with
 | some v => (p.1, some v)
 | none => (none, some (.tup []))
theorem LX {p : Option ab × Option ab} (h : (PU p).1 = (PU p).2) : ∃ v, p.1 = some v ∧ p.2 = some v := by
 obtain ⟨x, y⟩ := p
 cases y with
 | some v => exact ⟨v, h, rfl⟩
 | none => cases h
def qt (pf : FuncId → Nat) (T : ar) (H : bT) (all : List Oper) (es : List (Option (List Nat))) (mems : List Mem) : List Oper → Nat → List (List Nat) → List (St × ab) → List (Option ab × Option ab)
 | o :: r, i, cs :: ps, (s, _) :: tr => (if br all o s.tm then (cs.filter fun c => !(decide (c < mems.length) && KG es o.op s.tm (min s.mem.next (mems.getD c ⟨0, []⟩).next) i c)).map fun c => PU ((mems[c]?).bind fun σ => (aM T H o.op s.tm σ).bind fun x => match x.1 with
   | .val u => some u
   | _ => none, Aj (aM T H o.op s.tm s.mem)) else []) ++ qt pf T H all es mems r (i + 1) ps tr
 | _, _, _, _ => []
def MV (T : ar) (ch : CH) (all : List Oper) (tr : List (St × ab)) (e : St) : Ow :=
 qt ch.pf T ch.Hb all (qr ch all all tr) (tr.map (·.1.mem) ++ [e.mem]) all 0 (vz ch.pf all) tr
def um {R : Type} (T : ar) (ch : CH) (all : List Oper) (s : St) (ow : Ow) (k : St → Ow → Option R) (kp : ab → St → Ow → Option R) : Option R :=
 trK T ch all all (qj ch.pf all s) ow (fun tr e ow' => af (kh ch.pf all (bc all []) (dW ch.pf all (bc all [])) && Gg all (dW ch.pf all (bc all [])) s.mem.next (qj ch.pf all s).mem.next (qj ch.pf all s) tr (tr.map (·.1.mem) ++ [e.mem])) (k e (ow'.app (MV T ch all tr e))))
  (fun tr e v σ ow' => af (wJ all tr.length && (kh ch.pf (all.take tr.length) (bc (all.take tr.length) []) (dW ch.pf (all.take tr.length) (bc (all.take tr.length) [])) && Nat.ble (dW ch.pf (all.take tr.length) (bc (all.take tr.length) [])).length (dW ch.pf all (bc all [])).length &&
   Gg (all.take tr.length) (dW ch.pf (all.take tr.length) (bc (all.take tr.length) [])) s.mem.next (qj ch.pf all s).mem.next (qj ch.pf all s) tr (tr.map (·.1.mem) ++ [e.mem]))) (kp v ⟨e.tm, e.df, σ⟩ (ow'.app (MV T ch (all.take tr.length) tr e))))
structure LA where
 run : {R : Type} → St → (an → St → Option R) → Option R
 nat : ∀ {R : Type} (s : St) (k : an → St → Option R), run s k = (run s fun o s' => some (o, s')).bind fun x => k x.1 x.2
def cX (P : Program) (n : Nat) (la : LA) (b : Code) : Prop :=
 ∀ s o s', (la.run s fun o s' => some (o, s')) = some (o, s') → dk P n (.loop b) s fun o1 s1 => o1 = o ∧ s1 = s'
def dK : Code → Option Nat
 | .region id _ _ => some id
 | .seq a b => (dK a).orElse fun _ => dK b
 | .cond _ a b => (dK a).orElse fun _ => dK b
 | .block _ b => dK b
 | .loop b => dK b
 | .scope b => dK b
 | .rangeFunc _ _ a b => (dK a).orElse fun _ => dK b
 | _ => none
abbrev qh := Option Nat → Option LA
def bD : qh := fun _ => none
def bh {R : Type} (T : ar) (ch : CH) (A : qh) : Nat → Code → St → Ow → (an → St → Ow → Option R) → Option R
 | 0, _, _, _, _ => none
 | n + 1, c, s, ow, K =>
  match c with
  | .skip => K .normal s ow
  | .label _ => K .normal s ow
  | .region _ ops false => runK T ch ops.toList ops.toList s ow (fun s' o' => K .normal s' o') (fun v s' o' => K (.pan v) s' o')
  | .region _ ops true => um T ch ops.toList s ow (fun s' o' => K .normal s' o') (fun v s' o' => K (.pan v) s' o')
  | .seq a b => bh T ch A n a s ow fun o s' ow' => match o with
   | .normal => bh T ch A n b s' ow' K
   | o => K o s' ow'
  | .cond c a b => match ev s.tm c with
   | some (.bool true) => bh T ch A n a s ow K
   | some (.bool false) => bh T ch A n b s ow K
   | _ => none
  | .block id b => bh T ch A n b s ow fun o s' ow' => match o with
   | .exit i => if i = id then K .normal s' ow' else K (.exit i) s' ow'
   | o => K o s' ow'
  | .loop b => match A (dK b) with
   | some la => la.run s fun o s' => K o s' ow
   | none => bh T ch A n b s ow fun o s' ow' => match o with
    | .normal => bh T ch A n (.loop b) s' ow' K
    | o => K o s' ow'
  | .scope b => bh T ch A n b s ow fun o s' ow' => match o with
   | .goto _ => none
   | o => K o s' ow'
  | .exit id => K (.exit id) s ow
  | .goto l => K (.goto l) s ow
  | .ret => K .ret s ow
  | _ => none
section
variable {R : Type} {T : ar} {ch : CH}
theorem GE {all : List Oper} {o : Oper} {s : St} {k kp : ab → Mem → Ow → Option R} {kd : oh → Mem → Ow → Option R} {r : R} (h : cw T ch all o s k kp kd = some r) :
  (∃ v σ ow, k v σ ow = some r ∧ (ow.ok → cR T ch.H all o s = some (v, σ))) ∨
  (∃ v σ ow, kp v σ ow = some r ∧ (ow.ok → et T ch.H all o s = some (.pan v ⟨s.tm, s.df, σ⟩))) ∨
  (∃ d σ ow, kd d σ ow = some r ∧ (ow.ok → et T ch.H all o s = some (.go ⟨bJ s.tm o.dst (.tup []), d :: s.df, σ⟩))) := by
 unfold cw at h
 cases hg : gj all o s.tm with
 | true => rw [hg] at h; simp at h
 | false =>
  rw [hg] at h
  simp only [UE, if_false] at h
  split at h
  ·rename_i hw
   obtain ⟨x, σ', ow, h1, h2⟩ := PT h
   cases x with
   | val v =>
    simp only [Iz] at h1
    exact .inl ⟨v, σ', ow, h1, fun ho => by simp only [cR, hg, hw, h2 ho, UE, if_false, if_true]⟩
   | skip => exact .inl ⟨_, σ', ow, h1, fun ho => by simp only [cR, hg, hw, h2 ho, UE, if_false, if_true]⟩
   | pan v => exact .inr (.inl ⟨v, σ', ow, h1, fun ho => by simp only [et, hg, hw, h2 ho, UE, if_false, if_true]⟩)
   | dfr d => exact .inr (.inr ⟨d, σ', ow, h1, fun ho => by simp only [et, hg, hw, h2 ho, UE, if_false, if_true]⟩)
  ·rename_i hw
   exact .inl ⟨_, _, _, h, fun _ => by simp only [cR, hg, hw, UE, if_false]⟩
theorem iC {all : List Oper} : ∀ {l : List Oper} {s : St} {ow : Ow} {k : St → Ow → Option R} {kp : ab → St → Ow → Option R} {r : R}, runK T ch all l s ow k kp = some r →
  (∃ s' ow', k s' ow' = some r ∧ ow.le ow' ∧ (ow'.ok → dX T ch.H all l s = some (.go s'))) ∨
  (∃ v s' ow', kp v s' ow' = some r ∧ ow.le ow' ∧ (ow'.ok → dX T ch.H all l s = some (.pan v s')))
 | [], s, ow, k, kp, r, h => .inl ⟨s, ow, h, .refl _, fun _ => rfl⟩
 | o :: l, s, ow, k, kp, r, h => by
  simp only [runK] at h
  rcases GE h with ⟨v, σ, o', h1, h2⟩ | ⟨v, σ, o', h1, h2⟩ | ⟨d, σ, o', h1, h2⟩
  ·rcases iC h1 with ⟨s', ow', k1, k2, k3⟩ | ⟨v', s', ow', k1, k2, k3⟩
   ·exact .inl ⟨s', ow', k1, (Ow.f7 ow o').trans k2, fun ho => by
     simp only [dX, iA (h2 (Ow.nv (k2.ok ho)))]; exact k3 ho⟩
   ·exact .inr ⟨v', s', ow', k1, (Ow.f7 ow o').trans k2, fun ho => by
     simp only [dX, iA (h2 (Ow.nv (k2.ok ho)))]; exact k3 ho⟩
  ·exact .inr ⟨v, _, _, h1, Ow.f7 _ _, fun ho => by simp only [dX, h2 (Ow.nv ho)]⟩
  ·rcases iC h1 with ⟨s', ow', k1, k2, k3⟩ | ⟨v', s', ow', k1, k2, k3⟩
   ·exact .inl ⟨s', ow', k1, (Ow.f7 ow o').trans k2, fun ho => by
     simp only [dX, h2 (Ow.nv (k2.ok ho))]; exact k3 ho⟩
   ·exact .inr ⟨v', s', ow', k1, (Ow.f7 ow o').trans k2, fun ho => by
     simp only [dX, h2 (Ow.nv (k2.ok ho))]; exact k3 ho⟩
theorem Fk {all : List Oper} : ∀ {l : List Oper} {s : St} {ow : Ow} {k : List (St × ab) → St → Ow → Option R} {kp : List (St × ab) → St → ab → Mem → Ow → Option R} {r : R}, trK T ch all l s ow k kp = some r →
  (∃ tr e ow', k tr e ow' = some r ∧ ow.le ow' ∧ (ow'.ok → trace T ch.H all l s = some (tr, e))) ∨
  (∃ tr e v σ ow', kp tr e v σ ow' = some r ∧ ow.le ow' ∧ ∃ o, l[tr.length]? = some o ∧ (ow'.ok → trace T ch.H all (l.take tr.length) s = some (tr, e) ∧ et T ch.H all o e = some (.pan v ⟨e.tm, e.df, σ⟩)))
 | [], s, ow, k, kp, r, h => .inl ⟨[], s, ow, h, .refl _, fun _ => rfl⟩
 | o :: l, s, ow, k, kp, r, h => by
  simp only [trK] at h
  rcases GE h with ⟨v, σ, o', h1, h2⟩ | ⟨v, σ, o', h1, h2⟩ | ⟨v, σ, o', h1, _⟩
  ·rcases Fk h1 with ⟨tr, e, ow', k1, k2, k3⟩ | ⟨tr, e, u, σ', ow', k1, k2, oo, k3, k4⟩
   ·exact .inl ⟨_, e, ow', k1, (Ow.f7 ow o').trans k2, fun ho => by simp only [trace, h2 (Ow.nv (k2.ok ho)), k3 ho]⟩
   ·refine .inr ⟨_, e, u, σ', ow', k1, (Ow.f7 ow o').trans k2, oo, by simpa using k3, fun ho => ?_⟩
    obtain ⟨q1, q2⟩ := k4 ho
    refine ⟨?_, q2⟩
    simp only [UW, List.take_succ_cons, trace, h2 (Ow.nv (k2.ok ho)), q1]
  ·exact .inr ⟨[], s, v, σ, _, h1, Ow.f7 _ _, o, by simp, fun ho => ⟨by simp [trace], h2 (Ow.nv ho)⟩⟩
  ·cases h1
theorem Cv {P : Program} (hH : aG P ch) {o : Oper} {tm : LA_} {σ σ' : Mem} {r : cF} (hr : aM T ch.H o.op tm σ = some (r, σ')) (he : C2 ch o tm = true) : Ext σ σ' := by
 by_cases hk : bV ch.pf o.op = 2
 ·unfold C2 at he
  split at he
  ·rename_i t ho
   simp only [ho, aM] at hr
   split at hr
   ·cases hr
   ·cases hr; exact .push _ _
  ·rename_i t x ho
   simp only [ho, aM] at hr
   split at hr
   ·split at hr
    ·cases hr
    ·cases hr; exact .push _ _
   ·cases hr
  ·rename_i t n ps ho
   simp only [ho, aM] at hr
   split at hr
   ·rename_i vs _
    cases hb : iK T σ t n vs with
    | none => rw [hb] at hr; cases hr
    | some q =>
     rw [hb] at hr; cases hr
     unfold iK at hb
     split at hb
     ·split at hb
      ·cases hb
      ·split at hb
       ·cases hb
       ·split at hb
        ·cases hb
        ·cases hb; exact .push _ _
     ·cases hb
   ·cases hr
  ·rename_i t ho
   simp only [ho, aM] at hr
   cases hr; exact .push _ _
  ·rename_i x ho
   simp only [ho, aM] at hr
   split at hr
   ·cases hr; exact .refl _
   ·cases hr
  ·rename_i f args ats ho
   simp only [ho, aM] at hr
   split at he
   ·rename_i g fs cs hf
    rw [hf] at hr
    split at hr
    ·rename_i g' vs hg' hvs
     simp only [UB] at hg'
     subst hg'
     cases hd : nM f ats.toList with
     | true => rw [hd] at hr; obtain ⟨q, _⟩ := sE hr; rw [q]; exact .refl _
     | false =>
     rw [hd] at hr
     simp only [qd, cond_false, gi] at hr
     split at hr
     ·rename_i v1 σ1 hh
      cases hr; exact hH.2.1 _ _ _ _ _ he hh
     ·rename_i v1 σ1 hh
      cases hr; exact hH.2.1 _ _ _ _ _ he hh
     ·cases hr
    ·cases hr
   ·cases he
  ·simp [ck, hk] at he
 ·obtain ⟨q, _⟩ := ky hH.2.2 hk hr
  rw [q]; exact .refl _
theorem IB {P : Program} (hH : aG P ch) {all : List Oper} {o : Oper} {s : St} {v : ab} {σ' : Mem} (h : cR T ch.H all o s = some (v, σ')) (he : (!(br all o s.tm) || C2 ch o s.tm) = true) : Ext s.mem σ' := by
 unfold cR at h
 split at h
 ·cases h
 ·split at h
  ·rename_i hw
   simp only [hw, Bool.not_true, Bool.false_or] at he
   split at h
   ·rename_i u σ1 hx
    simp only [UB, UD] at h
    obtain ⟨_, rfl⟩ := h
    exact Cv hH hx he
   ·rename_i σ1 hx
    simp only [UB, UD] at h
    obtain ⟨_, rfl⟩ := h
    exact Cv hH hx he
   ·cases h
  ·simp only [UB, UD] at h
   obtain ⟨_, rfl⟩ := h
   exact .refl _
def qu (tr : List (St × ab)) (e : St) : List Mem := tr.map (·.1.mem) ++ [e.mem]
theorem GF {σ σ1 : Mem} {b o : Nat} {vs : LA_} (h : xz σ b o vs = some σ1) : m9 [b] σ σ1 := by
 refine ⟨by rw [Oa h]; exact Nat.le_refl _, fun i _ hb => ?_⟩
 have hne : b ≠ i := by
  rintro rfl
  simp at hb
 unfold xz at h
 split at h
 ·split at h
  ·cases h; rw [aT, if_neg hne]
  ·cases h
 ·split at h
  ·cases h; rw [aT, if_neg hne]
  ·cases h
 ·cases h
theorem Lw {P : Program} (hH : aG P ch) {all : List Oper} {o : Oper} {s : St} {v : ab} {σ' : Mem} (h : cR T ch.H all o s = some (v, σ')) {bs : List Nat} (he : KF ch all o s.tm = some bs) : m9 bs s.mem σ' := by
 unfold KF at he
 split at he
 ·rename_i hx
  cases he
  have := IB hH h hx
  exact ⟨this.1, fun i hi _ => this.2 i hi⟩
 ·rename_i hx
  have hw : br all o s.tm = true := by
   simp only [Bool.or_eq_false_iff, Bool.not_eq_false'] at hx
   exact hx.1
  unfold cR at h
  rw [hw] at h
  split at h
  ·cases h
  simp only [if_true] at h
  split at he
  ·rename_i t x y ho
   split at he
   ·rename_i b off hb
    cases he
    simp only [ho, aM, hb] at h
    cases hy : ev s.tm y with
    | none => rw [hy] at h; simp at h
    | some yv =>
     rw [hy] at h
     simp only at h
     cases hs : qa T s.mem t (.ptr b off) yv with
     | none => rw [hs] at h; simp at h
     | some σs =>
      rw [hs] at h
      simp only [US, UB, UD] at h
      obtain ⟨_, rfl⟩ := h
      unfold qa at hs
      split at hs
      ·rename_i ti b' o' hti hbb
       cases hbb
       split at hs
       ·exact GF hs
       ·cases hs
      ·cases hs
   ·cases he
  ·rename_i t m k x ho
   split at he
   ·rename_i b hb
    cases he
    simp only [ho, aM, hb] at h
    cases hk : ev s.tm k with
    | none => rw [hk] at h; simp at h
    | some kv =>
     cases hy : ev s.tm x with
     | none => rw [hk, hy] at h; simp at h
     | some yv =>
      rw [hk, hy] at h
      simp only at h
      cases hs : ut T s.mem t (.map b) kv yv with
      | none => rw [hs] at h; simp at h
      | some σs => cases hs
   ·cases he
  ·rename_i args ats ho
   split at he
   ·rename_i y x hv
    obtain ⟨b, hb0, hbs⟩ := UM.1 he
    subst hbs
    simp only [ho, aM, hv] at h
    have ext : ∀ B, m9 [b] s.mem ((s.mem.set b .dead).push B) := fun B => ⟨by simp, fun i hi hc => by
     have hne : b ≠ i := by rintro rfl; simp at hc
     rw [bU, el, if_neg (by omega), aT, if_neg hne]⟩
    have ext0 : ∀ B, m9 [b] s.mem (s.mem.push B) := fun B => ⟨by simp, fun i hi hc => by rw [bU, if_neg (by omega)]⟩
    cases hb : iL T .append ats.toList [y, x] s.mem with
    | none => rw [hb] at h; simp at h
    | some q =>
     rw [hb] at h
     have key : ∀ u, (match T u with
       | some { k := .slice _, .. } => (oL T s.mem (ats.toList.headD 0) y x).map fun (v, σ') => (cF.val v, σ')
       | _ => none) = some q → m9 [b] s.mem q.2 := by
      intro u hb
      split at hb
      ·obtain ⟨z, hz, rfl⟩ := UM.1 hb
       unfold oL at hz
       split at hz
       ·split at hz
        ·cases hz
        ·split at hz
         ·split at hz
          ·cases hz
          ·unfold Tb at hb0
           split at hb0
           ·cases hb0
            simp only [yu] at hz
            split at hz
            ·split at hz
             ·cases hz
              exact ext _
             ·cases hz
            ·cases hz
           ·cases hb0
            simp only [yu] at hz
            split at hz
            ·cases hz; exact ext0 _
            ·split at hz
             ·split at hz
              ·cases hz; exact ⟨Nat.le_refl _, fun _ _ _ => rfl⟩
              ·obtain ⟨σ2, h1, h2⟩ := UM.1 hz
               cases h2
               exact GF h1
             ·split at hz
              ·cases hz; exact ext0 _
              ·cases hz; exact ext0 _
           ·cases hb0
         ·cases hz
       ·cases hz
      ·cases hb
     have hq : m9 [b] s.mem q.2 := by
      rcases hats : ats.toList with _ | ⟨t, _ | ⟨u, _ | ⟨z, r⟩⟩⟩
      ·rw [hats] at hb; simp [iL] at hb
      ·rw [hats] at hb; simp [iL] at hb
      ·rw [hats] at hb
       simp only [iL] at hb
       have := key u
       rw [hats] at this
       exact this hb
      ·rw [hats] at hb; simp [iL] at hb
     obtain ⟨q1, q2⟩ := q
     simp only at h hq
     split at h
     ·rename_i e; cases e; cases h; exact hq
     ·rename_i e; cases e; cases h; exact hq
     ·cases h
   ·cases he
  ·cases he
theorem GG {P : Program} (hH : aG P ch) {all : List Oper} : ∀ {l : List Oper} {s : St} {tr : List (St × ab)} {e : St}, trace T ch.H all l s = some (tr, e) →
  tr.length = l.length ∧ (qu tr e)[0]? = some s.mem ∧ ∀ j bs, (qr ch all l tr)[j]? = some (some bs) → m9 bs ((qu tr e).getD j ⟨0, []⟩) ((qu tr e).getD (j + 1) ⟨0, []⟩)
 | [], s, tr, e, h => by
  simp only [trace, UB, UD] at h
  obtain ⟨rfl, rfl⟩ := h
  exact ⟨rfl, rfl, fun j bs hj => by simp [qr] at hj⟩
 | o :: l, s, tr, e, h => by
  simp only [trace] at h
  split at h
  ·rename_i v σ hv
   split at h
   ·rename_i tr1 e1 hl
    simp only [UB, UD] at h
    obtain ⟨rfl, rfl⟩ := h
    obtain ⟨i1, i2, i3⟩ := GG hH hl
    refine ⟨by simp [i1], rfl, fun j bs hj => ?_⟩
    cases j with
    | zero =>
     simp only [qr, List.getElem?_cons_zero, UB] at hj
     have := Lw hH hv hj
     have e2 : (qu ((s, v) :: tr1) e1).getD 1 ⟨0, []⟩ = σ := by
      have : (qu ((s, v) :: tr1) e1)[1]? = some σ := i2
      rw [UK, this]; rfl
     rw [e2]; exact this
    | succ j =>
     simp only [qr, List.getElem?_cons_succ] at hj
     exact i3 j bs hj
   ·cases h
  ·cases h
theorem Cw {mems : List Mem} {es : List (Option (List Nat))} (hE : ∀ j bs, es[j]? = some (some bs) → m9 bs (mems.getD j ⟨0, []⟩) (mems.getD (j + 1) ⟨0, []⟩)) : ∀ (n a : Nat) (bs : List Nat), C3 ((es.drop a).take n) = some bs → n ≤ es.length - a → m9 bs (mems.getD a ⟨0, []⟩) (mems.getD (a + n) ⟨0, []⟩)
 | 0, a, bs, h, _ => by
  simp only [List.take_zero, C3, UB] at h
  subst h
  exact .refl _
 | n + 1, a, bs, h, hn => by
  have hlt : a < es.length := by omega
  rw [List.drop_eq_getElem_cons hlt, List.take_succ_cons] at h
  cases hx : es[a] with
  | none => rw [hx] at h; simp [C3] at h
  | some l =>
   rw [hx] at h
   simp only [C3] at h
   split at h
   ·rename_i m hm
    cases h
    have h1 := hE a l (by rw [UJ hlt, hx])
    have h2 := Cw hE n (a + 1) m hm (by omega)
    rw [show a + 1 + n = a + (n + 1) by omega] at h2
    exact h1.trans h2
   ·cases h
theorem IC {op : Op} {tm : LA_} {p q : Nat → Bool} (h : ∀ i, p i = true → q i = true) (hs : Fi op tm p = true) : Fi op tm q = true := by
 unfold Fi at *
 rw [UC, List.all_eq_true] at *
 refine ⟨hs.1, fun t ht => ?_⟩
 have := hs.2 t ht
 revert this
 generalize tm.getD t (.tup []) = v
 intro hv
 cases v <;> first
  | rfl
  | exact h _ hv
theorem KH {pf : FuncId → Nat} {H : bT} (hP : eX pf H) {all : List Oper} {es : List (Option (List Nat))} {mems : List Mem} (hE : ∀ j bs, es[j]? = some (some bs) → m9 bs (mems.getD j ⟨0, []⟩) (mems.getD (j + 1) ⟨0, []⟩)) (hlen : mems.length = es.length + 1) :
  ∀ (l : List Oper) (i : Nat) (pl : List (List Nat)) (tr : List (St × ab)), (∀ (j : Nat) (q : St × ab), tr[j]? = some q → mems[i + j]? = some q.1.mem) → (∀ (j : Nat) (o : Oper) (cs : List Nat), l[j]? = some o → pl[j]? = some cs → cs ≠ [] → bV pf o.op = 1) →
  (∀ p ∈ qt pf T H all es mems l i pl tr, p.1 = p.2) → ∀ p ∈ sI pf T H all mems l pl tr, p.1 = p.2
 | [], i, pl, tr, _, _, _ => by cases pl <;> cases tr <;> (intro p hp; simp [sI] at hp)
 | o :: r, i, [], tr, _, _, _ => by cases tr <;> (intro p hp; simp [sI] at hp)
 | o :: r, i, cs :: ps, [], _, _, _ => by intro p hp; simp [sI] at hp
 | o :: r, i, cs :: ps, (s, v) :: tr, hm, hk, h => by
  simp only [qt, U1] at h
  intro p hp
  simp only [sI, U1] at hp
  rcases hp with hp | hp
  ·cases hw : br all o s.tm with
   | false => rw [hw] at hp; simp at hp
   | true =>
    rw [hw] at hp h
    simp only [if_true, List.mem_map] at hp h
    obtain ⟨c, hc, rfl⟩ := hp
    cases hq : decide (c < mems.length) && KG es o.op s.tm (min s.mem.next (mems.getD c ⟨0, []⟩).next) i c with
    | false =>
     obtain ⟨v, h1, h2⟩ := LX (h _ (.inl ⟨c, List.mem_filter.2 ⟨hc, by rw [hq]; rfl⟩, rfl⟩))
     exact h1.trans h2.symm
    | true =>
     simp only [UC, UI] at hq
     obtain ⟨q2, q1⟩ := hq
     have hk1 : bV pf o.op = 1 := hk 0 o cs rfl rfl (List.ne_nil_of_mem hc)
     have hmi : mems[i]? = some s.mem := hm 0 (s, v) rfl
     have hil : i < mems.length := (UL.1 hmi).1
     have hmc : mems[c]? = some (mems.getD c ⟨0, []⟩) := by rw [UK, UJ q2]; rfl
     have hgi : mems.getD i ⟨0, []⟩ = s.mem := by rw [UK, hmi]; rfl
     have hval : ∀ σ, ((aM T H o.op s.tm σ).bind fun x => match x.1 with
       | .val u => some u
       | _ => none) = Aj (aM T H o.op s.tm σ) := by
      intro σ
      cases hx : aM T H o.op s.tm σ with
      | none => rfl
      | some x =>
       obtain ⟨x, y⟩ := x
       obtain ⟨_, u, hu⟩ := ky hP (by omega) hx
       subst hu; rfl
     simp only [hmc, Uy]
     refine (hval _).trans ?_
     unfold KG at q1
     split at q1
     ·rename_i bs hbs
      unfold LW at hbs
      rcases Nat.le_total c i with hci | hci
      ·rw [Nat.min_eq_right hci, Nat.max_eq_left hci] at hbs
       have hx := Cw hE (i - c) c bs hbs (by omega)
       rw [show c + (i - c) = i by omega, hgi] at hx
       refine (LU (p := fun x => decide (x < (mems.getD c ⟨0, []⟩).next) && !bs.contains x) hk1 (fun j hj => ?_) (IC (fun j hj => ?_) q1)).symm
       ·simp only [UC, UI, Bool.not_eq_true'] at hj
        exact hx.2 j hj.1 hj.2
       ·simp only [UC, UI] at hj ⊢
        exact ⟨by omega, hj.2⟩
      ·rw [Nat.min_eq_left hci, Nat.max_eq_right hci] at hbs
       have hx := Cw hE (c - i) i bs hbs (by omega)
       rw [show i + (c - i) = c by omega, hgi] at hx
       refine LU (p := fun x => decide (x < s.mem.next) && !bs.contains x) hk1 (fun j hj => ?_) (IC (fun j hj => ?_) q1)
       ·simp only [UC, UI, Bool.not_eq_true'] at hj
        exact hx.2 j hj.1 hj.2
       ·simp only [UC, UI] at hj ⊢
        exact ⟨by omega, hj.2⟩
     ·cases q1
  ·refine KH hP hE hlen r (i + 1) ps tr ?_ ?_ (fun q hq => h q (.inr hq)) p hp
   ·intro j q hj
    have := hm (j + 1) q (by simpa using hj)
    rw [show i + 1 + j = i + (j + 1) by omega]; exact this
   ·intro j o' cs' h1 h2 h3
    exact hk (j + 1) o' cs' (by simpa using h1) (by simpa using h2) h3
theorem Lx {pf : FuncId → Nat} {all : List Oper} {j : Nat} {o : Oper} {cs : List Nat} (h1 : all[j]? = some o) (h2 : (vz pf all)[j]? = some cs) (h3 : cs ≠ []) : bV pf o.op = 1 := by
 simp only [vz, List.getElem?_map, List.getElem?_zipIdx, h1, US, UB] at h2
 split at h2
 ·rename_i hk; simpa using hk
 ·exact absurd h2.symm h3
theorem AL {all : List Oper} : ∀ {l : List Oper} {tr : List (St × ab)}, tr.length = l.length → (qr ch all l tr).length = l.length
 | [], [], _ => rfl
 | [], _ :: _, h => by simp at h
 | _ :: _, [], h => by simp at h
 | o :: l, (s, v) :: tr, h => by simp only [qr, UW] at *; rw [AL (by omega)]
theorem PV {ch : CH} {σ : Mem} {f : ab} {vs : LA_} {x : cF × Mem} (h : gi ch.Hb σ f vs = some x) : gi ch.H σ f vs = some x := by
 unfold gi at h ⊢
 split at h
 ·rename_i g fs cs
  split at h
  ·rename_i v σ1 hh
   rw [CH.S8 hh]
   exact h
  ·rename_i v σ1 hh
   rw [CH.S8 hh]
   exact h
  ·cases h
 ·cases h
theorem KI {ch : CH} {op : Op} {tm : LA_} {σ : Mem} {x : cF × Mem} (h : aM T ch.Hb op tm σ = some x) : aM T ch.H op tm σ = some x := by
 cases op
 case call c =>
  obtain ⟨callee, args, argTypes⟩ := c
  cases callee with
  | invoke r m => exact h
  | builtin b => exact h
  | value f =>
   simp only [aM] at h ⊢
   split at h
   ·rename_i g vs h1 h2
    exact NA (fun _ _ hx => PV hx) h
   ·cases h
 case makeFunc fn fs cs => cases fn <;> exact h
 case makeMap t rs => cases rs <;> exact h
 case slice t y l u m => cases m <;> exact h
 case next y b => cases b <;> exact h
 case defer c =>
  obtain ⟨callee, args, argTypes⟩ := c
  cases callee <;> first
   | exact h
   | (simp only [aM] at h ⊢; exact h)
 all_goals exact h
theorem KJ {ch : CH} {pf : FuncId → Nat} {all : List Oper} {es : List (Option (List Nat))} {mems : List Mem} : ∀ (l : List Oper) (i : Nat) (pl : List (List Nat)) (tr : List (St × ab)),
  (∀ p ∈ qt pf T ch.Hb all es mems l i pl tr, p.1 = p.2) → ∀ p ∈ qt pf T ch.H all es mems l i pl tr, p.1 = p.2
 | [], i, pl, tr, _ => by cases pl <;> cases tr <;> (intro p hp; simp [qt] at hp)
 | o :: r, i, [], tr, _ => by cases tr <;> (intro p hp; simp [qt] at hp)
 | o :: r, i, cs :: ps, [], _ => by intro p hp; simp [qt] at hp
 | o :: r, i, cs :: ps, (s, v) :: tr, h => by
  simp only [qt, U1] at h
  intro p hp
  simp only [qt, U1] at hp
  rcases hp with hp | hp
  ·cases hw : br all o s.tm with
   | false => rw [hw] at hp; simp at hp
   | true =>
    rw [hw] at hp h
    simp only [if_true, List.mem_map] at hp h
    obtain ⟨c, hc, rfl⟩ := hp
    obtain ⟨u, h1, h2⟩ := LX (h _ (.inl ⟨c, hc, rfl⟩))
    simp only at h1 h2
    have e2 : Aj (aM T ch.H o.op s.tm s.mem) = some u := by
     cases hx : aM T ch.Hb o.op s.tm s.mem with
     | none => rw [hx] at h2; cases h2
     | some x => rw [KI hx, ← hx]; exact h2
    have e1 : ((mems[c]?).bind fun σ => (aM T ch.H o.op s.tm σ).bind fun x => match x.1 with
      | .val u => some u
      | _ => none) = some u := by
     obtain ⟨σ, g1, g2⟩ := bE_ h1
     obtain ⟨x, g3, g4⟩ := bE_ g2
     rw [g1, Uy, KI g3, Uy]
     exact g4
    rw [e1, e2]
    rfl
  ·exact KJ r (i + 1) ps tr (fun q hq => h q (.inr hq)) p hp
theorem MW {P : Program} (hH : aG P ch) {all : List Oper} {s e : St} {tr : List (St × ab)} (ht : trace T ch.H all all s = some (tr, e)) (ho : (MV T ch all tr e).ok) : vy ch.pf T ch.H all (qu tr e) all (vz ch.pf all) tr = true := by
 obtain ⟨t1, t2, t3⟩ := GG hH ht
 refine Ks _ _ _ (Ix _ _ _ _ _ ht (KH hH.2.2 (es := qr ch all all tr) (mems := qu tr e) t3 (by simp [qu, t1, AL t1]) all 0 (vz ch.pf all) tr ?_ (fun j o cs q1 q2 q3 => Lx q1 q2 q3) (KJ _ _ _ _ fun q hq => ho q hq)))
 intro j q hj
 simp only [qu, Nat.zero_add]
 rw [List.getElem?_append_left (by have := (UL.1 hj).1; simpa using this), List.getElem?_map, hj]; rfl
theorem MX {H : bT} {all : List Oper} {n : Nat} {o : Oper} {s : St} (hg : ∀ g b, o.guard = some (g, b) → g < n) : cR T H (all.take n) o s = cR T H all o s := by
 have e : ∀ g b, o.guard = some (g, b) → (all.take n)[g]? = all[g]? := fun g b h => by rw [List.getElem?_take, if_pos (hg g b h)]
 unfold cR gj br
 cases h : o.guard with
 | none => rfl
 | some q => obtain ⟨g, b⟩ := q; simp only [e g b h]
theorem GH {H : bT} {all : List Oper} {n : Nat} : ∀ {l : List Oper} {s : St}, (∀ o ∈ l, ∀ g b, o.guard = some (g, b) → g < n) → trace T H (all.take n) l s = trace T H all l s
 | [], _, _ => rfl
 | o :: l, s, h => by
  simp only [trace]
  rw [MX (h o (by simp))]
  split
  ·rw [GH (fun o' ho => h o' (by simp [ho]))]
  ·rfl
theorem Ly {all : List Oper} {n : Nat} (h : wJ all n = true) : ∀ o ∈ all.take n, ∀ g b, o.guard = some (g, b) → g < n := by
 intro o ho g b hg
 unfold wJ at h
 simp only [UC, List.all_eq_true] at h
 obtain ⟨j, hj, rfl⟩ := List.mem_take_iff_getElem.1 ho
 have := h.1.2 (all[j], j) (U0.2 (UJ (by omega)))
 simp only [UC, Bool.or_eq_true, Bool.not_eq_true', decide_eq_false_iff_not, hg, UI] at this
 rcases this.1 with q | q
 ·omega
 ·exact q.2
theorem GI {P : Program} (hH : aG P ch) {all : List Oper} {n0 : Nat} {s e : St} {tr : List (St × ab)} (ht : trace T ch.H all all s = some (tr, e)) (ho : (MV T ch all tr e).ok)
  (hd : Gg all (dW ch.pf all (bc all [])) n0 s.mem.next s tr (tr.map (·.1.mem) ++ [e.mem]) = true) : ol ch.pf T ch.H all n0 s = some e := by
 have hr := MW hH ht ho
 unfold ol
 rw [ht]
 simp only
 rw [if_pos]
 rw [UC]
 exact ⟨hr, hd⟩
theorem Ae {P : Program} (hH : aG P ch) {all : List Oper} {s : St} {ow : Ow} {k : St → Ow → Option R} {kp : ab → St → Ow → Option R} {r : R} (h : um T ch all s ow k kp = some r) :
  (∃ s' ow', k s' ow' = some r ∧ ow.le ow' ∧ (ow'.ok → J8 ch.pf T ch.H all s s')) ∨
  (∃ v s' ow' n o, kp v s' ow' = some r ∧ ow.le ow' ∧ all[n]? = some o ∧ wJ all n = true ∧ (ow'.ok → Mz ch.pf T ch.H all n o s v s')) := by
 unfold um at h
 rcases Fk h with ⟨tr, e, ow', h0, h2, h3⟩ | ⟨tr, e, v, σ, ow', h0, h2, o, h3, h4⟩
 ·obtain ⟨hg, h1⟩ := aH h0
  rw [UC] at hg
  exact .inl ⟨e, _, h1, h2.trans (Ow.f7 _ _), fun ho => ⟨hg.1, GI hH (h3 ((Ow.f7 _ _).ok ho)) (Ow.nv ho) hg.2⟩⟩
 ·obtain ⟨hg, h1⟩ := aH h0
  simp only [UC, Nat.ble_eq] at hg
  refine .inr ⟨v, _, _, tr.length, o, h1, h2.trans (Ow.f7 _ _), h3, hg.1, fun ho => ?_⟩
  obtain ⟨q1, q2⟩ := h4 ((Ow.f7 _ _).ok ho)
  rw [← GH (Ly hg.1)] at q1
  exact ⟨hg.2.1.1, hg.2.1.2, e, GI hH q1 (Ow.nv ho) hg.2.2, q2⟩
def yE (P : Program) (n : Nat) (b : Code) : Nat → St → an → St → Prop
 | 0, _, _, _ => False
 | m + 1, s, o, s' => (o ≠ .normal ∧ dk P n b s fun o1 s1 => o1 = o ∧ s1 = s') ∨ ∃ s1, (dk P n b s fun o1 s2 => o1 = .normal ∧ s2 = s1) ∧ yE P n b m s1 o s'
theorem ID {P : Program} {n : Nat} {b : Code} {w0 : W0} : ∀ (m : Nat) {s : St} {o : an} {s' : St} (ρ : Nat → Loc) (a : Act) (w : World), yE P n b m s o s' → n ≤ s.mem.next → bF w0 ρ s a w →
  Code.rounds P b (fun e a' w' => ∃ o1 s1, (o1 = o ∧ s1 = s') ∧ db w0 ρ n o1 s1 e a' w') m a w
 | 0, s, o, s', ρ, a, w, h, _, _ => h.elim
 | m + 1, s, o, s', ρ, a, w, h, hn, hr => by
  rw [rounds_succ]
  rcases h with ⟨ho, h⟩ | ⟨s1, h, k⟩
  ·refine wp_mono (h hn w0 ρ a w hr) ?_
   rintro e a' w' ⟨o1, s1, ⟨rfl, rfl⟩, ha⟩
   obtain ⟨ρ', rfl, k1, k2, k3, k4⟩ := ha
   cases o1 with
   | normal => exact absurd rfl ho
   | exit id => exact ⟨.exit id, s1, ⟨rfl, rfl⟩, ⟨ρ', rfl, k1, k2, k3, k4⟩⟩
   | goto id => exact ⟨.goto id, s1, ⟨rfl, rfl⟩, ⟨ρ', rfl, k1, k2, k3, k4⟩⟩
   | ret => exact ⟨.ret, s1, ⟨rfl, rfl⟩, ⟨ρ', rfl, k1, k2, k3, k4⟩⟩
   | pan v => exact ⟨.pan v, s1, ⟨rfl, rfl⟩, ⟨ρ', rfl, k1, k2, k3, k4⟩⟩
  ·refine wp_mono (h hn w0 ρ a w hr) ?_
   rintro e a' w' ⟨o1, s2, ⟨rfl, rfl⟩, ha⟩
   obtain ⟨ρ', rfl, k1, k2, k3, k4⟩ := ha
   have := ID m ρ' a' w' k k3 k1
   have mono : ∀ (m : Nat) (a : Act) (w : World), Code.rounds P b (fun e a' w' => ∃ o1 s1, (o1 = o ∧ s1 = s') ∧ db w0 ρ' n o1 s1 e a' w') m a w →
     Code.rounds P b (fun e a' w' => ∃ o1 s1, (o1 = o ∧ s1 = s') ∧ db w0 ρ n o1 s1 e a' w') m a w := by
    intro m
    induction m with
    | zero => intro a w h; exact h
    | succ m ih =>
     intro a w h
     rw [rounds_succ] at h ⊢
     refine wp_mono h ?_
     intro e a' w' q
     cases e with
     | normal => exact ih _ _ q
     | _ => obtain ⟨o1, s1, q1, q2⟩ := q; exact ⟨o1, s1, q1, q2.step k2⟩
   exact mono m a' w' this
theorem DZ {P : Program} {n m : Nat} {b : Code} {s : St} {o : an} {s' : St} (h : yE P n b m s o s') : dk P n (.loop b) s fun o1 s1 => o1 = o ∧ s1 = s' :=
 fun hn _ ρ a w hr => wp_loop_rounds m (ID m ρ a w h hn hr)
theorem uq {P : Program} {n : Nat} {s : St} {c : Code} {Φ : an → St → Prop} (h : dk P n c s fun o s' => (∀ i, o ≠ .goto i) ∧ Φ o s') : dk P n (.scope c) s Φ := by
 intro hn w0 ρ a w hr
 refine wp_scope_straight (wp_mono (h hn w0 ρ a w hr) ?_)
 rintro e a' w' ⟨o, s', ⟨h0, h1⟩, ⟨ρ', rfl, h2, h3, h4, h5⟩⟩
 cases o with
 | goto i => exact absurd rfl (h0 i)
 | normal => exact ⟨.normal, s', h1, ⟨ρ', rfl, h2, h3, h4, h5⟩⟩
 | exit i => exact ⟨.exit i, s', h1, ⟨ρ', rfl, h2, h3, h4, h5⟩⟩
 | ret => exact ⟨.ret, s', h1, ⟨ρ', rfl, h2, h3, h4, h5⟩⟩
 | pan v => exact ⟨.pan v, s', h1, ⟨ρ', rfl, h2, h3, h4, h5⟩⟩
theorem iN {P : Program} {A : qh} {k : Nat} (hT : aZ P T) (hH : aG P ch) (hm : P.follows .mixedOrders = true) :
  ∀ (n : Nat) {R : Type} (c : Code) (s : St) (ow : Ow) (K : an → St → Ow → Option R) (r : R), (∀ b ∈ bm c, ∀ la, A (dK b) = some la → cX P k la b) → bh T ch A n c s ow K = some r →
   ∃ o s' ow', K o s' ow' = some r ∧ ow.le ow' ∧ (ow'.ok → dk P k c s fun o1 s1 => o1 = o ∧ s1 = s') := by
 intro n
 induction n using Nat.strongRecOn with
 | _ n ih =>
  cases n with
  | zero => intro R c s ow K r _ h; simp [bh] at h
  | succ n =>
   intro R c s ow K r hA h
   cases c with
   | skip => exact ⟨_, _, _, by simpa only [bh] using h, .refl _, fun _ => (Pi (Φ := fun o1 s1 => o1 = .normal ∧ s1 = s) ⟨rfl, rfl⟩).vF⟩
   | label l => exact ⟨_, _, _, by simpa only [bh] using h, .refl _, fun _ => (NX (Φ := fun o1 s1 => o1 = .normal ∧ s1 = s) ⟨rfl, rfl⟩).vF⟩
   | exit l => exact ⟨_, _, _, by simpa only [bh] using h, .refl _, fun _ => (Pj (Φ := fun o1 s1 => o1 = .exit l ∧ s1 = s) ⟨rfl, rfl⟩).vF⟩
   | goto l => exact ⟨_, _, _, by simpa only [bh] using h, .refl _, fun _ => (Pk (Φ := fun o1 s1 => o1 = .goto l ∧ s1 = s) ⟨rfl, rfl⟩).vF⟩
   | ret => exact ⟨_, _, _, by simpa only [bh] using h, .refl _, fun _ => (Re (Φ := fun o1 s1 => o1 = .ret ∧ s1 = s) ⟨rfl, rfl⟩).vF⟩
   | region id ops d =>
    cases d with
    | false =>
     simp only [bh] at h
     rcases iC h with ⟨s', ow', h1, h2, h3⟩ | ⟨v, s', ow', h1, h2, h3⟩
     ·exact ⟨_, _, _, h1, h2, fun ho => (uk hT hH.1 (h3 ho) (Φ := fun o1 s1 => o1 = .normal ∧ s1 = s') ⟨rfl, rfl⟩).vF⟩
     ·exact ⟨_, _, _, h1, h2, fun ho => (uk hT hH.1 (h3 ho) (Φ := fun o1 s1 => o1 = .pan v ∧ s1 = s') ⟨rfl, rfl⟩).vF⟩
    | true =>
     simp only [bh] at h
     rcases Ae hH h with ⟨s', ow', h1, h2, h3⟩ | ⟨v, s', ow', m, o, h1, h2, ho, hC, h3⟩
     ·exact ⟨_, _, _, h1, h2, fun hok => (NP hT hH.1 hH.2.2 hm (h3 hok) (Φ := fun o1 s1 => o1 = .normal ∧ s1 = s') ⟨rfl, rfl⟩).vF⟩
     ·exact ⟨_, _, _, h1, h2, fun hok => (Pe hT hH.1 hH.2.2 hm ho hC (h3 hok) (Φ := fun o1 s1 => o1 = .pan v ∧ s1 = s') ⟨rfl, rfl⟩).vF⟩
   | seq a b =>
    simp only [bh] at h
    have hAa : ∀ b ∈ bm a, ∀ la, A (dK b) = some la → cX P k la b := fun q hq => hA q (List.mem_append_left _ hq)
    have hAb : ∀ q ∈ bm b, ∀ la, A (dK q) = some la → cX P k la q := fun q hq => hA q (List.mem_append_right _ hq)
    obtain ⟨o, s1, ow1, h1, h2, h3⟩ := ih n (Nat.lt_succ_self n) a s ow _ r hAa h
    cases o with
    | normal =>
     obtain ⟨o2, s2, ow2, k1, k2, k3⟩ := ih n (Nat.lt_succ_self n) b s1 ow1 K r hAb h1
     refine ⟨o2, s2, ow2, k1, h2.trans k2, fun ho => vG ((h3 (k2.ok ho)).mono ?_)⟩
     rintro o1 s' ⟨rfl, rfl⟩
     exact k3 ho
    | exit i => exact ⟨_, _, _, h1, h2, fun ho => vG ((h3 ho).mono (by rintro o1 s' ⟨rfl, rfl⟩; exact ⟨rfl, rfl⟩))⟩
    | goto i => exact ⟨_, _, _, h1, h2, fun ho => vG ((h3 ho).mono (by rintro o1 s' ⟨rfl, rfl⟩; exact ⟨rfl, rfl⟩))⟩
    | ret => exact ⟨_, _, _, h1, h2, fun ho => vG ((h3 ho).mono (by rintro o1 s' ⟨rfl, rfl⟩; exact ⟨rfl, rfl⟩))⟩
    | pan v => exact ⟨_, _, _, h1, h2, fun ho => vG ((h3 ho).mono (by rintro o1 s' ⟨rfl, rfl⟩; exact ⟨rfl, rfl⟩))⟩
   | cond c a b =>
    simp only [bh] at h
    split at h
    ·rename_i hc
     obtain ⟨o, s1, ow1, h1, h2, h3⟩ := ih n (Nat.lt_succ_self n) a s ow _ r (fun q hq => hA q (List.mem_append_left _ hq)) h
     exact ⟨o, s1, ow1, h1, h2, fun ho => Iy hc (h3 ho)⟩
    ·rename_i hc
     obtain ⟨o, s1, ow1, h1, h2, h3⟩ := ih n (Nat.lt_succ_self n) b s ow _ r (fun q hq => hA q (List.mem_append_right _ hq)) h
     exact ⟨o, s1, ow1, h1, h2, fun ho => Iy hc (h3 ho)⟩
    ·cases h
   | block id b =>
    simp only [bh] at h
    obtain ⟨o, s1, ow1, h1, h2, h3⟩ := ih n (Nat.lt_succ_self n) b s ow _ r hA h
    cases o with
    | exit i =>
     simp only at h1
     split at h1
     ·rename_i e
      exact ⟨_, _, _, h1, h2, fun ho => mr ((h3 ho).mono (by rintro o1 s' ⟨rfl, rfl⟩; simp only [an.inBlock]; rw [if_pos e]; exact ⟨trivial, trivial⟩))⟩
     ·rename_i e
      exact ⟨_, _, _, h1, h2, fun ho => mr ((h3 ho).mono (by rintro o1 s' ⟨rfl, rfl⟩; simp only [an.inBlock]; rw [if_neg e]; exact ⟨trivial, trivial⟩))⟩
    | normal => exact ⟨_, _, _, h1, h2, fun ho => mr ((h3 ho).mono (by rintro o1 s' ⟨rfl, rfl⟩; exact ⟨rfl, rfl⟩))⟩
    | goto i => exact ⟨_, _, _, h1, h2, fun ho => mr ((h3 ho).mono (by rintro o1 s' ⟨rfl, rfl⟩; exact ⟨rfl, rfl⟩))⟩
    | ret => exact ⟨_, _, _, h1, h2, fun ho => mr ((h3 ho).mono (by rintro o1 s' ⟨rfl, rfl⟩; exact ⟨rfl, rfl⟩))⟩
    | pan v => exact ⟨_, _, _, h1, h2, fun ho => mr ((h3 ho).mono (by rintro o1 s' ⟨rfl, rfl⟩; exact ⟨rfl, rfl⟩))⟩
   | loop b =>
    cases hla : A (dK b) with
    | some la =>
     simp only [bh, hla] at h
     rw [la.nat] at h
     obtain ⟨⟨o, s'⟩, h1, h2⟩ := bE_ h
     exact ⟨o, s', _, h2, .refl _, fun ho => hA b (by simp [bm]) la hla s o s' h1⟩
    | none =>
     have hAb : ∀ q ∈ bm b, ∀ la, A (dK q) = some la → cX P k la q := fun q hq => hA q (by simp [bm, hq])
     have key : ∀ (m : Nat), m ≤ n + 1 → ∀ (s : St) (ow : Ow), bh T ch A m (.loop b) s ow K = some r →
       ∃ o s' ow', K o s' ow' = some r ∧ ow.le ow' ∧ (ow'.ok → ∃ j, yE P k b j s o s') := by
      intro m
      induction m with
      | zero => intro _ s ow h; simp [bh] at h
      | succ m ihm =>
       intro hmn s ow h
       simp only [bh, hla] at h
       obtain ⟨o, s1, ow1, h1, h2, h3⟩ := ih m (by omega) b s ow _ r hAb h
       cases o with
       | normal =>
        obtain ⟨o2, s2, ow2, k1, k2, k3⟩ := ihm (by omega) s1 ow1 h1
        exact ⟨o2, s2, ow2, k1, h2.trans k2, fun ho => by
         obtain ⟨j, hj⟩ := k3 ho
         exact ⟨j + 1, .inr ⟨s1, h3 (k2.ok ho), hj⟩⟩⟩
       | exit i => exact ⟨_, _, _, h1, h2, fun ho => ⟨1, .inl ⟨by simp, h3 ho⟩⟩⟩
       | goto i => exact ⟨_, _, _, h1, h2, fun ho => ⟨1, .inl ⟨by simp, h3 ho⟩⟩⟩
       | ret => exact ⟨_, _, _, h1, h2, fun ho => ⟨1, .inl ⟨by simp, h3 ho⟩⟩⟩
       | pan v => exact ⟨_, _, _, h1, h2, fun ho => ⟨1, .inl ⟨by simp, h3 ho⟩⟩⟩
     obtain ⟨o, s', ow', h1, h2, h3⟩ := key (n + 1) (Nat.le_refl _) s ow h
     exact ⟨o, s', ow', h1, h2, fun ho => by obtain ⟨j, hj⟩ := h3 ho; exact DZ hj⟩
   | scope b =>
    simp only [bh] at h
    obtain ⟨o, s1, ow1, h1, h2, h3⟩ := ih n (Nat.lt_succ_self n) b s ow _ r hA h
    cases o with
    | goto i => cases h1
    | normal => exact ⟨_, _, _, h1, h2, fun ho => uq ((h3 ho).mono (by rintro o1 s' ⟨rfl, rfl⟩; exact ⟨by simp, rfl, rfl⟩))⟩
    | exit i => exact ⟨_, _, _, h1, h2, fun ho => uq ((h3 ho).mono (by rintro o1 s' ⟨rfl, rfl⟩; exact ⟨by simp, rfl, rfl⟩))⟩
    | ret => exact ⟨_, _, _, h1, h2, fun ho => uq ((h3 ho).mono (by rintro o1 s' ⟨rfl, rfl⟩; exact ⟨by simp, rfl, rfl⟩))⟩
    | pan v => exact ⟨_, _, _, h1, h2, fun ho => uq ((h3 ho).mono (by rintro o1 s' ⟨rfl, rfl⟩; exact ⟨by simp, rfl, rfl⟩))⟩
   | rangeFunc f ps a b => simp [bh] at h
   | refuse w => simp [bh] at h
end
end Go.Ev
namespace Go.Ev
section
variable {R : Type} {T : ar} {ch : CH}
theorem ai {R S : Type} (c : Bool) (x : Option S) (k : S → Option R) : (af c x).bind k = af c (x.bind k) := by cases c <;> rfl
theorem IE {σ : Mem} {t : TypeId} {x : ab} (k : ab → Option R) : wO T σ t x k = (wO T σ t x some).bind k := by
 unfold wO
 split <;> try rfl
 split
 ·split
  ·split
   ·rw [ai]; rfl
   ·rfl
  ·split <;> rfl
 ·split <;> rfl
 ·rfl
theorem KK {σ : Mem} {t : TypeId} {x i : ab} (k : ab → Option R) : H4 T σ t x i k = (H4 T σ t x i some).bind k := by
 unfold H4
 repeat' (split <;> try rfl)
 all_goals (rw [ai]; rfl)
theorem KL {σ : Mem} {t : TypeId} {s x : ab} (k : ab → Mem → Option R) : H5 T σ t s x k = (H5 T σ t s x fun a b => some (a, b)).bind fun q => k q.1 q.2 := by
 unfold H5
 split <;> try rfl
 split <;> try rfl
 split <;> try rfl
 split <;> try rfl
 rw [ai, ai]
 congr 2
 split <;> rfl
theorem Ea {σ : Mem} {t : TypeId} {x : ab} {lo hi : Option ab} (k : ab → Option R) : ux T σ t x lo hi k = (ux T σ t x lo hi some).bind k := by
 unfold ux
 split <;> try rfl
 split <;> try rfl
 split <;> try rfl
 generalize Nat.beq _ _ = q
 cases q with
 | false => rfl
 | true => simp only [cond_true]; rw [ai]; rfl
theorem KM {c : Bool} {o : BinOp} {t : TypeId} {x y : ab} (k : ab → Option R) : Fj T c o t x y k = (Fj T c o t x y some).bind k := by
 unfold Fj
 split
 ·split
  ·rw [ai]; rfl
  ·rfl
 ·split
  ·rw [ai]; rfl
  ·rfl
 ·rw [ai]; rfl
 ·rw [ai]; rfl
 ·split <;> rfl
theorem Eb {σ : Mem} {t : TypeId} {x k v : ab} (K : Mem → Option R) : C1 T σ t x k v K = (C1 T σ t x k v some).bind K := rfl
theorem IF {σ : Mem} {t : TypeId} {x k : ab} {ok : Bool} (K : ab → Option R) : Jt T σ t x k ok K = (Jt T σ t x k ok some).bind K := rfl
theorem IG {σ : Mem} {t : TypeId} {n : Int} (k : ab → Mem → Option R) : CZ T σ t n k = (CZ T σ t n fun v σ' => some (v, σ')).bind fun x => k x.1 x.2 := by
 unfold CZ
 split
 ·split
  ·rfl
  ·rw [ai]; rfl
 ·rfl
theorem II {σ : Mem} {c n : Bool} {o : BinOp} {t : TypeId} {x y : ab} (k : ab → Option R) : C0 T σ c n o t x y k = (C0 T σ c n o t x y fun v => some v).bind k := by
 unfold C0
 cases n with
 | false => simp only [cond_false]; exact KM k
 | true =>
  simp only [cond_true]
  split
  ·rw [ai]; rfl
  ·exact KM k
theorem GJ {σ : Mem} {t : TypeId} {x v : ab} (k : Mem → Option R) : yD T σ t x v k = (yD T σ t x v some).bind k := by
 unfold yD
 split <;> try rfl
 split
 ·split
  ·rw [ai]; rfl
  ·rfl
 ·split <;> rfl
 ·rfl
theorem LY {t : TypeId} {x i : ab} (k : ab → Option R) : ixK T t x i k = (ixK T t x i some).bind k := by
 unfold ixK
 split
 ·rw [ai]; rfl
 ·split
  ·split
   ·split
    ·rw [ai]; rfl
    ·rfl
   ·split <;> rfl
  ·rfl
 ·split <;> rfl
theorem LZ {op : Op} {tm : LA_} {σ : Mem} (k : cF → Mem → Ow → Option R) : opK T ch op tm σ k = (opK T ch op tm σ fun a b c => some (a, b, c)).bind fun x => k x.1 x.2.1 x.2.2 := by
 unfold opK
 split
 ·split
  ·rename_i g fs cs vs _ _
   generalize nM _ _ = b
   cases b with
   | false =>
    simp only [cond_false]
    conv => lhs; rw [ch.nat]
    conv => rhs; rw [ch.nat, UA]
    congr 1
    funext q
    obtain ⟨r, σ', o⟩ := q
    cases r <;> rfl
   | true =>
    simp only [cond_true]
    generalize (sc 0 (.func g fs cs) && scL 0 vs) = c
    cases c with
    | false => rfl
    | true =>
     simp only [cond_true]
     conv => lhs; rw [ch.nat]
     conv => rhs; rw [ch.nat, UA]
     congr 1
     funext q
     obtain ⟨r, σ', o⟩ := q
     cases r with
     | pan v => rfl
     | ret v =>
      simp only
      generalize (wH σ' ⟨0, []⟩ && sc 0 v) = e
      cases e <;> rfl
  ·rfl
 ·split
  ·split
   ·rw [KL, KL (k := fun v σ' => some (cF.val v, σ', Ow.nil)), UA]; rfl
   ·rfl
  ·rfl
 ·split
  ·rw [IE, IE (k := fun v => some (cF.val v, σ, Ow.nil)), UA]; rfl
  ·rfl
 ·split
  ·rw [KK, KK (k := fun v => some (cF.val v, σ, Ow.nil)), UA]; rfl
  ·rfl
 ·split
  ·rw [GJ, GJ (k := fun σ' => some (cF.skip, σ', Ow.nil)), UA]; rfl
  ·rfl
 ·split
  ·rw [LY, LY (k := fun v => some (cF.val v, σ, Ow.nil)), UA]; rfl
  ·rfl
 ·split
  ·rw [II, II (k := fun v => some (cF.val v, σ, Ow.nil)), UA]; rfl
  ·rfl
 ·split
  ·rw [Eb, Eb (K := fun σ' => some (cF.skip, σ', Ow.nil)), UA]; rfl
  ·rfl
 ·split
  ·rw [IG, IG (k := fun v σ' => some (cF.val v, σ', Ow.nil)), UA]; rfl
  ·rfl
 ·split
  ·rw [IF, IF (K := fun v => some (cF.val v, σ, Ow.nil)), UA]; rfl
  ·rfl
 ·split
  ·cases xA with
   | true => simp only [cond_true]; rw [Ea, Ea (k := fun v => some (cF.val v, σ, Ow.nil)), UA]; rfl
   | false => simp only [cond_false]; split <;> rfl
  ·rfl
 ·split <;> rfl
inductive MY where
 | v (v : ab) (σ : Mem) (o : Ow)
 | p (v : ab) (σ : Mem) (o : Ow)
 | d (d : oh) (σ : Mem) (o : Ow)
theorem wQ {all : List Oper} {o : Oper} {s : St} (k kp : ab → Mem → Ow → Option R) (kd : oh → Mem → Ow → Option R) :
  cw T ch all o s k kp kd = (cw T ch all o s (fun v σ w => some (MY.v v σ w)) (fun v σ w => some (MY.p v σ w)) (fun d σ w => some (MY.d d σ w))).bind fun q => match q with
   | .v v σ w => k v σ w
   | .p v σ w => kp v σ w
   | .d d σ w => kd d σ w := by
 unfold cw
 split
 ·rfl
 ·split
  ·conv => lhs; rw [LZ]
   conv => rhs; rw [LZ, UA]
   congr 1
   funext q
   obtain ⟨r, σ', ow⟩ := q
   cases r <;> simp only [Iz, Uy]
  ·rfl
inductive MZ where
 | k (s : St) (o : Ow)
 | p (v : ab) (s : St) (o : Ow)
theorem Ap {all : List Oper} : ∀ {l : List Oper} {s : St} {ow : Ow} (k : St → Ow → Option R) (kp : ab → St → Ow → Option R),
  runK T ch all l s ow k kp = (runK T ch all l s ow (fun s o => some (MZ.k s o)) (fun v s o => some (MZ.p v s o))).bind fun q => match q with
   | .k s o => k s o
   | .p v s o => kp v s o
 | [], s, ow, k, kp => rfl
 | o :: l, s, ow, k, kp => by
  simp only [runK]
  conv => lhs; rw [wQ]
  conv => rhs; rw [wQ, UA]
  congr 1
  funext q
  cases q with
  | v v σ w => exact Ap k kp
  | p v σ w => rfl
  | d v σ w => exact Ap k kp
inductive TrR where
 | k (l : List (St × ab)) (s : St) (o : Ow)
 | p (l : List (St × ab)) (s : St) (v : ab) (σ : Mem) (o : Ow)
theorem C4 {all : List Oper} : ∀ {R : Type} {l : List Oper} {s : St} {ow : Ow} (k : List (St × ab) → St → Ow → Option R) (kp : List (St × ab) → St → ab → Mem → Ow → Option R),
  trK T ch all l s ow k kp = (trK T ch all l s ow (fun a b c => some (TrR.k a b c)) (fun a b v σ c => some (TrR.p a b v σ c))).bind fun q => match q with
   | .k a b c => k a b c
   | .p a b v σ c => kp a b v σ c
 | _, [], s, ow, k, kp => rfl
 | _, o :: l, s, ow, k, kp => by
  simp only [trK]
  conv => lhs; rw [wQ]
  conv => rhs; rw [wQ, UA]
  congr 1
  funext q
  cases q with
  | v v σ w =>
   simp only
   conv => lhs; rw [C4]
   conv => rhs; rw [C4, UA]
   congr 1
   funext q
   cases q <;> rfl
  | p v σ w => rfl
  | d v σ w => rfl
theorem IJ {all : List Oper} {s : St} {ow : Ow} (k : St → Ow → Option R) (kp : ab → St → Ow → Option R) :
  um T ch all s ow k kp = (um T ch all s ow (fun s o => some (MZ.k s o)) (fun v s o => some (MZ.p v s o))).bind fun q => match q with
   | .k s o => k s o
   | .p v s o => kp v s o := by
 unfold um
 conv => lhs; rw [C4]
 conv => rhs; rw [C4, UA]
 congr 1
 funext q
 cases q with
 | k a b c => simp only; rw [ai]; rfl
 | p a b v σ c => simp only; rw [ai]; rfl
theorem jv {A : qh} : ∀ (n : Nat) {R : Type} (c : Code) (s : St) (ow : Ow) (K : an → St → Ow → Option R),
  bh T ch A n c s ow K = (bh T ch A n c s ow fun o s' w => some (o, s', w)).bind fun q => K q.1 q.2.1 q.2.2 := by
 intro n
 induction n with
 | zero => intro R c s ow K; rfl
 | succ n ih =>
  intro R c s ow K
  cases c with
  | region id ops d =>
   cases d with
   | false =>
    simp only [bh]
    conv => lhs; rw [Ap]
    conv => rhs; rw [Ap, UA]
    congr 1
    funext q
    cases q <;> rfl
   | true =>
    simp only [bh]
    conv => lhs; rw [IJ]
    conv => rhs; rw [IJ, UA]
    congr 1
    funext q
    cases q <;> rfl
  | seq a b =>
   simp only [bh]
   conv => lhs; rw [ih a]
   conv => rhs; rw [ih a, UA]
   congr 1
   funext q
   obtain ⟨o, s', w⟩ := q
   cases o <;> first | rfl | exact ih b s' w K
  | cond c a b =>
   simp only [bh]
   split
   ·exact ih a s ow K
   ·exact ih b s ow K
   ·rfl
  | block id b =>
   simp only [bh]
   conv => lhs; rw [ih b]
   conv => rhs; rw [ih b, UA]
   congr 1
   funext q
   obtain ⟨o, s', w⟩ := q
   cases o <;> try rfl
   simp only
   split <;> simp_all
  | loop b =>
   simp only [bh]
   split
   ·rename_i la _
    rw [la.nat, la.nat (k := fun o s' => some (o, s', ow)), UA]; rfl
   ·conv => lhs; rw [ih b]
    conv => rhs; rw [ih b, UA]
    congr 1
    funext q
    obtain ⟨o, s', w⟩ := q
    cases o <;> first | rfl | exact ih (.loop b) s' w K
  | scope b =>
   simp only [bh]
   conv => lhs; rw [ih b]
   conv => rhs; rw [ih b, UA]
   congr 1
   funext q
   obtain ⟨o, s', w⟩ := q
   cases o <;> rfl
  | _ => rfl
end
theorem Cov.trans {n : Nat} {a b c : St} (h : Cov n a b) (k : Cov n b c) : Cov n a c := by
 refine ⟨k.1, fun w0 ρ x w hr => ?_⟩
 obtain ⟨ρ1, h1, h2⟩ := h.2 w0 ρ x w hr
 obtain ⟨ρ2, k1, k2⟩ := k.2 w0 ρ1 x w h1
 exact ⟨ρ2, k1, fun i hi => (k2 i hi).trans (h2 i hi)⟩
def Cx (σ : Mem) (sz : Nat) (v : ab) : Option (ab × Mem) :=
 match v with
 | .aL => some (.vec σ.next, σ.push (.vec [] 0 sz true))
 | .emp _ => some (.vec σ.next, σ.push (.vec [] 0 sz true))
 | _ => none
def Aq (σ : Mem) (sz : Nat) (tm : LA_) (t : Tmp) : LA_ × Mem :=
 match Cx σ sz (tm.getD t (.tup [])) with
 | some (v, σ') => (tm.set t v, σ')
 | none => (tm, σ)
def yF (σ : Mem) (sz : Nat) (x : ab) (o : Nat) : Mem :=
 match x with
 | .ptr b 0 => match σ.get b with
  | some (.cells cs true gr) => match Cx σ sz (cs.getD o (.tup [])) with
   | some (v, σ') => σ'.set b (.cells (cs.set o v) true gr)
   | none => σ
  | _ => σ
 | _ => σ
def jY (ρ : Nat → Loc) : ab → Loc
 | .emp i => { blk := 0, base := 0, dS := 0, sp := some (ρ i).odd }
 | .slice b o l ex c => { blk := (ρ b).blk, base := (ρ b).base + o, dS := if ex then c else (ρ b).dS - c, sp := some ⟨(ρ b).blk, (ρ b).base + o, none⟩, sl := l, sk := if ex then c else (ρ b).dS - c }
 | .ptr b o => { blk := (ρ b).blk, base := (ρ b).base + o, dS := 0 }
 | .vec j => ρ j
 | _ => { blk := 0, base := 0, dS := 0 }
theorem qw {w0 : W0} {ρ : Nat → Loc} {σ : Mem} {w : World} (hr : Rel w0 ρ σ w) {x : ab} {cs : LA_} {n sz : Nat} (he : bN σ sz x = some (cs, n)) (hf0 : wF σ sz x = true) (hz : sz ≠ 0) (ρs : Nat → Loc) :
  γ ρ x = .slice (jY ρ x).sp (jY ρ x).sl (jY ρ x).sk ∧ BOk ρs (jY ρ x) w (.vec cs n sz false) ∧ (cs ≠ [] → (jY ρ x).blk < w.heap.size) ∧ scC 0 cs = true := by
 simp only [wF, UC] at hf0
 obtain ⟨hf, hcap⟩ := hf0
 have hflat := ot hr he hf
 unfold bN at he
 split at he
 ·cases he; exact ⟨rfl, ⟨rfl, .inl ⟨rfl, rfl, by simp⟩⟩, by simp, rfl⟩
 ·cases he; exact ⟨rfl, ⟨rfl, .inl ⟨rfl, rfl, by simp⟩⟩, by simp, rfl⟩
 ·rename_i b o l ex c
  cases hc : cC σ b o (l * sz) with
  | none => rw [hc] at he; cases he
  | some ds =>
   rw [hc] at he; cases he
   refine ⟨rfl, ?_, ?_, hflat⟩
   ·refine ⟨rfl, ?_⟩
    obtain ⟨bs, bk, hg, hbk, hl, rfl⟩ := fH hc
    by_cases hn : n = 0
    ·subst hn; exact .inl ⟨rfl, by simp, by simp⟩
    ·have hlen : ((bs.drop o).take (n * sz)).length = n * sz := by simp; omega
     have hpos := Nat.mul_pos (Nat.pos_of_ne_zero hn) (Nat.pos_of_ne_zero hz)
     refine .inr ⟨by rw [← List.length_pos_iff, hlen]; exact hpos, rfl, hlen, ?_⟩
     obtain ⟨cc, e, fz, h1, pre, post, h2, h3⟩ := hr.row hg hbk (by rintro rfl; simp at hl; omega)
     refine ⟨cc, e, fz, h1, ⟨pre ++ γL ρ (bs.take o), γL ρ (bs.drop (o + n * sz)) ++ post, ?_, ?_⟩, by simp, ?_, rfl⟩
     ·rw [h2]
      have e0 : γL ρs ((bs.drop o).take (n * sz)) = γL ρ ((bs.drop o).take (n * sz)) := ix (n := 0) (fun i hi => by omega) _ hflat
      rw [e0]
      have e1 : bs = bs.take o ++ ((bs.drop o).take (n * sz) ++ bs.drop (o + n * sz)) := by
       rw [← List.drop_drop, List.take_append_drop, List.take_append_drop]
      conv => lhs; rw [e1]
      simp only [cz, UV]
     ·simp only [UQ, aU, List.length_take, h3, jY]; omega
     ·show n ≤ (if ex = true then c else (ρ b).dS - c)
      cases ex with
      | true => simp only [if_true]; exact Nat.le_of_ble_eq_true hcap
      | false =>
       simp only [Qv, UC] at hcap
       obtain ⟨⟨k1, k2⟩, k3⟩ := hcap
       obtain rfl := UR k2
       obtain rfl := UR k1
       simp only [UE, if_false, Nat.sub_zero]
       rw [hg] at k3
       split at k3
       ·rename_i cs' g hbk'
        cases hbk'
        obtain rfl := UR k3
        obtain ⟨_, _, _, _, _, _, k4⟩ := hr.ok b _ hg
        obtain ⟨_, _, k5⟩ := k4 _ rfl
        simp only [am.content, UB] at hbk
        subst hbk
        exact Nat.le_of_mul_le_mul_right (by omega) (Nat.pos_of_ne_zero hz)
       ·cases k3
   ·intro hne
    obtain ⟨bs, bk, hg, hbk, hl, rfl⟩ := fH hc
    obtain ⟨cc, e, fz, h1, _⟩ := hr.row hg hbk (by rintro rfl; simp at hne)
    show (ρ b).blk < _
    have := Array.getElem?_eq_some_iff.1 h1
    exact this.1
 ·rename_i j
  split at he
  ·rename_i cs' n' sz' own hg
   split at he
   ·rename_i hsz
    cases he
    subst hsz
    obtain ⟨g0, g1⟩ := hr.ok j _ hg
    refine ⟨rfl, ⟨g0, ?_⟩, ?_, hflat⟩
    ·rcases g1 with ⟨q1, q2, q3⟩ | ⟨q1, q2, q3, c, e, fz, h1, ⟨pre, post, h2, h3⟩, h4⟩
     ·exact .inl ⟨q1, q2, by simp⟩
     ·exact .inr ⟨q1, q2, q3, c, e, fz, h1, ⟨pre, post, by rw [ix (n := 0) (ρ := ρ) (fun i hi => by omega) _ hflat]; exact h2, h3⟩, by simp, h4.2⟩
    ·intro hne
     exact hr.inb j _ hg (by simp only [am.alive, Bool.not_eq_true', List.isEmpty_eq_false_iff]; exact hne)
   ·cases he
  ·cases he
 ·cases he
def GK (σ : Mem) (sz : Nat) (v : ab) : Option (ab × Mem) :=
 match bN σ sz v with
 | some (cs, n) => cond (wF σ sz v && !(Nat.beq sz 0)) (match v with
  | .aL => some (.vec σ.next, σ.push (.vec cs n sz false))
  | .emp _ => some (.vec σ.next, σ.push (.vec cs n sz false))
  | .slice i _ _ _ _ => some (.vec σ.next, (σ.set i .dead).push (.vec cs n sz false))
  | .vec i => some (.vec σ.next, (σ.set i .dead).push (.vec cs n sz false))
  | _ => none) none
 | none => none
theorem Ot {w0 : W0} {ρ : Nat → Loc} {σ σ' : Mem} {w : World} {sz : Nat} {v v' : ab} (h : Rel w0 ρ σ w) (hv : GK σ sz v = some (v', σ')) :
  ∃ ρ', bO w0 ρ σ.next ρ' σ' w ∧ γ ρ' v' = γ ρ v ∧ sc σ'.next v' = true := by
 unfold GK at hv
 split at hv
 rotate_left
 ·cases hv
 rename_i cs n he
 cases hc : (wF σ sz v && !(Nat.beq sz 0)) with
 | false => rw [hc] at hv; cases hv
 | true =>
  rw [hc] at hv
  simp only [cond_true] at hv
  simp only [UC, Bool.not_eq_true'] at hc
  have hz : sz ≠ 0 := by rintro rfl; simp at hc
  obtain ⟨l1, l2, l3, l4⟩ := qw h he hc.1 hz ρ
  have fin : ∀ (τ : Mem), τ.next = σ.next → Rel w0 ρ τ w → ((am.vec cs n sz false).alive = true → ∀ j bj, τ.get j = some bj → bj.owned = true → (ρ j).blk ≠ (jY ρ v).blk) →
    ∃ ρ', bO w0 ρ σ.next ρ' (τ.push (.vec cs n sz false)) w ∧ γ ρ' (.vec σ.next) = γ ρ v ∧ sc (τ.push (.vec cs n sz false)).next (.vec σ.next) = true := by
   intro τ hτ hR ha
   have R := hR.name (B := .vec cs n sz false) (L := jY ρ v) (by simp only [scB]; exact l4) l2 (fun hal => l3 (by simp only [am.alive, Bool.not_eq_true', List.isEmpty_eq_false_iff] at hal; exact hal)) (fun ho => by cases ho) ha
   rw [hτ] at R
   exact ⟨_, ⟨R, fun i hi => dU hi, by simp [hτ]⟩, by rw [l1]; simp [γ], by simp [sc, hτ]⟩
  have live : ∀ {i : Nat} {b : am}, σ.get i = some b → (ρ i).blk = (jY ρ v).blk → ((am.vec cs n sz false).alive = true → b.alive = true) → (am.vec cs n sz false).alive = true → ∀ j bj, (σ.set i .dead).get j = some bj → bj.owned = true → (ρ j).blk ≠ (jY ρ v).blk := by
   intro i b hi hb hal ha j bj hj ho
   rw [aT] at hj
   split at hj
   ·cases hj; cases ho
   ·rename_i hne
    rw [← hb]
    exact h.ap j i bj b hj hi (Ne.symm hne) ho (hal ha)
  split at hv
  ·cases hv
   simp only [bN] at he
   cases he
   exact fin σ rfl h (fun ha => by cases ha)
  ·cases hv
   simp only [bN] at he
   cases he
   exact fin σ rfl h (fun ha => by cases ha)
  ·rename_i i o l ex c
   cases hv
   simp only [bN] at he
   cases hcs : cC σ i o (l * sz) with
   | none => rw [hcs] at he; cases he
   | some ds =>
    rw [hcs] at he
    cases he
    obtain ⟨bs, bk, hg, hbk, hl, rfl⟩ := fH hcs
    refine fin _ rfl (h.kill hg) (live hg rfl fun ha => ?_)
    cases bk with
    | dead => cases hbk
    | vec cs2 n2 sz2 own2 =>
     simp only [am.content, UB] at hbk
     subst hbk
     simp only [am.alive, Bool.not_eq_true', List.isEmpty_eq_false_iff] at ha ⊢
     rintro rfl
     exact ha (by simp)
    | _ => rfl
  ·rename_i i
   cases hv
   simp only [bN] at he
   split at he
   ·rename_i cs' n' sz' own' hg
    split at he
    ·cases he
     refine fin _ rfl (h.kill hg) (live hg rfl fun ha => ha)
    ·cases he
   ·cases he
  ·cases hv
def vH (σ : Mem) (sz : Nat) (tm : LA_) (t : Tmp) : LA_ × Mem :=
 match GK σ sz (tm.getD t (.tup [])) with
 | some (v, σ') => (tm.set t v, σ')
 | none => (tm, σ)
theorem GL {σ σ' : Mem} {sz : Nat} {v v' : ab} (h : GK σ sz v = some (v', σ')) : σ.next ≤ σ'.next := by
 unfold GK at h
 split at h
 rotate_left
 ·cases h
 cases hc : (wF σ sz v && !(Nat.beq sz 0)) with
 | false => rw [hc] at h; cases h
 | true =>
  rw [hc] at h
  simp only [cond_true] at h
  split at h <;> first | (cases h; simp) | cases h
theorem M1 {n sz : Nat} {s : St} {t : Tmp} (hn : n ≤ s.mem.next) : Cov n s ⟨(vH s.mem sz s.tm t).1, s.df, (vH s.mem sz s.tm t).2⟩ := by
 unfold vH
 split
 ·rename_i v σ' hv
  have hle := GL hv
  refine ⟨Nat.le_trans hn hle, fun w0 ρ a w hr => ?_⟩
  obtain ⟨ρ', hp, hγ, hsc⟩ := Ot hr.rel hv
  refine ⟨ρ', ?_, fun i hi => hp.ext i (Nat.lt_of_lt_of_le hi hn)⟩
  have h1 := hr.congr hp
  refine ⟨h1.rel, ?_, uv h1.sct hsc, h1.df, h1.scd⟩
  rw [h1.tm]
  congr 1
  simp only [yx, hγ]
  by_cases ht : t < s.tm.length
  ·have hx : s.tm.getD t (.tup []) = s.tm[t] := by simp [UK, ht]
   rw [hx]
   symm
   apply List.ext_getElem?
   intro i
   rw [List.getElem?_set]
   split
   ·rename_i e
    subst e
    have hs := (gA _ _).1 hr.sct (s.tm[t]) (List.getElem_mem ht)
    simp only [aU, ht, if_true, gZ, UJ ht, US]
    rw [fT hp.ext _ hs]
   ·rfl
  ·have hle : s.tm.length ≤ t := Nat.le_of_not_lt ht
   rw [List.set_eq_of_length_le (by rw [aU]; exact hle)]
 ·exact .refl hn
theorem Lz {σ : Mem} {sz : Nat} {tm : LA_} {t : Tmp} : σ.next ≤ (vH σ sz tm t).2.next := by
 unfold vH
 split
 ·rename_i hv; exact GL hv
 ·exact Nat.le_refl _
def yH (t : Tmp) (sz : Nat) (s : St) : St :=
 cond (Nat.blt t 1000000) ⟨(Aq s.mem sz s.tm t).1, s.df, (Aq s.mem sz s.tm t).2⟩ (cond (Nat.blt t 1000000000000) ⟨s.tm, s.df, yF s.mem sz (s.tm.getD (t % 1000000) (.tup [])) (t / 1000000 - 1)⟩
  ⟨(vH s.mem sz s.tm (t - 1000000000000)).1, s.df, (vH s.mem sz s.tm (t - 1000000000000)).2⟩)
def cb : List (Tmp × Nat) → St → St
 | [], s => s
 | (t, sz) :: r, s => cb r (yH t sz s)
theorem KN {w0 : W0} {ρ : Nat → Loc} {σ σ' : Mem} {w : World} {sz : Nat} {v v' : ab} (h : Rel w0 ρ σ w) (hv : Cx σ sz v = some (v', σ')) :
  ∃ ρ', bO w0 ρ σ.next ρ' σ' w ∧ γ ρ' v' = γ ρ v ∧ sc σ'.next v' = true := by
 unfold Cx at hv
 split at hv
 ·cases hv
  have R := h.CQ 0 sz true { blk := 0, base := 0, dS := 0 } rfl rfl rfl
  exact ⟨_, ⟨R, fun i hi => dU hi, by simp⟩, by simp [γ], by simp [sc]⟩
 ·rename_i i
  cases hv
  have R := h.CQ 0 sz true { blk := 0, base := 0, dS := 0, sp := some (ρ i).odd } rfl rfl rfl
  exact ⟨_, ⟨R, fun i hi => dU hi, by simp⟩, by simp [γ], by simp [sc]⟩
 ·cases hv
theorem Ou {n sz : Nat} {s : St} {t : Tmp} (hn : n ≤ s.mem.next) : Cov n s ⟨(Aq s.mem sz s.tm t).1, s.df, (Aq s.mem sz s.tm t).2⟩ := by
 unfold Aq
 split
 ·rename_i v σ' hv
  have hle : s.mem.next ≤ σ'.next := by
   unfold Cx at hv
   split at hv
   ·cases hv; simp
   ·cases hv; simp
   ·cases hv
  refine ⟨Nat.le_trans hn hle, fun w0 ρ a w hr => ?_⟩
  obtain ⟨ρ', hp, hγ, hsc⟩ := KN hr.rel hv
  refine ⟨ρ', ?_, fun i hi => hp.ext i (Nat.lt_of_lt_of_le hi hn)⟩
  have h1 := hr.congr hp
  refine ⟨h1.rel, ?_, uv h1.sct hsc, h1.df, h1.scd⟩
  rw [h1.tm]
  congr 1
  simp only [yx, hγ]
  by_cases ht : t < s.tm.length
  ·have hx : s.tm.getD t (.tup []) = s.tm[t] := by simp [UK, ht]
   rw [hx]
   symm
   apply List.ext_getElem?
   intro i
   rw [List.getElem?_set]
   split
   ·rename_i e
    subst e
    have hs := (gA _ _).1 hr.sct (s.tm[t]) (List.getElem_mem ht)
    simp only [aU, ht, if_true, gZ, UJ ht, US]
    rw [fT hp.ext _ hs]
   ·rfl
  ·have hle : s.tm.length ≤ t := Nat.le_of_not_lt ht
   rw [List.set_eq_of_length_le (by rw [aU]; exact hle)]
 ·exact .refl hn
theorem M2 {σ : Mem} {sz : Nat} {tm : LA_} {t : Tmp} : σ.next ≤ (Aq σ sz tm t).2.next := by
 unfold Aq
 split
 ·rename_i hv
  unfold Cx at hv
  split at hv
  ·cases hv; simp
  ·cases hv; simp
  ·cases hv
 ·exact Nat.le_refl _
theorem IK {σ σ' : Mem} {sz : Nat} {v v' : ab} (h : Cx σ sz v = some (v', σ')) : σ' = σ.push (.vec [] 0 sz true) ∧ v' = .vec σ.next ∧ v.eV = true := by
 unfold Cx at h
 split at h
 ·cases h; exact ⟨rfl, rfl, rfl⟩
 ·cases h; exact ⟨rfl, rfl, rfl⟩
 ·cases h
theorem Cy {σ : Mem} {sz : Nat} {x : ab} {o : Nat} : σ.next ≤ (yF σ sz x o).next := by
 unfold yF
 split
 ·split
  ·split
   ·rename_i hv; rw [(IK hv).1]; simp [Mem.set, Mem.push]
   ·exact Nat.le_refl _
  ·exact Nat.le_refl _
 ·exact Nat.le_refl _
theorem LB {n sz o : Nat} {s : St} {x : ab} (hn : n ≤ s.mem.next) : Cov n s ⟨s.tm, s.df, yF s.mem sz x o⟩ := by
 refine ⟨Nat.le_trans hn Cy, fun w0 ρ a w hr => ?_⟩
 unfold yF
 split
 rotate_left
 ·exact ⟨ρ, hr, fun _ _ => rfl⟩
 rename_i b
 split
 rotate_left
 ·exact ⟨ρ, hr, fun _ _ => rfl⟩
 rename_i cs gr hb
 split
 rotate_left
 ·exact ⟨ρ, hr, fun _ _ => rfl⟩
 rename_i v σ' hv
 obtain ⟨ρ', hp, hγ, hsc⟩ := KN hr.rel hv
 have h1 := hr.congr hp
 obtain ⟨e1, e2, e3⟩ := IK hv
 have hbl := hr.rel.lt b _ hb
 have hb' : σ'.get b = some (.cells cs true gr) := by
  rw [e1, bU, if_neg (by omega)]; exact hb
 have hlen : o < cs.length := by
  apply Nat.lt_of_not_le
  intro hle
  rw [UK, List.getElem?_eq_none hle] at hv
  cases hv
 have hg : cs.getD o (.tup []) = cs[o] := by simp [UK, hlen]
 have hsccs := h1.rel.sco b _ hb'
 have heq : γL ρ' (cs.set o v) = γL ρ' cs := by
  rw [yx, hγ, hg]
  apply List.ext_getElem?
  intro i
  rw [List.getElem?_set]
  split
  ·rename_i e
   subst e
   have hs := (fe _ _).1 (hr.rel.sco b _ hb) (cs[o]) (List.getElem_mem hlen)
   simp only [aU, hlen, if_true, gZ, UJ hlen, US]
   rw [fT hp.ext _ hs.2]
  ·rfl
 have hBOk := h1.rel.ok b _ hb'
 refine ⟨ρ', ⟨h1.rel.set hb' rfl ?_ ?_ rfl (fun _ _ => rfl) rfl rfl rfl, h1.tm, h1.sct, h1.df, h1.scd⟩, fun i hi => hp.ext i (Nat.lt_of_lt_of_le hi hn)⟩
 ·refine (fe _ _).2 fun u hu => ?_
  rcases List.mem_or_eq_of_mem_set hu with h | h
  ·exact (fe _ _).1 hsccs u h
  ·subst h; rw [e2] at hsc ⊢; exact ⟨rfl, hsc⟩
 ·simp only [BOk, heq, List.length_set] at hBOk ⊢
  exact hBOk
theorem KO {t : Tmp} {sz : Nat} {s : St} : s.mem.next ≤ (yH t sz s).mem.next := by
 unfold yH
 cases Nat.blt t 1000000 with
 | true => exact M2
 | false => cases Nat.blt t 1000000000000 with
  | true => exact Cy
  | false => exact Lz
theorem LC {n sz : Nat} {s : St} {t : Tmp} (hn : n ≤ s.mem.next) : Cov n s (yH t sz s) := by
 unfold yH
 cases Nat.blt t 1000000 with
 | true => exact Ou hn
 | false => cases Nat.blt t 1000000000000 with
  | true => exact LB hn
  | false => exact M1 hn
theorem jV {n : Nat} : ∀ {l : List (Tmp × Nat)} {s : St}, n ≤ s.mem.next → Cov n s (cb l s)
 | [], s, hn => .refl hn
 | (t, sz) :: l, s, hn => (LC (sz := sz) (t := t) hn).trans (jV (l := l) (Nat.le_trans hn KO))
inductive ah where
 | I (n : Int)
 | B (b : Bool)
 | S (s : ByteArray)
 | N (n : Nat)
 | C (cs : LA_)
 | E (es : List (ab × ab × Nat))
inductive Pat where
 | int (k : IntKind)
 | fP (k : IntKind) (n : Int)
 | bool
 | s6 (b : Bool)
 | str
 | dR | aL | eR | cN | dr
 | vec (i : Nat)
 | map (i : Nat)
 | ptr (i o : Nat)
 | M3 (i : Nat)
 | slice (i o l : Nat) (ex : Bool) (c : Nat)
 | agg (ps : List Pat)
 | tup (ps : List Pat)
 | func (f : FuncId) (fs cs : List Pat)
inductive jZ where
 | cells (ps : List Pat) (own : Bool) (gr : Option Nat)
 | vec (sz : Nat) (own : Bool)
 | map
 | dead
mutual
def mp (F : List Nat) : Pat → ab → Option (List ah)
 | .int k, .int l n => if k = l then some [.I n] else none
 | .fP k m, .int l n => if k = l ∧ n = m then some [] else none
 | .bool, .bool b => some [.B b]
 | .s6 b, .bool c => if b = c then some [] else none
 | .str, .str s => some [.S s]
 | .dR, .dR => some []
 | .aL, .aL => some []
 | .eR, .eR => some []
 | .cN, .cN => some []
 | .dr, .dr => some []
 | .vec i, .vec j => if F.getD i 0 = j then some [] else none
 | .map i, .map j => if F.getD i 0 = j then some [] else none
 | .ptr i o, .ptr j o' => if F.getD i 0 = j ∧ o = o' then some [] else none
 | .M3 i, .ptr j o' => if F.getD i 0 = j then some [.N o'] else none
 | .slice i o l e c, .slice j o' l' e' c' => if F.getD i 0 = j ∧ o = o' ∧ l = l' ∧ e = e' ∧ c = c' then some [] else none
 | .agg ps, .agg vs => mpL F ps vs
 | .tup ps, .tup vs => mpL F ps vs
 | .func f fs cs, .func g a b => if f = g then (match mpL F fs a, mpL F cs b with
  | some x, some y => some (x ++ y)
  | _, _ => none) else none
 | _, _ => none
def mpL (F : List Nat) : List Pat → LA_ → Option (List ah)
 | [], [] => some []
 | p :: ps, v :: vs => match mp F p v, mpL F ps vs with
  | some x, some y => some (x ++ y)
  | _, _ => none
 | _, _ => none
end
mutual
def ip : Pat → List ah → ab × List ah
 | .int k, .I n :: r => (.int k n, r)
 | .fP k m, r => (.int k m, r)
 | .bool, .B b :: r => (.bool b, r)
 | .s6 b, r => (.bool b, r)
 | .str, .S s :: r => (.str s, r)
 | .dR, r => (.dR, r)
 | .aL, r => (.aL, r)
 | .eR, r => (.eR, r)
 | .cN, r => (.cN, r)
 | .dr, r => (.dr, r)
 | .vec i, r => (.vec i, r)
 | .map i, r => (.map i, r)
 | .ptr i o, r => (.ptr i o, r)
 | .M3 i, .N o :: r => (.ptr i o, r)
 | .slice i o l e c, r => (.slice i o l e c, r)
 | .agg ps, r => (.agg (ipL ps r).1, (ipL ps r).2)
 | .tup ps, r => (.tup (ipL ps r).1, (ipL ps r).2)
 | .func f fs cs, r => (.func f (ipL fs r).1 (ipL cs (ipL fs r).2).1, (ipL cs (ipL fs r).2).2)
 | _, r => (.tup [], r)
def ipL : List Pat → List ah → LA_ × List ah
 | [], r => ([], r)
 | p :: ps, r => ((ip p r).1 :: (ipL ps (ip p r).2).1, (ipL ps (ip p r).2).2)
end
def Pat.eV : Pat → Bool
 | .agg _ | .tup _ => false
 | _ => true
mutual
def scP (n : Nat) : Pat → Bool
 | .vec i | .map i | .ptr i _ | .M3 i | .slice i _ _ _ _ => decide (i < n)
 | .agg ps => KP n ps
 | .tup ps => H6 n ps
 | .func _ fs cs => H6 n fs && H6 n cs
 | _ => true
def H6 (n : Nat) : List Pat → Bool
 | [] => true
 | p :: ps => scP n p && H6 n ps
def KP (n : Nat) : List Pat → Bool
 | [] => true
 | p :: ps => p.eV && scP n p && KP n ps
end
mutual
theorem L1 {F : List Nat} {n : Nat} : ∀ (p : Pat) (v : ab) (ls : List ah), mp F p v = some ls →
  ∃ v0, (∀ r, ip p (ls ++ r) = (v0, r)) ∧ v = rn (fun i => F.getD i 0) v0 ∧ (scP n p = true → sc n v0 = true) ∧ (p.eV = true → v0.eV = true)
 | .int k, v, ls, h => by
  cases v <;> simp only [mp, reduceCtorEq] at h
  split at h
  ·rename_i e; subst e; cases h; exact ⟨_, fun r => rfl, rfl, fun _ => rfl, fun _ => rfl⟩
  ·cases h
 | .fP k m, v, ls, h => by
  cases v <;> simp only [mp, reduceCtorEq] at h
  split at h
  ·rename_i e; obtain ⟨rfl, rfl⟩ := e; cases h; exact ⟨_, fun r => rfl, rfl, fun _ => rfl, fun _ => rfl⟩
  ·cases h
 | .bool, v, ls, h => by
  cases v <;> simp only [mp, reduceCtorEq, UB] at h
  subst h; exact ⟨_, fun r => rfl, rfl, fun _ => rfl, fun _ => rfl⟩
 | .s6 b, v, ls, h => by
  cases v <;> simp only [mp, reduceCtorEq] at h
  split at h
  ·rename_i e; subst e; cases h; exact ⟨_, fun r => rfl, rfl, fun _ => rfl, fun _ => rfl⟩
  ·cases h
 | .str, v, ls, h => by
  cases v <;> simp only [mp, reduceCtorEq, UB] at h
  subst h; exact ⟨_, fun r => rfl, rfl, fun _ => rfl, fun _ => rfl⟩
 | .dR, v, ls, h => by
  cases v <;> simp only [mp, reduceCtorEq, UB] at h
  subst h; exact ⟨_, fun r => rfl, rfl, fun _ => rfl, fun _ => rfl⟩
 | .aL, v, ls, h => by
  cases v <;> simp only [mp, reduceCtorEq, UB] at h
  subst h; exact ⟨_, fun r => rfl, rfl, fun _ => rfl, fun _ => rfl⟩
 | .eR, v, ls, h => by
  cases v <;> simp only [mp, reduceCtorEq, UB] at h
  subst h; exact ⟨_, fun r => rfl, rfl, fun _ => rfl, fun _ => rfl⟩
 | .cN, v, ls, h => by
  cases v <;> simp only [mp, reduceCtorEq, UB] at h
  subst h; exact ⟨_, fun r => rfl, rfl, fun _ => rfl, fun _ => rfl⟩
 | .dr, v, ls, h => by
  cases v <;> simp only [mp, reduceCtorEq, UB] at h
  subst h; exact ⟨_, fun r => rfl, rfl, fun _ => rfl, fun _ => rfl⟩
 | .vec i, v, ls, h => by
  cases v <;> simp only [mp, reduceCtorEq] at h
  split at h
  ·rename_i e; subst e; cases h; exact ⟨.vec i, fun r => rfl, rfl, fun q => q, fun _ => rfl⟩
  ·cases h
 | .map i, v, ls, h => by
  cases v <;> simp only [mp, reduceCtorEq] at h
  split at h
  ·rename_i e; subst e; cases h; exact ⟨.map i, fun r => rfl, rfl, fun q => q, fun _ => rfl⟩
  ·cases h
 | .ptr i o, v, ls, h => by
  cases v <;> simp only [mp, reduceCtorEq] at h
  split at h
  ·rename_i e; obtain ⟨rfl, rfl⟩ := e; cases h; exact ⟨.ptr i _, fun r => rfl, rfl, fun q => q, fun _ => rfl⟩
  ·cases h
 | .M3 i, v, ls, h => by
  cases v <;> simp only [mp, reduceCtorEq] at h
  split at h
  ·rename_i e; subst e; cases h; exact ⟨.ptr i _, fun r => rfl, rfl, fun q => q, fun _ => rfl⟩
  ·cases h
 | .slice i o l e c, v, ls, h => by
  cases v <;> simp only [mp, reduceCtorEq] at h
  split at h
  ·rename_i q; obtain ⟨rfl, rfl, rfl, rfl, rfl⟩ := q; cases h; exact ⟨.slice i _ _ _ _, fun r => rfl, rfl, fun q => q, fun _ => rfl⟩
  ·cases h
 | .agg ps, v, ls, h => by
  cases v <;> simp only [mp, reduceCtorEq] at h
  obtain ⟨vs0, h1, h2, _, h4⟩ := rE (n := n) ps _ ls h
  exact ⟨.agg vs0, fun r => by simp only [ip, h1], by simp only [rn, h2], fun q => by simp only [scP] at q; simp only [sc]; exact h4 q, fun q => by simp [Pat.eV] at q⟩
 | .tup ps, v, ls, h => by
  cases v <;> simp only [mp, reduceCtorEq] at h
  obtain ⟨vs0, h1, h2, h3, _⟩ := rE (n := n) ps _ ls h
  exact ⟨.tup vs0, fun r => by simp only [ip, h1], by simp only [rn, h2], fun q => by simp only [scP] at q; simp only [sc]; exact h3 q, fun q => by simp [Pat.eV] at q⟩
 | .func f fs cs, v, ls, h => by
  cases v <;> simp only [mp, reduceCtorEq] at h
  split at h
  ·rename_i e
   subst e
   split at h
   ·rename_i x y hx hy
    cases h
    obtain ⟨a0, h1, h2, h3, _⟩ := rE (n := n) fs _ x hx
    obtain ⟨b0, k1, k2, k3, _⟩ := rE (n := n) cs _ y hy
    exact ⟨.func f a0 b0, fun r => by simp only [ip, UV, h1, k1], by simp only [rn, h2, k2], fun q => by simp only [scP, UC] at q; simp only [sc, UC]; exact ⟨h3 q.1, k3 q.2⟩, fun _ => rfl⟩
   ·cases h
  ·cases h
theorem rE {F : List Nat} {n : Nat} : ∀ (ps : List Pat) (vs : LA_) (ls : List ah), mpL F ps vs = some ls →
  ∃ vs0, (∀ r, ipL ps (ls ++ r) = (vs0, r)) ∧ vs = rnL (fun i => F.getD i 0) vs0 ∧ (H6 n ps = true → scL n vs0 = true) ∧ (KP n ps = true → scC n vs0 = true)
 | [], [], ls, h => by simp only [mpL, UB] at h; subst h; exact ⟨[], fun r => rfl, rfl, fun _ => rfl, fun _ => rfl⟩
 | [], _ :: _, ls, h => by simp [mpL] at h
 | _ :: _, [], ls, h => by simp [mpL] at h
 | p :: ps, v :: vs, ls, h => by
  simp only [mpL] at h
  split at h
  ·rename_i x y hx hy
   cases h
   obtain ⟨v0, h1, h2, h3, h4⟩ := L1 (n := n) p v x hx
   obtain ⟨vs0, k1, k2, k3, k4⟩ := rE (n := n) ps vs y hy
   refine ⟨v0 :: vs0, fun r => by simp only [ipL, UV, h1, k1], by simp only [rnL, ← h2, ← k2], fun q => ?_, fun q => ?_⟩
   ·simp only [H6, UC] at q; simp only [scL, UC]; exact ⟨h3 q.1, k3 q.2⟩
   ·simp only [KP, UC] at q; simp only [scC, UC]; exact ⟨⟨h4 q.1.1, h3 q.1.2⟩, k4 q.2⟩
  ·cases h
end
def mM (F : List Nat) : List (Option Pat) → LA_ → Option (List ah)
 | [], [] => some []
 | some p :: M, v :: vs => match mp F p v, mM F M vs with
  | some x, some y => some (x ++ y)
  | _, _ => none
 | none :: M, _ :: vs => mM F M vs
 | _, _ => none
def iM : List (Option Pat) → List ah → List (Option ab) × List ah
 | [], r => ([], r)
 | some p :: M, r => (some (ip p r).1 :: (iM M (ip p r).2).1, (iM M (ip p r).2).2)
 | none :: M, r => (none :: (iM M r).1, (iM M r).2)
def mBk (F : List Nat) (b : Option am) (p : jZ) : Option (List ah) :=
 match b, p with
 | some (.cells cs own gr), .cells ps own' gr' => if own = own' ∧ gr = gr' then mpL F ps cs else none
 | some (.vec cs n sz own), .vec sz' own' => if sz = sz' ∧ own = own' then some [.C cs, .N n] else none
 | some (.map es c), .map => some [.E es, .N c]
 | some .dead, .dead => some []
 | _, _ => none
def mB (F : List Nat) (σ : Mem) : List (Nat × jZ) → Option (List ah)
 | [] => some []
 | (c, p) :: r => match mBk F (σ.get (F.getD c 0)) p, mB F σ r with
  | some x, some y => some (x ++ y)
  | _, _ => none
def iBk (p : jZ) (ls : List ah) : am × List ah :=
 match p, ls with
 | .cells ps own gr, r => (.cells (ipL ps r).1 own gr, (ipL ps r).2)
 | .vec sz own, .C cs :: .N n :: r => (.vec cs n sz own, r)
 | .map, .E es :: .N c :: r => (.map es c, r)
 | .dead, r => (.dead, r)
 | _, r => (.dead, r)
def iB : List (Nat × jZ) → List ah → List (Nat × am) × List ah
 | [], r => ([], r)
 | (c, p) :: B, r => ((c, (iBk p r).1) :: (iB B (iBk p r).2).1, (iB B (iBk p r).2).2)
def PW (n : Nat) : jZ → Bool
 | .cells ps _ _ => KP n ps
 | _ => true
def GM : List Nat → Bool
 | [] => true
 | x :: r => !r.contains x && GM r
def GN : Nat → Nat → List Nat → Bool
 | 0, _, _ => true
 | n + 1, i, x :: r => x == i && GN n (i + 1) r
 | _ + 1, _, [] => false
def fOk (n K : Nat) (F : List Nat) : Bool := F.length == K && GN n 0 F && GM F
def dfB : List oh → List oh → Bool
 | [], [] => true
 | a :: x, b :: y => a.f == b.f && mY a.cap b.cap && mY a.args b.args && dfB x y
 | _, _ => false
theorem Ov : ∀ {x y : List oh}, dfB x y = true → x = y
 | [], [], _ => rfl
 | [], _ :: _, h => by simp [dfB] at h
 | _ :: _, [], h => by simp [dfB] at h
 | ⟨f, c, a⟩ :: x, ⟨g, d, b⟩ :: y, h => by
  simp only [dfB, UC, beq_iff_eq] at h
  rw [h.1.1.1, mm _ _ h.1.1.2, mm _ _ h.1.2, Ov h.2]
def mSt (n K : Nat) (F : List Nat) (M : List (Option Pat)) (B : List (Nat × jZ)) (D : List (FuncId × List Nat)) (s : St) : Option (List ah) :=
 if fOk n K F && dfB s.df (Cp s.tm D) then match mM F M s.tm, mB F s.mem B with
  | some a, some b => some (a ++ b)
  | _, _ => none
 else none
def iSt (K : Nat) (M : List (Option Pat)) (B : List (Nat × jZ)) (D : List (FuncId × List Nat)) (ls : List ah) : St := bo K (iM M ls).1 (iB B (iM M ls).2).1 D
def scM (n : Nat) : List (Option Pat) → Bool
 | [] => true
 | some p :: M => scP n p && scM n M
 | none :: M => scM n M
def shP (K : Nat) (M : List (Option Pat)) (B : List (Nat × jZ)) : Bool := scM K M && B.all fun x => decide (x.1 < K) && PW K x.2
theorem yB {F : List Nat} {n : Nat} : ∀ (M : List (Option Pat)) (vs : LA_) (ls : List ah), mM F M vs = some ls → scM n M = true →
  ∃ M0, (∀ r, iM M (ls ++ r) = (M0, r)) ∧ fits (fun i => F.getD i 0) n M0 vs
 | [], [], ls, h, _ => by simp only [mM, UB] at h; subst h; exact ⟨[], fun r => rfl, trivial⟩
 | [], _ :: _, ls, h, _ => by simp [mM] at h
 | some _ :: _, [], ls, h, _ => by simp [mM] at h
 | none :: _, [], ls, h, _ => by simp [mM] at h
 | none :: M, v :: vs, ls, h, hs => by
  simp only [mM] at h
  obtain ⟨M0, h1, h2⟩ := yB M vs ls h hs
  exact ⟨none :: M0, fun r => by simp only [iM, h1], h2⟩
 | some p :: M, v :: vs, ls, h, hs => by
  simp only [mM] at h
  simp only [scM, UC] at hs
  split at h
  ·rename_i x y hx hy
   cases h
   obtain ⟨v0, h1, h2, h3, h4⟩ := L1 (n := n) p v x hx
   obtain ⟨M0, k1, k2⟩ := yB M vs y hy hs.2
   exact ⟨some v0 :: M0, fun r => by simp only [iM, UV, h1, k1], h2, h3 hs.1, k2⟩
  ·cases h
theorem PX {F : List Nat} {n : Nat} {b : Option am} {p : jZ} {ls : List ah} (h : mBk F b p = some ls) (hs : PW n p = true) :
  ∃ b0, (∀ r, iBk p (ls ++ r) = (b0, r)) ∧ b = some (rnB (fun i => F.getD i 0) b0) ∧ scX n b0 = true := by
 unfold mBk at h
 split at h
 ·rename_i cs own gr ps own' gr'
  split at h
  ·rename_i e
   obtain ⟨rfl, rfl⟩ := e
   obtain ⟨vs0, h1, h2, _, h4⟩ := rE (n := n) _ _ ls h
   exact ⟨.cells vs0 own gr, fun r => by simp only [iBk, h1], by simp only [rnB, h2], h4 hs⟩
  ·cases h
 ·split at h
  ·rename_i e
   obtain ⟨rfl, rfl⟩ := e
   cases h
   exact ⟨.vec _ _ _ _, fun r => rfl, rfl, rfl⟩
  ·cases h
 ·cases h; exact ⟨.map _ _, fun r => rfl, rfl, rfl⟩
 ·cases h; exact ⟨.dead, fun r => rfl, rfl, rfl⟩
 ·cases h
theorem CX {F : List Nat} {n : Nat} {σ : Mem} : ∀ (B : List (Nat × jZ)) (ls : List ah), mB F σ B = some ls → (B.all fun x => decide (x.1 < n) && PW n x.2) = true →
  ∃ B0, (∀ r, iB B (ls ++ r) = (B0, r)) ∧ ∀ x ∈ B0, x.1 < n ∧ σ.get (F.getD x.1 0) = some (rnB (fun i => F.getD i 0) x.2) ∧ scX n x.2 = true
 | [], ls, h, _ => by simp only [mB, UB] at h; subst h; exact ⟨[], fun r => rfl, fun x hx => by cases hx⟩
 | (c, p) :: B, ls, h, hs => by
  simp only [mB] at h
  simp only [List.all_cons, UC, UI] at hs
  split at h
  ·rename_i x y hx hy
   cases h
   obtain ⟨b0, h1, h2, h3⟩ := PX (n := n) hx hs.1.2
   obtain ⟨B0, k1, k2⟩ := CX B y hy hs.2
   refine ⟨(c, b0) :: B0, fun r => by simp only [iB, UV, h1, k1], ?_⟩
   intro z hz
   cases hz with
   | head => exact ⟨hs.1.1, h2, h3⟩
   | tail _ hz => exact k2 z hz
  ·cases h
theorem lN {i : Nat} {b : am} : ∀ {B : List (Nat × am)}, look B i = some b → (i, b) ∈ B
 | [], h => by simp [look] at h
 | (j, c) :: r, h => by
  simp only [look] at h
  split at h
  ·rename_i e
   simp only [UB] at h
   subst h
   rw [beq_iff_eq] at e
   subst e
   simp
  ·simp [lN h]
theorem GO : ∀ {n i : Nat} {F : List Nat}, GN n i F = true → n ≤ F.length ∧ ∀ j, j < n → F.getD j 0 = i + j
 | 0, i, F, _ => ⟨Nat.zero_le _, fun j hj => by omega⟩
 | n + 1, i, [], h => by simp [GN] at h
 | n + 1, i, x :: r, h => by
  simp only [GN, UC, beq_iff_eq] at h
  obtain ⟨h1, h2⟩ := GO h.2
  refine ⟨by simp; omega, fun j hj => ?_⟩
  cases j with
  | zero => simp [h.1]
  | succ j => have := h2 j (by omega); simp only [List.getD_cons_succ]; omega
theorem Ec : ∀ {F : List Nat}, GM F = true → ∀ i j, i < F.length → j < F.length → F.getD i 0 = F.getD j 0 → i = j
 | [], _, i, j, hi, _, _ => by simp at hi
 | x :: r, h, i, j, hi, hj, e => by
  simp only [GM, UC, Bool.not_eq_true', List.contains_iff_mem, Bool.not_eq_true] at h
  have hx : x ∉ r := by intro hm; have := h.1; simp [hm] at this
  have gm : ∀ k, k < r.length → r.getD k 0 ∈ r := fun k hk => by
   rw [UK, UJ hk]; exact List.getElem_mem hk
  cases i with
  | zero => cases j with
   | zero => rfl
   | succ j =>
    simp only [List.getD_cons_zero, List.getD_cons_succ] at e
    exact absurd (e ▸ gm j (by simpa using hj)) hx
  | succ i => cases j with
   | zero =>
    simp only [List.getD_cons_zero, List.getD_cons_succ] at e
    exact absurd (e ▸ gm i (by simpa using hi)) hx
   | succ j =>
    simp only [List.getD_cons_succ] at e
    rw [Ec h.2 i j (by simpa using hi) (by simpa using hj) e]
theorem uo {n K : Nat} {F : List Nat} {M : List (Option Pat)} {B : List (Nat × jZ)} {D : List (FuncId × List Nat)} {s : St} {ls : List ah} (hS : shP K M B = true) (h : mSt n K F M B D s = some ls) : Cov n s (iSt K M B D ls) := by
 unfold mSt at h
 split at h
 ·rename_i h0
  simp only [fOk, UC, beq_iff_eq] at h0
  obtain ⟨⟨⟨rfl, hp⟩, hnd⟩, hdf⟩ := h0
  split at h
  ·rename_i a b ha hb
   cases h
   simp only [shP, UC] at hS
   obtain ⟨p1, p2⟩ := GO hp
   obtain ⟨M0, m1, m2⟩ := yB (n := F.length) M s.tm a ha hS.1
   obtain ⟨B0, b1, b2⟩ := CX (n := F.length) B b hb hS.2
   have e1 : iM M (a ++ b) = (M0, b) := m1 b
   have e2 : iB B b = (B0, []) := by have := b1 []; rwa [List.append_nil] at this
   simp only [iSt, e1, e2]
   refine MP.cov ⟨Ov hdf, m2, fun i c hc => b2 _ (lN hc), Ec hnd, fun i hi => by have := p2 i hi; omega, p1⟩
  ·cases h
 ·cases h
def iter {V E : Type} (step : V → Option (V ⊕ E)) : Nat → V → Option E
 | 0, _ => none
 | n + 1, v => match step v with
  | none => none
  | some (.inl v') => iter step n v'
  | some (.inr e) => some e
theorem IL {V E : Type} {step : V → Option (V ⊕ E)} : ∀ {n m : Nat} {v : V} {e : E}, n ≤ m → iter step n v = some e → iter step m v = some e
 | 0, m, v, e, _, h => by simp [iter] at h
 | n + 1, m, v, e, hm, h => by
  obtain ⟨m, rfl⟩ : ∃ k, m = k + 1 := ⟨m - 1, by omega⟩
  simp only [iter] at h ⊢
  split at h
  ·cases h
  ·exact IL (by omega) h
  ·exact h
def vI : Nat := 18446744073709551616
def dZ {V E : Type} (step : V → Option (V ⊕ E)) (v : V) : Option E := iter step vI v
theorem lO {V E : Type} {step : V → Option (V ⊕ E)} {v : V} {e : E} {n : Nat} (hn : n ≤ vI) (h : iter step n v = some e) : dZ step v = some e := IL hn h
theorem dL {V E : Type} {step : V → Option (V ⊕ E)} {v v' : V} {e : E} {n : Nat} (h : step v = some (.inl v')) (k : iter step n v' = some e) : iter step (n + 1) v = some e := by simp only [iter, h, k]
theorem gK {V E : Type} {step : V → Option (V ⊕ E)} {v : V} {e : E} (n : Nat) (h : step v = some (.inr e)) : iter step (n + 1) v = some e := by simp only [iter, h]
structure ExS where
 K : Nat
 M : List (Option Pat)
 B : List (Nat × jZ)
 F : St → List Nat
 pre : List (Tmp × Nat)
 D : List (FuncId × List Nat)
structure LD where
 CC : Type
 V : Type
 E : Type
 n : Nat
 K : Nat
 M : List (Option Pat)
 B : List (Nat × jZ)
 D : List (FuncId × List Nat)
 pre : List (Tmp × Nat)
 F : St → List Nat
 toL : CC → V → List ah
 ofL : List ah → Option (CC × V)
 au : ∀ ls c v, ofL ls = some (c, v) → ls = toL c v
 cw : {R : Type} → CC → V → (V → Option R) → (E → Option R) → Option R
 nat : ∀ {R : Type} (cc : CC) (v : V) (kn : V → Option R) (ke : E → Option R), cw cc v kn ke = (cw cc v (fun v => some (Sum.inl v)) fun e => some (Sum.inr e)).bind (Sum.elim kn ke)
 sh : an → ExS
 out : E → an
 toE : CC → E → List ah
 fQ : CC → E → List ah
 ofE : an → List ah → Option (E × List ah)
 dn : ∀ o ls e cl cc, ofE o ls = some (e, cl) → cl = fQ cc e → ls = toE cc e ∧ out e = o ∧ o ≠ .normal ∧ ∀ v, o = .pan v → sc 0 v = true
 post : {R : Type} → CC → E → (an → St → Option R) → Option R
 cv : ∀ {R : Type} (cc : CC) (e : E) (k : an → St → Option R), post cc e k = k (out e) (iSt (sh (out e)).K (sh (out e)).M (sh (out e)).B (sh (out e)).D (toE cc e))
def LD.step (d : LD) (cc : d.CC) (v : d.V) : Option (d.V ⊕ d.E) := d.cw cc v (fun v => some (Sum.inl v)) fun e => some (Sum.inr e)
def LD.st (d : LD) (cc : d.CC) (v : d.V) : St := iSt d.K d.M d.B d.D (d.toL cc v)
def LD.mat (d : LD) (s : St) : Option (d.CC × d.V) := (mSt d.n d.K (d.F (cb d.pre s)) d.M d.B d.D (cb d.pre s)).bind d.ofL
def LD.la (d : LD) : LA where
 run := fun s k => (d.mat s).bind fun q => (dZ (d.step q.1) q.2).bind fun e => d.post q.1 e k
 nat := fun s k => by
  rw [UA]
  congr 1
  funext q
  rw [UA]
  congr 1
  funext e
  rw [d.cv, d.cv]
  rfl
def Tc : Option ab → Option ab → Bool
 | some a, some b => aeq a b
 | none, none => true
 | _, _ => false
def owB : Ow → Bool
 | [] => true
 | p :: r => Tc p.1 p.2 && owB r
theorem eW : ∀ {w : Ow}, owB w = true → w.ok
 | [], _ => Ow.Ct
 | p :: r, h => by
  simp only [owB, UC] at h
  intro x hx
  cases hx with
  | head =>
   have := h.1
   unfold Tc at this
   split at this
   ·rename_i h1 h2; rw [h1, h2, vw _ _ this]
   ·rename_i h1 h2; rw [h1, h2]
   ·cases this
  | tail _ hx => exact eW h.2 x hx
def LD.leaf (d : LD) (o : an) (s : St) (w : Ow) : Option ((d.V × d.CC) ⊕ (d.E × List ah)) :=
 match owB w with
 | true => match o with
  | .normal => (d.mat s).map fun q => .inl (q.2, q.1)
  | o => ((mSt d.n (d.sh o).K ((d.sh o).F (cb (d.sh o).pre s)) (d.sh o).M (d.sh o).B (d.sh o).D (cb (d.sh o).pre s)).bind (d.ofE o)).map .inr
 | false => none
structure LD.Ok (P : Program) (T : ar) (ch : CH) (A : qh) (d : LD) (fuel : Nat) (b : Code) : Prop where
 hd : shP d.K d.M d.B = true
 shE : ∀ e, shP (d.sh (d.out e)).K (d.sh (d.out e)).M (d.sh (d.out e)).B = true
 body : ∀ cc v, bh T ch A fuel b (d.st cc v) .nil d.leaf = d.cw cc v (fun v' => some (.inl (v', cc))) fun e => some (.inr (e, d.fQ cc e))
 inner : ∀ b' ∈ bm b, ∀ la, A (dK b') = some la → cX P d.n la b'
theorem LD.ok {P : Program} {T : ar} {ch : CH} {A : qh} (hT : aZ P T) (hH : aG P ch) (hm : P.follows .mixedOrders = true) {d : LD} {fuel : Nat} {b : Code} (h : d.Ok P T ch A fuel b) : cX P d.n d.la b := by
 have head : ∀ {s : St} {cc : d.CC} {v : d.V}, d.mat s = some (cc, v) → d.n ≤ s.mem.next → Cov d.n s (d.st cc v) := by
  intro s cc v hmt hn
  obtain ⟨ls, h1, h2⟩ := bE_ hmt
  have := uo h.hd h1
  rw [d.au _ _ _ h2] at this
  exact (jV hn).trans this
 intro s o s' hr
 simp only [LD.la] at hr
 obtain ⟨⟨cc, v⟩, h0, hr⟩ := bE_ hr
 obtain ⟨e, h1, h2⟩ := bE_ hr
 rw [d.cv] at h2
 simp only [UB, UD] at h2
 obtain ⟨rfl, rfl⟩ := h2
 obtain ⟨m, hmm⟩ : ∃ m, iter (d.step cc) m v = some e := ⟨_, h1⟩
 have key : ∀ (m : Nat) (v : d.V), iter (d.step cc) m v = some e → yE P d.n b m (d.st cc v) (d.out e) (iSt (d.sh (d.out e)).K (d.sh (d.out e)).M (d.sh (d.out e)).B (d.sh (d.out e)).D (d.toE cc e)) := by
  intro m
  induction m with
  | zero => intro v hv; simp [iter] at hv
  | succ m ih =>
   intro v hv
   simp only [iter] at hv
   have hb := h.body cc v
   rw [jv, d.nat] at hb
   cases hst : d.step cc v with
   | none => rw [hst] at hv; cases hv
   | some q =>
    rw [hst] at hv
    have hst' : (d.cw cc v (fun v => some (Sum.inl v)) fun e => some (Sum.inr e)) = some q := hst
    rw [hst'] at hb
    simp only [Uy] at hb
    have hq : ∃ y, Sum.elim (fun v' => some (Sum.inl (v', cc))) (fun e => some (Sum.inr (e, d.fQ cc e))) q = some y := by cases q <;> exact ⟨_, rfl⟩
    obtain ⟨y, hy⟩ := hq
    rw [hy] at hb
    obtain ⟨⟨o1, s1, w1⟩, k1, k2⟩ := bE_ hb
    obtain ⟨o2, s2, w2, j1, j2, j3⟩ := iN hT hH hm fuel b _ _ _ _ h.inner k1
    simp only [UB, UD] at j1
    obtain ⟨rfl, rfl, rfl⟩ := j1
    simp only [LD.leaf] at k2
    split at k2
    ·rename_i how
     have hA := j3 (eW how)
     have hn2 : dk P d.n b (d.st cc v) fun o1 s1' => (o1 = o2 ∧ s1' = s2) ∧ d.n ≤ s1'.mem.next := by
      intro hn w0 ρ a w hr
      refine wp_mono (hA hn w0 ρ a w hr) ?_
      rintro e' a' w' ⟨o3, s3, q1, q2⟩
      obtain ⟨ρ', r1, r2, r3, r4, r5⟩ := q2
      exact ⟨o3, s3, ⟨q1, r4⟩, ⟨ρ', r1, r2, r3, r4, r5⟩⟩
     split at k2
     ·
      obtain ⟨⟨c', v'⟩, q1, q2⟩ := UM.1 k2
      subst q2
      cases q with
      | inr e' => simp at hy
      | inl v2 =>
       simp only [UZ, UB, Sum.inl.injEq, UD] at hy
       obtain ⟨rfl, rfl⟩ := hy
       simp only at hv
       refine .inr ⟨d.st cc v2, oM (hn2.mono ?_), ih v2 hv⟩
       rintro o3 s3 ⟨⟨rfl, rfl⟩, hnx⟩
       exact ⟨by simp, _, head q1 hnx, rfl, rfl⟩
     ·
      rename_i hnn
      obtain ⟨⟨e', cl⟩, q1, q2⟩ := UM.1 k2
      subst q2
      cases q with
      | inl v2 => simp at hy
      | inr e2 =>
       simp only [UY, UB, Sum.inr.injEq, UD] at hy
       obtain ⟨rfl, rfl⟩ := hy
       simp only [UB] at hv
       subst hv
       obtain ⟨ls, u1, u2⟩ := bE_ q1
       obtain ⟨t1, t2, t3, t4⟩ := d.dn _ _ _ _ cc u2 rfl
       have hcv := uo (by have := h.shE e2; rwa [t2] at this) u1
       rw [t1] at hcv
       left
       rw [t2]
       refine ⟨t3, oM (hn2.mono ?_)⟩
       rintro o3 s3 ⟨⟨rfl, rfl⟩, hnx⟩
       exact ⟨t4, _, (jV hnx).trans hcv, rfl, rfl⟩
    ·cases k2
 intro hn
 exact Pu (head h0 hn) (DZ (key m v hmm)) hn
end Go.Ev
