import Derived.Test.YtbmjabafceihgaaKab
import Derived.Laws.StructEq
import Derived.ChangeKeysEq
set_option linter.unusedVariables false
set_option linter.unusedSimpArgs false
set_option maxRecDepth 100000
noncomputable section
namespace Go.Ev
def Ext (σ σ' : Mem) : Prop := σ.next ≤ σ'.next ∧ ∀ i, i < σ.next → σ'.get i = σ.get i
theorem Ext.refl (σ : Mem) : Ext σ σ := ⟨Nat.le_refl _, fun _ _ => rfl⟩
theorem Ext.trans {a b c : Mem} (h : Ext a b) (k : Ext b c) : Ext a c := ⟨Nat.le_trans h.1 k.1, fun i hi => (k.2 i (Nat.lt_of_lt_of_le hi h.1)).trans (h.2 i hi)⟩
theorem Ext.push (σ : Mem) (b : am) : Ext σ (σ.push b) := ⟨by simp, fun i hi => by rw [bU, if_neg (by omega)]⟩
def Aj : Option (cF × Mem) → Option ab
 | some (.val v, _) => some v
 | some (.skip, _) => some (.tup [])
 | _ => none
def QC : Op → Bool
 | .call { callee := .value _, .. } => true
 | _ => false
section
variable {T : ar}
def un (p : Nat → Bool) : ab → Bool
 | .ptr i _ | .slice i _ _ _ _ | .vec i | .map i | .emp i => p i
 | _ => true
def Fi (op : Op) (tm : LA_) (p : Nat → Bool) : Bool := !QC op && (tmpsOf op.operands.toList).all fun t => un p (tm.getD t (.tup []))
theorem Ls {p : Nat → Bool} {c : Value} {v : ab} (h : ofV c = some v) : un p v = true := by
 unfold ofV at h
 split at h <;> first
  | (cases h; rfl)
  | cases h
theorem rD {op : Op} {tm : LA_} {p : Nat → Bool} (h : Fi op tm p = true) {x : Operand} (hx : x ∈ op.operands.toList) {v : ab} (hv : ev tm x = some v) : un p v = true := by
 cases x with
 | tmp t =>
  simp only [ev, UB] at hv
  subst hv
  exact (List.all_eq_true.1 (Bool.and_eq_true_iff.1 h).2) t (Gr hx)
 | const c => exact Ls hv
 | func f => simp only [ev, UB] at hv; subst hv; rfl
 | global g => simp [ev] at hv
theorem Kz {σ σ' : Mem} {b o n : Nat} (h : σ'.get b = σ.get b) : cC σ' b o n = cC σ b o n := by simp only [cC, h]
theorem MQ {σ σ' : Mem} {t : TypeId} {x : ab} {p : Nat → Bool} (hs : un p x = true) (hg : ∀ i, p i = true → σ'.get i = σ.get i) : p8 T σ' t x = p8 T σ t x := by
 unfold p8
 split
 ·rename_i i b o ht
  rw [Kz (hg b hs)]
 ·rfl
theorem Gy {σ σ' : Mem} {x : ab} {p : Nat → Bool} (hs : un p x = true) (hg : ∀ i, p i = true → σ'.get i = σ.get i) : iX σ' x = iX σ x := by
 unfold iX
 split
 ·rename_i i
  rw [hg i hs]
 ·rfl
theorem KA {σ σ' : Mem} {t : TypeId} {x k : ab} {ok : Bool} {p : Nat → Bool} (hs : un p x = true) (hg : ∀ i, p i = true → σ'.get i = σ.get i) : ur T σ' t x k ok = ur T σ t x k ok := rfl
theorem Gz {σ σ' : Mem} {t : TypeId} {x k : ab} {p : Nat → Bool} (hs : un p x = true) (hg : ∀ i, p i = true → σ'.get i = σ.get i) : fv T σ' t x k = fv T σ t x k := by
 unfold fv
 split
 ·rw [hg _ hs]
 all_goals rfl
theorem Oj {σ σ' : Mem} {t : TypeId} {x : ab} {p : Nat → Bool} (hs : un p x = true) (hg : ∀ i, p i = true → σ'.get i = σ.get i) : HU T σ' t x = HU T σ t x := by
 unfold HU
 split
 ·rfl
 ·split <;> first
   | rfl
   | rw [hg _ hs]
theorem Lt {σ σ' : Mem} {t : TypeId} {x : ab} {low high : Option ab} {p : Nat → Bool} (hs : un p x = true) (hg : ∀ i, p i = true → σ'.get i = σ.get i) : sB T σ' t x low high = sB T σ t x low high := by
 unfold sB
 split
 ·rw [hg _ hs]
 ·rfl
theorem gn {σ : Mem} {r : Option ab} : Aj (r.map fun v => ((cF.val v, σ) : cF × Mem)) = r := by cases r <;> rfl
theorem LU {pf : FuncId → Nat} {H : bT} {op : Op} {tm : LA_} {σ σ' : Mem} {p : Nat → Bool} (hk : bV pf op = 1) (hg : ∀ i, p i = true → σ'.get i = σ.get i) (hs : Fi op tm p = true) : Aj (aM T H op tm σ') = Aj (aM T H op tm σ) := by
 cases op <;> simp only [bV] at hk <;> first | (cases hk; done) | skip
 case binOp o t x y u =>
  simp only [aM]
  cases hx : ev tm x with
  | none => rfl
  | some a =>
   cases hy : ev tm y with
   | none => rfl
   | some b =>
    simp only [gn, Ca, B9, Gy (rD hs (by simp [Op.operands]) hx) hg, Gy (rD hs (by simp [Op.operands]) hy) hg]
 case convert src dst x =>
  have hd : Nat.beq dst oK = false := by
   cases hb : Nat.beq dst oK with
   | true => rw [hb] at hk; cases hk
   | false => rfl
  have hsr : Nat.beq src oK = true := by
   rw [hd] at hk
   cases hb : Nat.beq src oK with
   | true => rfl
   | false => rw [hb] at hk; cases hk
  simp only [aM, hd, hsr]
  cases hx : ev tm x with
  | none => rfl
  | some a => simp only [gn, wE]
 case slice t x l h mx =>
  cases mx with
  | some m => cases hk
  | none =>
   have hsl : xA = true := by
    cases hb : xA with
    | true => rfl
    | false => simp only [hb] at hk; cases hk
   simp only [aM]
   cases hx : ev tm x with
   | none => rfl
   | some a =>
    cases hl : evO tm l with
    | none => rfl
    | some lo =>
     cases hh : evO tm h with
     | none => rfl
     | some hi => simp only [hsl, cond_true, gn]; exact Lt (rD hs (by simp [Op.operands]) hx) hg
 case load t x =>
  simp only [aM]
  cases hx : ev tm x with
  | none => rfl
  | some a => simp only [gn]; exact MQ (rD hs (by simp [Op.operands]) hx) hg
 case indexAddr t x i =>
  simp only [aM]
  cases hx : ev tm x with
  | none => rfl
  | some a =>
   cases hi : ev tm i with
   | none => rfl
   | some b => simp only [gn]; exact Gz (rD hs (by simp [Op.operands]) hx) hg
 case lookup t x i ok =>
  simp only [aM]
  cases hx : ev tm x with
  | none => rfl
  | some a =>
   cases hi : ev tm i with
   | none => rfl
   | some b => simp only [gn]; exact KA (rD hs (by simp [Op.operands]) hx) hg
 case call c =>
  obtain ⟨callee, args, argTypes⟩ := c
  cases callee with
  | invoke r m => simp [bV] at hk
  | value f => simp [Fi, QC] at hs
  | builtin b =>
   simp only [aM]
   cases hv : evL tm args.toList with
   | none => rfl
   | some vs =>
    have hk' : b = .len ∨ b = .max ∨ b = .min := by cases b <;> simp_all [bV]
    simp only [iL]
    split
    ·rename_i t ts x xs hts
     simp only [gn]
     have hx : ∃ o ∈ args.toList, ev tm o = some x := by
      cases ha : args.toList with
      | nil => rw [ha] at hv; simp [evL] at hv
      | cons o l =>
       rw [ha] at hv
       simp only [evL] at hv
       split at hv
       ·rename_i v us h1 h2
        simp only [UB, List.cons.injEq] at hv
        exact ⟨o, List.mem_cons_self .., by rw [h1, hv.1]⟩
       ·cases hv
     obtain ⟨o, ho, hox⟩ := hx
     refine Oj (rD hs ?_ hox) hg
     simp only [Op.operands, Call.operands, Array.toList_append, U1]
     exact .inr ho
    ·rcases hk' with h | h | h <;> cases h
    ·rcases hk' with h | h | h <;> cases h
    ·simp only [gn]
    ·simp only [gn]
    ·rfl
end
def nP (pf : FuncId → Nat) (all : List Oper) (ms : List Nat) : List Nat :=
 (List.range all.length).filter fun i => match all[i]? with
  | some oi => ck pf oi && all.zipIdx.any fun (oj, j) => ck pf oj && (i != j && !(anc ms (min i j) (max i j)))
  | none => false
def Py (o : Oper) : Bool := (match o.op with
 | .alloc _ => true
 | _ => false) && o.guard.isNone && o.dst.isSome
def Pq (all : List Oper) (g : List Nat) : Bool := g.all fun i => match all[i]? with
 | some o => Py o
 | none => false
def SE (σ : Mem) (b : Nat) : Option Nat := match σ.get b with
 | some (.vec _ l _ _) => some l
 | _ => none
mutual
def rn (f : Nat → Nat) : ab → ab
 | .bool b => .bool b
 | .int k n => .int k n
 | .str s => .str s
 | .ptr i o => .ptr (f i) o
 | .dR => .dR
 | .slice i o l e c => .slice (f i) o l e c
 | .aL => .aL
 | .emp i => .emp (f i)
 | .map i => .map (f i)
 | .eR => .eR
 | .func g fs cs => .func g (rnL f fs) (rnL f cs)
 | .cN => .cN
 | .iface t v => .iface t (rn f v)
 | .dr => .dr
 | .agg cs => .agg (rnL f cs)
 | .tup vs => .tup (rnL f vs)
 | .dm i => .dm (f i)
 | .vec i => .vec (f i)
def rnL (f : Nat → Nat) : LA_ → LA_
 | [] => []
 | v :: vs => rn f v :: rnL f vs
end
mutual
theorem Js (ρ : Nat → Loc) (f : Nat → Nat) : ∀ v, γ ρ (rn f v) = γ (fun i => ρ (f i)) v
 | .bool _ | .int _ _ | .str _ | .ptr _ _ | .dR | .slice _ _ _ _ _ | .aL | .emp _ | .map _ | .eR | .cN | .dr | .dm _ | .vec _ => by simp [rn, γ]
 | .func g x y => by simp only [rn, γ, sL ρ f x, sL ρ f y]
 | .iface t v => by simp only [rn, γ, Js ρ f v]
 | .agg x => by simp only [rn, γ, sL ρ f x]
 | .tup x => by simp only [rn, γ, sL ρ f x]
theorem sL (ρ : Nat → Loc) (f : Nat → Nat) : ∀ l, γL ρ (rnL f l) = γL (fun i => ρ (f i)) l
 | [] => by simp [rnL, γL]
 | v :: vs => by simp only [rnL, γL, Js ρ f v, sL ρ f vs]
end
theorem An (f : Nat → Nat) : ∀ l, (rnL f l).length = l.length
 | [] => rfl
 | v :: vs => by simp [rnL, An f vs]
def rnB (f : Nat → Nat) : am → am
 | .cells cs own gr => .cells (rnL f cs) own gr
 | .iter m a b c => .iter (f m) a b c
 | b => b
mutual
theorem Gh {f : Nat → Nat} {n : Nat} (hf : ∀ i, i < n → f i = i) : ∀ v, sc n v = true → rn f v = v
 | .bool _, _ | .int _ _, _ | .str _, _ | .dR, _ | .aL, _ | .eR, _ | .cN, _ | .dr, _ => rfl
 | .ptr i o, h | .slice i o l e c, h | .map i, h | .emp i, h | .dm i, h | .vec i, h => by
  simp only [sc, UI] at h
  simp only [rn, hf i h]
 | .func g x y, h => by simp only [sc, UC] at h; simp only [rn, CW hf x h.1, CW hf y h.2]
 | .iface t v, h => by simp only [sc] at h; simp only [rn, Gh hf v h]
 | .agg x, h => by simp only [sc] at h; simp only [rn, LV hf x h]
 | .tup x, h => by simp only [sc] at h; simp only [rn, CW hf x h]
theorem CW {f : Nat → Nat} {n : Nat} (hf : ∀ i, i < n → f i = i) : ∀ l, scL n l = true → rnL f l = l
 | [], _ => rfl
 | v :: vs, h => by simp only [scL, UC] at h; simp only [rnL, Gh hf v h.1, CW hf vs h.2]
theorem LV {f : Nat → Nat} {n : Nat} (hf : ∀ i, i < n → f i = i) : ∀ l, scC n l = true → rnL f l = l
 | [], _ => rfl
 | v :: vs, h => by simp only [scC, UC] at h; simp only [rnL, Gh hf v h.1.2, LV hf vs h.2]
end
theorem sJ (f : Nat → Nat) (b : am) : (rnB f b).alive = b.alive := by cases b <;> rfl
theorem sK (f : Nat → Nat) (b : am) : (rnB f b).owned = b.owned := by cases b <;> rfl
theorem Od {ρ : Nat → Loc} {f : Nat → Nat} {n : Nat} {L : Loc} {w : World} : ∀ {b : am}, scB n (rnB f b) = true → BOk ρ L w (rnB f b) → BOk (fun i => ρ (f i)) L w b
 | .cells cs own gr, _, h => by
  obtain ⟨c, e, fz, h1, ⟨pre, post, h2, h3⟩, h4, h5⟩ := h
  rw [sL] at h2
  rw [An] at h5
  exact ⟨c, e, fz, h1, ⟨pre, post, h2, h3⟩, h4, h5⟩
 | .vec cs n sz own, hs, h => cr (n := 0) (fun i hi => by omega) rfl (.vec cs n sz own) hs h
 | .map es clock, hs, h => cr (n := 0) (fun i hi => by omega) rfl (.map es clock) hs h
 | .iter m since seen last, _, h => ⟨h.1, h.2⟩
 | .jm, _, h => h
 | .bM _ _, _, h => h
 | .dead, _, _ => trivial
theorem bF.ren {w0 : W0} {ρ : Nat → Loc} {s s' : St} {a : Act} {w : World} (hr : bF w0 ρ s a w) {f : Nat → Nat} {n : Nat}
  (htm : s.tm = rnL f s'.tm) (hsc : scL s'.mem.next s'.tm = true) (hdf : s'.df = s.df) (hdsc : ∀ d ∈ s.df, scL n d.cap = true ∧ scL n d.args = true) (hn : n ≤ s'.mem.next)
  (hfix : ∀ i, i < n → f i = i) (hinj : ∀ i j, i < s'.mem.next → j < s'.mem.next → f i = f j → i = j)
  (hb : ∀ i b, s'.mem.get i = some b → i < s'.mem.next ∧ s.mem.get (f i) = some (rnB f b) ∧ scB s'.mem.next b = true) : bF w0 (fun i => ρ (f i)) s' a w := by
 have R := hr.rel
 refine ⟨⟨fun i b hi => (hb i b hi).1, fun i b hi => (hb i b hi).2.2, ?_, ?_, ?_, ?_, R.os, R.tape, R.output, R.size, R.old⟩, ?_, hsc, ?_, ?_⟩
 ·intro i b hi
  obtain ⟨_, q2, _⟩ := hb i b hi
  exact Od (R.sco _ _ q2) (R.ok _ _ q2)
 ·intro i b hi ha
  obtain ⟨_, q2, _⟩ := hb i b hi
  exact R.inb _ _ q2 (by rw [sJ]; exact ha)
 ·intro i j bi bj hi hj hij hoi haj
  obtain ⟨q1, q2, _⟩ := hb i bi hi
  obtain ⟨p1, p2, _⟩ := hb j bj hj
  exact R.ap _ _ _ _ q2 p2 (fun e => hij (hinj i j q1 p1 e)) (by rw [sK]; exact hoi) (by rw [sJ]; exact haj)
 ·intro i b hi ho
  obtain ⟨_, q2, _⟩ := hb i b hi
  exact R.own _ _ q2 (by rw [sK]; exact ho)
 ·rw [hr.tm, htm, sL]
 ·rw [hr.df, hdf]
  apply List.map_congr_left
  intro d hd
  have h2 := hdsc d hd
  simp only [γD, cI (ρ := ρ) (ρ' := fun i => ρ (f i)) (n := n) (fun i hi => by rw [hfix i hi]) _ h2.1, cI (ρ := ρ) (ρ' := fun i => ρ (f i)) (n := n) (fun i hi => by rw [hfix i hi]) _ h2.2]
 ·intro d hd
  rw [hdf] at hd
  exact ⟨cf hn _ (hdsc d hd).1, cf hn _ (hdsc d hd).2⟩
end Go.Ev
namespace Go.Ev
section
variable {P : Program} {T : ar} {H : bT} {pf : FuncId → Nat}
theorem Gt {all : List Oper} : ∀ (l : List Oper) (s : St) (tr : List (St × ab)) (e : St), trace T H all l s = some (tr, e) →
  tr.length = l.length ∧ (tr.map (·.1) ++ [e])[0]? = some s ∧ ∀ i o, l[i]? = some o → ∃ si vi σ, tr[i]? = some (si, vi) ∧ cR T H all o si = some (vi, σ) ∧
   (tr.map (·.1) ++ [e])[i + 1]? = some ⟨bJ si.tm o.dst vi, si.df, σ⟩
 | [], s, tr, e, h => by
  simp only [trace, UB, UD] at h
  obtain ⟨rfl, rfl⟩ := h
  simp
 | o :: r, s, tr, e, h => by
  simp only [trace] at h
  split at h
  ·rename_i v σ hv
   split at h
   ·rename_i l' e' hl
    simp only [UB, UD] at h
    obtain ⟨rfl, rfl⟩ := h
    obtain ⟨h1, h2, h3⟩ := Gt r _ l' e' hl
    refine ⟨by simp [h1], by simp, fun i o' hi => ?_⟩
    cases i with
    | zero =>
     simp only [List.getElem?_cons_zero, UB] at hi
     subst hi
     exact ⟨s, v, σ, by simp, hv, by simpa using h2⟩
    | succ i =>
     obtain ⟨si, vi, σi, q1, q2, q3⟩ := h3 i o' (by simpa using hi)
     exact ⟨si, vi, σi, by simpa using q1, q2, by simpa using q3⟩
   ·cases h
  ·cases h
theorem Cl {all : List Oper} {ms : List Nat} {mems : List Mem} : ∀ (l : List Oper) (b : Nat) (tr : List (St × ab)), rA pf T H all ms mems l b tr = true →
  ∀ k o si vi, l[k]? = some o → tr[k]? = some (si, vi) → Gq pf T H all ms mems (b + k) o si vi = true
 | [], b, tr, _, k, o, si, vi, h, _ => by simp at h
 | o :: r, b, [], _, k, o', si, vi, _, h => by simp at h
 | o :: r, b, (s, v) :: tr, h, k, o', si, vi, h1, h2 => by
  simp only [rA, UC] at h
  cases k with
  | zero =>
   simp only [List.getElem?_cons_zero, UB] at h1 h2
   obtain ⟨rfl, rfl⟩ := Prod.mk.inj h2
   subst h1
   exact h.1
  | succ k =>
   have := Cl r (b + 1) tr h.2 k o' si vi (by simpa using h1) (by simpa using h2)
   rwa [show b + 1 + k = b + (k + 1) by omega] at this
theorem iA {all : List Oper} {o : Oper} {s : St} {v : ab} {σ : Mem} (h : cR T H all o s = some (v, σ)) : et T H all o s = some (.go ⟨bJ s.tm o.dst v, s.df, σ⟩) := by
 unfold cR at h
 unfold et
 cases hg : gj all o s.tm with
 | true => rw [hg] at h; cases h
 | false =>
 rw [hg] at h
 simp only [UE, if_false] at h ⊢
 split at h
 ·rename_i hw
  simp only [hw, if_true]
  split at h
  ·rename_i v' σ' hx
   cases h
   simp only [hx]
  ·rename_i σ' hx
   cases h
   simp only [hx]
  ·cases h
 ·rename_i hw
  cases h
  simp only [hw, UE, if_false]
structure Run0 (pf : FuncId → Nat) (T : ar) (H : bT) (all : List Oper) (s e : St) (S : Nat → St) (V : Nat → ab) : Prop where
 zero : S 0 = s
 last : S all.length = e
 step : ∀ i o, all[i]? = some o → ∃ σ, cR T H all o (S i) = some (V i, σ) ∧ S (i + 1) = ⟨bJ (S i).tm o.dst (V i), (S i).df, σ⟩
 reads : ∀ i o, all[i]? = some o → bV pf o.op = 1 → br all o (S i).tm = true → ∀ c ∈ vA pf all, ox pf all (bc all []) i c = false →
  c ≤ all.length → aM T H o.op (S i).tm (S c).mem = some (.val (V i), (S c).mem)
theorem Q8 (hP : eX pf H) {all : List Oper} {s e : St} {tr : List (St × ab)} (htr : trace T H all all s = some (tr, e)) (hrd : rA pf T H all (bc all []) (tr.map (·.1.mem) ++ [e.mem]) all 0 tr = true) :
  ∃ S V, Run0 pf T H all s e S V ∧ tr.length = all.length ∧ (∀ i, i < all.length → tr[i]? = some (S i, V i)) ∧ ∀ c, c ≤ all.length → (tr.map (·.1.mem) ++ [e.mem])[c]? = some (S c).mem := by
   obtain ⟨h1, h2, h3⟩ := Gt all s tr e htr
   have hq : ∀ i, i < all.length → tr[i]? = some (((tr.map (·.1) ++ [e])[i]?).getD e, ((tr[i]?).map (·.2)).getD (.tup [])) := by
    intro i hi
    have hlt : i < tr.length := by omega
    have q1 : tr[i]? = some tr[i] := UJ hlt
    rw [List.getElem?_append_left (by simpa using hlt)]
    simp [q1]
   refine ⟨fun i => ((tr.map (·.1) ++ [e])[i]?).getD e, fun i => ((tr[i]?).map (·.2)).getD (.tup []), ⟨?_, ?_, ?_, ?_⟩, h1, hq, ?_⟩
   ·show ((tr.map (·.1) ++ [e])[0]?).getD e = s
    rw [h2]; rfl
   ·simp [h1]
   ·intro i o hi
    obtain ⟨si, vi, σ, q1, q2, q3⟩ := h3 i o hi
    have hlt : i < tr.length := (UL.1 q1).1
    have hSi : ((tr.map (·.1) ++ [e])[i]?).getD e = si := by
     rw [List.getElem?_append_left (by simpa using hlt)]; simp [q1]
    refine ⟨σ, ?_, ?_⟩
    ·show cR T H all o (((tr.map (·.1) ++ [e])[i]?).getD e) = some (((tr[i]?).map (·.2)).getD (.tup []), σ)
     rw [hSi, q1]; exact q2
    ·simp only [q3, Option.getD_some, q1, US]
     rw [List.getElem?_append_left (by simpa using hlt)]
     simp [q1]
   ·intro i o hi hk hw c hc hex hle
    obtain ⟨si, vi, σ, q1, q2, q3⟩ := h3 i o hi
    have hlt : i < tr.length := (UL.1 q1).1
    have hro := Cl all 0 tr hrd i o si vi hi q1
    rw [Nat.zero_add] at hro
    have hSi : ((tr.map (·.1) ++ [e])[i]?).getD e = si := by
     rw [List.getElem?_append_left (by simpa using hlt)]; simp [q1]
    simp only [hSi] at hw ⊢
    unfold Gq at hro
    simp only [hk, beq_self_eq_true, Bool.not_true, Bool.false_or, hw, List.all_eq_true] at hro
    have := hro c hc
    simp only [hex, Bool.false_or] at this
    split at this
    ·rename_i σc hσ
     have hcs : (((tr.map (·.1) ++ [e])[c]?).getD e).mem = σc := by
      have e1 : (tr.map (·.1.mem) ++ [e.mem]) = (tr.map (·.1) ++ [e]).map (·.mem) := by simp
      rw [e1, List.getElem?_map] at hσ
      cases hq : (tr.map (·.1) ++ [e])[c]? with
      | none => rw [hq] at hσ; cases hσ
      | some x => rw [hq] at hσ; simpa using hσ
     rw [hcs]
     split at this
     ·rename_i u σ' hu
      obtain ⟨rfl, _⟩ := ky hP (by omega) hu
      rw [hu, vw _ _ this]
      simp [q1]
     ·cases this
    ·cases this
   ·intro c hc
    have e1 : (tr.map (·.1.mem) ++ [e.mem]) = (tr.map (·.1) ++ [e]).map (·.mem) := by simp
    rw [e1, List.getElem?_map]
    have hlt : c < (tr.map (·.1) ++ [e]).length := by simp [h1]; omega
    simp [UJ hlt]
theorem Run0.still (hP : eX pf H) {all : List Oper} {s e : St} {S : Nat → St} {V : Nat → ab} (h : Run0 pf T H all s e S V) {i : Nat} {o : Oper} (hi : all[i]? = some o) (hk : ck pf o = false) :
  (S (i + 1)).mem = (S i).mem := by
 obtain ⟨σ, h1, h2⟩ := h.step i o hi
 rw [h2]
 unfold cR at h1
 split at h1
 ·cases h1
 split at h1
 ·have hk' : bV pf o.op ≠ 2 := by simpa [ck] using hk
  split at h1
  ·rename_i v' σ' hx
   cases h1
   exact (ky hP hk' hx).1
  ·rename_i σ' hx
   obtain ⟨_, v, hv⟩ := ky hP hk' hx
   cases hv
  ·cases h1
 ·simp only [UB, UD] at h1
  exact h1.2.symm
theorem Run0.CP (hP : eX pf H) {all : List Oper} {s e : St} {S : Nat → St} {V : Nat → ab} (h : Run0 pf T H all s e S V) {c : Nat} : ∀ (k : Nat), c + k ≤ all.length →
  (∀ q o, c ≤ q → q < c + k → all[q]? = some o → ck pf o = false) → (S (c + k)).mem = (S c).mem
 | 0, _, _ => rfl
 | k + 1, hle, hno => by
  have ih := Run0.CP hP h k (by omega) fun q o h1 h2 => hno q o h1 (by omega)
  have hlt : c + k < all.length := by omega
  rw [← ih, ← Nat.add_assoc]
  exact Run0.still hP h (UJ hlt) (hno (c + k) _ (by omega) (by omega) (UJ hlt))
theorem Run0.tm {all : List Oper} {s e : St} {S : Nat → St} {V : Nat → ab} (h : Run0 pf T H all s e S V) (hp : rz all (bc all []) = true) : ∀ i, i ≤ all.length →
  (S i).tm.length = s.tm.length ∧ (S i).df = s.df ∧ (∀ t, (∀ j o, j < i → all[j]? = some o → o.dst ≠ some t) → (S i).tm[t]? = s.tm[t]?) ∧
  ∀ j o t, j < i → all[j]? = some o → o.dst = some t → t < s.tm.length → (S i).tm[t]? = some (V j)
 | 0, _ => by rw [h.zero]; exact ⟨rfl, rfl, fun _ _ => rfl, fun j o t hj => by omega⟩
 | i + 1, hle => by
  obtain ⟨h1, h2, h3, h4⟩ := h.tm hp i (by omega)
  have ho : all[i]? = some all[i] := UJ (by omega)
  obtain ⟨σ, q1, q2⟩ := h.step i _ ho
  rw [q2]
  refine ⟨?_, h2, fun t ht => ?_, fun j o t hj hjo hd hlt => ?_⟩
  ·simp only [bJ]; split <;> simp [h1]
  ·have hne := ht i _ (by omega) ho
   have := h3 t fun j o hj => ht j o (by omega)
   simp only [bJ]
   split
   ·rename_i d hd
    rw [List.getElem?_set_ne (fun q => hne (by rw [hd, q]))]
    exact this
   ·exact this
  ·rcases Nat.lt_or_ge j i with hlt2 | hge
   ·have hdd := (rB hp hjo ho).1 (show j ≠ i by omega) t
    have := h4 j o t hlt2 hjo hd hlt
    simp only [bJ]
    split
    ·rename_i d hd2
     rw [List.getElem?_set_ne (fun q => hdd d hd hd2 q.symm)]
     exact this
    ·exact this
   ·obtain rfl : j = i := by omega
    rw [ho] at hjo
    cases hjo
    simp only [bJ, hd]
    rw [List.getElem?_set_self (Nat.lt_of_lt_of_eq hlt h1.symm)]
structure Inv (pf : FuncId → Nat) (w0 : W0) (ρ0 : Nat → Loc) (all : List Oper) (s : St) (S : Nat → St) (V : Nat → ab) (L : Nat → Bool) (c : Nat) (a : Act) (w : World) : Prop where
 st : ∃ ρ tm', bF w0 ρ ⟨tm', s.df, (S c).mem⟩ a w ∧ (∀ i, i < s.mem.next → ρ i = ρ0 i) ∧ s.mem.next ≤ (S c).mem.next ∧ tm'.length = s.tm.length ∧
  (∀ t, (∀ j o, L j = true → all[j]? = some o → o.dst ≠ some t) → tm'[t]? = s.tm[t]?) ∧
  ∀ j o t, L j = true → all[j]? = some o → o.dst = some t → t < s.tm.length → tm'[t]? = some (V j)
 closed : lF all L
 inb : ∀ j, L j = true → j < all.length
 cut : c ∈ vA pf all
 cle : c ≤ all.length
 mem : ∀ q o, all[q]? = some o → ck pf o = true → (L q = true ↔ q < c)
 side : Pq all (nP pf all (bc all [])) = true → (∀ i ∈ nP pf all (bc all []), c ≤ i) ∨ (∀ i ∈ nP pf all (bc all []), i < c)
theorem Ir {all : List Oper} {i : Nat} {o : Oper} (hi : all[i]? = some o) (hm : ck pf o = true) : i + 1 ∈ vA pf all := by
 unfold vA
 refine List.mem_cons_of_mem _ (List.mem_map.2 ⟨(o, i), List.mem_filter.2 ⟨U0.2 hi, hm⟩, rfl⟩)
theorem J7 {all : List Oper} (he : kr all = true) {L : Nat → Bool} (hc : lF all L) {c i : Nat} {o : Oper} (hi : all[i]? = some o) (hL : L i = false)
  (hr : ∀ e ∈ o.after, Region.binds .any e = true → L e.on = true) (hm : ∀ q o, all[q]? = some o → ck pf o = true → (L q = true → q < c ∨ anc (bc all []) q i = false) ∧ (q < c → L q = true)) :
  ox pf all (bc all []) i c = false := by
 unfold ox
 rw [List.any_eq_false]
 rintro ⟨o', q⟩ hq
 have hq' := U0.1 hq
 simp only [UC, Bool.or_eq_true, UI, not_and, not_or]
 intro hmem
 refine ⟨fun h1 h2 => ?_, fun h1 h2 => ?_⟩
 ·have := jW he hc i i o (Nat.le_refl _) hi hr q h2
  rcases (hm q o' hq' hmem).1 this with h | h
  ·omega
  ·rw [h2] at h; cases h
 ·have hLq := (hm q o' hq' hmem).2 h1
  have := jW he hc q q o' (Nat.le_refl _) hq' (hc q o' hq' hLq) i h2
  rw [hL] at this; cases this
def cnt (g : List Nat) (p : Nat) : Nat := ((List.range p).filter fun i => g.contains i).length
theorem Kq (g : List Nat) (p : Nat) : cnt g (p + 1) = cnt g p + if p ∈ g then 1 else 0 := by
 unfold cnt
 rw [List.range_succ, List.filter_append, UQ]
 congr 1
 by_cases h : p ∈ g <;> simp [h]
theorem Pr (g : List Nat) {p q : Nat} (h : p ≤ q) : cnt g p ≤ cnt g q := by
 induction q with
 | zero => rw [Nat.le_zero.1 h]; exact Nat.le_refl _
 | succ q ih =>
  rcases Nat.lt_or_ge p (q + 1) with hx | hx
  ·rw [Kq]; have := ih (by omega); omega
  ·rw [show p = q + 1 by omega]; exact Nat.le_refl _
theorem NZ (g : List Nat) {i p : Nat} (hi : i ∈ g) (h : i < p) : cnt g i < cnt g p := by
 have := Pr g (show i + 1 ≤ p by omega)
 rw [Kq, if_pos hi] at this
 omega
theorem Q9 (g : List Nat) {i j : Nat} (hi : i ∈ g) (hj : j ∈ g) (h : cnt g i = cnt g j) : i = j := by
 rcases Nat.lt_trichotomy i j with hx | hx | hx
 ·have := NZ g hi hx; omega
 ·exact hx
 ·have := NZ g hj hx; omega
structure GA (T : ar) (all : List Oper) (g : List Nat) (S : Nat → St) (V : Nat → ab) (i0 e : Nat) : Prop where
 op : ∀ i ∈ g, ∃ o t ti, all[i]? = some o ∧ o.op = .alloc t ∧ o.guard = none ∧ T t = some ti ∧ V i = .ptr ((S i0).mem.next + cnt g i) 0 ∧ (S e).mem.get ((S i0).mem.next + cnt g i) = some (uj (yw T t) ti.zero)
 next : (S e).mem.next = (S i0).mem.next + cnt g e
 old : ∀ j, j < (S i0).mem.next → (S e).mem.get j = (S i0).mem.get j
 new : ∀ j b, (S e).mem.get j = some b → j < (S i0).mem.next ∨ (∃ i ∈ g, j = (S i0).mem.next + cnt g i) ∨ (S i0).mem.get j = some b
structure Ps (pf : FuncId → Nat) (w0 : W0) (ρ0 : Nat → Loc) (all : List Oper) (s : St) (S : Nat → St) (V : Nat → ab) (i0 e : Nat) (L : Nat → Bool) (c : Nat) (a : Act) (w : World) : Prop where
 st : ∃ ρ tm' σ, bF w0 ρ ⟨tm', s.df, σ⟩ a w ∧ (∀ i, i < s.mem.next → ρ i = ρ0 i) ∧ tm'.length = s.tm.length ∧
  (∀ t, (∀ j o, L j = true → all[j]? = some o → o.dst ≠ some t) → tm'[t]? = s.tm[t]?) ∧
  (∀ j o t, L j = true → all[j]? = some o → o.dst = some t → t < s.tm.length → tm'[t]? = some (V j)) ∧
  σ.next = (S e).mem.next ∧ (∀ j, j < (S i0).mem.next → σ.get j = (S i0).mem.get j) ∧
  (∀ i ∈ nP pf all (bc all []), L i = true → σ.get ((S i0).mem.next + cnt (nP pf all (bc all [])) i) = (S e).mem.get ((S i0).mem.next + cnt (nP pf all (bc all [])) i)) ∧
  (∀ i ∈ nP pf all (bc all []), L i = false → σ.get ((S i0).mem.next + cnt (nP pf all (bc all [])) i) = none) ∧
  (∀ j b, σ.get j = some b → j < (S i0).mem.next ∨ ∃ i ∈ nP pf all (bc all []), j = (S i0).mem.next + cnt (nP pf all (bc all [])) i)
 blt : ∀ j b, (S i0).mem.get j = some b → j < (S i0).mem.next ∧ scB (S i0).mem.next b = true
 hdf : ∀ d ∈ s.df, scL (S i0).mem.next d.cap = true ∧ scL (S i0).mem.next d.args = true
 sle : s.mem.next ≤ (S i0).mem.next
 cm : (S c).mem = (S i0).mem
 closed : lF all L
 inb : ∀ j, L j = true → j < all.length
 cut : c ∈ vA pf all
 cle : c ≤ all.length
 cg : ∀ i ∈ nP pf all (bc all []), c ≤ i
 mem : ∀ q o, all[q]? = some o → ck pf o = true → q ∉ nP pf all (bc all []) → (L q = true ↔ q < c)
theorem Oa {σ σ1 : Mem} {b o : Nat} {vs : LA_} (h : xz σ b o vs = some σ1) : σ1.next = σ.next := by
 unfold xz at h
 split at h
 ·split at h
  ·cases h; rfl
  ·cases h
 ·split at h
  ·cases h; rfl
  ·cases h
 ·cases h
structure Uu (pf : FuncId → Nat) (T : ar) (H : bT) (w0 : W0) (ρ0 : Nat → Loc) (all : List Oper) (s : St) (S : Nat → St) (V : Nat → ab) (p q : Nat) (L : Nat → Bool) (c : Nat) (a : Act) (w : World) : Prop where
 st : ∃ ρ tm' σ, bF w0 ρ ⟨tm', s.df, σ⟩ a w ∧ (∀ i, i < s.mem.next → ρ i = ρ0 i) ∧ tm'.length = s.tm.length ∧
  (∀ t, (∀ j o, L j = true → all[j]? = some o → o.dst ≠ some t) → tm'[t]? = s.tm[t]?) ∧
  (∀ j o t, L j = true → all[j]? = some o → o.dst = some t → t < s.tm.length → tm'[t]? = some (V j)) ∧
  σ.next = (S (q + 1)).mem.next ∧ s.mem.next ≤ σ.next ∧
  ∃ σ3 op, all[p]? = some op ∧ cR T H all op ⟨(S p).tm, s.df, σ⟩ = some (V p, σ3) ∧ σ3.next = (S (q + 1)).mem.next ∧ (∀ i, σ3.get i = (S (q + 1)).mem.get i) ∧ ∀ b, SE σ b = SE (S c).mem b
 lt : ∀ i b, (S (q + 1)).mem.get i = some b → i < (S (q + 1)).mem.next
 closed : lF all L
 inb : ∀ j, L j = true → j < all.length
 lp : L p = false
 lq : L q = true
 pq : p < q
 mem : ∀ r o, all[r]? = some o → ck pf o = true → r ≠ p → r ≠ q → (L r = true ↔ r < p)
 cut : c ∈ vA pf all
 cle : c ≤ all.length
 cp : c ≤ p
 Uv : ∀ r o, all[r]? = some o → ck pf o = true → r ≠ p → r ≠ q → L r = true → r < c
def lG (L : Nat → Bool) (n : Nat) : Nat := ((List.range n).filter fun i => !L i).length
theorem Jf {L : Nat → Bool} {n : Nat} (h : lG L n = 0) : ∀ i, i < n → L i = true := by
 intro i hi
 unfold lG at h
 have := List.filter_eq_nil_iff.1 (List.length_eq_zero_iff.1 h) i (List.mem_range.2 hi)
 simpa using this
theorem Jg {L L' : Nat → Bool} {i : Nat} (hi : L i = false) (hL' : ∀ j, L' j = (L j || j == i)) : ∀ n, i < n → lG L' n + 1 = lG L n := by
 intro n
 unfold lG
 induction n with
 | zero => intro h; omega
 | succ n ih =>
  intro h
  rw [List.range_succ, List.filter_append, List.filter_append, UQ, UQ]
  rcases Nat.lt_or_ge i n with hlt | hge
  ·have := ih hlt
   have e : ([n].filter fun i => !L' i).length = ([n].filter fun i => !L i).length := by
    have : (n == i) = false := by simp; omega
    rw [List.filter_cons, List.filter_cons, hL' n, this, Bool.or_false]
    rfl
   omega
  ·obtain rfl : i = n := by omega
   have e1 : ((List.range i).filter fun j => !L' j) = (List.range i).filter fun j => !L j := by
    apply List.filter_congr
    intro j hj
    have hj' := List.mem_range.1 hj
    have : (j == i) = false := by simp; omega
    simp [hL', this]
   rw [e1]
   simp [hL', hi]
section
variable {all : List Oper} {s e : St} {S : Nat → St} {V : Nat → ab} {w0 : W0} {ρ0 : Nat → Loc} {L : Nat → Bool} {a : Act} {w : World}
theorem NO (hed : kr all = true) (hpr : rz all (bc all []) = true) (hrun : Run0 pf T H all s e S V) (hcl : lF all L) {i : Nat} {o : Oper} (hio : all[i]? = some o) (hLi : L i = false)
  (hr : ∀ e ∈ o.after, Region.binds .any e = true → L e.on = true) {tm' : LA_} (h4 : tm'.length = s.tm.length)
  (h5 : ∀ t, (∀ j o, L j = true → all[j]? = some o → o.dst ≠ some t) → tm'[t]? = s.tm[t]?)
  (h6 : ∀ j o t, anc (bc all []) j i = true → all[j]? = some o → o.dst = some t → t < s.tm.length → tm'[t]? = some (V j)) : ∀ t ∈ kw all o, tm'[t]? = (S i).tm[t]? := by
 have hil : i < all.length := (UL.1 hio).1
 obtain ⟨t1, t2, t3, t4⟩ := hrun.tm hpr i (by omega)
 have hanc := jW hed hcl i i o (Nat.le_refl _) hio hr
 intro t ht
 rcases Classical.em (∃ (j : Nat) (oj : Oper), j ≠ i ∧ all[j]? = some oj ∧ oj.dst = some t) with ⟨j, oj, q0, q1, q2⟩ | hno
 ·rcases Nat.lt_or_ge t s.tm.length with hlt3 | hge
  ·rcases (rB hpr hio q1).2 (Ne.symm q0) t q2 ht with ⟨r1, r2⟩ | ⟨r1, r2⟩
   ·rw [h6 j oj t r2 q1 q2 hlt3, t4 j oj t r1 q1 q2 hlt3]
   ·have hLj : ¬ L j = true := by
     intro hLj
     have := jW hed hcl j j oj (Nat.le_refl _) q1 (hcl j oj q1 hLj) i r2
     rw [hLi] at this; cases this
    have w1 : ∀ k ok, all[k]? = some ok → ok.dst = some t → k = j := by
     intro k ok k1 k2
     rcases Classical.em (k = j) with hk | hk
     ·exact hk
     ·exact absurd rfl ((rB hpr k1 q1).1 hk t t k2 q2)
    rw [h5 t (fun k ok k0 k1 k2 => hLj (w1 k ok k1 k2 ▸ k0)), t3 t (fun k ok k0 k1 k2 => (by have := w1 k ok k1 k2; omega))]
  ·rw [List.getElem?_eq_none (by omega), List.getElem?_eq_none (by omega)]
 ·have w1 : ∀ k ok, all[k]? = some ok → ok.dst = some t → k = i := by
   intro k ok k1 k2
   rcases Classical.em (k = i) with hk | hk
   ·exact hk
   ·exact absurd ⟨k, ok, hk, k1, k2⟩ hno
  rw [h5 t (fun k ok k0 k1 k2 => (by rw [w1 k ok k1 k2, hLi] at k0; cases k0)), t3 t (fun k ok k0 k1 k2 => (by have := w1 k ok k1 k2; omega))]
theorem rQ (hcl : lF all L) {i : Nat} {o : Oper} (hio : all[i]? = some o) (hr : ∀ e ∈ o.after, Region.binds .any e = true → L e.on = true) : lF all fun j => L j || j == i := by
 intro j oj hjo hj e he hb
 simp only at hj ⊢
 rcases Classical.em (j = i) with hji | hji
 ·subst hji
  rw [hio] at hjo; cases hjo
  rw [hr e he hb, Bool.true_or]
 ·have hj2 : L j = true := by
   have e : (j == i) = false := by simp [hji]
   rw [e, Bool.or_false] at hj; exact hj
  rw [hcl j oj hjo hj2 e he hb, Bool.true_or]
theorem E9 (hin : ∀ j, L j = true → j < all.length) {i : Nat} (hi : i < all.length) : ∀ j, (L j || j == i) = true → j < all.length := by
 intro j hj
 rcases Classical.em (j = i) with hji | hji
 ·subst hji; exact hi
 ·have e : (j == i) = false := by simp [hji]
  rw [e, Bool.or_false] at hj
  exact hin j hj
theorem Ll (hP : eX pf H) (hrun : Run0 pf T H all s e S V) {i : Nat} {o : Oper} (hio : all[i]? = some o) (hm : ck pf o = false) {tm' : LA_} {σ : Mem}
  (hlook : ∀ t ∈ kw all o, tm'[t]? = (S i).tm[t]?) (hrd : bV pf o.op = 1 → br all o (S i).tm = true → aM T H o.op (S i).tm σ = some (.val (V i), σ)) :
  cR T H all o ⟨tm', s.df, σ⟩ = some (V i, σ) := by
 rw [xC (tm' := (S i).tm) (df' := (S i).df) hlook]
 obtain ⟨σ1, v1, v2⟩ := hrun.step i o hio
 have hk2 : bV pf o.op ≠ 2 := by simpa [ck] using hm
 unfold cR at v1 ⊢
 cases hgj : gj all o (S i).tm with
 | true => rw [hgj] at v1; cases v1
 | false =>
 rw [hgj] at v1
 simp only [UE, if_false] at v1 ⊢
 cases hw : br all o (S i).tm with
 | false =>
  rw [hw] at v1
  simp only [UE, if_false, UB, UD] at v1 ⊢
  exact ⟨v1.1, trivial⟩
 | true =>
  rw [hw] at v1
  simp only [if_true] at v1 ⊢
  rcases (show bV pf o.op = 0 ∨ bV pf o.op = 1 by have := ML pf o.op; omega) with hk | hk
  ·split at v1
   ·rename_i v' σ' hx
    cases v1
    rw [MN hP hk hx σ]
   ·rename_i σ' hx
    obtain ⟨_, v', hv'⟩ := ky hP hk2 hx
    cases hv'
   ·cases v1
  ·rw [hrd hk hw]
end
theorem Ps.next {all : List Oper} {s e0 : St} {S : Nat → St} {V : Nat → ab} {w0 : W0} {ρ0 : Nat → Loc} {L : Nat → Bool} {a : Act} {w : World} {i0 e c : Nat} {L' : Nat → Bool} (h : Ps pf w0 ρ0 all s S V i0 e L c a w) (hL : L = L') : Ps pf w0 ρ0 all s S V i0 e L' c a w := hL ▸ h
end
def wJ (all : List Oper) (n : Nat) : Bool :=
 kr all && (all.zipIdx.all fun (o, j) => (!decide (j < n) || (anc (bc all []) j n && (match o.guard with
  | some (g, _) => decide (g < n)
  | none => true))) && (!decide (n < j) || anc (bc all []) n j)) && (match (all[n]?).bind (·.guard) with
  | some (g, _) => decide (g < n)
  | none => true)
section
variable {P : Program} {T : ar} {H : bT} {pf : FuncId → Nat}
theorem Ob {ops opsn : Array Oper} {n : Nat} (ht : opsn.toList = ops.toList.take n) (hn : n ≤ ops.toList.length) {i : Nat} (hi : i < n) (hg : ∀ o, ops[i]? = some o → ∀ g b, o.guard = some (g, b) → g < n)
  {Q Q' : Exit → Act → World → Prop} (hQ : ∀ o a w K, Oper.wp P o a w K Q' → Oper.wp P o a w K Q) (hL : LetsOut Q' → LetsOut Q) {K K' : Act → World → Prop} (hK : ∀ a w, K a w → K' a w) {a : Act} {w : World} (h : wpOp P opsn Q' i K a w) : wpOp P ops Q i K' a w := by
 have e : ∀ j, j < n → opsn[j]? = ops[j]? := by
  intro j hj
  rw [← UX, ht, List.getElem?_take, if_pos hj, UX]
 have hio : ∃ o, ops[i]? = some o := by
  have : i < ops.size := by simp at hn; omega
  exact ⟨ops[i], by simp [this]⟩
 obtain ⟨o, hio⟩ := hio
 refine wpOp_mono hK ?_
 unfold wpOp at h ⊢
 rw [e i hi, hio] at h
 rw [hio]
 simp only at h ⊢
 have hw : Region.wanted o (yielded opsn a.tmps) = Region.wanted o (yielded ops a.tmps) := by
  unfold Region.wanted
  cases hgu : o.guard with
  | none => rfl
  | some g =>
   obtain ⟨j, b⟩ := g
   have := hg o hio j b hgu
   simp only [yielded, e j this]
 rw [hw] at h
 split at h
 ·rename_i hw'
  rw [if_pos hw']
  rcases h with h | h
  ·exact .inl (hQ o a w K h)
  ·exact .inr ⟨h.1, hL h.2⟩
 ·rename_i hw'
  rw [if_neg hw']
  exact h
theorem J9 {ops opsn : Array Oper} {n : Nat} (ht : opsn.toList = ops.toList.take n) (hn : n < ops.toList.length) (hC : wJ ops.toList n = true) {Q : Exit → Act → World → Prop} :
  ∀ (f g : Nat) (listed listed' : Array Bool) (a : Act) (w : World), f + 1 ≤ g → listed.size = ops.size → listed'.size = n → (∀ j, j < n → listed.getD j false = listed'.getD j false) → (∀ j, n ≤ j → listed.getD j false = false) →
   lF ops.toList (fun j => listed.getD j false) →
   wpAny P .any opsn (fun e a w => match e with
    | .normal => ∀ K, wpOp P ops Q n K a w
    | e => Q e a w) f listed' a w → wpAny P .any ops Q g listed a w := by
 have hC0 := hC
 unfold wJ at hC
 simp only [UC, List.all_eq_true] at hC
 obtain ⟨⟨hed, hall⟩, hgn⟩ := hC
 have e : ∀ j, j < n → opsn[j]? = ops[j]? := by
  intro j hj
  rw [← UX, ht, List.getElem?_take, if_pos hj, UX]
 have hnn : opsn.size = n := by rw [← Array.length_toList, ht, List.length_take]; omega
 have hszl : ops.toList.length = ops.size := by simp
 have rd : ∀ {listed listed' : Array Bool}, listed.size = ops.size → listed'.size = n → (∀ j, j < n → listed.getD j false = listed'.getD j false) → (∀ j, n ≤ j → listed.getD j false = false) → lF ops.toList (fun j => listed.getD j false) →
   (∀ i, i ∈ Region.ready .any ops listed → (i < n ∧ i ∈ Region.ready .any opsn listed') ∨ (i = n ∧ Region.ready .any opsn listed' = [])) ∧ (Region.ready .any opsn listed' = [] → n ∈ Region.ready .any ops listed) := by
  intro listed listed' s1 s2 r1 r2 hcl
  have noneReady : (∀ j, j < n → listed.getD j false = true) → Region.ready .any opsn listed' = [] := by
   intro h
   rw [List.eq_nil_iff_forall_not_mem]
   intro i hi
   obtain ⟨q1, o, q2, _⟩ := mem_ready.1 hi
   have hlt : i < n := by rw [← hnn]; exact (Array.getElem?_eq_some_iff.1 q2).1
   have := h i hlt
   rw [r1 i hlt] at this
   have hlt2 : i < listed'.size := by omega
   simp [hlt2] at q1 this
   rw [this] at q1; cases q1
  refine ⟨fun i hi => ?_, fun hnil => ?_⟩
  ·obtain ⟨q1, o, q2, q3⟩ := mem_ready.1 hi
   have hio : ops.toList[i]? = some o := by simpa using q2
   have hlt : i < ops.size := (Array.getElem?_eq_some_iff.1 q2).1
   have hanc := jW hed hcl i i o (Nat.le_refl _) hio q3
   have hci := hall (o, i) (U0.2 hio)
   simp only [UC, Bool.or_eq_true, Bool.not_eq_true', decide_eq_false_iff_not] at hci
   rcases Nat.lt_trichotomy i n with hx | hx | hx
   ·left
    refine ⟨hx, mem_ready.2 ⟨?_, o, by rw [e i hx]; exact q2, fun ed he hb => ?_⟩⟩
    ·have : listed.getD i false = false := by
      have hlt2 : i < listed.size := by omega
      simp [hlt2] at q1 ⊢; exact q1
     rw [r1 i hx] at this
     have hlt2 : i < listed'.size := by omega
     simp [hlt2] at this ⊢; exact this
    ·have := vB hed hio he hb
     rw [← r1 ed.on (by omega)]
     exact q3 ed he hb
   ·right
    subst hx
    refine ⟨rfl, noneReady fun j hj => hanc j ?_⟩
    have hjl : j < ops.toList.length := by omega
    have hcj := hall (ops.toList[j], j) (U0.2 (UJ hjl))
    simp only [UC, Bool.or_eq_true, Bool.not_eq_true', decide_eq_false_iff_not] at hcj
    rcases hcj.1 with h | h
    ·exact absurd hj h
    ·exact h.1
   ·exfalso
    rcases hci.2 with h | h
    ·exact h hx
    ·have := hanc n h
     have h2 := r2 n (Nat.le_refl _)
     try simp only at this
     rw [h2] at this; cases this
  ·have hallL : ∀ m j, j ≤ m → j < n → listed.getD j false = true := by
    intro m
    induction m using Nat.strongRecOn with
    | _ m ih =>
     intro j hjm hj
     cases hl : listed.getD j false with
     | true => rfl
     | false =>
      exfalso
      have hjl : j < ops.toList.length := by omega
      have hjo : ops.toList[j]? = some ops.toList[j] := UJ hjl
      have : j ∈ Region.ready .any opsn listed' := by
       refine mem_ready.2 ⟨?_, ops.toList[j], by rw [e j hj, ← UX]; exact hjo, fun ed he hb => ?_⟩
       ·rw [r1 j hj] at hl
        have hlt2 : j < listed'.size := by omega
        simp [hlt2] at hl ⊢; exact hl
       ·have := vB hed hjo he hb
        rw [← r1 ed.on (by omega)]
        exact ih ed.on (by omega) ed.on (Nat.le_refl _) (by omega)
      rw [hnil] at this; cases this
   have hno : ops.toList[n]? = some ops.toList[n] := UJ hn
   refine mem_ready.2 ⟨?_, ops.toList[n], by rw [← UX]; exact hno, fun ed he hb => ?_⟩
   ·have := r2 n (Nat.le_refl _)
    have hlt2 : n < listed.size := by omega
    simp [hlt2] at this ⊢; exact this
   ·exact hallL ed.on ed.on (Nat.le_refl _) (vB hed hno he hb)
 have gd : ∀ i, i < n → ∀ o, ops[i]? = some o → ∀ g b, o.guard = some (g, b) → g < n := by
  intro i hi o ho g b hg
  have hio : ops.toList[i]? = some o := by simpa using ho
  have hci := hall (o, i) (U0.2 hio)
  simp only [UC, Bool.or_eq_true, Bool.not_eq_true', decide_eq_false_iff_not, hg, UI] at hci
  rcases hci.1 with h | h
  ·exact absurd hi h
  ·exact h.2
 intro f
 induction f with
 | zero =>
  intro g listed listed' a w hfg s1 s2 r1 r2 hcl h
  obtain ⟨g, rfl⟩ : ∃ k, g = k + 1 := ⟨g - 1, by omega⟩
  obtain ⟨h1, h2⟩ := h
  obtain ⟨rd1, rd2⟩ := rd s1 s2 r1 r2 hcl
  have hnr := rd2 h1
  refine ⟨fun hnil => (by rw [hnil] at hnr; cases hnr), fun i hi => ?_⟩
  rcases rd1 i hi with ⟨_, q⟩ | ⟨rfl, _⟩
  ·rw [h1] at q; cases q
  ·exact h2 _
 | succ f ih =>
  intro g listed listed' a w hfg s1 s2 r1 r2 hcl h
  obtain ⟨g, rfl⟩ : ∃ k, g = k + 1 := ⟨g - 1, by omega⟩
  obtain ⟨h1, h2⟩ := h
  obtain ⟨rd1, rd2⟩ := rd s1 s2 r1 r2 hcl
  refine ⟨fun hnil => ?_, fun i hi => ?_⟩
  ·exfalso
   by_cases hr : Region.ready .any opsn listed' = []
   ·have := rd2 hr; rw [hnil] at this; cases this
   ·obtain ⟨i, hi⟩ := List.exists_mem_of_ne_nil _ hr
    obtain ⟨q1, o, q2, q3⟩ := mem_ready.1 hi
    have hlt : i < n := by rw [← hnn]; exact (Array.getElem?_eq_some_iff.1 q2).1
    have hio : ops[i]? = some o := by rw [← e i hlt]; exact q2
    have : i ∈ Region.ready .any ops listed := by
     refine mem_ready.2 ⟨?_, o, hio, fun ed he hb => ?_⟩
     ·have h3 : listed'.getD i false = false := by
       have hlt2 : i < listed'.size := by omega
       simp [hlt2] at q1 ⊢; exact q1
      rw [← r1 i hlt] at h3
      have hlt2 : i < listed.size := by omega
      simp [hlt2] at h3 ⊢; exact h3
     ·have := vB hed (show ops.toList[i]? = some o by simpa using hio) he hb
      rw [r1 ed.on (by omega)]
      exact q3 ed he hb
    rw [hnil] at this; cases this
  ·rcases rd1 i hi with ⟨hin, q⟩ | ⟨rfl, q⟩
   ·refine Ob ht (by omega) hin (gd i hin) (fun o a w K hh => hh) (fun hh => hh) ?_ (h2 i q)
    intro a' w' hk
    obtain ⟨_, o, q2, q3⟩ := mem_ready.1 hi
    have hio : ops.toList[i]? = some o := by simpa using q2
    have hil : i < listed.size := by have := (Array.getElem?_eq_some_iff.1 q2).1; omega
    refine ih g _ _ a' w' (by omega) (by simp [s1]) (by simp [s2]) (fun j hj => ?_) (fun j hj => ?_) ?_ hk
    ·rcases Classical.em (i = j) with hij | hij
     ·subst hij
      have : i < listed'.size := by omega
      simp [hil, this]
     ·rw [getD_set_ne false hij, getD_set_ne false hij]; exact r1 j hj
    ·rw [getD_set_ne false (by omega)]; exact r2 j hj
    ·have hL' : (fun j => (listed.setIfInBounds i true).getD j false) = fun j => listed.getD j false || j == i := by
      funext j
      rcases Classical.em (i = j) with hij | hij
      ·subst hij; simp [hil]
      ·rw [getD_set_ne false hij]
       have : (j == i) = false := by simp; exact fun q => hij q.symm
       rw [this, Bool.or_false]
     rw [hL']
     exact rQ hcl hio q3
   ·exact h1 q _
end
end Go.Ev
namespace Go.Ev
def tq (T : ar) (s : St) : List ResultVar → Option (LA_)
 | [] => some []
 | .tmp t :: r => (tq T s r).map fun vs => s.tm.getD t (.tup []) :: vs
 | .cell a t :: r => match p8 T s.mem t (s.tm.getD a (.tup [])), tq T s r with
  | some v, some vs => some (v :: vs)
  | _, _ => none
def gk (T : ar) (s : St) (rs : List ResultVar) : Option ab :=
 match tq T s rs with
 | some [v] => some v
 | some vs => some (.tup vs)
 | none => none
def bG (ntmps : Nat) (args : LA_) (σ : Mem) : St := ⟨args ++ List.replicate (ntmps - args.length) (.tup []), [], σ⟩
def Ah (T : ar) (rs : List ResultVar) : an → St → Option (fc × Mem)
 | .normal, s | .ret, s => match s.df with
  | [] => (gk T s rs).map fun v => (.ret v, s.mem)
  | _ => none
 | .pan v, s => match s.df with
  | [] => some (.pan v, s.mem)
  | _ => none
 | _, _ => none
def nN (P : Program) : Prop := ∀ (g : FuncId) (fn : Func), P.funcs[g]? = some fn → (fn.name == "runtime.NumGoroutine") = false
section
variable {P : Program} {T : ar} {H : bT}
def Kr (tmps : Array Value) : ResultVar → Sem Value
 | .tmp t => pure (tmps.getD t undef)
 | .cell ad t => do loadVar t (← asAddr (tmps.getD ad undef))
theorem Gu (fn : Func) (tmps : Array Value) : results fn tmps = (do let vs ← fn.results.mapM (Kr tmps); pure (if h : vs.size = 1 then vs[0] else .tuple vs)) := by
 have e : (fun x : ResultVar => (match x with
   | .tmp t => pure (tmps.getD t undef)
   | .cell ad t => do loadVar t (← asAddr (tmps.getD ad undef)) : Sem Value)) = Kr tmps := by
  funext r; cases r <;> rfl
 rw [← e]
 rfl
theorem Ff (hT : aZ P T) {w0 : W0} {ρ : Nat → Loc} {s : St} {a : Act} {w : World} (h : bF w0 ρ s a w) : ∀ {rs : List ResultVar} {vs : LA_}, tq T s rs = some vs →
  (rs.mapM (Kr a.tmps)).run P w = .ok (γL ρ vs) w ∧ scL s.mem.next vs = true
 | [], vs, hr => by simp only [tq, UB] at hr; subst hr; exact ⟨rfl, rfl⟩
 | .tmp t :: r, vs, hr => by
  simp only [tq] at hr
  cases hq : tq T s r with
  | none => rw [hq] at hr; cases hr
  | some us =>
   rw [hq] at hr; cases hr
   obtain ⟨i1, i2⟩ := Ff hT h hq
   obtain ⟨e1, e2⟩ := qf (x := .tmp t) h.tm h.sct rfl
   simp only [Act.eval] at e1
   refine ⟨?_, by simp only [scL, e2, i2, UF]⟩
   simp only [List.mapM_cons, Kr, UO, UP, UN, i1, e1, γL]
 | .cell ad t :: r, vs, hr => by
  simp only [tq] at hr
  split at hr
  ·rename_i v us hv hq
   cases hr
   obtain ⟨i1, i2⟩ := Ff hT h hq
   obtain ⟨b, o, hx, r1, r2⟩ := h.rel.DT (P := P) hT hv
   obtain ⟨e1, e2⟩ := qf (x := .tmp ad) h.tm h.sct rfl
   simp only [Act.eval, hx, γ] at e1
   refine ⟨?_, by simp only [scL, r2, i2, UF]⟩
   have e3 : (asAddr (a.tmps.getD ad undef)).run P w = .ok ⟨(ρ b).blk, (ρ b).base + o, none⟩ w := by rw [e1]; rfl
   simp only [List.mapM_cons, Kr, UO, UP, UN, e3, r1, i1, γL]
  ·cases hr
theorem rC (hT : aZ P T) {w0 : W0} {ρ : Nat → Loc} {s : St} {a : Act} {w : World} (h : bF w0 ρ s a w) {fn : Func} {v : ab} (hr : gk T s fn.results.toList = some v) :
  (results fn a.tmps).run P w = .ok (γ ρ v) w ∧ sc s.mem.next v = true := by
 unfold gk at hr
 have key : ∀ vs, tq T s fn.results.toList = some vs → (results fn a.tmps).run P w = .ok (if hh : vs.length = 1 then γ ρ (vs[0]'(by omega)) else .tuple (γL ρ vs).toArray) w ∧ scL s.mem.next vs = true := by
  intro vs hvs
  obtain ⟨r1, r2⟩ := Ff (P := P) hT h hvs
  refine ⟨?_, r2⟩
  rw [Gu, Array.mapM_eq_mapM_toList]
  simp only [UO, Sem.run_map, r1]
  simp only [UN, UP]
  congr 1
  by_cases hl : vs.length = 1
  ·simp [hl, gY]
  ·simp [hl]
 split at hr
 ·rename_i u hu
  cases hr
  obtain ⟨k1, k2⟩ := key _ hu
  simp only [scL, Bool.and_true] at k2
  exact ⟨by simpa using k1, k2⟩
 ·rename_i us hne hu
  cases hr
  obtain ⟨k1, k2⟩ := key _ hu
  refine ⟨?_, by simpa only [sc] using k2⟩
  have hl : ¬ us.length = 1 := by
   intro hl
   match us, hl with
   | [x], _ => exact hne x rfl
  rw [dif_neg hl] at k1
  simpa only [γ] using k1
 ·cases hr
theorem Cm (hT : aZ P T) {f : FuncId} {fn : Func} {c : Code} {args : LA_} {σ : Mem} (hf : P.funcs[f]? = some fn) (hb : fn.body = some c) {R : fc → Mem → Prop}
  (h : AWP P c (bG fn.ntmps args σ) fun o s' => ∃ r σ', Ah T fn.results.toList o s' = some (r, σ') ∧ R r σ') :
  ∀ w0 ρ w, Rel w0 ρ σ w → scL σ.next args = true →
   Calls P f (γL ρ args).toArray w fun e w' => ∃ r σ' ρ', R r σ' ∧ e = rR ρ' r ∧ bO w0 ρ σ.next ρ' σ' w' ∧ sc σ'.next r.value = true := by
 intro w0 ρ w hr hs
 refine calls_of_wp hf hb ?_
 have hsr : bF w0 ρ (bG fn.ntmps args σ) { tmps := (γL ρ args).toArray ++ Array.replicate (fn.ntmps - (γL ρ args).toArray.size) undef, defers := [] } w := by
  refine ⟨hr, ?_, ?_, rfl, by simp [bG]⟩
  ·apply Array.ext'
   simp [bG, cz, AJ, lJ ρ]
  ·simp only [bG, jU]
   refine ⟨hs, ?_⟩
   rw [gA]
   intro v hv
   rw [(List.mem_replicate.1 hv).2]
   simp [sc, scL]
 refine wp_mono (h w0 ρ _ w hsr) ?_
 rintro e a' w' ⟨o, s', ⟨r, σ', h1, h2⟩, ⟨ρ', rfl, k1, k2, k3, k4⟩⟩
 have hdf : s'.df = [] → a'.defers = [] := fun q => by rw [k1.df, q]; rfl
 have hpost : ∀ {σ'}, s'.mem = σ' → bO w0 ρ σ.next ρ' σ' w' := fun q => q ▸ ⟨k1.rel, k2, k3⟩
 cases o with
 | normal =>
  simp only [Ah] at h1
  split at h1
  ·rename_i hd
   cases hra : gk T s' fn.results.toList with
   | none => rw [hra] at h1; cases h1
   | some v =>
    rw [hra] at h1
    simp only [US, UB, UD] at h1
    obtain ⟨rfl, rfl⟩ := h1
    obtain ⟨q1, q2⟩ := rC hT k1 hra
    exact ⟨hdf hd, _, q1, _, _, ρ', h2, rfl, hpost rfl, q2⟩
  ·cases h1
 | ret =>
  simp only [Ah] at h1
  split at h1
  ·rename_i hd
   cases hra : gk T s' fn.results.toList with
   | none => rw [hra] at h1; cases h1
   | some v =>
    rw [hra] at h1
    simp only [US, UB, UD] at h1
    obtain ⟨rfl, rfl⟩ := h1
    obtain ⟨q1, q2⟩ := rC hT k1 hra
    exact ⟨hdf hd, _, q1, _, _, ρ', h2, rfl, hpost rfl, q2⟩
  ·cases h1
 | pan v =>
  simp only [Ah] at h1
  split at h1
  ·rename_i hd
   simp only [UB, UD] at h1
   obtain ⟨rfl, rfl⟩ := h1
   exact ⟨hdf hd, _, _, ρ', h2, rfl, hpost rfl, k4 _ rfl⟩
  ·cases h1
 | exit id => simp [Ah] at h1
 | goto id => simp [Ah] at h1
def CV : bT := fun _ _ _ => none
end
end Go.Ev
namespace Go.Ev
def vz (pf : FuncId → Nat) (all : List Oper) : List (List Nat) :=
 let ms := bc all []
 all.zipIdx.map fun (o, i) => if bV pf o.op == 1 then (vA pf all).filter fun c => !ox pf all ms i c else []
def vy (pf : FuncId → Nat) (T : ar) (H : bT) (all : List Oper) (mems : List Mem) : List Oper → List (List Nat) → List (St × ab) → Bool
 | o :: r, cs :: ps, (s, v) :: tr => (!(br all o s.tm) || cs.all fun c => match mems[c]? with
   | some σ => match aM T H o.op s.tm σ with
    | some (.val u, _) => aeq u v
    | _ => false
   | none => false) && vy pf T H all mems r ps tr
 | _, _, _ => true
theorem Iq {pf : FuncId → Nat} {T : ar} {H : bT} {all : List Oper} {mems : List Mem} : ∀ (l pre : List Oper) (tr : List (St × ab)), all = pre ++ l →
  vy pf T H all mems l ((l.zipIdx pre.length).map fun (o, i) => if bV pf o.op == 1 then (vA pf all).filter fun c => !ox pf all (bc all []) i c else []) tr = true →
   rA pf T H all (bc all []) mems l pre.length tr = true
 | [], pre, tr, _, _ => by cases tr <;> rfl
 | o :: r, pre, [], _, _ => rfl
 | o :: r, pre, (s, v) :: tr, he, h => by
  simp only [List.zipIdx_cons, List.map_cons, vy, UC] at h
  obtain ⟨h1, h2⟩ := h
  simp only [rA, UC]
  refine ⟨?_, ?_⟩
  ·unfold Gq
   cases hk : bV pf o.op == 1 with
   | false => rfl
   | true =>
    simp only [hk, if_true] at h1
    cases hw : br all o s.tm with
    | false => rfl
    | true =>
     simp only [hw, Bool.not_true, Bool.false_or, List.all_eq_true] at h1 ⊢
     intro c hc
     cases hx : ox pf all (bc all []) pre.length c with
     | true => rfl
     | false =>
      have := h1 c (List.mem_filter.2 ⟨hc, by rw [hx]; rfl⟩)
      simp only [Bool.false_or]
      exact this
  ·have := Iq (pf := pf) (T := T) (H := H) (all := all) (mems := mems) r (pre ++ [o]) tr (by rw [he]; simp) (by simpa using h2)
   simpa using this
def Ai (pf : FuncId → Nat) (T : ar) (H : bT) (all : List Oper) (mems : List Mem) : List Oper → List (List Nat) → List (St × ab) → List (Option ab × Option ab)
 | o :: r, cs :: ps, (s, v) :: tr => (if br all o s.tm then cs.map fun c => ((mems[c]?).bind fun σ => (aM T H o.op s.tm σ).bind fun x => match x.1 with
   | .val u => some u
   | _ => none, some v) else []) ++ Ai pf T H all mems r ps tr
 | _, _, _ => []
theorem Ks {pf : FuncId → Nat} {T : ar} {H : bT} {all : List Oper} {mems : List Mem} : ∀ (l : List Oper) (pl : List (List Nat)) (tr : List (St × ab)),
  (∀ p ∈ Ai pf T H all mems l pl tr, p.1 = p.2) → vy pf T H all mems l pl tr = true
 | [], pl, tr, _ => by cases pl <;> cases tr <;> rfl
 | o :: r, [], tr, _ => by cases tr <;> rfl
 | o :: r, cs :: ps, [], _ => rfl
 | o :: r, cs :: ps, (s, v) :: tr, h => by
  simp only [Ai, U1] at h
  simp only [vy, UC]
  refine ⟨?_, Ks r ps tr fun p hp => h p (.inr hp)⟩
  cases hw : br all o s.tm with
  | false => rfl
  | true =>
   simp only [hw, if_true, List.mem_map] at h
   simp only [Bool.not_true, Bool.false_or, List.all_eq_true]
   intro c hc
   have := h _ (.inl ⟨c, hc, rfl⟩)
   simp only at this
   cases hm : mems[c]? with
   | none => rw [hm] at this; cases this
   | some σ =>
    rw [hm] at this
    simp only [Uy] at this ⊢
    cases hx : aM T H o.op s.tm σ with
    | none => rw [hx] at this; cases this
    | some x =>
     obtain ⟨x, σ'⟩ := x
     rw [hx] at this
     simp only [Uy] at this ⊢
     cases x with
     | val u => simp only [UB] at this; subst this; exact E7 u
     | skip => cases this
     | pan u => cases this
     | dfr u => cases this
def bm : Code → List Code
 | .loop b => b :: bm b
 | .seq a b => bm a ++ bm b
 | .cond _ a b => bm a ++ bm b
 | .block _ b => bm b
 | .scope b => bm b
 | .rangeFunc _ _ a b => bm a ++ bm b
 | _ => []
def aO (fn : Func) (i : Nat) : Code := (bm (fn.body.getD .skip)).getD i .skip
def sI (pf : FuncId → Nat) (T : ar) (H : bT) (all : List Oper) (mems : List Mem) : List Oper → List (List Nat) → List (St × ab) → List (Option ab × Option ab)
 | o :: r, cs :: ps, (s, _) :: tr => (if br all o s.tm then cs.map fun c => ((mems[c]?).bind fun σ => (aM T H o.op s.tm σ).bind fun x => match x.1 with
   | .val u => some u
   | _ => none, Aj (aM T H o.op s.tm s.mem)) else []) ++ sI pf T H all mems r ps tr
 | _, _, _ => []
section
variable {T : ar} {H : bT} {pf : FuncId → Nat}
theorem Ix {all : List Oper} {mems : List Mem} : ∀ (l : List Oper) (pl : List (List Nat)) (s : St) (tr : List (St × ab)) (e : St), trace T H all l s = some (tr, e) →
  (∀ p ∈ sI pf T H all mems l pl tr, p.1 = p.2) → ∀ p ∈ Ai pf T H all mems l pl tr, p.1 = p.2
 | [], pl, s, tr, e, _, _ => by cases pl <;> cases tr <;> (intro p hp; simp [Ai] at hp)
 | o :: r, [], s, tr, e, _, _ => by cases tr <;> (intro p hp; simp [Ai] at hp)
 | o :: r, cs :: ps, s, tr, e, ht, h => by
  simp only [trace] at ht
  split at ht
  ·rename_i v σ hv
   split at ht
   ·rename_i l e1 hl
    simp only [UB, UD] at ht
    obtain ⟨rfl, rfl⟩ := ht
    simp only [sI, U1] at h
    intro p hp
    simp only [Ai, U1] at hp
    rcases hp with hp | hp
    ·cases hw : br all o s.tm with
     | false => rw [hw] at hp; simp at hp
     | true =>
      rw [hw] at hp h
      simp only [if_true, List.mem_map] at hp h
      obtain ⟨c, hc, rfl⟩ := hp
      have := h _ (.inl ⟨c, hc, rfl⟩)
      refine Eq.trans this ?_
      simp only
      unfold cR at hv
      split at hv
      ·cases hv
      split at hv
      ·rename_i u σ1 hx
       simp only [UB, UD] at hv
       rw [hx, ← hv.1]; rfl
      ·rename_i σ1 hx
       simp only [UB, UD] at hv
       rw [hx, ← hv.1]; rfl
      ·cases hv
    ·exact Ix r ps _ l e1 hl (fun q hq => h q (.inr hq)) p hp
   ·cases ht
  ·cases ht
end
end Go.Ev
namespace Go.Ev
def Gv (ks : List TK) : Nat → List TK
 | 0 => []
 | n + 1 => ks ++ Gv ks n
def Cn (P : Program) (F : TypeId → Option (List TK)) : List Field → Nat → Option (List TK)
 | [], _ => some []
 | f :: fs, off =>
  if f.name = "_" ∨ f.offset ≠ off then none else
  match F f.type with
  | some ks => if ks.length = P.cellsOf f.type then (Cn P F fs (off + ks.length)).map (ks ++ ·) else none
  | none => none
def fI (P : Program) : Nat → TypeId → Option (List TK)
 | 0, _ => none
 | d + 1, t =>
  match P.underlying t with
  | some (.int k) => some [.int k]
  | some .bool => some [.bool]
  | some (.struct fs) => if P.stoodInHeld t then none else Cn P (fI P d) fs.toList 0
  | some (.array n e) => match fI P d e with
   | some ks => if ks.length = P.cellsOf e then some (Gv ks n) else none
   | none => none
  | _ => none
def mkV (P : Program) (t : TypeId) (cs : List Value) : Value :=
 match P.underlying t with
 | some (.struct _) | some (.array _ _) => .agg cs.toArray
 | _ => cs.headD undef
theorem kz : ∀ {ks : List TK} {xs ys : LA_} {r : Bool}, cD ks xs ys = some r → xs.length = ks.length ∧ ys.length = ks.length
 | [], [], [], _, _ => ⟨rfl, rfl⟩
 | .int k :: ks, .int a x :: xs, .int b y :: ys, r, h => by
  simp only [cD] at h
  split at h
  ·obtain ⟨r', h1, _⟩ := UM.1 h
   have := kz h1
   simp [this.1, this.2]
  ·cases h
 | .bool :: ks, .bool x :: xs, .bool y :: ys, r, h => by
  simp only [cD] at h
  obtain ⟨r', h1, _⟩ := UM.1 h
  have := kz h1
  simp [this.1, this.2]
theorem mo : ∀ {k1 k2 : List TK} {xs ys : LA_} {r : Bool}, cD (k1 ++ k2) xs ys = some r →
  ∃ r1 r2, cD k1 (xs.take k1.length) (ys.take k1.length) = some r1 ∧ cD k2 (xs.drop k1.length) (ys.drop k1.length) = some r2 ∧ r = (r1 && r2)
 | [], k2, xs, ys, r, h => ⟨true, r, by simp [cD], by simpa using h, by simp⟩
 | .int k :: ks, k2, .int a x :: xs, .int b y :: ys, r, h => by
  simp only [List.cons_append, cD] at h
  split at h
  ·rename_i hk
   obtain ⟨r', h1, h2⟩ := UM.1 h
   obtain ⟨r1, r2, q1, q2, q3⟩ := mo h1
   refine ⟨x == y && r1, r2, ?_, by simpa using q2, by rw [← h2, q3, Bool.and_assoc]⟩
   simp only [UW, List.take_succ_cons, cD, if_pos hk, q1, US]
  ·cases h
 | .bool :: ks, k2, .bool x :: xs, .bool y :: ys, r, h => by
  simp only [List.cons_append, cD] at h
  obtain ⟨r', h1, h2⟩ := UM.1 h
  obtain ⟨r1, r2, q1, q2, q3⟩ := mo h1
  refine ⟨x == y && r1, r2, ?_, by simpa using q2, by rw [← h2, q3, Bool.and_assoc]⟩
  simp only [UW, List.take_succ_cons, cD, q1, US]
section
variable {P : Program} {ρ : Nat → Loc}
theorem DW {d : Nat} {t : TypeId} {ks : List TK} (h : fI P d t = some ks) : ∃ i, P.info? t = some i := by
 cases d with
 | zero => simp [fI] at h
 | succ d =>
  unfold fI at h
  cases hu : P.underlying t with
  | none => rw [hu] at h; cases h
  | some k => exact info_of_underlying hu
theorem rT {d : Nat} {t : TypeId} {ks : List TK} (hf : fI P d t = some ks) (hl : ks.length = P.cellsOf t) {pre x post : List Value} {cs : Array Value}
  (hc : cs.toList = pre ++ x ++ post) (hx : x.length = ks.length) (w : World) : (part t cs pre.length).run P w = .ok (mkV P t x) w := by
 obtain ⟨i, hi⟩ := DW hf
 have hagg : ∀ b, (match P.underlying t with | some (.struct _) | some (.array _ _) => true | _ => false) = b → (isAgg t).run P w = .ok b w := by
  intro b hb
  cases d with
  | zero => simp [fI] at hf
  | succ d =>
   unfold fI at hf
   cases hu : P.underlying t with
   | none => rw [hu] at hf; cases hf
   | some k =>
    rw [hu] at hb
    cases k <;> simp_all [isAgg, run_underlying hu]
 have ext : cs.extract pre.length (pre.length + P.cellsOf t) = x.toArray := by
  apply Array.ext'
  rw [Array.toList_extract, List.extract_eq_take_drop, hc, ← hl, ← hx, Nat.add_sub_cancel_left]
  simp [UV]
 have one : ∀ v, x = [v] → cs[pre.length]? = some v := by
  rintro v rfl
  rw [← UX, hc]
  simp [UV]
 cases d with
 | zero => simp [fI] at hf
 | succ d =>
  unfold fI at hf
  unfold mkV
  cases hu : P.underlying t with
  | none => rw [hu] at hf; cases hf
  | some k =>
   rw [hu] at hf
   cases k <;> simp only [] at hf <;> try (cases hf; done)
   case bool =>
    cases hf
    obtain ⟨v, rfl⟩ : ∃ v, x = [v] := List.length_eq_one_iff.1 (by simpa using hx)
    simp [part, hagg false (by rw [hu]), one v rfl]
   case int k =>
    cases hf
    obtain ⟨v, rfl⟩ : ∃ v, x = [v] := List.length_eq_one_iff.1 (by simpa using hx)
    simp [part, hagg false (by rw [hu]), one v rfl]
   case array n e =>
    simp only [part, UO, hagg true (by rw [hu]), UN, if_true, run_sizeOf w hi, UP, ext]
   case struct fs =>
    simp only [part, UO, hagg true (by rw [hu]), UN, if_true, run_sizeOf w hi, UP, ext]
theorem gu (a b : LA_) (n : Nat) : γL ρ a = γL ρ (a.take n) ++ γL ρ (a.drop n) := by rw [← cz, List.take_append_drop]
def EqF (P : Program) (ρ : Nat → Loc) (D : Nat) (t : TypeId) (ks : List TK) : Prop :=
 ∀ (w : World) (xs ys : LA_) (r : Bool), cD ks xs ys = some r →
  (Op.equalIn D t (mkV P t (γL ρ xs)) (mkV P t (γL ρ ys))).run P w = .ok r w ∧ ∀ b, (Instr.checkKey b D t (mkV P t (γL ρ xs))).run P w = .ok () w
theorem AK {d D : Nat} (IH : ∀ t ks, fI P d t = some ks → EqF P ρ D t ks) : ∀ (fs : List Field) (off : Nat) (ks : List TK), Cn P (fI P d) fs off = some ks →
  ∀ (w : World) (cx cy : Array Value) (px py : List Value) (xs ys : LA_) (r : Bool), cx.toList = px ++ γL ρ xs → cy.toList = py ++ γL ρ ys → px.length = off → py.length = off →
   cD ks xs ys = some r → (Op.eqFields D cx cy fs).run P w = .ok r w ∧
    ∀ b, (forIn fs PUnit.unit fun (f : Field) _ => (if f.name ≠ "_" then do
     Instr.checkKey b D f.type (← part f.type cx f.offset)
     pure (ForInStep.yield PUnit.unit) else pure (ForInStep.yield PUnit.unit) : Sem (ForInStep PUnit))).run P w = .ok PUnit.unit w
 | [], off, ks, hf, w, cx, cy, px, py, xs, ys, r, _, _, _, _, he => by
  simp only [Cn, UB] at hf
  subst hf
  cases xs <;> cases ys <;> simp [cD] at he
  subst he
  exact ⟨rfl, fun _ => rfl⟩
 | f :: fs, off, ks, hf, w, cx, cy, px, py, xs, ys, r, hx, hy, hpx, hpy, he => by
  simp only [Cn] at hf
  split at hf
  ·cases hf
  ·rename_i hno
   have hn1 : f.name ≠ "_" := fun q => hno (.inl q)
   have hn2 : f.offset = off := Classical.byContradiction fun q => hno (.inr q)
   split at hf
   ·rename_i k1 hk1
    split at hf
    ·rename_i hlen
     obtain ⟨k2, hk2, rfl⟩ := UM.1 hf
     obtain ⟨r1, r2, e1, e2, rfl⟩ := mo he
     obtain ⟨l1, l2⟩ := kz e1
     have px1 : (part f.type cx f.offset).run P w = .ok (mkV P f.type (γL ρ (xs.take k1.length))) w := by
      rw [hn2, ← hpx]
      exact rT hk1 hlen (by rw [hx, gu xs xs k1.length, UV]) (by simpa using l1) w
     have py1 : (part f.type cy f.offset).run P w = .ok (mkV P f.type (γL ρ (ys.take k1.length))) w := by
      rw [hn2, ← hpy]
      exact rT hk1 hlen (by rw [hy, gu ys ys k1.length, UV]) (by simpa using l2) w
     obtain ⟨i1, i2⟩ := IH f.type k1 hk1 w _ _ r1 e1
     obtain ⟨j1, j2⟩ := AK IH fs (off + k1.length) k2 hk2 w cx cy (px ++ γL ρ (xs.take k1.length)) (py ++ γL ρ (ys.take k1.length)) (xs.drop k1.length) (ys.drop k1.length) r2
      (by rw [hx, gu xs xs k1.length, UV]) (by rw [hy, gu ys ys k1.length, UV])
      (by rw [UQ, aU, l1, hpx]) (by rw [UQ, aU, l2, hpy]) e2
     refine ⟨?_, fun b => ?_⟩
     ·simp only [Op.eqFields, hn1, ne_eq, not_false_eq_true, if_true, UO, px1, py1, i1, UN]
      cases r1
      ·simp
      ·simpa using j1
     ·have := j2 b
      simp only [List.forIn_cons, UO, Sem.run_ite, hn1, ne_eq, not_false_eq_true, if_true, px1, i2 b, UN, UP]
      exact this
    ·cases hf
   ·cases hf
theorem Co {d D : Nat} {e : TypeId} {k1 : List TK} (hk1 : fI P d e = some k1) (hlen : k1.length = P.cellsOf e) (IH : EqF P ρ D e k1) {inf : TypeInfo} (hi : P.info? e = some inf) :
  ∀ (n j : Nat) (w : World) (cx cy : Array Value) (px py : List Value) (xs ys : LA_) (r : Bool), cx.toList = px ++ γL ρ xs → cy.toList = py ++ γL ρ ys → px.length = j * k1.length →
   py.length = j * k1.length → cD (Gv k1 n) xs ys = some r → (Op.eqItems D e (P.cellsOf e) cx cy (List.range' j n)).run P w = .ok r w ∧
    ∀ b, (forIn (List.range' j n) PUnit.unit fun (i : Nat) _ => (do
     Instr.checkKey b D e (← part e cx (i * (← sizeOf e)))
     pure (ForInStep.yield PUnit.unit) : Sem (ForInStep PUnit))).run P w = .ok PUnit.unit w
 | 0, j, w, cx, cy, px, py, xs, ys, r, _, _, _, _, he => by
  cases xs <;> cases ys <;> simp [Gv, cD] at he
  subst he
  exact ⟨rfl, fun _ => rfl⟩
 | n + 1, j, w, cx, cy, px, py, xs, ys, r, hx, hy, hpx, hpy, he => by
  simp only [Gv] at he
  obtain ⟨r1, r2, e1, e2, rfl⟩ := mo he
  obtain ⟨l1, l2⟩ := kz e1
  have px1 : (part e cx (j * P.cellsOf e)).run P w = .ok (mkV P e (γL ρ (xs.take k1.length))) w := by
   rw [← hlen, ← hpx]
   exact rT hk1 hlen (by rw [hx, gu xs xs k1.length, UV]) (by simpa using l1) w
  have py1 : (part e cy (j * P.cellsOf e)).run P w = .ok (mkV P e (γL ρ (ys.take k1.length))) w := by
   rw [← hlen, ← hpy]
   exact rT hk1 hlen (by rw [hy, gu ys ys k1.length, UV]) (by simpa using l2) w
  obtain ⟨i1, i2⟩ := IH w _ _ r1 e1
  obtain ⟨j1, j2⟩ := Co hk1 hlen IH hi n (j + 1) w cx cy (px ++ γL ρ (xs.take k1.length)) (py ++ γL ρ (ys.take k1.length)) (xs.drop k1.length) (ys.drop k1.length) r2
   (by rw [hx, gu xs xs k1.length, UV]) (by rw [hy, gu ys ys k1.length, UV])
   (by rw [UQ, aU, l1, hpx, Nat.succ_mul]) (by rw [UQ, aU, l2, hpy, Nat.succ_mul]) e2
  rw [List.range'_succ]
  refine ⟨?_, fun b => ?_⟩
  ·simp only [Op.eqItems, UO, px1, py1, i1, UN]
   cases r1
   ·simp
   ·simpa using j1
  ·have := j2 b
   simp only [List.forIn_cons, UO, run_sizeOf w hi, UN, px1, i2 b, UP]
   exact this
theorem Fg : ∀ (d : Nat) (t : TypeId) (ks : List TK), fI P d t = some ks → ∀ D, EqF P ρ (D + d) t ks
 | 0, t, ks, h, D => by simp [fI] at h
 | d + 1, t, ks, h, D => by
  intro w xs ys r he
  have h0 := h
  unfold fI at h
  rw [← Nat.add_assoc]
  cases hu : P.underlying t with
  | none => rw [hu] at h; cases h
  | some k =>
   rw [hu] at h
   cases k <;> simp only [] at h <;> try (cases h; done)
   case bool =>
    cases h
    obtain ⟨l1, l2⟩ := kz he
    obtain ⟨x, rfl⟩ := List.length_eq_one_iff.1 (show xs.length = 1 from l1)
    obtain ⟨y, rfl⟩ := List.length_eq_one_iff.1 (show ys.length = 1 from l2)
    cases x <;> cases y <;> simp only [cD] at he <;> try (cases he; done)
    rename_i a b
    simp only [US, Bool.and_true, UB] at he
    subst he
    unfold mkV
    simp only [hu, γL, γ, List.headD_cons]
    refine ⟨run_equalIn_bool w (D + d) t a b hu, fun b => ?_⟩
    simp only [Instr.checkKey, UO, run_underlying hu, UN, UP]
   case int k =>
    cases h
    obtain ⟨l1, l2⟩ := kz he
    obtain ⟨x, rfl⟩ := List.length_eq_one_iff.1 (show xs.length = 1 from l1)
    obtain ⟨y, rfl⟩ := List.length_eq_one_iff.1 (show ys.length = 1 from l2)
    cases x <;> cases y <;> simp only [cD] at he <;> try (cases he; done)
    rename_i k1 a k2 b
    split at he
    ·rename_i hk
     simp only [US, Bool.and_true, UB] at he
     subst he
     unfold mkV
     simp only [hu, γL, γ, List.headD_cons]
     rw [hk.1, hk.2]
     refine ⟨run_equalIn_int w (D + d) t k k a b hu, fun b => ?_⟩
     simp only [Instr.checkKey, UO, run_underlying hu, UN, UP]
    ·cases he
   case struct fs =>
    split at h
    ·cases h
    ·rename_i hst
     have hfo : P.fieldsOf t = fs := by simp [Program.fieldsOf, hu]
     obtain ⟨j1, j2⟩ := AK (fun t ks hh => Fg d t ks hh D) fs.toList 0 ks h w (γL ρ xs).toArray (γL ρ ys).toArray [] [] xs ys r (by simp) (by simp) rfl rfl he
     unfold mkV
     simp only [hu]
     refine ⟨?_, fun b => ?_⟩
     ·rw [run_equalIn_struct w (D + d) t _ _ (by rw [hfo]; exact hu) (by simpa using hst), hfo]
      exact j1
     ·have := j2 b
      rw [Instr.checkKey]
      simp only [UO, run_underlying hu, UN]
      rw [← Array.forIn_toList, this]
      rfl
   case array n e =>
    split at h
    ·rename_i k1 hk1
     split at h
     ·rename_i hlen
      cases h
      obtain ⟨inf, hi⟩ := DW hk1
      obtain ⟨j1, j2⟩ := Co hk1 hlen (Fg d e k1 hk1 D) hi n 0 w (γL ρ xs).toArray (γL ρ ys).toArray [] [] xs ys r (by simp) (by simp) (by simp) (by simp) he
      unfold mkV
      simp only [hu]
      refine ⟨?_, fun b => ?_⟩
      ·rw [run_equalIn_array w (D + d) _ _ hu hi, List.range_eq_range']
       exact j1
      ·have := j2 b
       rw [Instr.checkKey]
       simp only [UO, run_underlying hu, UN]
       simp only [Std.Legacy.Range.forIn_eq_forIn_range', Std.Legacy.Range.size, Nat.sub_zero, Nat.add_one_sub_one, Nat.div_one]
       rw [this]
       rfl
     ·cases h
    ·cases h
theorem fJ {d : Nat} {t : TypeId} {ks : List TK} (hd : d ≤ 10000) (h : fI P d t = some ks) (hg : P.eqGuardType P.depth t = false)
  (ha : (match P.underlying t with | some (.struct _) | some (.array _ _) => true | _ => false) = true) : NB P t ks := by
 refine ⟨hg, fun ρ w xs ys r he => ?_⟩
 have := Fg (ρ := ρ) d t ks h (10000 - d) w xs ys r he
 rw [Nat.sub_add_cancel hd] at this
 have hm : ∀ cs, mkV P t cs = .agg cs.toArray := by
  intro cs
  unfold mkV
  cases hu : P.underlying t with
  | none => rw [hu] at ha; cases ha
  | some k => rw [hu] at ha; cases k <;> first | rfl | cases ha
 rw [hm, hm] at this
 exact this
end
end Go.Ev
namespace Go.Ev
def scX (n : Nat) : am → Bool
 | .cells cs _ _ => scC n cs
 | .iter m _ _ _ => decide (m < n)
 | _ => true
def qn (K : Nat) : Nat → List (Option ab) → LA_
 | _, [] => []
 | t, some v :: M => v :: qn K (t + 1) M
 | t, none :: M => .dm (K + t) :: qn K (t + 1) M
def Cp (tm : LA_) (D : List (FuncId × List Nat)) : List oh := D.map fun p => ⟨p.1, p.2.map fun t => tm.getD t (.tup []), []⟩
def bo (K : Nat) (M : List (Option ab)) (B : List (Nat × am)) (D : List (FuncId × List Nat)) : St := ⟨qn K 0 M, Cp (qn K 0 M) D, ⟨K + M.length, B⟩⟩
def Cov (n : Nat) (s s' : St) : Prop := n ≤ s'.mem.next ∧ ∀ w0 ρ a w, bF w0 ρ s a w → ∃ ρ', bF w0 ρ' s' a w ∧ ∀ i, i < n → ρ' i = ρ i
theorem Cov.refl {n : Nat} {s : St} (h : n ≤ s.mem.next) : Cov n s s := ⟨h, fun _ ρ _ _ hr => ⟨ρ, hr, fun _ _ => rfl⟩⟩
def fits (f : Nat → Nat) (K : Nat) : List (Option ab) → LA_ → Prop
 | [], [] => True
 | some v :: M, x :: vs => x = rn f v ∧ sc K v = true ∧ fits f K M vs
 | none :: M, _ :: vs => fits f K M vs
 | _, _ => False
structure MP (n : Nat) (F : List Nat) (M : List (Option ab)) (B : List (Nat × am)) (D : List (FuncId × List Nat)) (s : St) : Prop where
 df : s.df = Cp s.tm D
 tm : fits (fun i => F.getD i 0) F.length M s.tm
 bs : ∀ i b, look B i = some b → i < F.length ∧ s.mem.get (F.getD i 0) = some (rnB (fun i => F.getD i 0) b) ∧ scX F.length b = true
 inj : ∀ i j, i < F.length → j < F.length → F.getD i 0 = F.getD j 0 → i = j
 fix : ∀ i, i < n → F.getD i 0 = i
 nK : n ≤ F.length
theorem H1 {ρ ρ' : Nat → Loc} {f : Nat → Nat} {K : Nat} (hρ : ∀ i, i < K → ρ' i = ρ (f i)) : ∀ (M : List (Option ab)) (vs : LA_) (t : Nat), fits f K M vs →
  (∀ j, j < vs.length → (ρ' (K + t + j)).val = γ ρ (vs.getD j (.tup []))) → γL ρ' (qn K t M) = γL ρ vs
 | [], [], t, _, _ => rfl
 | [], _ :: _, t, h, _ => by simp [fits] at h
 | some v :: M, [], t, h, _ => by simp [fits] at h
 | none :: M, [], t, h, _ => by simp [fits] at h
 | some v :: M, x :: vs, t, h, hj => by
  obtain ⟨rfl, h2, h3⟩ := h
  simp only [qn, γL, List.cons.injEq]
  refine ⟨?_, H1 hρ M vs (t + 1) h3 ?_⟩
  ·rw [Js]; exact fT hρ v h2
  ·intro j hjl
   have := hj (j + 1) (by simp; omega)
   simpa [Nat.add_assoc, Nat.add_comm 1 j] using this
 | none :: M, x :: vs, t, h, hj => by
  have h3 : fits f K M vs := h
  simp only [qn, γL, List.cons.injEq]
  refine ⟨?_, H1 hρ M vs (t + 1) h3 ?_⟩
  ·simpa [γ] using hj 0 (by simp)
  ·intro j hjl
   have := hj (j + 1) (by simp; omega)
   simpa [Nat.add_assoc, Nat.add_comm 1 j] using this
theorem H2 {f : Nat → Nat} {K n : Nat} : ∀ (M : List (Option ab)) (vs : LA_) (t : Nat), fits f K M vs → K + t + M.length ≤ n → K ≤ n → scL n (qn K t M) = true
 | [], _, t, _, _, _ => rfl
 | some v :: M, [], t, h, _, _ => by simp [fits] at h
 | none :: M, [], t, h, _, _ => by simp [fits] at h
 | some v :: M, x :: vs, t, h, hn, hk => by
  obtain ⟨_, h2, h3⟩ := h
  simp only [UW] at hn
  simp only [qn, scL, UC]
  exact ⟨ko hk _ h2, H2 M vs (t + 1) h3 (by omega) hk⟩
 | none :: M, x :: vs, t, h, hn, hk => by
  have h3 : fits f K M vs := h
  simp only [UW] at hn
  simp only [qn, scL, UC]
  refine ⟨?_, H2 M vs (t + 1) h3 (by omega) hk⟩
  simp only [sc, UI]; omega
theorem Rh {ρ : Nat → Loc} {l : LA_} (t : Nat) : γ ρ (l.getD t (.tup [])) = (γL ρ l).getD t (γ ρ (.tup [])) := by
 simp only [UK, gZ]
 cases l[t]? <;> rfl
theorem Ri {n : Nat} {l : LA_} (h : scL n l = true) (t : Nat) : sc n (l.getD t (.tup [])) = true := by
 rw [UK]
 cases hx : l[t]? with
 | none => rfl
 | some v => exact (gA _ _).1 h v (List.mem_of_getElem? hx)
theorem Rj {ρ ρ' : Nat → Loc} {l l' : LA_} (h : γL ρ' l' = γL ρ l) (D : List (FuncId × List Nat)) : (Cp l' D).map (γD ρ') = (Cp l D).map (γD ρ) := by
 simp only [Cp, List.map_map]
 apply List.map_congr_left
 intro p _
 simp only [Function.comp, γD, γL]
 have : ∀ ts : List Nat, γL ρ' (ts.map fun t => l'.getD t (.tup [])) = γL ρ (ts.map fun t => l.getD t (.tup [])) := by
  intro ts
  induction ts with
  | nil => rfl
  | cons t ts ih => simp only [List.map_cons, γL, ih, Rh, h]; simp [γ, γL]
 rw [this]
theorem Rk {n : Nat} {l : LA_} (h : scL n l = true) (D : List (FuncId × List Nat)) : ∀ d ∈ Cp l D, scL n d.cap = true ∧ scL n d.args = true := by
 intro d hd
 simp only [Cp, List.mem_map] at hd
 obtain ⟨p, _, rfl⟩ := hd
 refine ⟨(gA _ _).2 ?_, rfl⟩
 intro v hv
 simp only [List.mem_map] at hv
 obtain ⟨t, _, rfl⟩ := hv
 exact Ri h t
theorem MP.cov {n : Nat} {F : List Nat} {M : List (Option ab)} {B : List (Nat × am)} {D : List (FuncId × List Nat)} {s : St} (h : MP n F M B D s) : Cov n s (bo F.length M B D) := by
 refine ⟨Nat.le_trans h.nK (by simp [bo]), ?_⟩
 intro w0 ρ a w hr
 let ρ' : Nat → Loc := fun i => if i < F.length then ρ (F.getD i 0) else { blk := 0, base := 0, dS := 0, val := γ ρ (s.tm.getD (i - F.length) (.tup [])) }
 have hρ : ∀ i, i < F.length → ρ' i = ρ (F.getD i 0) := fun i hi => by simp only [ρ', if_pos hi]
 have R := hr.rel
 have hsc : ∀ i b, look B i = some b → scB F.length b = true := by
  intro i b hi
  obtain ⟨_, q2, q3⟩ := h.bs i b hi
  have := R.sco _ _ q2
  cases b <;> first | exact q3 | exact this
 have htm : γL ρ' (qn F.length 0 M) = γL ρ s.tm := by
  refine H1 (f := fun i => F.getD i 0) hρ M s.tm 0 h.tm ?_
  intro j hj
  simp only [ρ', Nat.add_zero]
  rw [if_neg (by omega), show F.length + j - F.length = j by omega]
 have hsm : scL (F.length + M.length) (qn F.length 0 M) = true := H2 M s.tm 0 h.tm (by simp) (by simp)
 refine ⟨ρ', ⟨⟨?_, ?_, ?_, ?_, ?_, ?_, R.os, R.tape, R.output, R.size, R.old⟩, ?_, ?_, ?_, ?_⟩, ?_⟩
 ·intro i b hi
  have := (h.bs i b hi).1
  simp only [bo]; omega
 ·intro i b hi
  exact fU (by simp [bo]) b (hsc i b hi)
 ·intro i b hi
  obtain ⟨q1, q2, q3⟩ := h.bs i b hi
  rw [hρ i q1]
  exact cr (fun i hi => hρ i hi) rfl b (hsc i b hi) (Od (R.sco _ _ q2) (R.ok _ _ q2))
 ·intro i b hi ha
  obtain ⟨q1, q2, q3⟩ := h.bs i b hi
  rw [hρ i q1]
  exact R.inb _ _ q2 (by rw [sJ]; exact ha)
 ·intro i j bi bj hi hj hij hoi haj
  obtain ⟨q1, q2, q3⟩ := h.bs i bi hi
  obtain ⟨p1, p2, p3⟩ := h.bs j bj hj
  rw [hρ i q1, hρ j p1]
  exact R.ap _ _ _ _ q2 p2 (fun e => hij (h.inj i j q1 p1 e)) (by rw [sK]; exact hoi) (by rw [sJ]; exact haj)
 ·intro i b hi ho
  obtain ⟨q1, q2, q3⟩ := h.bs i b hi
  rw [hρ i q1]
  exact R.own _ _ q2 (by rw [sK]; exact ho)
 ·rw [hr.tm]; exact congrArg List.toArray htm.symm
 ·exact hsm
 ·rw [hr.df, h.df]; exact (Rj htm D).symm
 ·exact Rk hsm D
 ·intro i hi
  rw [hρ i (Nat.lt_of_lt_of_le hi h.nK), h.fix i hi]
def dk (P : Program) (n : Nat) (c : Code) (s : St) (Φ : an → St → Prop) : Prop :=
 n ≤ s.mem.next → ∀ w0 ρ a w, bF w0 ρ s a w → c.wp P (fun e a' w' => ∃ o s', Φ o s' ∧ db w0 ρ n o s' e a' w') a w
section
variable {P : Program} {T : ar} {H : bT} {n : Nat} {s : St}
theorem db.less {w0 : W0} {ρ : Nat → Loc} {n m : Nat} {o : an} {s' : St} {e : Exit} {a' : Act} {w' : World} (h : db w0 ρ m o s' e a' w') (hn : n ≤ m) : db w0 ρ n o s' e a' w' := by
 obtain ⟨ρ', h1, h2, h3, h4, h5⟩ := h.out
 exact ⟨ρ', h1, h2, fun i hi => h3 i (by omega), by omega, h5⟩
theorem db.step {w0 : W0} {ρ ρ1 : Nat → Loc} {n : Nat} {o : an} {s' : St} {e : Exit} {a' : Act} {w' : World} (he : ∀ i, i < n → ρ1 i = ρ i) (h : db w0 ρ1 n o s' e a' w') : db w0 ρ n o s' e a' w' := by
 obtain ⟨ρ', h1, h2, h3, h4, h5⟩ := h.out
 exact ⟨ρ', h1, h2, fun i hi => (h3 i hi).trans (he i hi), h4, h5⟩
theorem AWP.vF {c : Code} {Φ : an → St → Prop} (h : AWP P c s Φ) : dk P n c s Φ :=
 fun hn w0 ρ a w hr => wp_mono (h w0 ρ a w hr) fun _ _ _ ⟨o, s', h1, h2⟩ => ⟨o, s', h1, h2.less hn⟩
theorem dk.sG {c : Code} {Φ : an → St → Prop} (h : dk P s.mem.next c s Φ) : AWP P c s Φ := h (Nat.le_refl _)
theorem dk.mono {c : Code} {Φ Ψ : an → St → Prop} (h : dk P n c s Φ) (hm : ∀ o s', Φ o s' → Ψ o s') : dk P n c s Ψ :=
 fun hn w0 ρ a w hr => wp_mono (h hn w0 ρ a w hr) fun _ _ _ ⟨o, s', h1, h2⟩ => ⟨o, s', hm o s' h1, h2⟩
theorem Pu {c : Code} {s' : St} {Φ : an → St → Prop} (hc : Cov n s s') (h : dk P n c s' Φ) : dk P n c s Φ := by
 intro _ w0 ρ a w hr
 obtain ⟨ρ', h1, h2⟩ := hc.2 w0 ρ a w hr
 exact wp_mono (h hc.1 w0 ρ' a w h1) fun _ _ _ ⟨o, s'', q1, q2⟩ => ⟨o, s'', q1, q2.step h2⟩
theorem oM {c : Code} {Φ : an → St → Prop} (h : dk P n c s fun o s' => (∀ v, o = .pan v → sc 0 v = true) ∧ ∃ s'', Cov n s' s'' ∧ Φ o s'') : dk P n c s Φ := by
 intro hn w0 ρ a w hr
 refine wp_mono (h hn w0 ρ a w hr) ?_
 rintro e a' w' ⟨o, s', ⟨hp, s'', h1, h1'⟩, ⟨ρ', rfl, h2, h3, h4, h5⟩⟩
 obtain ⟨ρ2, k1, k2⟩ := h1.2 w0 ρ' a' w' h2
 refine ⟨o, s'', h1', ⟨ρ2, ?_, k1, fun i hi => (k2 i hi).trans (h3 i hi), h1.1, fun v hv => ko (Nat.zero_le _) v (hp v hv)⟩⟩
 cases o with
 | pan v => simp only [Ci, fT (ρ := ρ') (ρ' := ρ2) (n := 0) (fun i hi => by omega) v (hp v rfl)]
 | _ => rfl
theorem vG {x y : Code} {Φ : an → St → Prop} (h : dk P n x s (an.andThen (fun s' => dk P n y s' Φ) Φ)) : dk P n (.seq x y) s Φ := by
 intro hn w0 ρ a w hr
 refine wp_seq (wp_mono (h hn w0 ρ a w hr) ?_)
 rintro e a' w' ⟨o, s', h1, ⟨ρ', rfl, h2, h3, h4, h5⟩⟩
 cases o with
 | normal => exact wp_mono (h1 h4 w0 ρ' a' w' h2) fun _ _ _ ⟨o, s'', q1, q2⟩ => ⟨o, s'', q1, q2.step h3⟩
 | exit id => exact ⟨.exit id, s', h1, ⟨ρ', rfl, h2, h3, h4, h5⟩⟩
 | goto id => exact ⟨.goto id, s', h1, ⟨ρ', rfl, h2, h3, h4, h5⟩⟩
 | ret => exact ⟨.ret, s', h1, ⟨ρ', rfl, h2, h3, h4, h5⟩⟩
 | pan v => exact ⟨.pan v, s', h1, ⟨ρ', rfl, h2, h3, h4, h5⟩⟩
theorem Iy {c : Operand} {x y : Code} {b : Bool} {Φ : an → St → Prop} (hc : ev s.tm c = some (.bool b)) (h : dk P n (if b then x else y) s Φ) : dk P n (.cond c x y) s Φ :=
 fun hn w0 ρ a w hr => wp_cond (t := b) (by have := (qf hr.tm hr.sct hc).1; simpa only [γ] using this) (h hn w0 ρ a w hr)
theorem mr {id : Nat} {c : Code} {Φ : an → St → Prop} (h : dk P n c s (an.inBlock id Φ)) : dk P n (.block id c) s Φ := by
 intro hn w0 ρ a w hr
 refine wp_block (wp_mono (h hn w0 ρ a w hr) ?_)
 rintro e a' w' ⟨o, s', h1, ⟨ρ', rfl, h2, h3, h4, h5⟩⟩
 cases o with
 | normal => exact ⟨.normal, s', h1, ⟨ρ', rfl, h2, h3, h4, h5⟩⟩
 | exit id' =>
  simp only [an.inBlock] at h1
  simp only [Ci, Exit.inBlock]
  split
  ·rename_i hid
   rw [if_pos hid] at h1
   exact ⟨.normal, s', h1, ⟨ρ', rfl, h2, h3, h4, by simp⟩⟩
  ·rename_i hid
   rw [if_neg hid] at h1
   exact ⟨.exit id', s', h1, ⟨ρ', rfl, h2, h3, h4, by simp⟩⟩
 | goto id => exact ⟨.goto id, s', h1, ⟨ρ', rfl, h2, h3, h4, h5⟩⟩
 | ret => exact ⟨.ret, s', h1, ⟨ρ', rfl, h2, h3, h4, h5⟩⟩
 | pan v => exact ⟨.pan v, s', h1, ⟨ρ', rfl, h2, h3, h4, h5⟩⟩
end
end Go.Ev
