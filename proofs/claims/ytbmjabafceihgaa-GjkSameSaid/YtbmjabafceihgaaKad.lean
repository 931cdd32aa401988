import Derived.Test.YtbmjabafceihgaaKac
set_option linter.unusedVariables false
set_option linter.unusedSimpArgs false
set_option maxRecDepth 100000
noncomputable section
namespace Go.Ev
mutual
def avd (lo hi : Nat) : ab → Bool
 | .ptr i _ => decide (i < lo) || decide (hi ≤ i)
 | .slice i _ _ _ _ => decide (i < lo) || decide (hi ≤ i)
 | .map i => decide (i < lo) || decide (hi ≤ i)
 | .emp i => decide (i < lo) || decide (hi ≤ i)
 | .dm i => decide (i < lo) || decide (hi ≤ i)
 | .vec i => decide (i < lo) || decide (hi ≤ i)
 | .func _ a b => Ce lo hi a && Ce lo hi b
 | .iface _ v => avd lo hi v
 | .agg cs => Ce lo hi cs
 | .tup vs => Ce lo hi vs
 | _ => true
def Ce (lo hi : Nat) : LA_ → Bool
 | [] => true
 | v :: vs => avd lo hi v && Ce lo hi vs
end
def J1 (lo hi : Nat) : am → Bool
 | .cells cs _ _ => Ce lo hi cs
 | .iter m _ _ _ => decide (m < lo) || decide (hi ≤ m)
 | _ => true
mutual
theorem J2 {f : Nat → Nat} {lo hi : Nat} (hf : ∀ i, i < lo ∨ hi ≤ i → f i = i) : ∀ v, avd lo hi v = true → rn f v = v
 | .bool _, _ | .int _ _, _ | .str _, _ | .dR, _ | .aL, _ | .eR, _ | .cN, _ | .dr, _ => rfl
 | .ptr i o, h | .slice i o l e c, h | .map i, h | .emp i, h | .dm i, h | .vec i, h => by
  simp only [avd, Bool.or_eq_true, UI] at h
  simp only [rn, hf i h]
 | .func g x y, h => by simp only [avd, UC] at h; simp only [rn, uw hf x h.1, uw hf y h.2]
 | .iface t v, h => by simp only [avd] at h; simp only [rn, J2 hf v h]
 | .agg x, h => by simp only [avd] at h; simp only [rn, uw hf x h]
 | .tup x, h => by simp only [avd] at h; simp only [rn, uw hf x h]
theorem uw {f : Nat → Nat} {lo hi : Nat} (hf : ∀ i, i < lo ∨ hi ≤ i → f i = i) : ∀ l, Ce lo hi l = true → rnL f l = l
 | [], _ => rfl
 | v :: vs, h => by simp only [Ce, UC] at h; simp only [rnL, J2 hf v h.1, uw hf vs h.2]
end
theorem Q6 {f : Nat → Nat} {lo hi : Nat} (hf : ∀ i, i < lo ∨ hi ≤ i → f i = i) : ∀ b, J1 lo hi b = true → rnB f b = b
 | .cells cs _ _, h => by simp only [J1] at h; simp only [rnB, uw hf cs h]
 | .vec _ _ _ _, _ => rfl
 | .map _ _, _ => rfl
 | .iter m _ _ _, h => by simp only [J1, Bool.or_eq_true, UI] at h; simp only [rnB, hf m h]
 | .jm, _ => rfl
 | .bM _ _, _ => rfl
 | .dead, _ => rfl
def lE (o : Oper) : Bool := (match o.op with
 | .alloc _ => true
 | .buildSlice .. => true
 | _ => false) && o.guard.isNone && o.dst.isSome
def dW (pf : FuncId → Nat) (all : List Oper) (ms : List Nat) : List Nat :=
 (List.range all.length).filter fun p => match all[p]? with
  | some o => ck pf o && all.zipIdx.any fun (oq, q) => ck pf oq && (decide (q < p) && !anc ms q p)
  | none => false
def kh (pf : FuncId → Nat) (all : List Oper) (ms g : List Nat) : Bool :=
 kr all && rz all ms && g.all fun p => (match all[p]? with
  | some o => lE o
  | none => false) && all.zipIdx.all fun (_, r) => !anc ms p r || all.zipIdx.all fun (oq, q) => !ck pf oq || !decide (q < p) || anc ms q r
def okN : am → Bool
 | .cells _ own _ => own
 | .vec _ _ _ own => own
 | _ => true
def Gf : Option am → am → Bool
 | some (.cells _ false _), .cells _ false _ => true
 | some (.vec _ _ _ false), .vec _ _ _ false => true
 | _, _ => false
def Gg (all : List Oper) (g : List Nat) (n0 hi : Nat) (s : St) (tr : List (St × ab)) (mems : List Mem) : Bool :=
 (mems.all fun σ => decide (hi ≤ σ.next)) && (g.isEmpty || ((mems.all fun σ => σ.bs.all fun (j, b) => (decide (j < n0) || decide (hi ≤ j)) && J1 n0 hi b && (okN b || (decide (j < n0) && Gf (s.mem.get j) b))) &&
 ((all.zip tr).zipIdx.all fun ((_, _, v), i) => g.contains i || avd n0 hi v) &&
 g.all fun p => match mems[p]?, mems[p + 1]? with
  | some σ, some σ' => (match σ'.get σ.next with
   | some b => scB n0 b
   | none => false)
  | _, _ => false))
def ol (pf : FuncId → Nat) (T : ar) (H : bT) (all : List Oper) (n0 : Nat) (s : St) : Option St :=
 match trace T H all all s with
 | some (tr, e) => if vy pf T H all (tr.map (·.1.mem) ++ [e.mem]) all (vz pf all) tr && Gg all (dW pf all (bc all [])) n0 s.mem.next s tr (tr.map (·.1.mem) ++ [e.mem]) then some e else none
 | none => none
section
variable {P : Program} {T : ar} {H : bT} {pf : FuncId → Nat}
theorem gl {all : List Oper} {ms : List Nat} {p : Nat} (h : p ∈ dW pf all ms) : ∃ o, all[p]? = some o ∧ ck pf o = true := by
 have h2 := (List.mem_filter.1 h).2
 cases ho : all[p]? with
 | none => rw [ho] at h2; cases h2
 | some o =>
  rw [ho] at h2
  simp only [UC] at h2
  exact ⟨o, rfl, h2.1⟩
theorem Sw {all : List Oper} {ms : List Nat} {q p : Nat} {oq op : Oper} (hq : all[q]? = some oq) (hp : all[p]? = some op) (mq : ck pf oq = true) (mp : ck pf op = true) (h : q < p) (hn : p ∉ dW pf all ms) : anc ms q p = true := by
 cases ha : anc ms q p with
 | true => rfl
 | false =>
  exfalso
  apply hn
  refine List.mem_filter.2 ⟨List.mem_range.2 (UL.1 hp).1, ?_⟩
  rw [hp]
  simp only [mp, Bool.true_and, List.any_eq_true]
  exact ⟨(oq, q), U0.2 hq, by simp [mq, h, ha]⟩
theorem Sx {all : List Oper} {ms g : List Nat} (h : kh pf all ms g = true) {p : Nat} {o : Oper} (hp : p ∈ g) (ho : all[p]? = some o) : lE o = true := by
 unfold kh at h
 simp only [UC, List.all_eq_true] at h
 have := (h.2 p hp).1
 rw [ho] at this
 exact this
theorem Sy {all : List Oper} {ms g : List Nat} (h : kh pf all ms g = true) {p r q : Nat} {or oq : Oper} (hp : p ∈ g) (hr : all[r]? = some or) (ha : anc ms p r = true) (hq : all[q]? = some oq) (mq : ck pf oq = true) (hqp : q < p) : anc ms q r = true := by
 unfold kh at h
 simp only [UC, List.all_eq_true] at h
 have h1 := (h.2 p hp).2 (or, r) (U0.2 hr)
 simp only [Bool.or_eq_true, Bool.not_eq_true', List.all_eq_true] at h1
 rcases h1 with h1 | h1
 ·rw [ha] at h1; cases h1
 ·have := h1 (oq, q) (U0.2 hq)
  simp only [mq, Bool.or_eq_true, Bool.not_eq_true', decide_eq_false_iff_not] at this
  rcases this with (h2 | h2) | h2
  ·cases h2
  ·exact absurd hqp h2
  ·exact h2
structure J3 (mk : Nat → ab) : Prop where
 val : ∀ (ρ ρ' : Nat → Loc) (n m : Nat), ρ n = ρ' m → γ ρ (mk n) = γ ρ' (mk m)
 scp : ∀ k n, n < k → sc k (mk n) = true
 ren : ∀ f n, rn f (mk n) = mk (f n)
 avo : ∀ lo hi n, n < lo ∨ hi ≤ n → avd lo hi (mk n) = true
theorem Sz : J3 fun n => .ptr n 0 := ⟨fun ρ ρ' n m h => by simp only [γ, h], fun k n h => by simpa [sc] using h, fun f n => rfl, fun lo hi n h => by simpa [avd] using h⟩
theorem Pa (l : Nat) (x : Bool) (c : Nat) : J3 fun n => .slice n 0 l x c := ⟨fun ρ ρ' n m h => by simp only [γ, h], fun k n h => by simpa [sc] using h, fun f n => rfl, fun lo hi n h => by simpa [avd] using h⟩
theorem Lj (q : Bool) (cs : LA_) : (uj q cs).owned = true := by
 unfold uj
 split
 ·rename_i h
  simp only [UC] at h
  simpa [am.owned] using h.2
 ·rfl
theorem Pb {o : Oper} (hn : lE o = true) {tm : LA_} {σ σ' : Mem} {v : ab} (h : aM T H o.op tm σ = some (.val v, σ')) :
  ∃ mk b, J3 mk ∧ v = mk σ.next ∧ σ' = σ.push b ∧ b.owned = true ∧ ∀ σ2, aM T H o.op tm σ2 = some (.val (mk σ2.next), σ2.push b) := by
 simp only [lE, UC] at hn
 obtain ⟨⟨hn, _⟩, _⟩ := hn
 split at hn
 ·rename_i t hop
  rw [hop] at h ⊢
  simp only [aM] at h ⊢
  cases hT : T t with
  | none => rw [hT] at h; cases h
  | some ti =>
   rw [hT] at h
   simp only [UB, UD, cF.val.injEq] at h
   exact ⟨_, _, Sz, h.1.symm, h.2.symm, Lj _ _, fun σ2 => rfl⟩
 ·rename_i t n ps hop
  rw [hop] at h ⊢
  simp only [aM] at h ⊢
  cases hv : evP tm ps.toList with
  | none => rw [hv] at h; cases h
  | some vs =>
   rw [hv] at h
   simp only at h ⊢
   obtain ⟨⟨v1, σ1⟩, h1, h2⟩ := UM.1 h
   simp only [UD, cF.val.injEq] at h2
   obtain ⟨rfl, rfl⟩ := h2
   unfold iK at h1 ⊢
   split at h1
   ·rename_i e he
    cases hj : T e with
    | none => rw [hj] at h1; cases h1
    | some j =>
     rw [hj] at h1
     simp only at h1 ⊢
     split at h1
     ·cases h1
     ·rename_i hb
      split at h1
      ·cases h1
      ·rename_i cs hcs
       simp only [UB, UD] at h1
       refine ⟨fun n' => .slice n' 0 n true n, .cells cs true (some j.size), Pa _ _ _, h1.1.symm, h1.2.symm, rfl, fun σ2 => ?_⟩
       rw [if_neg hb]
       rfl
   ·cases h1
 ·cases hn
theorem J4 {all : List Oper} {o : Oper} (hn : lE o = true) {st : St} {σ' : Mem} {v : ab} (h : cR T H all o st = some (v, σ')) :
  ∃ mk b, J3 mk ∧ v = mk st.mem.next ∧ σ' = st.mem.push b ∧ b.owned = true ∧ ∀ σ2, cR T H all o ⟨st.tm, st.df, σ2⟩ = some (mk σ2.next, σ2.push b) := by
 have hg : o.guard = none := by
  simp only [lE, UC] at hn
  simpa using hn.1.2
 have hgj : ∀ tm, gj all o tm = false := fun tm => by unfold gj; rw [hg]
 have hw : ∀ tm, br all o tm = true := fun tm => by unfold br; rw [hg]
 unfold cR at h
 rw [hgj, hw] at h
 simp only [UE, if_false, if_true] at h
 cases hx : aM T H o.op st.tm st.mem with
 | none => rw [hx] at h; cases h
 | some r =>
  obtain ⟨r, σ1⟩ := r
  rw [hx] at h
  cases r with
  | val v1 =>
   simp only [UB, UD] at h
   obtain ⟨rfl, rfl⟩ := h
   obtain ⟨mk, b, h1, h2, h3, h4, h5⟩ := Pb hn hx
   refine ⟨mk, b, h1, h2, h3, h4, fun σ2 => ?_⟩
   unfold cR
   rw [hgj, hw]
   simp only [UE, if_false, if_true, h5 σ2]
  | skip =>
   exfalso
   simp only [lE, UC] at hn
   obtain ⟨⟨hn, _⟩, _⟩ := hn
   split at hn
   ·rename_i t hop
    rw [hop] at hx
    simp only [aM] at hx
    cases hT : T t with
    | none => rw [hT] at hx; cases hx
    | some ti => rw [hT] at hx; simp at hx
   ·rename_i t n ps hop
    rw [hop] at hx
    simp only [aM] at hx
    cases hv : evP st.tm ps.toList with
    | none => rw [hv] at hx; cases hx
    | some vs =>
     rw [hv] at hx
     obtain ⟨⟨v1, σ1⟩, h1, h2⟩ := UM.1 hx
     simp at h2
   ·cases hn
  | pan v1 => cases h
  | dfr d => cases h
structure Pc (pf : FuncId → Nat) (T : ar) (H : bT) (all : List Oper) (g : List Nat) (n0 : Nat) (s e : St) (S : Nat → St) (V : Nat → ab) : Prop extends Run0 pf T H all s e S V where
 nxt : ∀ c, c ≤ all.length → s.mem.next ≤ (S c).mem.next
 bs : ∀ p ∈ g, ∀ c j b, c ≤ all.length → (S c).mem.get j = some b → (j < n0 ∨ s.mem.next ≤ j) ∧ J1 n0 s.mem.next b = true ∧ (okN b = true ∨ (j < n0 ∧ Gf (s.mem.get j) b = true))
 avV : ∀ p ∈ g, ∀ i, i < all.length → i ∉ g → avd n0 s.mem.next (V i) = true
 blk : ∀ p ∈ g, ∃ b, (S (p + 1)).mem.get (S p).mem.next = some b ∧ scB n0 b = true
theorem get_mem {σ : Mem} {j : Nat} {b : am} (h : σ.get j = some b) : (j, b) ∈ σ.bs := by
 unfold Mem.get at h
 revert h
 generalize σ.bs = l
 induction l with
 | nil => intro h; cases h
 | cons x l ih =>
  intro h
  obtain ⟨i, c⟩ := x
  simp only [look] at h
  split at h
  ·rename_i hi
   rw [beq_iff_eq] at hi
   cases h
   rw [hi]
   exact List.mem_cons_self ..
  ·exact List.mem_cons_of_mem _ (ih h)
theorem Q7 (hP : eX pf H) {all : List Oper} {n0 : Nat} {s e : St} (h : ol pf T H all n0 s = some e) :
  ∃ S V, Pc pf T H all (dW pf all (bc all [])) n0 s e S V := by
 unfold ol at h
 split at h
 ·rename_i tr e' htr
  split at h
  ·rename_i hh
   cases h
   rw [UC] at hh
   obtain ⟨hrd, hd⟩ := hh
   have hrd' : rA pf T H all (bc all []) (tr.map (·.1.mem) ++ [e.mem]) all 0 tr = true := Iq (all := all) all [] tr rfl (by simpa [vz] using hrd)
   obtain ⟨S, V, r, h1, h2, h3⟩ := Q8 hP htr hrd'
   refine ⟨S, V, ⟨r, ?_, ?_, ?_, ?_⟩⟩
   all_goals
    unfold Gg at hd
    simp only [UC, Bool.or_eq_true, List.all_eq_true, UI] at hd
    obtain ⟨hnx, hd⟩ := hd
   ·intro c hc
    exact hnx _ (List.mem_of_getElem? (h3 c hc))
   ·intro p hp c j b hc hj
    rcases hd with hd | ⟨⟨hm, hv⟩, hb⟩
    ·rw [List.isEmpty_iff] at hd; rw [hd] at hp; cases hp
    have := hm _ (List.mem_of_getElem? (h3 c hc)) (j, b) (get_mem hj)
    simp only [Bool.or_eq_true, UI, UC] at this
    exact ⟨this.1.1, this.1.2, this.2⟩
   ·intro p hp i hi hn
    rcases hd with hd | ⟨⟨hm, hv⟩, hb⟩
    ·rw [List.isEmpty_iff] at hd; rw [hd] at hp; cases hp
    have := hv ((all[i], S i, V i), i) (U0.2 (by rw [List.getElem?_zip_eq_some]; exact ⟨UJ hi, h2 i hi⟩))
    simp only [Bool.or_eq_true, List.contains_iff_mem] at this
    exact this.resolve_left hn
   ·intro p hp
    rcases hd with hd | ⟨⟨hm, hv⟩, hb⟩
    ·rw [List.isEmpty_iff] at hd; rw [hd] at hp; cases hp
    obtain ⟨o, ho, _⟩ := gl hp
    have hpl := (UL.1 ho).1
    have := hb p hp
    rw [h3 p (by omega), h3 (p + 1) (by omega)] at this
    simp only at this
    split at this
    ·rename_i b hb'; exact ⟨b, hb', this⟩
    ·cases this
  ·cases h
 ·cases h
def spn (g : List Nat) (n0 p : Nat) : Nat := n0 + cnt g p
def Jp (w0 : W0) (ρ0 : Nat → Loc) (s : St) (k : Nat) : Prop := w0.fG k ∨ ∃ j b, s.mem.get j = some b ∧ b.alive = true ∧ b.owned = false ∧ (ρ0 j).blk = k
structure PE (w0 : W0) (ρ0 : Nat → Loc) (all : List Oper) (g : List Nat) (n0 : Nat) (s : St) (S : Nat → St) (V : Nat → ab) (ρ : Nat → Loc) (tm' : LA_) (w : World) (p : Nat) : Prop where
 ex : ∃ mk b, J3 mk ∧ V p = mk (S p).mem.next ∧ (S (p + 1)).mem = (S p).mem.push b ∧ b.owned = true ∧ scB n0 b = true ∧ BOk ρ (ρ (spn g n0 p)) w b ∧
  ∀ o t, all[p]? = some o → o.dst = some t → t < s.tm.length → tm'[t]? = some (mk (spn g n0 p))
 inb : (ρ (spn g n0 p)).blk < w.heap.size
 nb : ¬ Jp w0 ρ0 s (ρ (spn g n0 p)).blk
structure InvF (pf : FuncId → Nat) (w0 : W0) (ρ0 : Nat → Loc) (all : List Oper) (g : List Nat) (n0 : Nat) (s : St) (S : Nat → St) (V : Nat → ab) (L : Nat → Bool) (c : Nat) (a : Act) (w : World) : Prop where
 st : ∃ ρ tm' wc, wc.w = w ∧ (∀ k, Jp w0 ρ0 s k → wc.fG k) ∧ (∀ p ∈ g, c ≤ p → L p = true → wc.fG (ρ (spn g n0 p)).blk) ∧ bF wc ρ ⟨tm', s.df, (S c).mem⟩ a w ∧ (∀ i, i < n0 → ρ i = ρ0 i) ∧ tm'.length = s.tm.length ∧
  (∀ t, (∀ j o, L j = true → all[j]? = some o → o.dst ≠ some t) → tm'[t]? = s.tm[t]?) ∧
  (∀ j o t, L j = true → (j ∉ g ∨ j < c) → all[j]? = some o → o.dst = some t → t < s.tm.length → tm'[t]? = some (V j)) ∧
  (∀ p ∈ g, c ≤ p → L p = true → PE w0 ρ0 all g n0 s S V ρ tm' w p) ∧
  ∀ p ∈ g, ∀ q ∈ g, c ≤ p → c ≤ q → L p = true → L q = true → p ≠ q → (ρ (spn g n0 p)).blk ≠ (ρ (spn g n0 q)).blk
 base : w.os = w0.w.os ∧ w.tape = w0.w.tape ∧ w.output = w0.w.output ∧ w0.w.heap.size ≤ w.heap.size ∧ ∀ k, w0.fG k → w.heap[k]? = w0.w.heap[k]?
 closed : lF all L
 inb : ∀ j, L j = true → j < all.length
 cut : c ∈ vA pf all
 cle : c ≤ all.length
 mem : ∀ q o, all[q]? = some o → ck pf o = true → (q < c → L q = true) ∧ (L q = true → q < c ∨ q ∈ g)
structure J5 (pf : FuncId → Nat) (w0 : W0) (ρ0 : Nat → Loc) (all : List Oper) (g : List Nat) (n0 : Nat) (s : St) (S : Nat → St) (V : Nat → ab) (L : Nat → Bool) (c : Nat) (a : Act) (w : World) : Prop extends InvF pf w0 ρ0 all g n0 s S V L c a w where
 front : ∀ p ∈ g, c ≤ p → L p = true → ∃ q o, all[q]? = some o ∧ ck pf o = true ∧ c ≤ q ∧ q < p ∧ L q = false
theorem Rel.Cf {w1 w2 : W0} {ρ : Nat → Loc} {σ : Mem} {w : World} (h : Rel w1 ρ σ w) (hw : w2.w = w) (hp : ∀ k, w2.fG k → ∀ i b, σ.get i = some b → b.owned = true → (ρ i).blk = k → w1.fG k) : Rel w2 ρ σ w :=
 ⟨h.lt, h.sco, h.ok, h.inb, h.ap, fun i b hi ho hk => h.own i b hi ho (hp _ hk i b hi ho rfl), by rw [hw], by rw [hw], by rw [hw], by rw [hw]; exact Nat.le_refl _, fun k _ => by rw [hw]⟩
theorem bF.Cf {w1 w2 : W0} {ρ : Nat → Loc} {s : St} {a : Act} {w : World} (h : bF w1 ρ s a w) (hw : w2.w = w) (hp : ∀ k, w2.fG k → ∀ i b, s.mem.get i = some b → b.owned = true → (ρ i).blk = k → w1.fG k) : bF w2 ρ s a w :=
 ⟨h.rel.Cf hw hp, h.tm, h.sct, h.df, h.scd⟩
theorem NL {w0 wc : W0} {w w' : World} {ρ : Nat → Loc} {σ : Mem} (hw : wc.w = w) (hb : w.os = w0.w.os ∧ w.tape = w0.w.tape ∧ w.output = w0.w.output ∧ w0.w.heap.size ≤ w.heap.size ∧ ∀ k, w0.fG k → w.heap[k]? = w0.w.heap[k]?)
  (hp : ∀ k, w0.fG k → wc.fG k) (h : Rel wc ρ σ w') : w'.os = w0.w.os ∧ w'.tape = w0.w.tape ∧ w'.output = w0.w.output ∧ w0.w.heap.size ≤ w'.heap.size ∧ ∀ k, w0.fG k → w'.heap[k]? = w0.w.heap[k]? := by
 obtain ⟨b1, b2, b3, b4, b5⟩ := hb
 have h1 := h.os; have h2 := h.tape; have h3 := h.output; have h4 := h.size
 rw [hw] at h1 h2 h3 h4
 refine ⟨h1.trans b1, h2.trans b2, h3.trans b3, Nat.le_trans b4 h4, fun k hk => ?_⟩
 have := h.old k (hp k hk)
 rw [hw] at this
 exact this.trans (b5 k hk)
section
variable {all : List Oper} {g : List Nat} {n0 : Nat} {s e : St} {S : Nat → St} {V : Nat → ab} {w0 : W0} {ρ0 : Nat → Loc} {L : Nat → Bool} {c : Nat} {a : Act} {w : World}
theorem J5.seen (hI : J5 pf w0 ρ0 all g n0 s S V L c a w) (hst : kh pf all (bc all []) g = true) (hed : kr all = true) {i : Nat} {o : Oper} (hio : all[i]? = some o) (hr : ∀ e ∈ o.after, Region.binds .any e = true → L e.on = true)
  {j : Nat} (hj : anc (bc all []) j i = true) : j ∉ g ∨ j < c := by
 by_cases hg : j ∈ g
 ·right
  rcases Nat.lt_or_ge j c with h | h
  ·exact h
  ·exfalso
   have hanc := jW hed hI.closed i i o (Nat.le_refl _) hio hr
   obtain ⟨q, oq, q1, q2, q3, q4, q5⟩ := hI.front j hg h (hanc j hj)
   have := hanc q (Sy hst hg hio hj q1 q2 q4)
   rw [q5] at this; cases this
 ·exact .inl hg
theorem E8 (hpr : rz all (bc all []) = true) {i : Nat} {o : Oper} (hio : all[i]? = some o) {tm' : LA_} {v : ab} (h4 : tm'.length = s.tm.length)
  (h5 : ∀ t, (∀ j o, L j = true → all[j]? = some o → o.dst ≠ some t) → tm'[t]? = s.tm[t]?) {N : Nat → Prop}
  (h6 : ∀ j o t, L j = true → N j → all[j]? = some o → o.dst = some t → t < s.tm.length → tm'[t]? = some (V j)) :
  (bJ tm' o.dst v).length = s.tm.length ∧ (∀ t, (∀ j o, (L j || j == i) = true → all[j]? = some o → o.dst ≠ some t) → (bJ tm' o.dst v)[t]? = s.tm[t]?) ∧
  (∀ j oj t, (L j || j == i) = true → j ≠ i → N j → all[j]? = some oj → oj.dst = some t → t < s.tm.length → (bJ tm' o.dst v)[t]? = some (V j)) ∧
  (∀ t, o.dst = some t → t < s.tm.length → (bJ tm' o.dst v)[t]? = some v) ∧
  ∀ j oj t, j ≠ i → all[j]? = some oj → oj.dst = some t → (bJ tm' o.dst v)[t]? = tm'[t]? := by
 have other : ∀ j oj t, j ≠ i → all[j]? = some oj → oj.dst = some t → (bJ tm' o.dst v)[t]? = tm'[t]? := by
  intro j oj t hji hjo hd
  have hdd := (rB hpr hjo hio).1 hji t
  simp only [bJ]
  split
  ·rename_i d hd2
   rw [List.getElem?_set_ne (fun q => hdd d hd hd2 q.symm)]
  ·rfl
 refine ⟨?_, ?_, ?_, ?_, other⟩
 ·simp only [bJ]; split <;> simp [h4]
 ·intro t ht
  have ht' : ∀ j oj, L j = true → all[j]? = some oj → oj.dst ≠ some t := fun j oj hj => ht j oj (by rw [hj, Bool.true_or])
  have hne2 := ht i o (by simp) hio
  simp only [bJ]
  split
  ·rename_i d hd
   rw [List.getElem?_set_ne (fun q => hne2 (by rw [hd, q]))]
   exact h5 t ht'
  ·exact h5 t ht'
 ·intro j oj t hj hji hN hjo hd hlt3
  have hj2 : L j = true := by
   have e : (j == i) = false := by simp [hji]
   rw [e, Bool.or_false] at hj; exact hj
  rw [other j oj t hji hjo hd]
  exact h6 j oj t hj2 hN hjo hd hlt3
 ·intro t hd hlt
  simp only [bJ, hd]
  rw [List.getElem?_set_self (Nat.lt_of_lt_of_eq hlt h4.symm)]
theorem PE.next {ρ ρ' : Nat → Loc} {tm' tm2 : LA_} {w' : World} {p : Nat} (h : PE w0 ρ0 all g n0 s S V ρ tm' w p) (hs : ρ' (spn g n0 p) = ρ (spn g n0 p)) (hρ : ∀ i, i < n0 → ρ' i = ρ i)
  (hw : w'.heap[(ρ (spn g n0 p)).blk]? = w.heap[(ρ (spn g n0 p)).blk]?) (hsz : w.heap.size ≤ w'.heap.size) (ht : ∀ o t, all[p]? = some o → o.dst = some t → tm2[t]? = tm'[t]?) : PE w0 ρ0 all g n0 s S V ρ' tm2 w' p := by
 obtain ⟨mk, b, h1, h2, h3, h4, h5, h6, h7⟩ := h.ex
 refine ⟨⟨mk, b, h1, h2, h3, h4, h5, ?_, fun o t q1 q2 q3 => by rw [ht o t q1 q2]; exact h7 o t q1 q2 q3⟩, ?_, ?_⟩
 ·rw [hs]; exact cr (n := n0) hρ hw b h5 h6
 ·rw [hs]; have := h.inb; omega
 ·rw [hs]; exact h.nb
theorem yy {p : Nat} (hp : p ∈ g) (hg : g.Pairwise (· < ·)) (hb : ∀ x ∈ g, x < all.length) : spn g n0 p < n0 + g.length := by
 unfold spn cnt
 have h1 : ((List.range p).filter fun i => g.contains i).length < ((List.range (p + 1)).filter fun i => g.contains i).length := by
  rw [List.range_succ, List.filter_append, UQ]
  simp [List.contains_iff_mem, hp]
 have h2 : ((List.range (p + 1)).filter fun i => g.contains i).length ≤ g.length := by
  refine (List.Nodup.sublist List.filter_sublist List.nodup_range).length_le_of_subset fun x hx => ?_
  have := (List.mem_filter.1 hx).2
  simpa [List.contains_iff_mem] using this
 omega
end
theorem Pd {p : Nat → Prop} : ∀ n, p n → ∃ m, p m ∧ m ≤ n ∧ ∀ k, k < m → ¬ p k := by
 intro n
 induction n using Nat.strongRecOn with
 | _ n ih =>
  intro h
  by_cases hh : ∃ k, k < n ∧ p k
  ·obtain ⟨k, hk, hp⟩ := hh
   obtain ⟨m, h1, h2, h3⟩ := ih k hk hp
   exact ⟨m, h1, by omega, h3⟩
  ·exact ⟨n, h, Nat.le_refl _, fun k hk hp => hh ⟨k, hk, hp⟩⟩
theorem NM {b : am} (h : okN b = true) (ha : b.alive = true) : b.owned = true := by
 cases b <;> simp_all [okN, am.alive, am.owned]
theorem J6 {ρ ρ0 : Nat → Loc} {w w1 : World} {j : Nat} {b : am} {x : Option am} (hs : Gf x b = true) (hρ : ρ j = ρ0 j) (hb : BOk ρ (ρ j) w b) (ha : b.alive = true) (hx : ∀ y, x = some y → BOk ρ0 (ρ0 j) w1 y) :
  ∃ y, x = some y ∧ y.alive = true ∧ y.owned = false := by
 unfold Gf at hs
 split at hs
 ·exact ⟨_, rfl, rfl, rfl⟩
 ·rename_i cs' n' sz' cs n sz
  refine ⟨_, rfl, ?_, by simp [am.owned]⟩
  have h0 := hx _ rfl
  simp only [BOk] at h0 hb
  rw [hρ] at hb
  obtain ⟨e0, h0⟩ := h0
  obtain ⟨e1, hb⟩ := hb
  simp only [am.alive, Bool.not_eq_true', List.isEmpty_eq_false_iff] at ha ⊢
  rcases h0 with ⟨z, _⟩ | ⟨z, _⟩
  ·exfalso
   rcases hb with ⟨_, z2, _⟩ | ⟨_, _, z3, _⟩
   ·exact ha z2
   ·apply ha
    have : n = 0 := by omega
    rw [this, Nat.zero_mul] at z3
    exact List.length_eq_zero_iff.1 z3
  ·exact z
 ·cases hs
section
variable {all : List Oper} {g : List Nat} {n0 : Nat} {s e : St} {S : Nat → St} {V : Nat → ab} {w0 : W0} {ρ0 : Nat → Loc} {L : Nat → Bool} {a : Act} {w : World}
theorem adv (hP : eX pf H) (hpr : rz all (bc all []) = true) (hg : g = dW pf all (bc all [])) (hnew : ∀ p ∈ g, ∀ o, all[p]? = some o → lE o = true) (hrun : Pc pf T H all g n0 s e S V)
  (hn : n0 + g.length ≤ s.mem.next) {w1 : World} (hst0 : ∀ j b, s.mem.get j = some b → BOk ρ0 (ρ0 j) w1 b) :
  ∀ k c, all.length - c ≤ k → InvF pf w0 ρ0 all g n0 s S V L c a w → ∃ c, J5 pf w0 ρ0 all g n0 s S V L c a w := by
 intro k
 induction k with
 | zero =>
  intro c hk hF
  refine ⟨c, hF, fun p hp hcp hL => ?_⟩
  have := hF.inb p hL
  omega
 | succ k ih =>
  intro c hk hF
  by_cases hfr : ∀ p ∈ g, c ≤ p → L p = true → ∃ q o, all[q]? = some o ∧ ck pf o = true ∧ c ≤ q ∧ q < p ∧ L q = false
  ·exact ⟨c, hF, hfr⟩
  ·obtain ⟨p0, hp0⟩ := Classical.not_forall.1 hfr
   simp only [Classical.not_imp] at hp0
   obtain ⟨g0, c0, l0, hno⟩ := hp0
   obtain ⟨p, ⟨pg, pc, pl⟩, ple, pmin⟩ := Pd (p := fun p => p ∈ g ∧ c ≤ p ∧ L p = true) p0 ⟨g0, c0, l0⟩
   have hbet : ∀ q o, all[q]? = some o → ck pf o = true → c ≤ q → q < p → False := by
    intro q o q1 q2 q3 q4
    cases hL : L q with
    | false => exact hno ⟨q, o, q1, q2, q3, by omega, hL⟩
    | true =>
     rcases (hF.mem q o q1 q2).2 hL with h | h
     ·omega
     ·exact pmin q q4 ⟨h, q3, hL⟩
   obtain ⟨op, hop, hmp⟩ : ∃ o, all[p]? = some o ∧ ck pf o = true := by rw [hg] at pg; exact gl pg
   have hpl := (UL.1 hop).1
   have hmem : (S p).mem = (S c).mem := by
    have := Run0.CP hP hrun.toRun0 (c := c) (p - c) (by omega) fun q o q1 q2 q3 => by
     cases hq : ck pf o with
     | false => rfl
     | true => exact (hbet q o q3 hq q1 (by omega)).elim
    rwa [show c + (p - c) = p by omega] at this
   obtain ⟨ρ, tm', wc, hwc, hbp, hpp, hR, hρ, h4, h5, h6, hPE, hds⟩ := hF.st
   have pe := hPE p pg pc pl
   obtain ⟨mk, b, k1, k2, k3, k4, k5, k6, k7⟩ := pe.ex
   rw [hmem] at k2 k3
   obtain ⟨t, ht⟩ : ∃ t, op.dst = some t := by
    have := hnew p pg op hop
    simp only [lE, UC] at this
    exact Option.isSome_iff_exists.1 this.2
   have hR' : Rel wc ρ (S c).mem w := hR.rel
   have hcle := hF.cle
   have hnx := hrun.nxt c hcle
   have hspn := yy (n0 := n0) pg (by rw [hg]; exact List.Pairwise.filter _ List.pairwise_lt_range) (fun x hx => by rw [hg] at hx; obtain ⟨o, ho, _⟩ := gl hx; exact (UL.1 ho).1)
   have hn0 : n0 ≤ (S c).mem.next := by omega
   have ag : ∀ i, i < (S c).mem.next → upd ρ (S c).mem.next (ρ (spn g n0 p)) i = ρ i := fun i hi => dU hi
   have hblk : wc.fG (ρ (spn g n0 p)).blk := hpp p pg pc pl
   have hself : upd ρ (S c).mem.next (ρ (spn g n0 p)) (S c).mem.next = ρ (spn g n0 p) := bw ..
   have far : ∀ j bj, (S c).mem.get j = some bj → bj.alive = true → (ρ j).blk ≠ (ρ (spn g n0 p)).blk := by
    intro j bj hj ha he
    have hjl := hR'.lt j bj hj
    have own : bj.owned = true → False := fun ho => hR'.own j bj hj ho (by rw [he]; exact hblk)
    rcases (hrun.bs p pg c j bj hcle hj).2.2 with h | ⟨h1, h2⟩
    ·exact own (NM h ha)
    ·obtain ⟨y, e1, e2, e3⟩ := J6 h2 (hρ j h1) (hR'.ok j bj hj) ha (fun y hy => hst0 j y hy)
     exact pe.nb (.inr ⟨j, y, e1, e2, e3, by rw [← he, hρ j h1]⟩)
   refine ih (p + 1) (by omega) ⟨⟨upd ρ (S c).mem.next (ρ (spn g n0 p)), bJ tm' op.dst (V p), ⟨w, fun k => wc.fG k ∧ k ≠ (ρ (spn g n0 p)).blk, fun k hk => by have := wc.lt k hk.1; rw [hwc] at this; exact this⟩, rfl, ?_, ?_, ?_, ?_, ?_, ?_, ?_, ?_, ?_⟩, hF.base, hF.closed, hF.inb, Ir hop hmp, by omega, ?_⟩
   ·exact fun k hk => ⟨hbp k hk, fun e => pe.nb (e ▸ hk)⟩
   ·intro q qg qc ql
    have hq := yy (n0 := n0) qg (by rw [hg]; exact List.Pairwise.filter _ List.pairwise_lt_range) (fun x hx => by rw [hg] at hx; obtain ⟨o, ho, _⟩ := gl hx; exact (UL.1 ho).1)
    rw [ag _ (by omega)]
    exact ⟨hpp q qg (by omega) ql, hds q qg p pg (by omega) pc ql pl (by omega)⟩
   ·
    rw [k3]
    refine ⟨⟨?_, ?_, ?_, ?_, ?_, ?_, rfl, rfl, rfl, Nat.le_refl _, fun _ _ => rfl⟩, ?_, ?_, ?_, ?_⟩
    ·intro i bi hi
     rw [bU] at hi
     split at hi
     ·rename_i e; rw [dJ]; omega
     ·have := hR'.lt i bi hi; rw [dJ]; omega
    ·intro i bi hi
     rw [bU] at hi
     rw [dJ]
     split at hi
     ·cases hi; exact fU (by omega) _ k5
     ·exact fU (by omega) _ (hR'.sco i bi hi)
    ·intro i bi hi
     rw [bU] at hi
     split at hi
     ·rename_i e
      cases hi
      rw [← e, hself]
      exact cr (n := n0) (fun i hi => ag i (by omega)) rfl b k5 k6
     ·have hl := hR'.lt i bi hi
      rw [ag i hl]
      exact cr (n := (S c).mem.next) ag rfl bi (hR'.sco i bi hi) (hR'.ok i bi hi)
    ·intro i bi hi ha
     rw [bU] at hi
     split at hi
     ·rename_i e; rw [← e, hself]; exact pe.inb
     ·rw [ag i (hR'.lt i bi hi)]; exact hR'.inb i bi hi ha
    ·intro i j bi bj hi hj hij hoi haj
     rw [bU] at hi hj
     split at hi
     ·rename_i e
      rw [← e, hself]
      split at hj
      ·rename_i e2; omega
      ·rw [ag j (hR'.lt j bj hj)]
       exact fun h => far j bj hj haj h.symm
     ·rw [ag i (hR'.lt i bi hi)]
      split at hj
      ·rename_i e2
       rw [← e2, hself]
       exact far i bi hi (am.dT hoi)
      ·rw [ag j (hR'.lt j bj hj)]
       exact hR'.ap i j bi bj hi hj hij hoi haj
    ·intro i bi hi ho
     rw [bU] at hi
     split at hi
     ·rename_i e; rw [← e, hself]; exact fun h => h.2 rfl
     ·rw [ag i (hR'.lt i bi hi)]; exact fun h => hR'.own i bi hi ho h.1
    ·rw [hR.tm]
     congr 1
     apply List.ext_getElem?
     intro x
     simp only [gZ]
     by_cases hx : x = t
     ·subst hx
      simp only [bJ, ht]
      rcases Nat.lt_or_ge x tm'.length with hl | hl
      ·rw [List.getElem?_set_self hl, k7 op x hop ht (Nat.lt_of_lt_of_eq hl h4), US, US, k2, k1.val _ _ _ _ hself]
      ·rw [List.getElem?_eq_none hl, List.getElem?_eq_none (by simpa using hl)]; rfl
     ·simp only [bJ, ht]
      rw [List.getElem?_set_ne (Ne.symm hx)]
      cases hv : tm'[x]? with
      | none => rfl
      | some v =>
       rw [US, US]
       exact congrArg some (fT ag v ((gA _ _).1 hR.sct v (List.mem_of_getElem? hv))).symm
    ·rw [dJ]
     have h1 := cf (Nat.le_succ _) _ hR.sct
     simp only [bJ, ht]
     refine uv h1 ?_
     rw [k2]
     exact k1.scp _ _ (Nat.lt_succ_self _)
    ·rw [hR.df]
     apply List.map_congr_left
     intro d hd
     have h2 := hR.scd d hd
     simp only [γD, cI ag _ h2.1, cI ag _ h2.2]
    ·intro d hd
     rw [dJ]
     exact ⟨cf (Nat.le_succ _) _ (hR.scd d hd).1, cf (Nat.le_succ _) _ (hR.scd d hd).2⟩
   ·exact fun i hi => (ag i (by omega)).trans (hρ i hi)
   ·simp only [bJ, ht]; simp [h4]
   ·intro x hx
    have hne : x ≠ t := fun e => hx p op pl hop (by rw [ht, e])
    simp only [bJ, ht]
    rw [List.getElem?_set_ne (Ne.symm hne)]
    exact h5 x hx
   ·intro j oj x hj hjg hoj hdj hlt
    by_cases hjp : j = p
    ·subst hjp
     rw [hop] at hoj; cases hoj
     simp only [bJ, hdj]
     rw [List.getElem?_set_self (Nat.lt_of_lt_of_eq hlt h4.symm)]
    ·have hne := (rB hpr hoj hop).1 hjp x t hdj ht
     simp only [bJ, ht]
     rw [List.getElem?_set_ne (Ne.symm hne)]
     refine h6 j oj x hj ?_ hoj hdj hlt
     rcases hjg with h | h
     ·exact .inl h
     ·by_cases hjg2 : j ∈ g
      ·right
       obtain ⟨o2, ho2, hm2⟩ : ∃ o, all[j]? = some o ∧ ck pf o = true := by rw [hg] at hjg2; exact gl hjg2
       rcases Nat.lt_or_ge j c with h2 | h2
       ·exact h2
       ·exact (hbet j o2 ho2 hm2 h2 (by omega)).elim
      ·exact .inl hjg2
   ·intro q qg qc ql
    have hq := yy (n0 := n0) qg (by rw [hg]; exact List.Pairwise.filter _ List.pairwise_lt_range) (fun x hx => by rw [hg] at hx; obtain ⟨o, ho, _⟩ := gl hx; exact (UL.1 ho).1)
    refine (hPE q qg (by omega) ql).next (ag _ (by omega)) (fun i hi => ag i (by omega)) rfl (Nat.le_refl _) fun o x q1 q2 => ?_
    have hne := (rB hpr q1 hop).1 (show q ≠ p by omega) x t q2 ht
    simp only [bJ, ht]
    rw [List.getElem?_set_ne (Ne.symm hne)]
   ·intro q qg r rg qc rc ql rl hqr
    have hq := yy (n0 := n0) qg (by rw [hg]; exact List.Pairwise.filter _ List.pairwise_lt_range) (fun x hx => by rw [hg] at hx; obtain ⟨o, ho, _⟩ := gl hx; exact (UL.1 ho).1)
    have hr := yy (n0 := n0) rg (by rw [hg]; exact List.Pairwise.filter _ List.pairwise_lt_range) (fun x hx => by rw [hg] at hx; obtain ⟨o, ho, _⟩ := gl hx; exact (UL.1 ho).1)
    rw [ag _ (by omega), ag _ (by omega)]
    exact hds q qg r rg (by omega) (by omega) ql rl hqr
   ·intro q o q1 q2
    refine ⟨fun hq => ?_, fun hq => ?_⟩
    ·rcases Nat.lt_or_ge q c with h | h
     ·exact (hF.mem q o q1 q2).1 h
     ·by_cases hqp : q = p
      ·rw [hqp]; exact pl
      ·exact (hbet q o q1 q2 h (by omega)).elim
    ·rcases (hF.mem q o q1 q2).2 hq with h | h
     ·exact .inl (by omega)
     ·exact .inr h
end
theorem Lk {ops : Array Oper} (hT : aZ P T) (hH : jo P H) (hP : eX pf H) {g : List Nat} {n0 : Nat} {s e : St} {S : Nat → St} {V : Nat → ab} (hg : g = dW pf ops.toList (bc ops.toList []))
  (hst : kh pf ops.toList (bc ops.toList []) g = true) (hrun : Pc pf T H ops.toList g n0 s e S V) (hn : n0 + g.length ≤ s.mem.next) (hstm : scL n0 s.tm = true) (hsdf : ∀ d ∈ s.df, scL n0 d.cap = true ∧ scL n0 d.args = true)
  {w0 : W0} {ρ0 : Nat → Loc} {w1 : World} (hst0 : ∀ j b, s.mem.get j = some b → BOk ρ0 (ρ0 j) w1 b) {Q : Exit → Act → World → Prop}
  (hQ : ∀ ρ' a' w', bF w0 ρ' e a' w' → (∀ i, i < n0 → ρ' i = ρ0 i) → n0 ≤ e.mem.next → Q .normal a' w') :
  ∀ (fuel : Nat) (listed : Array Bool) (a : Act) (w : World), listed.size = ops.size → lG (fun i => listed.getD i false) ops.toList.length ≤ fuel →
   (∃ c, J5 pf w0 ρ0 ops.toList g n0 s S V (fun i => listed.getD i false) c a w) → wpAny P .any ops Q fuel listed a w := by
 have hst' := hst
 unfold kh at hst'
 simp only [UC] at hst'
 obtain ⟨⟨hed, hpr⟩, _⟩ := hst'
 have hnew : ∀ p ∈ g, ∀ o, ops.toList[p]? = some o → lE o = true := fun p hp o ho => Sx hst hp ho
 have gmem : ∀ p ∈ g, ∃ o, ops.toList[p]? = some o ∧ ck pf o = true := fun p hp => by rw [hg] at hp; exact gl hp
 have gsp : ∀ p ∈ g, spn g n0 p < n0 + g.length := fun p hp => yy (all := ops.toList) hp (by rw [hg]; exact List.Pairwise.filter _ List.pairwise_lt_range) (fun x hx => by obtain ⟨o, ho, _⟩ := gmem x hx; exact (UL.1 ho).1)
 have fin : ∀ (listed : Array Bool) (a : Act) (w : World), (∀ i, i < ops.toList.length → listed.getD i false = true) →
   (∃ c, J5 pf w0 ρ0 ops.toList g n0 s S V (fun i => listed.getD i false) c a w) → Q .normal a w := by
  rintro listed a w hall ⟨c, hI⟩
  have nop : ∀ p ∈ g, c ≤ p → False := by
   intro p hp hc
   obtain ⟨o, ho, _⟩ := gmem p hp
   obtain ⟨q, oq, q1, q2, q3, q4, q5⟩ := hI.front p hp hc (hall p (UL.1 ho).1)
   have := hall q (UL.1 q1).1
   rw [this] at q5; cases q5
  obtain ⟨ρ, tm', wc, hwc, hbp, hpp, hR, hρ, h4, h5, h6, hPE, hds⟩ := hI.st
  obtain ⟨t1, t2, t3, t4⟩ := hrun.toRun0.tm hpr ops.toList.length (Nat.le_refl _)
  have hm : (S ops.toList.length).mem = (S c).mem := by
   have := Run0.CP hP hrun.toRun0 (c := c) (ops.toList.length - c) (by have := hI.cle; omega) fun q o q1 q2 q3 => by
    cases hmm : ck pf o with
    | false => rfl
    | true =>
     rcases (hI.mem q o q3 hmm).2 (hall q (UL.1 q3).1) with h | h
     ·omega
     ·exact (nop q h q1).elim
   rwa [show c + (ops.toList.length - c) = ops.toList.length by have := hI.cle; omega] at this
  have htm : tm' = (S ops.toList.length).tm := by
   apply List.ext_getElem?
   intro t
   rcases Classical.em (∃ (j : Nat) (o : Oper), ops.toList[j]? = some o ∧ o.dst = some t) with ⟨j, o, q1, q2⟩ | hno
   ·rcases Nat.lt_or_ge t s.tm.length with hlt | hge
    ·have hj := (UL.1 q1).1
     rw [h6 j o t (hall j hj) ?_ q1 q2 hlt, t4 j o t hj q1 q2 hlt]
     by_cases hjg : j ∈ g
     ·right
      rcases Nat.lt_or_ge j c with h | h
      ·exact h
      ·exact (nop j hjg h).elim
     ·exact .inl hjg
    ·rw [List.getElem?_eq_none (by omega), List.getElem?_eq_none (by omega)]
   ·have hno' : ∀ (j : Nat) (o : Oper), ops.toList[j]? = some o → o.dst ≠ some t := fun j o q1 q2 => hno ⟨j, o, q1, q2⟩
    rw [h5 t (fun j o _ q1 => hno' j o q1), t3 t (fun j o _ q1 => hno' j o q1)]
  have he : (⟨tm', s.df, (S c).mem⟩ : St) = e := by
   rw [← hrun.last, htm, ← hm, ← t2]
  rw [he] at hR
  obtain ⟨b1, b2, b3, b4, b5⟩ := hI.base
  have hR' := hR.rel
  refine hQ ρ a w ⟨⟨hR'.lt, hR'.sco, hR'.ok, hR'.inb, hR'.ap, fun i b hi ho hk => hR'.own i b hi ho (hbp _ (.inl hk)), b1, b2, b3, b4, b5⟩, hR.tm, hR.sct, hR.df, hR.scd⟩ hρ ?_
  have := hrun.nxt ops.toList.length (Nat.le_refl _)
  rw [hrun.last] at this
  omega
 have done : ∀ (listed : Array Bool), listed.size = ops.size → Region.ready .any ops listed = [] → ∀ i, i < ops.toList.length → listed.getD i false = true := by
  intro listed hsz hr
  have : ∀ n i, i ≤ n → i < ops.toList.length → listed.getD i false = true := by
   intro n
   induction n using Nat.strongRecOn with
   | _ n ih =>
    intro i hin hi
    cases hl : listed.getD i false with
    | true => rfl
    | false =>
     exfalso
     have hi' : i < ops.size := by simpa using hi
     have ho : ops.toList[i]? = some ops[i] := by simp [hi']
     have hmem : i ∈ Region.ready .any ops listed := by
      refine mem_ready.2 ⟨?_, ops[i], by simp [hi'], fun e he hb => ?_⟩
      ·have : i < listed.size := by omega
       simpa [this] using hl
      ·have := vB hed ho he hb
       exact ih e.on (by omega) e.on (Nat.le_refl _) (by omega)
     rw [hr] at hmem; cases hmem
  exact fun i hi => this i i (Nat.le_refl _) hi
 intro fuel
 induction fuel with
 | zero =>
  intro listed a w hsz hun hI
  have hall := Jf (Nat.le_zero.1 hun)
  refine ⟨?_, fin listed a w hall hI⟩
  rw [List.eq_nil_iff_forall_not_mem]
  intro i hi
  obtain ⟨h1, o, h2, _⟩ := mem_ready.1 hi
  have hlt : i < ops.size := (Array.getElem?_eq_some_iff.1 h2).1
  have := hall i (by simpa using hlt)
  have hlt2 : i < listed.size := by omega
  simp [hlt2] at h1 this
  rw [this] at h1; cases h1
 | succ fuel ih =>
  intro listed a w hsz hun hI
  refine ⟨fun hr => fin listed a w (done listed hsz hr) hI, fun i hi => ?_⟩
  obtain ⟨hun1, o, hio, hedges⟩ := mem_ready.1 hi
  have hlt : i < ops.size := (Array.getElem?_eq_some_iff.1 hio).1
  have hlt2 : i < listed.size := by omega
  have hiol : ops.toList[i]? = some o := by simpa using hio
  have hil : i < ops.toList.length := by simpa using hlt
  have hLi : listed.getD i false = false := by simp [hlt2] at hun1 ⊢; exact hun1
  have hL' : ∀ j, (listed.setIfInBounds i true).getD j false = (listed.getD j false || j == i) := by
   intro j
   rcases Classical.em (i = j) with hij | hij
   ·subst hij; simp [hlt2]
   ·rw [getD_set_ne false hij]
    have : (j == i) = false := by simp; exact fun q => hij q.symm
    rw [this, Bool.or_false]
  have hfn : (fun j => (listed.setIfInBounds i true).getD j false) = fun j => listed.getD j false || j == i := funext hL'
  have hun' : lG (fun j => (listed.setIfInBounds i true).getD j false) ops.toList.length ≤ fuel := by
   have := Jg (L := fun j => listed.getD j false) (L' := fun j => (listed.setIfInBounds i true).getD j false) hLi hL' ops.toList.length hil
   omega
  have go : ∀ a' w' c, InvF pf w0 ρ0 ops.toList g n0 s S V (fun j => listed.getD j false || j == i) c a' w' → wpAny P .any ops Q fuel (listed.setIfInBounds i true) a' w' := by
   intro a' w' c h
   refine ih _ a' w' (by simp [hsz]) hun' ?_
   rw [hfn]
   exact adv hP hpr hg hnew hrun hn hst0 (ops.toList.length - c) c (Nat.le_refl _) h
  obtain ⟨c, hI⟩ := hI
  obtain ⟨ρ, tm', wc, hwc, hbp, hpp, hR, hρ, h4, h5, h6, hPE, hds⟩ := hI.st
  have hcle := hI.cle
  have hnx := hrun.nxt c hcle
  have hanc := jW hed hI.closed i i o (Nat.le_refl _) hiol hedges
  have hlook := NO hed hpr hrun.toRun0 hI.closed hiol hLi hedges h4 h5 (fun j oj t ha => h6 j oj t (hanc j ha) (hI.toInvF |> fun _ => hI.seen hst hed hiol hedges ha))
  obtain ⟨σ, v1, v2⟩ := hrun.step i o hiol
  have bnext : ∀ {ρ' : Nat → Loc} {σ' : Mem} {w' : World}, Rel wc ρ' σ' w' → w'.os = w0.w.os ∧ w'.tape = w0.w.tape ∧ w'.output = w0.w.output ∧ w0.w.heap.size ≤ w'.heap.size ∧ ∀ k, w0.fG k → w'.heap[k]? = w0.w.heap[k]? :=
   fun h => NL hwc hI.base (fun k hk => hbp k (.inl hk)) h
  have wsz : ∀ {ρ' : Nat → Loc} {σ' : Mem} {w' : World}, Rel wc ρ' σ' w' → w.heap.size ≤ w'.heap.size := fun h => by have := h.size; rwa [hwc] at this
  have keep : ∀ {ρ' : Nat → Loc} {σ' : Mem} {w' : World}, Rel wc ρ' σ' w' → ∀ p ∈ g, c ≤ p → listed.getD p false = true → w'.heap[(ρ (spn g n0 p)).blk]? = w.heap[(ρ (spn g n0 p)).blk]? := fun h p p1 p2 p3 => by
   have := h.old _ (hpp p p1 p2 p3); rwa [hwc] at this
  have nei : ∀ p ∈ g, listed.getD p false = true → p ≠ i := fun p _ h e => by rw [e, hLi] at h; cases h
  have noteq : ∀ {p}, p ≠ i → (listed.getD p false || p == i) = true → listed.getD p false = true := fun {p} h1 h2 => by
   have : (p == i) = false := by simpa using h1
   rwa [this, Bool.or_false] at h2
  cases hmm : ck pf o with
  | false =>
   have nig : i ∉ g := fun h => by obtain ⟨o2, q1, q2⟩ := gmem i h; rw [hiol] at q1; cases q1; rw [hmm] at q2; cases q2
   have hq : cR T H ops.toList o ⟨tm', s.df, (S c).mem⟩ = some (V i, (S c).mem) := by
    refine Ll hP hrun.toRun0 hiol hmm hlook fun hk hw => hrun.reads i o hiol hk hw c hI.cut ?_ hI.cle
    refine J7 hed hI.closed hiol hLi hedges fun q oq q1 q2 => ⟨fun h => ?_, (hI.mem q oq q1 q2).1⟩
    cases ha : anc (bc ops.toList []) q i with
    | false => exact .inr rfl
    | true =>
     left
     rcases (hI.mem q oq q1 q2).2 h with h' | h'
     ·exact h'
     ·rcases hI.seen hst hed hiol hedges ha with h2 | h2
      ·exact absurd h' h2
      ·exact h2
   refine jw hT hH hR hio (iA hq) ?_
   intro ρ' a' w' k1 k2 k3
   simp only at k2 k3
   obtain ⟨m4, m5, m6, m7, m8⟩ := E8 (L := fun j => listed.getD j false) (s := s) (v := V i) hpr hiol h4 h5 (N := fun j => j ∉ g ∨ j < c) h6
   have ksp : ∀ p ∈ g, ρ' (spn g n0 p) = ρ (spn g n0 p) := fun p hp => k2 _ (by have := gsp p hp; omega)
   refine go a' w' c ⟨⟨ρ', _, ⟨w', wc.fG, fun k hk => by have := wc.lt k hk; rw [hwc] at this; have := wsz k1.rel; omega⟩, rfl, hbp, ?_, k1.Cf rfl (fun k hk _ _ _ _ _ => hk), fun j hj => (k2 j (by omega)).trans (hρ j hj), m4, m5, ?_, ?_, ?_⟩, bnext k1.rel, rQ hI.closed hiol hedges, E9 hI.inb hil, hI.cut, hI.cle, ?_⟩
   ·intro p p1 p2 p3
    rw [ksp p p1]
    exact hpp p p1 p2 (noteq (fun e => nig (e ▸ p1)) p3)
   ·intro j oj t hj hN hoj hdj hlt3
    by_cases hji : j = i
    ·subst hji
     rw [hiol] at hoj; cases hoj
     exact m7 t hdj hlt3
    ·exact m6 j oj t hj hji hN hoj hdj hlt3
   ·intro p p1 p2 p3
    have hpi : p ≠ i := fun e => nig (e ▸ p1)
    have hLp := noteq hpi p3
    exact (hPE p p1 p2 hLp).next (ksp p p1) (fun j hj => k2 j (by omega)) (keep k1.rel p p1 p2 hLp) (wsz k1.rel) fun oo t q1 q2 => m8 p oo t hpi q1 q2
   ·intro p p1 q q1 p2 q2 p3 q3 hpq
    rw [ksp p p1, ksp q q1]
    exact hds p p1 q q1 p2 q2 (noteq (fun e => nig (e ▸ p1)) p3) (noteq (fun e => nig (e ▸ q1)) q3) hpq
   ·intro q oq q1 q2
    have hqi : q ≠ i := by rintro rfl; rw [hiol] at q1; cases q1; rw [hmm] at q2; cases q2
    have hqb : (q == i) = false := by simpa using hqi
    simp only [hqb, Bool.or_false]
    exact hI.mem q oq q1 q2
  | true =>
   have hci : c ≤ i := by
    rcases Nat.lt_or_ge i c with hx | hx
    ·have := (hI.mem i o hiol hmm).1 hx
     rw [hLi] at this; cases this
    ·exact hx
   by_cases hbet : ∀ q oq, ops.toList[q]? = some oq → ck pf oq = true → c ≤ q → q < i → False
   ·
    have hmem : (S i).mem = (S c).mem := by
     have := Run0.CP hP hrun.toRun0 (c := c) (i - c) (by omega) fun q oq q1 q2 q3 => by
      cases hq : ck pf oq with
      | false => rfl
      | true => exact (hbet q oq q3 hq q1 (by omega)).elim
     rwa [show c + (i - c) = i by omega] at this
    have hstep : cR T H ops.toList o ⟨tm', s.df, (S c).mem⟩ = some (V i, (S (i + 1)).mem) := by
     rw [xC (tm' := (S i).tm) (df' := (S i).df) hlook, ← hmem]
     have : (⟨(S i).tm, (S i).df, (S i).mem⟩ : St) = S i := rfl
     rw [this, v1, v2]
    refine jw hT hH hR hio (iA hstep) ?_
    intro ρ' a' w' k1 k2 k3
    simp only at k2 k3
    obtain ⟨m4, m5, m6, m7, m8⟩ := E8 (L := fun j => listed.getD j false) (s := s) (v := V i) hpr hiol h4 h5 (N := fun j => j ∉ g ∨ j < c) h6
    have ksp : ∀ p ∈ g, ρ' (spn g n0 p) = ρ (spn g n0 p) := fun p hp => k2 _ (by have := gsp p hp; omega)
    have ahead : ∀ p ∈ g, i + 1 ≤ p → c ≤ p := fun p _ h => by omega
    refine go a' w' (i + 1) ⟨⟨ρ', _, ⟨w', wc.fG, fun k hk => by have := wc.lt k hk; rw [hwc] at this; have := wsz k1.rel; omega⟩, rfl, hbp, ?_, k1.Cf rfl (fun k hk _ _ _ _ _ => hk), fun j hj => (k2 j (by omega)).trans (hρ j hj), m4, m5, ?_, ?_, ?_⟩, bnext k1.rel, rQ hI.closed hiol hedges, E9 hI.inb hil, Ir hiol hmm, by omega, ?_⟩
    ·intro p p1 p2 p3
     rw [ksp p p1]
     exact hpp p p1 (by omega) (noteq (by omega) p3)
    ·intro j oj t hj hN hoj hdj hlt3
     by_cases hji : j = i
     ·subst hji
      rw [hiol] at hoj; cases hoj
      exact m7 t hdj hlt3
     ·refine m6 j oj t hj hji ?_ hoj hdj hlt3
      rcases hN with h | h
      ·exact .inl h
      ·by_cases hjg : j ∈ g
       ·right
        obtain ⟨o2, q1, q2⟩ := gmem j hjg
        rcases Nat.lt_or_ge j c with h2 | h2
        ·exact h2
        ·exact (hbet j o2 q1 q2 h2 (by omega)).elim
       ·exact .inl hjg
    ·intro p p1 p2 p3
     have hpi : p ≠ i := by omega
     have hLp := noteq hpi p3
     exact (hPE p p1 (by omega) hLp).next (ksp p p1) (fun j hj => k2 j (by omega)) (keep k1.rel p p1 (by omega) hLp) (wsz k1.rel) fun oo t q1 q2 => m8 p oo t hpi q1 q2
    ·intro p p1 q q1 p2 q2 p3 q3 hpq
     rw [ksp p p1, ksp q q1]
     exact hds p p1 q q1 (by omega) (by omega) (noteq (by omega) p3) (noteq (by omega) q3) hpq
    ·intro q oq q1 q2
     rcases Nat.lt_trichotomy q i with hq | hq | hq
     ·have e : (q == i) = false := by simp; omega
      simp only [e, Bool.or_false]
      refine ⟨fun _ => ?_, fun _ => .inl (by omega)⟩
      rcases Nat.lt_or_ge q c with h | h
      ·exact (hI.mem q oq q1 q2).1 h
      ·exact (hbet q oq q1 q2 h hq).elim
     ·subst hq
      exact ⟨fun _ => by simp, fun _ => .inl (by omega)⟩
     ·have e : (q == i) = false := by simp; omega
      simp only [e, Bool.or_false]
      refine ⟨fun h => by omega, fun h => ?_⟩
      rcases (hI.mem q oq q1 q2).2 h with h2 | h2
      ·omega
      ·exact .inr h2
   ·
    obtain ⟨q0, hq0⟩ := Classical.not_forall.1 hbet
    obtain ⟨oq0, hq0⟩ := Classical.not_forall.1 hq0
    simp only [Classical.not_imp, not_false_eq_true, and_true] at hq0
    obtain ⟨z1, z2, z3, z4⟩ := hq0
    obtain ⟨u, ou, u1, u2, u3, u4, u5⟩ : ∃ u ou, ops.toList[u]? = some ou ∧ ck pf ou = true ∧ c ≤ u ∧ u < i ∧ listed.getD u false = false := by
     cases hL0 : listed.getD q0 false with
     | false => exact ⟨q0, oq0, z1, z2, z3, z4, hL0⟩
     | true =>
      rcases (hI.mem q0 oq0 z1 z2).2 hL0 with h | h
      ·omega
      ·obtain ⟨q, oq, a1, a2, a3, a4, a5⟩ := hI.front q0 h z3 hL0
       exact ⟨q, oq, a1, a2, a3, by omega, a5⟩
    have ig : i ∈ g := by
     by_cases h : i ∈ g
     ·exact h
     ·exfalso
      rw [hg] at h
      have := hanc u (Sw u1 hiol u2 hmm u4 h)
      rw [u5] at this; cases this
    obtain ⟨mk, b, n1, n2, n3, n4, n5⟩ := J4 (hnew i ig o hiol) v1
    have hstep : cR T H ops.toList o ⟨tm', s.df, (S c).mem⟩ = some (mk (S c).mem.next, (S c).mem.push b) := by
     rw [xC (tm' := (S i).tm) (df' := (S i).df) hlook]
     exact n5 _
    have hSi : (S (i + 1)).mem = (S i).mem.push b := by rw [v2]; exact n3
    have hb0 : scB n0 b = true := by
     obtain ⟨b', e1, e2⟩ := hrun.blk i ig
     rw [hSi, bU, if_pos rfl] at e1
     cases e1; exact e2
    obtain ⟨t, ht⟩ : ∃ t, o.dst = some t := by
     have := hnew i ig o hiol
     simp only [lE, UC] at this
     exact Option.isSome_iff_exists.1 this.2
    refine jw hT hH hR hio (iA hstep) ?_
    intro ρ' a' w' k1 k2 k3
    simp only at k2 k3
    have K : Rel wc ρ' ((S c).mem.push b) w' := k1.rel
    let f : Nat → Nat := fun x => if x = spn g n0 i then (S c).mem.next else x
    have fi : f (spn g n0 i) = (S c).mem.next := if_pos rfl
    have fo : ∀ x, x ≠ spn g n0 i → f x = x := fun x hx => if_neg hx
    have hsi := gsp i ig
    have hsl : n0 ≤ spn g n0 i := Nat.le_add_right _ _
    have favd : ∀ x, x < n0 ∨ s.mem.next ≤ x → f x = x := fun x hx => fo x (by rcases hx with h | h <;> omega)
    have spinj : ∀ p ∈ g, p ≠ i → spn g n0 p ≠ spn g n0 i := fun p hp hpi e => hpi (Q9 g hp ig (by unfold spn at e; omega))
    have hval : ∀ x v, tm'[x]? = some v → (∀ y, o.dst = some y → x ≠ y) → rn f v = v := by
     intro x v hv hne
     have hxl : x < s.tm.length := by rw [← h4]; exact (UL.1 hv).1
     rcases Classical.em (∃ (j : Nat) (oj : Oper), listed.getD j false = true ∧ ops.toList[j]? = some oj ∧ oj.dst = some x) with ⟨j, oj, g0, g1, g2⟩ | hno
     ·have hjl := (UL.1 g1).1
      by_cases hjg : j ∈ g
      ·rcases Nat.lt_or_ge j c with hjc | hjc
       ·have := h6 j oj x g0 (.inr hjc) g1 g2 hxl
        rw [hv] at this; cases this
        obtain ⟨oj2, q1, q2⟩ := gmem j hjg
        rw [g1] at q1; cases q1
        obtain ⟨σj, w1, w2⟩ := hrun.step j oj g1
        obtain ⟨mkj, bj, e1, e2, e3, e4, e5⟩ := J4 (hnew j hjg oj g1) w1
        rw [e2, e1.ren, favd _ (.inr (hrun.nxt j (by omega)))]
       ·obtain ⟨mkj, bj, e1, e2, e3, e4, e5, e6, e7⟩ := (hPE j hjg hjc g0).ex
        have := e7 oj x g1 g2 hxl
        rw [hv] at this; cases this
        rw [e1.ren, fo _ (spinj j hjg (nei j hjg g0))]
      ·have := h6 j oj x g0 (.inl hjg) g1 g2 hxl
       rw [hv] at this; cases this
       exact J2 favd _ (hrun.avV i ig j hjl hjg)
     ·have := h5 x (fun j oj g0 g1 g2 => hno ⟨j, oj, g0, g1, g2⟩)
      rw [hv] at this
      exact Gh (n := n0) (fun y hy => favd y (.inl hy)) _ ((gA _ _).1 hstm v (List.mem_of_getElem? this.symm))
    have R2 : bF wc (fun x => ρ' (f x)) ⟨bJ tm' o.dst (mk (spn g n0 i)), s.df, (S c).mem⟩ a' w' := by
     refine bF.ren k1 (f := f) (n := n0) ?_ ?_ rfl hsdf (by simp only; omega) (fun x hx => favd x (.inl hx)) ?_ ?_
     ·simp only
      have rnL_map : ∀ l, rnL f l = l.map (rn f) := by
       intro l
       induction l with
       | nil => rfl
       | cons x l ih => simp [rnL, ih]
      rw [rnL_map]
      simp only [bJ, ht]
      apply List.ext_getElem?
      intro x
      rw [List.getElem?_map]
      by_cases hx : x = t
      ·subst hx
       rcases Nat.lt_or_ge x tm'.length with hl | hl
       ·rw [List.getElem?_set_self hl, List.getElem?_set_self hl, US, n1.ren, fi]
       ·rw [List.getElem?_eq_none (by simpa using hl), List.getElem?_eq_none (by simpa using hl)]; rfl
      ·rw [List.getElem?_set_ne (Ne.symm hx), List.getElem?_set_ne (Ne.symm hx)]
       cases hv : tm'[x]? with
       | none => rfl
       | some v => rw [US, hval x v hv (fun y hy => by rw [ht] at hy; cases hy; exact hx)]
     ·simp only [bJ, ht]
      exact uv hR.sct (n1.scp _ _ (by omega))
     ·simp only
      intro x y hx hy hxy
      by_cases h1 : x = spn g n0 i <;> by_cases h2 : y = spn g n0 i
      ·rw [h1, h2]
      ·rw [h1, fi, fo y h2] at hxy; omega
      ·rw [h2, fi, fo x h1] at hxy; omega
      ·rwa [fo x h1, fo y h2] at hxy
     ·simp only
      intro x bx hx
      have hxl := hR.rel.lt x bx hx
      obtain ⟨w1', w2', _⟩ := hrun.bs i ig c x bx hcle hx
      simp only at hxl
      refine ⟨hxl, ?_, hR.rel.sco x bx hx⟩
      rw [favd x w1', Q6 favd bx w2', bU, if_neg (by omega)]
      exact hx
    obtain ⟨m4, m5, m6, m7, m8⟩ := E8 (L := fun j => listed.getD j false) (s := s) (v := mk (spn g n0 i)) hpr hiol h4 h5 (N := fun j => j ∉ g ∨ j < c) h6
    have ksp : ∀ p ∈ g, p ≠ i → ρ' (f (spn g n0 p)) = ρ (spn g n0 p) := fun p hp hpi => by
     rw [fo _ (spinj p hp hpi)]; exact k2 _ (by have := gsp p hp; omega)
    have getm : ((S c).mem.push b).get (S c).mem.next = some b := by rw [bU, if_pos rfl]
    have notp : ¬ wc.fG (ρ' (S c).mem.next).blk := K.own _ _ getm n4
    have klow : ∀ x, x < n0 → ρ' (f x) = ρ x := fun x hx => by rw [favd x (.inl hx)]; exact k2 x (by omega)
    refine go a' w' c ⟨⟨fun x => ρ' (f x), _, ⟨w', fun k => wc.fG k ∨ k = (ρ' (S c).mem.next).blk, fun k hk => ?_⟩, rfl, fun k hk => .inl (hbp k hk), ?_, R2.Cf rfl ?_, fun j hj => (klow j hj).trans (hρ j hj), m4, m5, ?_, ?_, ?_⟩, bnext K, rQ hI.closed hiol hedges, E9 hI.inb hil, hI.cut, hI.cle, ?_⟩
    ·rcases hk with hk | hk
     ·have := wc.lt k hk; rw [hwc] at this; have := wsz K; omega
     ·rw [hk]; exact K.inb _ _ getm (am.dT n4)
    ·intro p p1 p2 p3
     by_cases hpi : p = i
     ·subst hpi; right; simp only [fi]
     ·left
      simp only
      rw [ksp p p1 hpi]
      exact hpp p p1 p2 (noteq hpi p3)
    ·intro k hk x bx hx hbo he
     rcases hk with hk | hk
     ·exact hk
     ·exfalso
      simp only at hx he
      have hxl : x < (S c).mem.next := hR.rel.lt x bx hx
      obtain ⟨w1', _, _⟩ := hrun.bs i ig c x bx hcle hx
      rw [favd x w1'] at he
      refine K.ap (S c).mem.next x b bx getm (by rw [bU, if_neg (by omega)]; exact hx) (by omega) n4 (am.dT hbo) ?_
      rw [he, hk]
    ·intro j oj x hj hN hoj hdj hlt3
     by_cases hji : j = i
     ·exfalso
      subst hji
      rcases hN with h | h
      ·exact h ig
      ·omega
     ·exact m6 j oj x hj hji hN hoj hdj hlt3
    ·intro p p1 p2 p3
     by_cases hpi : p = i
     ·subst hpi
      refine ⟨⟨mk, b, n1, n2, hSi, n4, hb0, ?_, fun oo x q1 q2 q3 => ?_⟩, ?_, ?_⟩
      ·simp only [fi]
       exact cr (n := n0) (fun x hx => by rw [favd x (.inl hx)]) rfl b hb0 (K.ok _ _ getm)
      ·rw [hiol] at q1; cases q1
       exact m7 x q2 q3
      ·simp only [fi]; exact K.inb _ _ getm (am.dT n4)
      ·simp only [fi]; exact fun h => notp (hbp _ h)
     ·have hLp := noteq hpi p3
      exact (hPE p p1 p2 hLp).next (ρ' := fun x => ρ' (f x)) (ksp p p1 hpi) (fun j hj => klow j hj) (keep K p p1 p2 hLp) (wsz K) fun oo x q1 q2 => m8 p oo x hpi q1 q2
    ·intro p p1 q q1 p2 q2 p3 q3 hpq
     simp only
     by_cases hpi : p = i
     ·by_cases hqi : q = i
      ·omega
      ·subst hpi
       rw [fi, ksp q q1 hqi]
       exact fun e => notp (e ▸ hpp q q1 q2 (noteq hqi q3))
     ·by_cases hqi : q = i
      ·subst hqi
       rw [fi, ksp p p1 hpi]
       exact fun e => notp (e ▸ hpp p p1 p2 (noteq hpi p3))
      ·rw [ksp p p1 hpi, ksp q q1 hqi]
       exact hds p p1 q q1 p2 q2 (noteq hpi p3) (noteq hqi q3) hpq
    ·intro q oq q1 q2
     by_cases hqi : q = i
     ·subst hqi
      exact ⟨fun h => by omega, fun _ => .inr ig⟩
     ·have e : (q == i) = false := by simpa using hqi
      simp only [e, Bool.or_false]
      exact hI.mem q oq q1 q2
def nO (k : Nat) (s : St) : St := ⟨s.tm, s.df, ⟨s.mem.next + k, s.mem.bs⟩⟩
def qj (pf : FuncId → Nat) (all : List Oper) (s : St) : St := nO (dW pf all (bc all [])).length s
def J8 (pf : FuncId → Nat) (T : ar) (H : bT) (all : List Oper) (s s' : St) : Prop :=
 kh pf all (bc all []) (dW pf all (bc all [])) = true ∧ ol pf T H all s.mem.next (qj pf all s) = some s'
def Mz (pf : FuncId → Nat) (T : ar) (H : bT) (all : List Oper) (n : Nat) (o : Oper) (s : St) (v : ab) (s' : St) : Prop :=
 kh pf (all.take n) (bc (all.take n) []) (dW pf (all.take n) (bc (all.take n) [])) = true ∧ (dW pf (all.take n) (bc (all.take n) [])).length ≤ (dW pf all (bc all [])).length ∧
 ∃ s1, ol pf T H (all.take n) s.mem.next (qj pf all s) = some s1 ∧ et T H all o s1 = some (.pan v s')
theorem Gi (hT : aZ P T) (hH : jo P H) (hP : eX pf H) {ops : Array Oper} {s s' : St} {k : Nat} (hst : kh pf ops.toList (bc ops.toList []) (dW pf ops.toList (bc ops.toList [])) = true)
  (hk : (dW pf ops.toList (bc ops.toList [])).length ≤ k) (hx : ol pf T H ops.toList s.mem.next (nO k s) = some s') {w0 : W0} {ρ : Nat → Loc} {a : Act} {w : World} (h : bF w0 ρ s a w) {Q : Exit → Act → World → Prop}
  (hQ : ∀ ρ' a' w', bF w0 ρ' s' a' w' → (∀ i, i < s.mem.next → ρ' i = ρ i) → s.mem.next ≤ s'.mem.next → Q .normal a' w') (m : Nat) (hm : m = ops.size) : wpAny P .any ops Q m (Array.replicate m false) a { w with drawn := w.drawn + 1 } := by
 subst hm
 obtain ⟨S, V, hrun⟩ := Q7 hP hx
 have R := h.rel
 have hget : ∀ i, (nO k s).mem.get i = s.mem.get i := fun i => rfl
 refine Lk hT hH hP rfl hst hrun (by simpa [nO] using hk) h.sct h.scd (w0 := w0) (ρ0 := ρ) (w1 := w) (fun j b hj => R.ok j b hj) hQ ops.size _ a _ (by simp) ?_ ⟨0, ?_⟩
 ·unfold lG
  refine Nat.le_trans (List.length_filter_le _ _) (by simp)
 ·have hfalse : ∀ j, (Array.replicate ops.size false).getD j false = false := by
   intro j
   rw [Array.getD_eq_getD_getElem?]
   rcases Nat.lt_or_ge j ops.size with hj | hj
   ·simp [hj]
   ·rw [Array.getElem?_eq_none (by simpa using hj)]; rfl
  have hst0 : (⟨s.tm, (nO k s).df, (S 0).mem⟩ : St) = nO k s := by rw [hrun.zero]; rfl
  have Rd := h.rel.drew (w.drawn + 1)
  have hbase : ∀ k, Jp w0 ρ (nO k s) k → k < w.heap.size := by
   rintro k (hk | ⟨j, b, h1, h2, h3, rfl⟩)
   ·have := w0.lt k hk; have := R.size; omega
   ·exact R.inb j b h1 h2
  refine ⟨⟨⟨ρ, s.tm, ⟨{ w with drawn := w.drawn + 1 }, Jp w0 ρ (nO k s), hbase⟩, rfl, fun _ hk => hk, fun p _ _ hp => ?_, ?_, fun _ _ => rfl, rfl, fun _ _ => rfl, fun j o t hj => ?_, fun p _ _ hp => ?_, fun p _ q _ _ _ hp => ?_⟩, ?_, ?_, ?_, by simp [vA], Nat.zero_le _, ?_⟩, fun p _ _ hp => ?_⟩
  ·rw [hfalse p] at hp; cases hp
  ·rw [hst0]
   have nx : s.mem.next ≤ (nO k s).mem.next := by simp [nO]
   refine ⟨⟨fun i b hi => by have := R.lt i b hi; omega, fun i b hi => fU nx b (R.sco i b hi), fun i b hi => Rd.ok i b hi, fun i b hi => Rd.inb i b hi, fun i j bi bj hi hj => Rd.ap i j bi bj hi hj, ?_, rfl, rfl, rfl, Nat.le_refl _, fun _ _ => rfl⟩,
    h.tm, cf nx _ h.sct, h.df, fun d hd => ⟨cf nx _ (h.scd d hd).1, cf nx _ (h.scd d hd).2⟩⟩
   rintro i b hi ho (hk | ⟨j, bj, h1, h2, h3, h4⟩)
   ·exact R.own i b hi ho hk
   ·by_cases hij : i = j
    ·subst hij
     rw [hget] at hi h1
     rw [hi] at h1; cases h1
     rw [ho] at h3; cases h3
    ·exact R.ap i j b bj hi h1 hij ho h2 h4.symm
  ·rw [hfalse j] at hj; cases hj
  ·rw [hfalse p] at hp; cases hp
  ·rw [hfalse p] at hp; cases hp
  ·exact ⟨R.os, R.tape, R.output, R.size, R.old⟩
  ·intro j o _ hj
   simp only [hfalse j] at hj; cases hj
  ·intro j hj
   simp only [hfalse j] at hj; cases hj
  ·intro q o _ _
   simp only [hfalse q]; simp
  ·rw [hfalse p] at hp; cases hp
theorem Cg (hT : aZ P T) (hH : jo P H) (hP : eX pf H) {ops : Array Oper} {s s' : St} {Φ : an → St → Prop} (hx : J8 pf T H ops.toList s s') (hΦ : Φ .normal s') :
  ∀ w0 ρ a w, bF w0 ρ s a w → wpAny P .any ops (fun e a' w' => ∃ o s', Φ o s' ∧ db w0 ρ s.mem.next o s' e a' w') ops.size (Array.replicate ops.size false) a { w with drawn := w.drawn + 1 } :=
 fun w0 ρ a w h => Gi hT hH hP hx.1 (Nat.le_refl _) hx.2 h (fun ρ' a' w' k1 k2 k3 => ⟨.normal, s', hΦ, ⟨ρ', rfl, k1, k2, k3, by simp⟩⟩) ops.size rfl
theorem NP (hT : aZ P T) (hH : jo P H) (hP : eX pf H) (hm : P.follows .mixedOrders = true) {id : Nat} {ops : Array Oper} {s s' : St} {Φ : an → St → Prop} (hx : J8 pf T H ops.toList s s') (hΦ : Φ .normal s') : AWP P (.region id ops true) s Φ :=
 fun w0 ρ a w h => wp_region_any hm (Cg hT hH hP hx hΦ w0 ρ a w h)
theorem Fa (hT : aZ P T) (hH : jo P H) (hP : eX pf H) {ops : Array Oper} {n : Nat} {o : Oper} {s s' : St} {v : ab} {Φ : an → St → Prop} (ho : ops.toList[n]? = some o)
  (hC : wJ ops.toList n = true) (hx : Mz pf T H ops.toList n o s v s') (hΦ : Φ (.pan v) s') :
  ∀ w0 ρ a w, bF w0 ρ s a w → wpAny P .any ops (fun e a' w' => ∃ o s', Φ o s' ∧ db w0 ρ s.mem.next o s' e a' w') ops.size (Array.replicate ops.size false) a { w with drawn := w.drawn + 1 } := by
 obtain ⟨hst, hk, s1, hx, hp⟩ := hx
 have hn : n < ops.toList.length := (UL.1 ho).1
 intro w0 ρ a w h
 have hto : (ops.toList.take n).toArray.toList = ops.toList.take n := by simp
 have hfalse : ∀ m j, (Array.replicate m false).getD j false = false := by
  intro m j
  rw [Array.getD_eq_getD_getElem?]
  rcases Nat.lt_or_ge j m with hj | hj
  ·simp [hj]
  ·rw [Array.getElem?_eq_none (by simpa using hj)]; rfl
 refine J9 (opsn := (ops.toList.take n).toArray) (n := n) hto hn hC n ops.size _ (Array.replicate n false) a _ (by rw [← Array.length_toList]; omega) (by simp) (by simp) (fun j _ => by rw [hfalse, hfalse]) (fun j _ => hfalse _ _) (fun j oj _ hj => by simp only [hfalse] at hj; cases hj) ?_
 refine Gi (ops := (ops.toList.take n).toArray) (k := (dW pf ops.toList (bc ops.toList [])).length) hT hH hP (by rw [hto]; exact hst) (by rw [hto]; exact hk) (by rw [hto]; exact hx) h (fun ρ' a' w' k1 k2 k3 => ?_) n (by simp; have := Array.length_toList (xs := ops); omega)
 intro K
 refine jw hT hH k1 (i := n) (o := o) (by simpa using ho) hp ?_
 intro ρ2 a2 w2 j1 j2 j3 j4
 exact ⟨.pan v, s', hΦ, ⟨ρ2, rfl, j1, fun i hi => (j2 i (by omega)).trans (k2 i hi), by omega, fun v' hv' => by cases hv'; exact j4⟩⟩
theorem Pe (hT : aZ P T) (hH : jo P H) (hP : eX pf H) (hm : P.follows .mixedOrders = true) {id : Nat} {ops : Array Oper} {n : Nat} {o : Oper} {s s' : St} {v : ab} {Φ : an → St → Prop} (ho : ops.toList[n]? = some o)
  (hC : wJ ops.toList n = true) (hx : Mz pf T H ops.toList n o s v s') (hΦ : Φ (.pan v) s') : AWP P (.region id ops true) s Φ :=
 fun w0 ρ a w h => wp_region_any hm (Fa hT hH hP ho hC hx hΦ w0 ρ a w h)
end
end Go.Ev
