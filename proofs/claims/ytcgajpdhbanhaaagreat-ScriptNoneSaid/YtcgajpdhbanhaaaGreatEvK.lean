import Derived.Test.YtcgajpdhbanhaaaGreatEvJ
namespace Go.Ev
set_option linter.unusedVariables false
set_option linter.unusedSimpArgs false
def kindN : Nat → Nat
  | 0 => 0
  | 1 => 1
  | _ => 2
theorem kindN_0 {n : Nat} (h : kindN n = 0) : n = 0 := by match n, h with | 0, _ => rfl | 1, h => cases h | n + 2, h => cases h
theorem kindN_2 {n : Nat} (h : kindN n ≠ 2) : n = 0 ∨ n = 1 := by match n, h with | 0, _ => exact .inl rfl | 1, _ => exact .inr rfl | n + 2, h => exact absurd rfl h
theorem kindN_cases (n : Nat) : kindN n = 0 ∨ kindN n = 1 ∨ kindN n = 2 := by match n with | 0 => exact .inl rfl | 1 => exact .inr (.inl rfl) | n + 2 => exact .inr (.inr rfl)
def kindOf (pf : FuncId → Nat) : Op → Nat
  | .call { callee := .value (.func g), .. } => kindN (pf g)
  | .call { callee := .value (.tmp f), args := _, argTypes := ts } => cond (dynRd (.tmp f) ts.toList) 0 2
  | .move _ | .assign _ | .pick .. | .build .. | .unOp .. | .makeFunc .. | .fieldAddr .. | .field .. | .index .. | .extract .. | .nilCheck _ | .makeInterface .. => 0
  | .binOp _ _ x y _ => cond (isNilC x || isNilC y) 1 0
  | .convert src dst _ => cond (Nat.beq dst bytesTy) 2 (cond (Nat.beq src bytesTy) 1 0)
  | .load .. | .lookup .. | .indexAddr .. => 1
  | .call { callee := .builtin .len, .. } | .call { callee := .builtin .max, .. } | .call { callee := .builtin .min, .. } => 1
  | _ => 2
theorem kind_cases (pf : FuncId → Nat) (op : Op) : kindOf pf op = 0 ∨ kindOf pf op = 1 ∨ kindOf pf op = 2 := by
  have h2 : ∀ b : Bool, cond b 1 0 = 0 ∨ cond b 1 0 = 1 ∨ cond b 1 0 = 2 := by
    intro b
    cases b
    · exact .inl rfl
    · exact .inr (.inl rfl)
  have h3 : ∀ b c : Bool, cond b 2 (cond c 1 0) = 0 ∨ cond b 2 (cond c 1 0) = 1 ∨ cond b 2 (cond c 1 0) = 2 := by
    intro b c
    cases b
    · exact h2 c
    · exact .inr (.inr rfl)
  have h4 : ∀ b : Bool, cond b 0 2 = 0 ∨ cond b 0 2 = 1 ∨ cond b 0 2 = 2 := by
    intro b
    cases b
    · exact .inr (.inr rfl)
    · exact .inl rfl
  unfold kindOf
  split
  all_goals first
    | exact kindN_cases _
    | exact h4 _
    | exact h2 _
    | exact h3 _ _
    | exact .inl rfl
    | exact .inr (.inl rfl)
    | exact .inr (.inr rfl)
def isMem (pf : FuncId → Nat) (o : Oper) : Bool := kindOf pf o.op == 2
def maskOf (acc : List Nat) (o : Oper) : Nat :=
  o.after.toList.foldl (fun s e => if Region.binds .any e then s ||| (1 <<< e.on) ||| acc.getD e.on 0 else s) 0
def masks : List Oper → List Nat → List Nat
  | [], acc => acc
  | o :: r, acc => masks r (acc ++ [maskOf acc o])
def tmpsOf (xs : List Operand) : List Tmp := xs.filterMap fun
  | .tmp t => some t
  | _ => none
def looksOf (all : List Oper) (o : Oper) : List Tmp :=
  tmpsOf o.op.operands.toList ++ (match o.guard with
    | some (j, _) => ((all[j]?).bind (·.dst)).toList
    | none => [])
def anc (ms : List Nat) (j i : Nat) : Bool := (ms.getD i 0).testBit j
def pairsOk (all : List Oper) (ms : List Nat) : Bool :=
  all.zipIdx.all fun (oi, i) => all.zipIdx.all fun (oj, j) =>
    (i == j || (match oi.dst, oj.dst with | some d, some e => d != e | _, _ => true)) &&
    (i == j || (match oj.dst with | some d => !(looksOf all oi).contains d || (decide (j < i) && anc ms j i) || (decide (i < j) && anc ms i j) | none => true))
def edgesOk (all : List Oper) : Bool := all.zipIdx.all fun (o, i) => o.after.toList.all fun e => !Region.binds .any e || decide (e.on < i)
def stepV (T : TTab) (H : Hooks) (all : List Oper) (o : Oper) (s : St) : Option (AVal × Mem) :=
  if gj all o s.tm then none else if wantedA all o s.tm then
    match aexec T H o.op s.tm s.mem with
    | some (.val v, σ) => some (v, σ)
    | some (.skip, σ) => some (.tup [], σ)
    | _ => none
  else some (.tup [], s.mem)
def trace (T : TTab) (H : Hooks) (all : List Oper) : List Oper → St → Option (List (St × AVal) × St)
  | [], s => some ([], s)
  | o :: r, s => match stepV T H all o s with
    | some (v, σ) => match trace T H all r ⟨setD s.tm o.dst v, s.df, σ⟩ with
      | some (l, e) => some ((s, v) :: l, e)
      | none => none
    | none => none
def cuts (pf : FuncId → Nat) (all : List Oper) : List Nat := 0 :: (all.zipIdx.filter fun x => isMem pf x.1).map fun x => x.2 + 1
def excluded (pf : FuncId → Nat) (all : List Oper) (ms : List Nat) (i c : Nat) : Bool :=
  all.zipIdx.any fun (o, q) => isMem pf o && ((decide (c ≤ q) && anc ms q i) || (decide (q < c) && anc ms i q))
def readOk (pf : FuncId → Nat) (T : TTab) (H : Hooks) (all : List Oper) (ms : List Nat) (mems : List Mem) (i : Nat) (o : Oper) (s : St) (v : AVal) : Bool :=
  !(kindOf pf o.op == 1) || !(wantedA all o s.tm) || (cuts pf all).all fun c => excluded pf all ms i c ||
    (match mems[c]? with
     | some σ => match aexec T H o.op s.tm σ with
       | some (.val u, _) => aeq u v
       | _ => false
     | none => false)
def readsOk (pf : FuncId → Nat) (T : TTab) (H : Hooks) (all : List Oper) (ms : List Nat) (mems : List Mem) : List Oper → Nat → List (St × AVal) → Bool
  | o :: r, i, (s, v) :: tr => readOk pf T H all ms mems i o s v && readsOk pf T H all ms mems r (i + 1) tr
  | _, _, _ => true
def PureOk (pf : FuncId → Nat) (H : Hooks) : Prop := (∀ g args σ r σ', pf g = 0 → H g args σ = some (r, σ') → σ' = σ ∧ (∃ v, r = .ret v) ∧ ∀ σ2, H g args σ2 = some (r, σ2)) ∧
  ∀ g args σ r σ', pf g = 1 → H g args σ = some (r, σ') → σ' = σ ∧ ∃ v, r = .ret v
theorem PureOk.still {pf : FuncId → Nat} {H : Hooks} (h : PureOk pf H) {g : FuncId} {args : List AVal} {σ σ' : Mem} {r : ARes} (hk : pf g = 0 ∨ pf g = 1) (hh : H g args σ = some (r, σ')) : σ' = σ ∧ ∃ v, r = .ret v := by
  rcases hk with hk | hk
  · obtain ⟨h1, h2, _⟩ := h.1 g args σ r σ' hk hh
    exact ⟨h1, h2⟩
  · exact h.2 g args σ r σ' hk hh
section
variable {P : Program} {T : TTab} {H : Hooks} {pf : FuncId → Nat}
theorem aexec_still (hP : PureOk pf H) {op : Op} {tm : List AVal} {σ σ' : Mem} {r : ORes} (hk : kindOf pf op ≠ 2) (h : aexec T H op tm σ = some (r, σ')) : σ' = σ ∧ ∃ v, r = .val v := by
  have p1 : ∀ {r1 : Option AVal}, (r1.map fun v => ((ORes.val v, σ) : ORes × Mem)) = some (r, σ') → σ' = σ ∧ ∃ v, r = .val v := by
    intro r1 h1
    cases r1 with
    | none => cases h1
    | some v => cases h1; exact ⟨rfl, v, rfl⟩
  cases op <;> simp only [aexec] at h <;> first
    | exact p1 h
    | (split at h <;> first | exact p1 h | cases h)
    | skip
  case convert src dst x =>
    split at h
    · rename_i hd _
      simp only [kindOf, hd, cond_true] at hk
      exact absurd rfl hk
    · exact p1 h
    · exact p1 h
    · cases h
  case makeFunc fn fs cs =>
    cases fn <;> simp only [] at h <;> first
      | (split at h <;> first | (cases h; exact ⟨rfl, _, rfl⟩) | cases h)
      | cases h
  case call c =>
    obtain ⟨callee, args, argTypes⟩ := c
    cases callee with
    | invoke r m => cases h
    | value f =>
      cases f <;> first
        | exact absurd rfl hk
        | skip
      · rename_i t
        simp only [kindOf] at hk
        simp only [] at h
        split at h
        · cases hd : dynRd (.tmp t) argTypes.toList with
          | false => rw [hd] at hk; exact absurd rfl hk
          | true => rw [hd] at h; obtain ⟨h1, v, h2, _⟩ := dynR_true h; exact ⟨h1, v, h2⟩
        · cases h
      rename_i g
      simp only [kindOf] at hk
      have hg := kindN_2 hk
      simp only [ev] at h
      split at h
      · rename_i g' fs cs vs h1 _
        cases h1
        simp only [dynR, dynRd, cond_false, callA] at h
        split at h
        · rename_i v σ1 hh
          cases h
          exact ⟨(hP.still hg hh).1, v, rfl⟩
        · rename_i v σ1 hh
          obtain ⟨_, ⟨u, hu⟩⟩ := hP.still hg hh
          cases hu
        · cases h
      · cases h
    | builtin b =>
      simp only [] at h
      split at h
      · unfold builtinA at h
        split at h
        · exact p1 h
        · exact absurd rfl hk
        · exact absurd rfl hk
        · exact p1 h
        · exact p1 h
        · cases h
      · cases h
  all_goals exact absurd rfl hk
theorem aexec_pure (hP : PureOk pf H) {op : Op} {tm : List AVal} {σ σ' : Mem} {r : ORes} (hk : kindOf pf op = 0) (h : aexec T H op tm σ = some (r, σ')) (σ2 : Mem) : aexec T H op tm σ2 = some (r, σ2) := by
  have p1 : ∀ {r1 : Option AVal}, (r1.map fun v => ((ORes.val v, σ) : ORes × Mem)) = some (r, σ') → (r1.map fun v => ((ORes.val v, σ2) : ORes × Mem)) = some (r, σ2) := by
    intro r1 h1
    cases r1 with
    | none => cases h1
    | some v => cases h1; rfl
  cases op <;> simp only [aexec] at h ⊢ <;> first
    | exact p1 h
    | (split at h <;> first | exact p1 h | cases h)
    | skip
  case binOp op t x y u =>
    have hn : (isNilC x || isNilC y) = false := by
      simp only [kindOf] at hk
      cases hb : isNilC x || isNilC y with
      | true => rw [hb] at hk; cases hk
      | false => rfl
    rw [hn] at h ⊢
    simp only [binM, cond_false] at h ⊢
    split at h
    · exact p1 h
    · cases h
  case convert src dst x =>
    split at h
    · rename_i hd _
      simp only [kindOf, hd, cond_true] at hk
      cases hk
    · rename_i hd hs _
      simp only [kindOf, hd, hs, cond_true, cond_false] at hk
      cases hk
    · rename_i hd hs hx
      exact p1 h
    · cases h
  case makeFunc fn fs cs =>
    cases fn <;> simp only [] at h ⊢ <;> first
      | (split at h <;> first | (cases h; rfl) | cases h)
      | cases h
  case call c =>
    obtain ⟨callee, args, argTypes⟩ := c
    cases callee with
    | invoke r m => cases h
    | value f =>
      cases f <;> first
        | (simp [kindOf] at hk; done)
        | skip
      · rename_i t
        simp only [kindOf] at hk
        simp only [] at h ⊢
        split at h
        · rename_i g vs h1 h2
          cases hd : dynRd (.tmp t) argTypes.toList with
          | false => rw [hd] at hk; cases hk
          | true =>
            rw [hd] at h
            obtain ⟨_, v, rfl, k1, k2, k3, k4⟩ := dynR_true h
            exact dynR_of k1 k2 k3 k4
        · cases h
      rename_i g
      simp only [kindOf] at hk
      have hg := kindN_0 hk
      simp only [ev] at h ⊢
      split at h
      · rename_i g' fs cs vs h1 hvs
        cases h1
        simp only [dynR, dynRd, cond_false, callA] at h ⊢
        split at h
        · rename_i v σ1 hh
          cases h
          rw [(hP.1 _ _ _ _ _ hg hh).2.2 σ2]
        · rename_i v σ1 hh
          obtain ⟨_, ⟨u, hu⟩, _⟩ := hP.1 _ _ _ _ _ hg hh
          cases hu
        · cases h
      · cases h
    | builtin b => cases b <;> simp [kindOf] at hk
  all_goals simp [kindOf] at hk
theorem ev_congr {tm tm' : List AVal} {x : Operand} (h : ∀ t ∈ tmpsOf [x], tm[t]? = tm'[t]?) : ev tm x = ev tm' x := by
  cases x with
  | tmp t => simp only [ev, List.getD_eq_getElem?_getD, h t (by simp [tmpsOf])]
  | _ => rfl
theorem tmpsOf_cons {x : Operand} {xs : List Operand} {t : Tmp} : t ∈ tmpsOf (x :: xs) ↔ t ∈ tmpsOf [x] ∨ t ∈ tmpsOf xs := by
  cases x <;> simp [tmpsOf]
theorem evL_congr {tm tm' : List AVal} : ∀ {xs : List Operand}, (∀ t ∈ tmpsOf xs, tm[t]? = tm'[t]?) → evL tm xs = evL tm' xs
  | [], _ => rfl
  | x :: xs, h => by
    simp only [evL, ev_congr fun t ht => h t (tmpsOf_cons.2 (.inl ht)), evL_congr fun t ht => h t (tmpsOf_cons.2 (.inr ht))]
theorem evP_congr {tm tm' : List AVal} : ∀ {xs : List (Nat × Operand)}, (∀ t ∈ tmpsOf (xs.map (·.2)), tm[t]? = tm'[t]?) → evP tm xs = evP tm' xs
  | [], _ => rfl
  | (i, x) :: xs, h => by
    simp only [evP]
    rw [ev_congr fun t ht => h t (tmpsOf_cons.2 (.inl ht)), evP_congr fun t ht => h t (tmpsOf_cons.2 (.inr ht))]
theorem tmpsOf_mem {xs : List Operand} {t : Tmp} (h : .tmp t ∈ xs) : t ∈ tmpsOf xs := List.mem_filterMap.2 ⟨_, h, rfl⟩
theorem aexec_congr {op : Op} {tm tm' : List AVal} {σ : Mem} (h : ∀ t ∈ tmpsOf op.operands.toList, tm[t]? = tm'[t]?) : aexec T H op tm σ = aexec T H op tm' σ := by
  have one : ∀ {x : Operand}, x ∈ op.operands.toList → ev tm x = ev tm' x := by
    intro x hx
    refine ev_congr fun t ht => h t ?_
    cases x <;> simp [tmpsOf] at ht
    subst ht
    exact tmpsOf_mem hx
  cases op <;> simp only [Op.operands] at h one <;> simp only [aexec]
  case move x => rw [one (x := x) (by simp)]
  case assign x => rw [one (x := x) (by simp)]
  case pick c x y => rw [one (x := c) (by simp), one (x := x) (by simp), one (x := y) (by simp)]
  case box t x => rw [one (x := x) (by simp)]
  case build t ps => rw [evP_congr (tm' := tm') fun t ht => h t (by simpa using ht)]
  case buildSlice t n ps => rw [evP_congr (tm' := tm') fun t ht => h t (by simpa using ht)]
  case makeSlice t l c => rw [one (x := l) (by simp)]
  case load t x => rw [one (x := x) (by simp)]
  case store t x y => rw [one (x := x) (by simp), one (x := y) (by simp)]
  case binOp op t x y u => rw [one (x := x) (by simp), one (x := y) (by simp)]
  case unOp op t x => rw [one (x := x) (by simp)]
  case convert t u x => rw [one (x := x) (by simp)]
  case makeFunc fn fs cs =>
    have e1 := evL_congr (tm := tm) (tm' := tm') (xs := fs.toList) fun t ht => h t (by rw [Array.toList_append]; simp only [tmpsOf, List.filterMap_append, List.mem_append]; exact .inl ht)
    have e2 := evL_congr (tm := tm) (tm' := tm') (xs := cs.toList) fun t ht => h t (by rw [Array.toList_append]; simp only [tmpsOf, List.filterMap_append, List.mem_append]; exact .inr ht)
    cases fn <;> simp only [e1, e2]
  case makeMap t rs => cases rs <;> rfl
  case fieldAddr t x f => rw [one (x := x) (by simp)]
  case field t x f => rw [one (x := x) (by simp)]
  case indexAddr t x y => rw [one (x := x) (by simp), one (x := y) (by simp)]
  case index t x y => rw [one (x := x) (by simp), one (x := y) (by simp)]
  case lookup t x y ok => rw [one (x := x) (by simp), one (x := y) (by simp)]
  case mapUpdate t x y z => rw [one (x := x) (by simp), one (x := y) (by simp), one (x := z) (by simp)]
  case mapEntry t x y => rw [one (x := x) (by simp), one (x := y) (by simp)]
  case entryStore t x y z => rw [one (x := x) (by simp), one (x := y) (by simp), one (x := z) (by simp)]
  case extract x i => rw [one (x := x) (by simp)]
  case slice t x l hi m =>
    have e1 := one (x := x) (by simp)
    have e2 : ∀ {y : Option Operand}, (∀ z, y = some z → ev tm z = ev tm' z) → evO tm y = evO tm' y := by
      intro y hy
      cases y with
      | none => rfl
      | some z => simp only [evO, hy z rfl]
    cases m with
    | some m => rfl
    | none => simp only [e1, e2 (y := l) (fun z hz => one (by simp [hz])), e2 (y := hi) (fun z hz => one (by simp [hz]))]
  case range t x => rw [one (x := x) (by simp)]
  case entry x => rw [one (x := x) (by simp)]
  case next x b =>
    cases b <;> first
      | rfl
      | (simp only []; rw [one (x := x) (by simp)])
  case nilCheck x => rw [one (x := x) (by simp)]
  case makeInterface t x => rw [one (x := x) (by simp)]
  case typeAssert x t u ok => rw [one (x := x) (by simp)]
  case panic x => rw [one (x := x) (by simp)]
  case defer c =>
    obtain ⟨callee, args, argTypes⟩ := c
    cases callee with
    | invoke r m => rfl
    | builtin b => rfl
    | value f =>
      have e1 := evL_congr (tm := tm) (tm' := tm') (xs := args.toList) fun t ht => h t (by simp only [Call.operands, Array.toList_append, tmpsOf, List.filterMap_append, List.mem_append]; exact .inr ht)
      have e2 := one (x := f) (by simp [Call.operands])
      simp only [e1, e2]
  case call c =>
    obtain ⟨callee, args, argTypes⟩ := c
    cases callee with
    | invoke r m => rfl
    | builtin b =>
      simp only [Call.operands, Array.empty_append] at h
      simp only [evL_congr h]
    | value f =>
      have e1 := evL_congr (tm := tm) (tm' := tm') (xs := args.toList) fun t ht => h t (by simp only [Call.operands, Array.toList_append, tmpsOf, List.filterMap_append, List.mem_append]; exact .inr ht)
      have e2 := one (x := f) (by simp [Call.operands])
      simp only [e1, e2]
theorem wantedA_congr {all : List Oper} {o : Oper} {tm tm' : List AVal} (h : ∀ t ∈ looksOf all o, tm[t]? = tm'[t]?) : wantedA all o tm = wantedA all o tm' := by
  unfold wantedA
  unfold looksOf at h
  cases hg : o.guard with
  | none => rfl
  | some g =>
    obtain ⟨j, want⟩ := g
    rw [hg] at h
    simp only [] at h ⊢
    cases hd : (all[j]?).bind (·.dst) with
    | none => rfl
    | some d =>
      simp only []
      rw [h d (by simp [hd])]
theorem gj_congr {all : List Oper} {o : Oper} {tm tm' : List AVal} (h : ∀ t ∈ looksOf all o, tm[t]? = tm'[t]?) : gj all o tm = gj all o tm' := by
  unfold gj
  unfold looksOf at h
  cases hg : o.guard with
  | none => rfl
  | some g =>
    obtain ⟨j, want⟩ := g
    rw [hg] at h
    simp only [] at h ⊢
    cases hd : (all[j]?).bind (·.dst) with
    | none => rfl
    | some d =>
      simp only []
      rw [h d (by simp [hd])]
theorem stepV_congr {all : List Oper} {o : Oper} {tm tm' : List AVal} {df df' : List ADef} {σ : Mem} (h : ∀ t ∈ looksOf all o, tm[t]? = tm'[t]?) :
    stepV T H all o ⟨tm, df, σ⟩ = stepV T H all o ⟨tm', df', σ⟩ := by
  unfold stepV
  simp only [gj_congr h, wantedA_congr h, aexec_congr (T := T) (H := H) (σ := σ) fun t ht => h t (by unfold looksOf; exact List.mem_append.2 (.inl ht))]
theorem masks_spec : ∀ (l : List Oper) (acc : List Nat), (masks l acc).length = acc.length + l.length ∧ (∀ i, i < acc.length → (masks l acc)[i]? = acc[i]?) ∧
    ∀ i o, l[i]? = some o → (masks l acc)[acc.length + i]? = some (maskOf ((masks l acc).take (acc.length + i)) o)
  | [], acc => by simp [masks]
  | o :: r, acc => by
    obtain ⟨h1, h2, h3⟩ := masks_spec r (acc ++ [maskOf acc o])
    simp only [masks]
    simp only [List.length_append, List.length_singleton] at h1 h2 h3
    refine ⟨by simp [h1]; omega, fun i hi => ?_, fun i o' hi => ?_⟩
    · rw [h2 i (by omega), List.getElem?_append_left hi]
    · cases i with
      | zero =>
        simp only [List.getElem?_cons_zero, Option.some.injEq] at hi
        subst hi
        have e : (masks r (acc ++ [maskOf acc o])).take acc.length = acc := by
          apply List.ext_getElem?
          intro k
          rw [List.getElem?_take]
          split
          · rename_i hk; rw [h2 k (by omega), List.getElem?_append_left hk]
          · rename_i hk; rw [List.getElem?_eq_none (by omega)]
        rw [Nat.add_zero, e, h2 acc.length (by omega), List.getElem?_append_right (Nat.le_refl _)]
        simp
      | succ i =>
        have := h3 i o' (by simpa using hi)
        rwa [show acc.length + 1 + i = acc.length + (i + 1) by omega] at this
theorem maskOf_bit (acc : List Nat) (j : Nat) : ∀ (es : List Edge) (s : Nat), (es.foldl (fun s e => if Region.binds .any e then s ||| (1 <<< e.on) ||| acc.getD e.on 0 else s) s).testBit j = true →
    s.testBit j = true ∨ ∃ e ∈ es, Region.binds .any e = true ∧ (e.on = j ∨ (acc.getD e.on 0).testBit j = true)
  | [], s, h => .inl h
  | e :: es, s, h => by
    simp only [List.foldl_cons] at h
    rcases maskOf_bit acc j es _ h with h | ⟨e', h1, h2, h3⟩
    · split at h
      · rename_i hb
        simp only [Nat.testBit_or, Bool.or_eq_true] at h
        rcases h with (h | h) | h
        · exact .inl h
        · refine .inr ⟨e, by simp, hb, .inl ?_⟩
          rw [Nat.one_shiftLeft, Nat.testBit_two_pow] at h
          simpa using h
        · exact .inr ⟨e, by simp, hb, .inr h⟩
      · exact .inl h
    · exact .inr ⟨e', by simp [h1], h2, h3⟩
def Closed (all : List Oper) (L : Nat → Bool) : Prop := ∀ i o, all[i]? = some o → L i = true → ∀ e ∈ o.after, Region.binds .any e = true → L e.on = true
theorem anc_listed {all : List Oper} (he : edgesOk all = true) {L : Nat → Bool} (hc : Closed all L) : ∀ (n i : Nat) (o : Oper), i ≤ n → all[i]? = some o →
    (∀ e ∈ o.after, Region.binds .any e = true → L e.on = true) → ∀ j, anc (masks all []) j i = true → L j = true := by
  intro n
  induction n with
  | zero =>
    intro i o hi ho hr j hj
    obtain rfl : i = 0 := by omega
    obtain ⟨_, _, h3⟩ := masks_spec all []
    have hm := h3 0 o ho
    simp only [List.length_nil, Nat.zero_add, List.take_zero] at hm
    simp only [anc, List.getD_eq_getElem?_getD, hm, Option.getD_some] at hj
    rcases maskOf_bit _ j _ _ hj with h | ⟨e, h1, h2, h4⟩
    · simp at h
    · have := edgesOk_lt he ho h1 h2
      omega
  | succ n ih =>
    intro i o hi ho hr j hj
    obtain ⟨_, _, h3⟩ := masks_spec all []
    have hm := h3 i o ho
    simp only [List.length_nil, Nat.zero_add] at hm
    simp only [anc, List.getD_eq_getElem?_getD, hm, Option.getD_some] at hj
    rcases maskOf_bit _ j _ _ hj with h | ⟨e, h1, h2, h4⟩
    · simp at h
    · have hlt := edgesOk_lt he ho h1 h2
      have hl := hr e (Array.mem_def.2 h1) h2
      rcases h4 with h4 | h4
      · exact h4 ▸ hl
      · have hil : i < all.length := (List.getElem?_eq_some_iff.1 ho).1
        have hoe : all[e.on]? = some all[e.on] := List.getElem?_eq_getElem (by omega)
        refine ih e.on all[e.on] (by omega) hoe (hc e.on _ hoe hl) j ?_
        simp only [anc, List.getD_eq_getElem?_getD]
        rw [List.getD_eq_getElem?_getD, List.getElem?_take, if_pos hlt] at h4
        exact h4
where
  edgesOk_lt {all : List Oper} (he : edgesOk all = true) {i : Nat} {o : Oper} (ho : all[i]? = some o) {e : Edge} (h1 : e ∈ o.after.toList) (h2 : Region.binds .any e = true) : e.on < i := by
    unfold edgesOk at he
    rw [List.all_eq_true] at he
    have := he (o, i) (List.mem_zipIdx_iff_getElem?.2 ho)
    simp only [List.all_eq_true] at this
    have := this e h1
    simpa [h2] using this
theorem edges_lt {all : List Oper} (he : edgesOk all = true) {i : Nat} {o : Oper} (ho : all[i]? = some o) {e : Edge} (h1 : e ∈ o.after) (h2 : Region.binds .any e = true) : e.on < i := by
  unfold edgesOk at he
  rw [List.all_eq_true] at he
  have := he (o, i) (List.mem_zipIdx_iff_getElem?.2 ho)
  simp only [List.all_eq_true] at this
  have := this e (Array.mem_def.1 h1)
  simpa [h2] using this
theorem pairs_of {all : List Oper} {ms : List Nat} (h : pairsOk all ms = true) {i j : Nat} {oi oj : Oper} (hi : all[i]? = some oi) (hj : all[j]? = some oj) :
    (i ≠ j → ∀ d e, oi.dst = some d → oj.dst = some e → d ≠ e) ∧
    (i ≠ j → ∀ d, oj.dst = some d → d ∈ looksOf all oi → (j < i ∧ anc ms j i = true) ∨ (i < j ∧ anc ms i j = true)) := by
  unfold pairsOk at h
  rw [List.all_eq_true] at h
  have h := h (oi, i) (List.mem_zipIdx_iff_getElem?.2 hi)
  rw [List.all_eq_true] at h
  have h := h (oj, j) (List.mem_zipIdx_iff_getElem?.2 hj)
  simp only [Bool.and_eq_true, Bool.or_eq_true, beq_iff_eq] at h
  obtain ⟨h1, h2⟩ := h
  refine ⟨fun hne d e hd he => ?_, fun hne d hd hm => ?_⟩
  · rcases h1 with h1 | h1
    · exact absurd h1 hne
    · rw [hd, he] at h1; simpa using h1
  · rcases h2 with h2 | h2
    · exact absurd h2 hne
    · rw [hd] at h2
      simp only [Bool.or_eq_true, Bool.and_eq_true, decide_eq_true_eq, Bool.not_eq_true', List.contains_eq_mem] at h2
      rcases h2 with (h2 | h2) | h2
      · simp [hm] at h2
      · exact .inl h2
      · exact .inr h2
theorem anc_lt {all : List Oper} (he : edgesOk all = true) {i j : Nat} {o : Oper} (hi : all[i]? = some o) (h : anc (masks all []) j i = true) : j < i := by
  have hc : Closed all (fun k => decide (k < i)) := by
    intro k ok hk hlt e he' hb
    simp only [decide_eq_true_eq] at hlt ⊢
    exact Nat.lt_trans (edges_lt he hk he' hb) hlt
  have := anc_listed he hc i i o (Nat.le_refl _) hi (fun e he' hb => by simp only [decide_eq_true_eq]; exact edges_lt he hi he' hb) j h
  simpa using this
end
end Go.Ev

