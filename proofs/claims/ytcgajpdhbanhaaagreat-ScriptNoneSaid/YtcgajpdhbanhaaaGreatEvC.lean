import Derived.Test.YtcgajpdhbanhaaaGreatEvB
namespace Go.Ev
set_option linter.unusedVariables false
set_option linter.unusedSimpArgs false
def KOk (P : Program) (t : TypeId) : TK → Prop
  | .int k => P.underlying t = some (.int k)
  | .bool => P.underlying t = some .bool
  | .str => P.underlying t = some .string
  | .ptr e => P.underlying t = some (.pointer e)
  | .slice e => P.underlying t = some (.slice e)
  | .arr n e => P.underlying t = some (.array n e)
  | .struct fs => ∃ fields : Array Field, P.underlying t = some (.struct fields) ∧ fields.toList.map (fun f => (f.offset, f.type)) = fs
  | .map k e => P.underlying t = some (.map k e)
  | .func => ∃ a b c, P.underlying t = some (.func a b c)
  | .iface => ∃ ms, P.underlying t = some (.interface ms)
  | .other => False
def TK.isAgg : TK → Bool
  | .struct _ | .arr _ _ => true
  | _ => false
def FlatOk (P : Program) (t : TypeId) (ks : List TK) : Prop :=
  P.eqGuardType P.depth t = false ∧ ∀ (ρ : Nat → Loc) (w : World) (xs ys : List AVal) (r : Bool), eqCells ks xs ys = some r →
    (Op.equal t (.agg (γL ρ xs).toArray) (.agg (γL ρ ys).toArray)).run P w = .ok r w ∧
    ∀ b, (Instr.checkKey b 10000 t (.agg (γL ρ xs).toArray)).run P w = .ok () w
structure TyOk (P : Program) (t : TypeId) (i : TyI) : Prop where
  info : ∃ inf, P.info? t = some inf ∧ inf.size = i.size ∧ inf.bytes = i.bytes ∧ ∃ z, inf.zero = some z ∧ ∀ ρ, z = if i.agg then .agg (γL ρ i.zero).toArray else γ ρ (i.zero.headD .nili)
  zlen : i.zero.length = i.size
  zone : i.agg = false → i.size = 1
  zsc : scC 0 i.zero = true
  k : KOk P t i.k
  agg : i.agg = i.k.isAgg
  flat : ∀ ks, i.flat = some ks → FlatOk P t ks
def TabOk (P : Program) (T : TTab) : Prop := ∀ t i, T t = some i → TyOk P t i
section
variable {P : Program} {t : TypeId} {i : TyI}
theorem TyOk.run_info (h : TyOk P t i) (w : World) : ∃ inf, (typeInfo t).run P w = .ok inf w ∧ inf.size = i.size ∧ inf.bytes = i.bytes := by
  obtain ⟨inf, h1, h2, h3, _⟩ := h.info
  exact ⟨inf, by simp [typeInfo, h1], h2, h3⟩
theorem TyOk.run_size (h : TyOk P t i) (w : World) : (sizeOf t).run P w = .ok i.size w := by
  obtain ⟨inf, h1, h2, h3, _⟩ := h.info
  simp [sizeOf, typeInfo, h1, h2]
theorem TyOk.run_zero (h : TyOk P t i) (ρ : Nat → Loc) (w : World) : (zeroValue t).run P w = .ok (if i.agg then .agg (γL ρ i.zero).toArray else γ ρ (i.zero.headD .nili)) w := by
  obtain ⟨inf, h1, h2, h3, z, h4, h5⟩ := h.info
  simp [zeroValue, typeInfo, h1, h4, h5 ρ]
theorem TyOk.zero_cells (h : TyOk P t i) (ρ : Nat → Loc) : (if i.agg then Value.agg (γL ρ i.zero).toArray else γ ρ (i.zero.headD .nili)).cells = (γL ρ i.zero).toArray := by
  cases ha : i.agg with
  | true => simp [Value.cells]
  | false =>
    have h1 := h.zone ha
    have h2 := h.zlen
    match hz : i.zero with
    | [] => simp [hz] at h2; omega
    | [v] =>
      simp only [Bool.false_eq_true, if_false, List.headD_cons]
      have hv := h.zsc
      rw [hz] at hv
      rw [cells_γ _ _ (by cases v <;> simp_all [scC, AVal.isCell, AVal.isTup])]
      cases v <;> simp_all [AVal.cellsOf, scC, AVal.isCell]
    | _ :: _ :: _ => simp [hz] at h2; omega
theorem TyOk.run_isAgg (h : TyOk P t i) (w : World) : (isAgg t).run P w = .ok i.agg w := by
  have hk := h.k
  rw [h.agg]
  cases hi : i.k <;> rw [hi] at hk <;> simp only [KOk] at hk
  case struct fs => obtain ⟨f, hf, _⟩ := hk; simp [isAgg, underlying, hf, TK.isAgg]
  case func => obtain ⟨a, b, c, hf⟩ := hk; simp [isAgg, underlying, hf, TK.isAgg]
  case iface => obtain ⟨a, hf⟩ := hk; simp [isAgg, underlying, hf, TK.isAgg]
  all_goals simp [isAgg, underlying, hk, TK.isAgg]
end
theorem TyOk.isSome {P : Program} {t : TypeId} {i : TyI} (h : TyOk P t i) : (P.underlying t).isSome = true := by
  have hk := h.k
  cases hi : i.k <;> rw [hi] at hk <;> simp only [KOk] at hk
  case struct fs => obtain ⟨f, hf, _⟩ := hk; simp [hf]
  case func => obtain ⟨a, b, c, hf⟩ := hk; simp [hf]
  case iface => obtain ⟨a, hf⟩ := hk; simp [hf]
  all_goals simp [hk]
def ABlk.content : ABlk → Option (List AVal)
  | .cells cs _ _ => some cs
  | .vec cs _ _ _ => some cs
  | _ => none
theorem Rel.row {w0 : W0} {ρ : Nat → Loc} {σ : Mem} {w : World} (h : Rel w0 ρ σ w) {b : Nat} {bk : ABlk} {cs : List AVal}
    (hb : σ.get b = some bk) (hc : bk.content = some cs) (hn : cs ≠ []) : ∃ c e fz, w.heap[(ρ b).blk]? = some (.cells c e fz) ∧ ∃ pre post, c.toList = pre ++ γL ρ cs ++ post ∧ pre.length = (ρ b).base := by
  have := h.ok b _ hb
  cases bk <;> simp only [ABlk.content, reduceCtorEq, Option.some.injEq] at hc
  case cells cs' own gr =>
    subst hc
    obtain ⟨c, e, fz, h1, h2, _⟩ := this
    exact ⟨c, e, fz, h1, h2⟩
  case vec cs' n sz own =>
    subst hc
    rcases this.2 with q | ⟨_, _, _, c, e, fz, h1, h2, _⟩
    · exact absurd q.2.1 hn
    · exact ⟨c, e, fz, h1, h2⟩
theorem Rel.content_sc {w0 : W0} {ρ : Nat → Loc} {σ : Mem} {w : World} (h : Rel w0 ρ σ w) {b : Nat} {bk : ABlk} {cs : List AVal}
    (hb : σ.get b = some bk) (hc : bk.content = some cs) : scC σ.next cs = true := by
  have := h.sco b _ hb
  cases bk <;> simp only [ABlk.content, reduceCtorEq, Option.some.injEq] at hc
  case cells cs' own gr => subst hc; exact this
  case vec cs' n sz own => subst hc; exact scC_mono (Nat.zero_le _) _ this
theorem Rel.cell {w0 : W0} {ρ : Nat → Loc} {σ : Mem} {w : World} (h : Rel w0 ρ σ w) {b : Nat} {bk : ABlk} {cs : List AVal}
    (hb : σ.get b = some bk) (hc : bk.content = some cs) {j : Nat} {v : AVal} (hj : cs[j]? = some v) : w.cell? ⟨(ρ b).blk, (ρ b).base + j, none⟩ = some (γ ρ v) := by
  obtain ⟨c, e, fz, h1, pre, post, h2, h3⟩ := h.row hb hc (by rintro rfl; cases hj)
  simp only [World.cell?, h1, Option.isSome_none, Bool.false_eq_true, if_false]
  rw [← Array.getElem?_toList, h2, List.append_assoc, List.getElem?_append_right (by omega), List.getElem?_append_left]
  · rw [show (ρ b).base + j - pre.length = j by omega, γL_get, hj]; rfl
  · rw [γL_length]; have := (List.getElem?_eq_some_iff.1 hj).1; omega
theorem add_none (g o n : Nat) : (⟨g, o, none⟩ : Addr).add n = ⟨g, o + n, none⟩ := by unfold Addr.add; split <;> simp_all
theorem cellsAt_some {σ : Mem} {b o n : Nat} {vs : List AVal} (h : cellsAt σ b o n = some vs) :
    ∃ cs bk, σ.get b = some bk ∧ bk.content = some cs ∧ o + n ≤ cs.length ∧ vs = (cs.drop o).take n := by
  unfold cellsAt at h
  split at h
  · rename_i cs own gr hg
    split at h
    · cases h; exact ⟨cs, _, hg, rfl, by assumption, rfl⟩
    · cases h
  · rename_i cs n sz own hg
    split at h
    · cases h; exact ⟨cs, _, hg, rfl, by assumption, rfl⟩
    · cases h
  · cases h
theorem Rel.run_loadCells {w0 : W0} {ρ : Nat → Loc} {σ : Mem} {w : World} (h : Rel w0 ρ σ w) {P : Program} {b o n : Nat} {vs : List AVal} (hc : cellsAt σ b o n = some vs) :
    (loadCells ⟨(ρ b).blk, (ρ b).base + o, none⟩ n).run P w = .ok (γL ρ vs).toArray w ∧ vs.length = n ∧ scC σ.next vs = true := by
  obtain ⟨cs, bk, hg, hbk, hl, rfl⟩ := cellsAt_some hc
  have hlen : ((cs.drop o).take n).length = n := by simp; omega
  refine ⟨?_, hlen, scC_take (scC_drop (h.content_sc hg hbk))⟩
  have := run_loadCells_list (P := P) w ⟨(ρ b).blk, (ρ b).base + o, none⟩ (γL ρ ((cs.drop o).take n)) (fun j v hj => ?_)
  · rwa [γL_length, hlen] at this
  · rw [add_none, Nat.add_assoc]
    rw [γL_get] at hj
    cases hv : ((cs.drop o).take n)[j]? with
    | none => rw [hv] at hj; cases hj
    | some u =>
      rw [hv] at hj; cases hj
      refine h.cell hg hbk ?_
      rw [List.getElem?_take] at hv
      split at hv
      · rwa [List.getElem?_drop] at hv
      · cases hv
theorem Rel.run_loadVar {w0 : W0} {ρ : Nat → Loc} {σ : Mem} {w : World} (h : Rel w0 ρ σ w) {P : Program} {T : TTab} (hT : TabOk P T) {t : TypeId} {x v : AVal}
    (hl : loadA T σ t x = some v) : ∃ b o, x = .ptr b o ∧ (loadVar t ⟨(ρ b).blk, (ρ b).base + o, none⟩).run P w = .ok (γ ρ v) w ∧ sc σ.next v = true := by
  unfold loadA at hl
  split at hl
  · rename_i i b o ht
    split at hl
    · cases hl
    · rename_i cs hcs
      have hti := hT t i ht
      obtain ⟨h1, h2, h3⟩ := h.run_loadCells (P := P) hcs
      refine ⟨b, o, rfl, ?_⟩
      split at hl
      · rename_i ha
        cases hl
        exact ⟨by simp [loadVar, hti.run_isAgg, ha, hti.run_size, h1, γ], by simpa [sc] using h3⟩
      · rename_i ha
        have ha' : i.agg = false := by simpa using ha
        have hone := hti.zone ha'
        obtain ⟨bs, bk, hg, hbk, hle, rfl⟩ := cellsAt_some hcs
        have h0 : bs[o]? = some v := by
          rw [hone] at hl
          rw [List.head?_take, if_neg (by omega), List.head?_drop] at hl
          exact hl
        refine ⟨?_, ?_⟩
        · simp [loadVar, hti.run_isAgg, ha', run_load, h.cell hg hbk h0]
        · have := h.content_sc hg hbk
          simp only [scC_iff] at this
          exact (this v (List.mem_of_getElem? h0)).2
  · cases hl
theorem run_storeCells_atZ {P : Program} (g o : Nat) (t : TypeId) (fz : Nat × Nat) : ∀ (vs : List Value) (i : Nat) (cur : Array Value) (w : World), w.heap[g]? = some (.cells cur t fz) → fzOk fz cur.size → o + i + vs.length ≤ cur.size → (∀ v ∈ vs, v.oneCell' = true) →
    (storeCells ⟨g, o, none⟩ vs i).run P w = .ok () (w.setRow g (cur.toList.take (o + i) ++ vs ++ cur.toList.drop (o + i + vs.length)).toArray)
  | [], i, cur, w, hg, _, _, _ => by
    simp only [storeCells, List.append_nil, List.length_nil, Nat.add_zero, List.take_append_drop, Array.toArray_toList]
    rw [setRow_self w g cur t fz hg]
    rfl
  | v :: rest, i, cur, w, hg, hz, hl, h1 => by
    have hi : o + i < cur.size := by simp at hl; omega
    have hadd : (⟨g, o, none⟩ : Addr).add i = ⟨g, o + i, none⟩ := by unfold Addr.add; split <;> simp_all
    have hcell : w.cell? ⟨g, o + i, none⟩ = some cur[o + i] := by simp [World.cell?, hg, hi]
    have hfro : w.frozen? ⟨g, o + i, none⟩ = false := by
      obtain ⟨lo, up⟩ := fz
      simp only [World.frozen?, hg, Bool.and_eq_false_iff, decide_eq_false_iff_not]
      rcases hz with hz | hz
      · cases hz; right; omega
      · left; simp only at hz; omega
    have hst : (store ((⟨g, o, none⟩ : Addr).add i) v).run P w = .ok () (w.setRow g (cur.setIfInBounds (o + i) v)) := by
      rw [hadd, run_store P w _ v _ (h1 v (by simp)), hcell]
      simp [hfro, setCell_eq_setRow w g (o + i) cur t fz v hg]
    have ih := run_storeCells_atZ (P := P) g o t fz rest (i + 1) (cur.setIfInBounds (o + i) v) (w.setRow g (cur.setIfInBounds (o + i) v)) (setRow_heap w g cur _ t _ hg) (by simpa using hz) (by simp at hl ⊢; omega) (fun x hx => h1 x (by simp [hx]))
    simp only [storeCells, Sem.run_bind, hst, Result.andThen_ok, ih, setRow_setRow]
    congr 3
    have e := list_seg_step cur.toList (o + i) v rest (by simp at hl ⊢; omega)
    simpa [Array.toList_setIfInBounds, Nat.add_assoc] using e
theorem put_row {ρ : Nat → Loc} {w : World} {P : Program} {blk base o : Nat} {c : Array Value} {e : TypeId} {cs vs : List AVal} {pre post : List Value} {n : Nat} {fz : Nat × Nat}
    (hz : fzOk fz c.size) (h1 : w.heap[blk]? = some (.cells c e fz)) (h2 : c.toList = pre ++ γL ρ cs ++ post) (h3 : pre.length = base) (hle : o + vs.length ≤ cs.length) (hs : scC n vs = true) :
    ∃ w' c', (storeCells ⟨blk, base + o, none⟩ (γL ρ vs)).run P w = .ok () w' ∧ w'.heap[blk]? = some (.cells c' e fz) ∧ c'.toList = pre ++ γL ρ (spliced cs o vs) ++ post ∧ c'.size = c.size ∧
      w'.heap.size = w.heap.size ∧ (∀ k, k ≠ blk → w'.heap[k]? = w.heap[k]?) ∧ w'.os = w.os ∧ w'.tape = w.tape ∧ w'.output = w.output := by
  have hcl : c.size = pre.length + cs.length + post.length := by
    have := congrArg List.length h2
    simp at this; omega
  have hst := run_storeCells_atZ (P := P) blk (base + o) e fz (γL ρ vs) 0 c w h1 hz (by rw [γL_length]; omega)
    (fun v hv => by
      rw [γL_map] at hv
      obtain ⟨u, hu, rfl⟩ := List.mem_map.1 hv
      exact oneCell_γ ((scC_iff _ _).1 hs u hu).1)
  refine ⟨_, _, hst, setRow_heap w _ c _ e _ h1, ?_, ?_, by simp [World.setRow], fun k hk => setRow_other w _ k _ hk, rfl, rfl, rfl⟩
  · simp only [spliced, γL_append, γL_take, γL_drop, Nat.add_zero]
    rw [h2, γL_length, ← h3]
    have e1 : (pre ++ γL ρ cs ++ post).take (pre.length + o) = pre ++ (γL ρ cs).take o := by
      rw [List.append_assoc, List.take_append, List.take_of_length_le (by omega), show pre.length + o - pre.length = o by omega, List.take_append,
        show o - (γL ρ cs).length = 0 by rw [γL_length]; omega, List.take_zero, List.append_nil]
    have e2 : (pre ++ γL ρ cs ++ post).drop (pre.length + o + vs.length) = (γL ρ cs).drop (o + vs.length) ++ post := by
      rw [List.append_assoc, List.drop_append, List.drop_of_length_le (by omega), List.nil_append, show pre.length + o + vs.length - pre.length = o + vs.length by omega,
        List.drop_append, show o + vs.length - (γL ρ cs).length = 0 by rw [γL_length]; omega, List.drop_zero]
    rw [e1, e2]
    simp only [List.append_assoc]
  · simp only [List.size_toArray, List.length_append, List.length_take, List.length_drop, Array.length_toList, γL_length, Nat.add_zero]; omega
theorem spliced_length {cs vs : List AVal} {o : Nat} (h : o + vs.length ≤ cs.length) : (spliced cs o vs).length = cs.length := by
  simp only [spliced, List.length_append, List.length_take, List.length_drop]; omega
theorem scC_spliced {n o : Nat} {cs vs : List AVal} (hc : scC n cs = true) (hv : scC n vs = true) : scC n (spliced cs o vs) = true :=
  scC_append.2 ⟨scC_append.2 ⟨scC_take hc, hv⟩, scC_drop hc⟩
theorem Rel.run_putA {w0 : W0} {ρ : Nat → Loc} {σ σ' : Mem} {w : World} (h : Rel w0 ρ σ w) {P : Program} {b o : Nat} {vs : List AVal} (hp : putA σ b o vs = some σ')
    (hs : scC σ.next vs = true) : ∃ w', (storeCells ⟨(ρ b).blk, (ρ b).base + o, none⟩ (γL ρ vs)).run P w = .ok () w' ∧ Rel w0 ρ σ' w' ∧ σ'.next = σ.next := by
  unfold putA at hp
  split at hp
  · rename_i cs gr hg
    split at hp
    · rename_i hle
      cases hp
      obtain ⟨c, e, fz, h1, ⟨pre, post, h2, h3⟩, h4, h5⟩ := h.ok b _ hg
      obtain ⟨w', c', r0, r1, r2, r3, r4, r5, r6, r7, r8⟩ := put_row (P := P) (h4 rfl) h1 h2 h3 hle hs
      refine ⟨w', r0, ?_, rfl⟩
      refine h.set hg rfl (scC_spliced (h.sco b _ hg) hs) ?_ r4 r5 r6 r7 r8
      exact ⟨c', e, fz, r1, ⟨pre, post, r2, h3⟩, fun _ => by rw [r3]; exact h4 rfl, fun g hgr => by rw [spliced_length hle, r3]; exact h5 g hgr⟩
    · cases hp
  · rename_i cs n sz hg
    split at hp
    · rename_i hle
      obtain ⟨hle, hfl⟩ := hle
      cases hp
      obtain ⟨g0, g1⟩ := h.ok b _ hg
      rcases g1 with ⟨rfl, rfl, _⟩ | ⟨q1, q2, q3, c, e, fz, h1, ⟨pre, post, h2, h3⟩, h4⟩
      · have hv : vs = [] := by
          have : vs.length = 0 := by simp only [List.length_nil] at hle; omega
          exact List.length_eq_zero_iff.1 this
        subst hv
        refine ⟨w, by simp [γL, storeCells], ?_, rfl⟩
        refine ⟨?_, ?_, ?_, ?_, ?_, ?_, h.os, h.tape, h.output, h.size, h.old⟩
        · intro j bj hj
          rw [get_set] at hj
          split at hj
          · rename_i e; rw [← e]; exact h.lt b _ hg
          · exact h.lt j bj hj
        · intro j bj hj
          rw [get_set] at hj
          split at hj
          · cases hj; simp [spliced, scB, scC]
          · exact h.sco j bj hj
        · intro j bj hj
          rw [get_set] at hj
          split at hj
          · rename_i e; rw [← e]; cases hj; simpa [spliced] using h.ok b _ hg
          · exact h.ok j bj hj
        · intro j bj hj ha
          rw [get_set] at hj
          split at hj
          · cases hj; simp [spliced, ABlk.alive] at ha
          · exact h.inb j bj hj ha
        · intro j k bj bk hj hk hjk hoj hak
          rw [get_set] at hj hk
          split at hj
          · cases hj; simp [spliced, ABlk.owned] at hoj
          · split at hk
            · cases hk; simp [spliced, ABlk.alive] at hak
            · exact h.ap j k bj bk hj hk hjk hoj hak
        · intro j bj hj hoj
          rw [get_set] at hj
          split at hj
          · cases hj; simp [spliced, ABlk.owned] at hoj
          · exact h.own j bj hj hoj
      · obtain ⟨hz, q4, h5⟩ := h4 rfl
        obtain ⟨w', c', r0, r1, r2, r3, r4, r5, r6, r7, r8⟩ := put_row (P := P) hz h1 h2 h3 hle hs
        refine ⟨w', r0, ?_, rfl⟩
        refine h.set hg (by cases cs <;> simp_all [ABlk.owned]) (scC_spliced (h.sco b _ hg) hfl) ?_ r4 r5 r6 r7 r8
        refine ⟨g0, .inr ⟨?_, q2, by rw [spliced_length hle]; exact q3, c', e, fz, r1, ⟨pre, post, r2, h3⟩, fun _ => ⟨by rw [r3]; exact hz, q4, by rw [r3]; exact h5⟩⟩⟩
        intro e0
        have := spliced_length hle
        rw [e0] at this
        exact q1 (List.length_eq_zero_iff.1 this.symm)
    · cases hp
  · cases hp
theorem Rel.run_storeVar {w0 : W0} {ρ : Nat → Loc} {σ σ' : Mem} {w : World} (h : Rel w0 ρ σ w) {P : Program} {T : TTab} (hT : TabOk P T) {t : TypeId} {x v : AVal}
    (hp : storeA T σ t x v = some σ') (hs : sc σ.next v = true) :
    ∃ b o w', x = .ptr b o ∧ (storeVar t ⟨(ρ b).blk, (ρ b).base + o, none⟩ (γ ρ v)).run P w = .ok () w' ∧ Rel w0 ρ σ' w' ∧ σ'.next = σ.next := by
  unfold storeA at hp
  split at hp
  · rename_i i b o ht
    split at hp
    · rename_i hlen
      obtain ⟨hlen, hv⟩ := hlen
      obtain ⟨w', h1, h2, h3⟩ := h.run_putA (P := P) hp (scC_cellsOf hs hv)
      refine ⟨b, o, w', rfl, ?_, h2, h3⟩
      have hsz : (γL ρ v.cellsOf).length = i.size := by rw [γL_length, hlen]
      simp only [storeVar, Sem.run_bind, (hT t i ht).run_size, Result.andThen_ok, cells_γ _ _ hv, List.size_toArray, hsz, ne_eq, not_true_eq_false, if_false]
      simpa using h1
    · cases hp
  · cases hp
end Go.Ev

