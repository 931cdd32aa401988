import Derived.Test.YtcgajpdhbanhaaaGreatEvD
namespace Go.Ev
set_option linter.unusedVariables false
set_option linter.unusedSimpArgs false
section
variable {P : Program} {T : TTab} {ρ : Nat → Loc} {n : Nat} (w : World)
theorem struct_field {fields : Array Field} {fs : List (Nat × TypeId)} (h : fields.toList.map (fun f => (f.offset, f.type)) = fs) {i off : Nat} {t : TypeId}
    (hi : fs[i]? = some (off, t)) : ∃ f, fields[i]? = some f ∧ f.offset = off ∧ f.type = t := by
  rw [← h, List.getElem?_map] at hi
  rw [← Array.getElem?_toList]
  cases hf : fields.toList[i]? with
  | none => rw [hf] at hi; cases hi
  | some f => rw [hf] at hi; simp at hi; exact ⟨f, rfl, hi.1, hi.2⟩
theorem fieldAddr_run (hT : TabOk P T) {s : TypeId} {x v : AVal} {f : Nat} (hs : sc n x = true) (h : fieldAddrA T s x f = some v) :
    (Instr.fieldAt s (γ ρ x) f).run P w = .ok (γ ρ v) w ∧ sc n v = true := by
  unfold fieldAddrA at h
  split at h
  · rename_i fs _ b o _ _ _ _ _ hTs
    split at h
    · cases h
    · rename_i off t hft
      split at h
      · cases h
      · rename_i i hTt
        split at h
        · cases h
        · rename_i hz
          cases h
          obtain ⟨fields, hu, hm⟩ := (hT _ _ hTs).k
          obtain ⟨fd, h1, h2, h3⟩ := struct_field hm hft
          refine ⟨?_, by simpa [sc] using hs⟩
          simp only [γ, Instr.fieldAt, Sem.run_bind, run_underlying hu, Result.andThen_ok, h1, Instr.sureAddr, Sem.run_pure, fieldPlace, h3, (hT _ _ hTt).run_size, if_neg hz, add_none, h2, Nat.add_assoc]
  · cases h
theorem partA_run (hT : TabOk P T) {t : TypeId} {cs : List AVal} {off : Nat} {v : AVal} (hs : scC n cs = true) (h : partA T t cs off = some v) :
    (part t (γL ρ cs).toArray off).run P w = .ok (γ ρ v) w ∧ sc n v = true := by
  unfold partA at h
  split at h
  · cases h
  · rename_i i ht
    have hti := hT t i ht
    split at h
    · rename_i ha
      cases h
      refine ⟨?_, by simp only [sc]; exact scC_take (scC_drop hs)⟩
      simp only [part, Sem.run_bind, hti.run_isAgg, ha, Result.andThen_ok, if_true, hti.run_size, Sem.run_pure, γ]
      congr 2
      apply Array.ext'
      simp only [Array.toList_extract, List.extract_eq_take_drop, γL_take, γL_drop, Nat.add_sub_cancel_left]
    · rename_i ha
      have ha' : i.agg = false := by simpa using ha
      refine ⟨?_, ?_⟩
      · simp [part, Sem.run_bind, hti.run_isAgg, ha', Result.andThen_ok, γL_get, h]
      · exact ((scC_iff _ _).1 hs v (List.mem_of_getElem? h)).2
theorem field_run (hT : TabOk P T) {s : TypeId} {x v : AVal} {f : Nat} (hs : sc n x = true) (h : fieldA T s x f = some v) :
    (Instr.field s (γ ρ x) f).run P w = .ok (γ ρ v) w ∧ sc n v = true := by
  unfold fieldA at h
  split at h
  · rename_i fs _ cs _ _ _ _ _ hTs
    split at h
    · cases h
    · rename_i off t hft
      obtain ⟨fields, hu, hm⟩ := (hT _ _ hTs).k
      obtain ⟨fd, h1, h2, h3⟩ := struct_field hm hft
      simp only [sc] at hs
      obtain ⟨h4, h5⟩ := partA_run (ρ := ρ) w hT hs h
      refine ⟨?_, h5⟩
      simp only [γ, Instr.field, Sem.run_bind, run_underlying hu, Result.andThen_ok, h1, asAgg, Sem.run_pure, h2, h3, h4]
  · cases h
theorem indexAddr_run (hT : TabOk P T) {w0 : W0} {σ : Mem} (hr : Rel w0 ρ σ w) {t : TypeId} {x i v : AVal} (hs : sc n x = true) (h : indexAddrA T σ t x i = some v) :
    (Instr.indexAt t (γ ρ x) (γ ρ i)).run P w = .ok (γ ρ v) w ∧ sc n v = true := by
  unfold indexAddrA at h
  split at h
  · rename_i e _ b k m _ _ _ _ _ hTt
    split at h
    · rename_i j cs l sz own hTe hg
      split at h
      · rename_i hb
        cases h
        have hu := (hT _ _ hTt).k
        simp only [KOk] at hu
        refine ⟨?_, by simpa [sc] using hs⟩
        obtain ⟨g0, g1⟩ := hr.ok _ _ hg
        rcases g1 with ⟨rfl, _⟩ | ⟨_, g2, _⟩
        · omega
        · simp only [γ, g0, g2, Instr.indexAt, asIntOf, Sem.run_bind, Sem.run_pure, Result.andThen_ok, run_underlying hu, hb, and_self, if_true, (hT _ _ hTe).run_size, add_none]
      · cases h
    · cases h
  · rename_i e _ b o l ex c k m _ _ _ _ _ hTt
    split at h
    · cases h
    · rename_i j hTe
      split at h
      · rename_i hb
        cases h
        have hu := (hT _ _ hTt).k
        simp only [KOk] at hu
        refine ⟨?_, by simpa [sc] using hs⟩
        simp only [γ, Instr.indexAt, asIntOf, Sem.run_bind, Sem.run_pure, Result.andThen_ok, run_underlying hu, hb, and_self, if_true, (hT _ _ hTe).run_size, add_none, Nat.add_assoc]
      · cases h
  · rename_i l e _ b o k m _ _ _ _ _ hTt
    split at h
    · cases h
    · rename_i j hTe
      split at h
      · rename_i hb
        cases h
        have hu := (hT _ _ hTt).k
        simp only [KOk] at hu
        refine ⟨?_, by simpa [sc] using hs⟩
        simp only [γ, Instr.indexAt, asIntOf, Sem.run_bind, Sem.run_pure, Result.andThen_ok, run_underlying hu, Instr.sureAddr, hb, and_self, if_true, (hT _ _ hTe).run_size, add_none, Nat.add_assoc]
      · cases h
  · cases h
theorem index_run (hT : TabOk P T) {t : TypeId} {x i v : AVal} (hs : sc n x = true) (h : indexA T t x i = some v) :
    (Instr.index t (γ ρ x) (γ ρ i)).run P w = .ok (γ ρ v) w ∧ sc n v = true := by
  unfold indexA at h
  split at h
  · rename_i l e _ cs k m _ _ _ _ _ hTt
    split at h
    · cases h
    · rename_i j hTe
      split at h
      · rename_i hb
        have hu := (hT _ _ hTt).k
        simp only [KOk] at hu
        simp only [sc] at hs
        obtain ⟨h4, h5⟩ := partA_run (ρ := ρ) w hT hs h
        refine ⟨?_, h5⟩
        simp only [γ, Instr.index, asIntOf, Sem.run_bind, Sem.run_pure, Result.andThen_ok, run_underlying hu, hb, and_self, if_true, (hT _ _ hTe).run_size, h4]
      · cases h
  · rename_i s k m hTt
    have hu := (hT _ _ hTt).k
    simp only [KOk] at hu
    split at h
    · rename_i hb
      cases hg : s[m.toNat]? with
      | none => rw [hg] at h; cases h
      | some b =>
        rw [hg] at h; cases h
        refine ⟨?_, by simp [sc]⟩
        simp only [γ, Instr.index, asIntOf, Sem.run_bind, Sem.run_pure, Result.andThen_ok, run_underlying hu, hb, if_true, hg]
    · cases h
  · cases h
theorem foldl_set (cells : List Value) : ∀ (k : Nat) (off : Nat) (cs : Array Value), off + k + cells.length ≤ cs.size →
    (cells.zipIdx k).foldl (fun cs (x : Value × Nat) => cs.setIfInBounds (off + x.2) x.1) cs =
      (cs.toList.take (off + k) ++ cells ++ cs.toList.drop (off + k + cells.length)).toArray := by
  induction cells with
  | nil => intro k off cs h; simp
  | cons v rest ih =>
    intro k off cs h
    simp only [List.length_cons] at h
    simp only [List.zipIdx_cons, List.foldl_cons]
    rw [ih (k + 1) off (cs.setIfInBounds (off + k) v) (by simp; omega)]
    congr 1
    have hlt : off + k < cs.toList.length := by simp; omega
    simp only [Array.toList_setIfInBounds, List.length_cons]
    rw [← Nat.add_assoc, List.take_succ_eq_append_getElem (by simpa using hlt), List.take_set, List.drop_set, if_pos (by omega)]
    simp only [List.getElem_set_self, List.append_assoc, List.singleton_append]
    rw [List.set_eq_of_length_le (by simp; omega)]
    rw [show off + k + 1 + rest.length = off + k + (rest.length + 1) by omega]
theorem fill_run {size : Nat → Option (Nat × Nat)} : ∀ {parts : List (Nat × AVal)} {cs r : List AVal}, scC n cs = true → (∀ x ∈ parts, sc n x.2 = true) → fillA size cs parts = some r →
    Instr.fill size (γL ρ cs).toArray (parts.map fun x => (x.1, γ ρ x.2)) = some (γL ρ r).toArray ∧ scC n r = true
  | [], cs, r, hcs, _, h => by simp only [fillA, Option.some.injEq] at h; subst h; exact ⟨rfl, hcs⟩
  | (i, v) :: rest, cs, r, hcs, hp, h => by
    simp only [fillA] at h
    split at h
    · cases h
    · rename_i off k hk
      split at h
      · rename_i hb
        obtain ⟨h1, h2, h3⟩ := hb
        have hv := hp (i, v) (by simp)
        have hvc := scC_cellsOf hv h3
        have hcs' : scC n (spliced cs off v.cellsOf) = true := scC_append.2 ⟨scC_append.2 ⟨scC_take hcs, hvc⟩, scC_drop hcs⟩
        obtain ⟨h4, h5⟩ := fill_run hcs' (fun x hx => hp x (by simp [hx])) h
        refine ⟨?_, h5⟩
        simp only [List.map_cons, Instr.fill, hk]
        rw [if_neg (by rw [cells_γ _ _ h3]; simp; omega)]
        rw [← h4]
        congr 1
        rw [cells_γ _ _ h3]
        have := foldl_set (γL ρ v.cellsOf) 0 off (γL ρ cs).toArray (by simp; omega)
        simp only [Nat.add_zero] at this
        rw [← Array.foldl_toList, Array.toList_zipIdx, this]
        simp only [spliced, γL_append, γL_take, γL_drop, γL_length]
      · cases h
theorem structPlaces_run (hT : TabOk P T) : ∀ {fields : List Field} {ps : List (Nat × Nat)}, structPlaces T (fields.map fun f => (f.offset, f.type)) = some ps →
    (fields.mapM fun f => do pure (f.offset, ← sizeOf f.type) : Sem (List (Nat × Nat))).run P w = .ok ps w
  | [], ps, h => by simp only [List.map_nil, structPlaces, Option.some.injEq] at h; subst h; rfl
  | f :: fs, ps, h => by
    simp only [List.map_cons, structPlaces] at h
    split at h
    · rename_i i qs h1 h2
      cases h
      have ih := structPlaces_run hT h2
      simp only [List.mapM_cons, Sem.run_bind, (hT _ _ h1).run_size, Result.andThen_ok, Sem.run_pure, ih]
    · cases h
theorem build_run (hT : TabOk P T) {t : TypeId} {parts : List (Nat × AVal)} {v : AVal} (hp : ∀ x ∈ parts, sc n x.2 = true) (h : buildA T t parts = some v) :
    (Instr.build t (parts.map fun x => (x.1, γ ρ x.2)).toArray).run P w = .ok (γ ρ v) w ∧ sc n v = true := by
  unfold buildA at h
  split at h
  · cases h
  · rename_i i ht
    have hti := hT t i ht
    have hz0 := scC_mono (Nat.zero_le n) _ hti.zsc
    have hzr := hti.run_zero ρ w
    have hzc := hti.zero_cells ρ
    split at h
    · rename_i fs hk
      split at h
      · cases h
      · rename_i ps hps
        have hu := hti.k
        rw [hk] at hu
        obtain ⟨fields, hu, hm⟩ := hu
        rw [← hm] at hps
        have hpl := structPlaces_run (P := P) w hT hps
        cases hf : fillA (ps[·]?) i.zero parts with
        | none => rw [hf] at h; cases h
        | some r =>
          rw [hf] at h; cases h
          obtain ⟨h1, h2⟩ := fill_run (ρ := ρ) hz0 hp hf
          refine ⟨?_, by simpa [sc] using h2⟩
          have hpl' : (fields.mapM fun f => do pure (f.offset, ← sizeOf f.type) : Sem (Array (Nat × Nat))).run P w = .ok ps.toArray w := by
            rw [Array.mapM_eq_mapM_toList]
            simp only [Sem.run_map, hpl, Result.andThen_ok]
          simp only [Instr.build, Sem.run_bind, hzr, Result.andThen_ok, hzc, run_underlying hu, hpl', List.getElem?_toArray, h1, Sem.run_pure, γ]
    · rename_i m e hk
      split at h
      · cases h
      · rename_i j hTe
        have hu := hti.k
        rw [hk] at hu
        simp only [KOk] at hu
        cases hf : fillA (fun n => some (n * j.size, j.size)) i.zero parts with
        | none => rw [hf] at h; cases h
        | some r =>
          rw [hf] at h; cases h
          obtain ⟨h1, h2⟩ := fill_run (ρ := ρ) hz0 hp hf
          refine ⟨?_, by simpa [sc] using h2⟩
          simp only [Instr.build, Sem.run_bind, hzr, Result.andThen_ok, hzc, run_underlying hu, (hT _ _ hTe).run_size, h1, Sem.run_pure, γ]
    · cases h
end
end Go.Ev

