import Derived.Test.YtcgajpdhbanhaaaGreatEvE
import Derived.Laws.MakeOwn
namespace Go.Ev
set_option linter.unusedVariables false
set_option linter.unusedSimpArgs false
structure Post (w0 : W0) (ρ : Nat → Loc) (n : Nat) (ρ' : Nat → Loc) (σ' : Mem) (w' : World) : Prop where
  rel : Rel w0 ρ' σ' w'
  ext : ∀ i, i < n → ρ' i = ρ i
  le : n ≤ σ'.next
theorem Post.refl {w0 : W0} {ρ : Nat → Loc} {σ : Mem} {w : World} (h : Rel w0 ρ σ w) : Post w0 ρ σ.next ρ σ w := ⟨h, fun _ _ => rfl, Nat.le_refl _⟩
theorem Post.trans {w0 : W0} {ρ ρ' ρ'' : Nat → Loc} {n : Nat} {σ' σ'' : Mem} {w' w'' : World} (h : Post w0 ρ n ρ' σ' w') (k : Post w0 ρ' σ'.next ρ'' σ'' w'') : Post w0 ρ n ρ'' σ'' w'' :=
  ⟨k.rel, fun i hi => (k.ext i (Nat.lt_of_lt_of_le hi h.le)).trans (h.ext i hi), Nat.le_trans h.le k.le⟩
section
variable {P : Program} {T : TTab} {ρ : Nat → Loc} {w0 : W0} {w : World} {σ : Mem}
theorem Rel.newRow (h : Rel w0 ρ σ w) {cs : List AVal} (hs : scC σ.next cs = true) (e : TypeId) (gr : Option Nat) (cap : Nat) (post : List Value)
    (hg : ∀ g, gr = some g → cap * g = cs.length + post.length) :
    (newRow e (γL ρ cs ++ post).toArray).run P w = .ok ⟨w.heap.size, 0, none⟩ { w with heap := w.heap.push (.cells (γL ρ cs ++ post).toArray e) } ∧
    Post w0 ρ σ.next (upd ρ σ.next (Loc.mk3 (w.heap.size) (0) (cap))) (σ.push (.cells cs true gr)) { w with heap := w.heap.push (.cells (γL ρ cs ++ post).toArray e) } := by
  refine ⟨rfl, ?_, fun i hi => upd_lt hi, by simp⟩
  refine h.push rfl hs fun ρ' hρ => ?_
  refine ⟨(γL ρ cs ++ post).toArray, e, (0, 0), by simp, ⟨[], post, ?_, rfl⟩, fun _ => .inl rfl, fun g hgr => ⟨rfl, ?_, ?_⟩⟩
  · simp [γC_congr hρ cs hs]
  · have := hg g hgr; simp; omega
  · have := hg g hgr; show cs.length ≤ cap * g; omega
theorem Rel.newBlk (h : Rel w0 ρ σ w) {cs : List AVal} (hs : scC σ.next cs = true) (e : TypeId) (q : Bool) :
    ∃ L : Loc, L.blk = w.heap.size ∧ L.base = 0 ∧ Post w0 ρ σ.next (upd ρ σ.next L) (σ.push (blkOf q cs)) { w with heap := w.heap.push (.cells (γL ρ cs).toArray e) } := by
  unfold blkOf
  split
  · rename_i hq
    simp only [Bool.and_eq_true, Bool.not_eq_true', List.isEmpty_eq_false_iff] at hq
    refine ⟨⟨w.heap.size, 0, 0, ⟨0, 0, none⟩, .nilIface, some ⟨w.heap.size, 0, none⟩, 1, 1, default⟩, rfl, rfl, ?_, fun i hi => upd_lt hi, by simp⟩
    refine h.push rfl hq.1.2 fun ρ' hρ => ?_
    refine ⟨rfl, .inr ⟨hq.2, rfl, by simp, (γL ρ cs).toArray, e, (0, 0), by simp, ⟨[], [], ?_, rfl⟩, fun _ => ⟨.inl rfl, Nat.le_refl _, by simp⟩⟩⟩
    simp [γC_congr hρ cs hs]
  · obtain ⟨_, h2⟩ := h.newRow (P := default) hs e none 0 [] (by simp)
    rw [List.append_nil] at h2
    exact ⟨_, rfl, rfl, h2⟩
theorem alloc_run (h : Rel w0 ρ σ w) (hT : TabOk P T) {t : TypeId} {i : TyI} (ht : T t = some i) (q : Bool) :
    ∃ w' L, (Instr.alloc t true (.tuple #[])).run P w = .ok (.pointer (some ⟨w.heap.size, 0, none⟩)) w' ∧ L.blk = w.heap.size ∧ L.base = 0 ∧
      Post w0 ρ σ.next (upd ρ σ.next L) (σ.push (blkOf q i.zero)) w' := by
  have hti := hT t i ht
  have hz := scC_mono (Nat.zero_le σ.next) _ hti.zsc
  obtain ⟨h1, _⟩ := h.newRow (P := P) hz t none 0 [] (by simp)
  obtain ⟨L, l1, l2, h2⟩ := h.newBlk hz t q
  rw [List.append_nil] at h1
  refine ⟨_, L, ?_, l1, l2, h2⟩
  simp only [Instr.alloc, Sem.run_bind, hti.run_zero ρ, Result.andThen_ok, newVar, hti.zero_cells, h1, Sem.run_pure]
theorem box_run (h : Rel w0 ρ σ w) {v : AVal} (hs : sc σ.next v = true) (hv : v.isTup = false) (t : TypeId) (q : Bool) :
    ∃ w' L, (Instr.box t (γ ρ v)).run P w = .ok (.pointer (some ⟨w.heap.size, 0, none⟩)) w' ∧ L.blk = w.heap.size ∧ L.base = 0 ∧
      Post w0 ρ σ.next (upd ρ σ.next L) (σ.push (blkOf q v.cellsOf)) w' := by
  obtain ⟨h1, _⟩ := h.newRow (P := P) (scC_cellsOf hs hv) t none 0 [] (by simp)
  obtain ⟨L, l1, l2, h2⟩ := h.newBlk (scC_cellsOf hs hv) t q
  rw [List.append_nil] at h1
  refine ⟨_, L, ?_, l1, l2, h2⟩
  simp only [Instr.box, newVar, cells_γ _ _ hv, Sem.run_bind, h1, Result.andThen_ok, Sem.run_pure]
theorem times_length (z : List AVal) : ∀ n, (times z n).length = n * z.length
  | 0 => by simp [times]
  | n + 1 => by simp [times, times_length z n, Nat.succ_mul]; omega
theorem scC_times {n : Nat} {z : List AVal} (h : scC n z = true) : ∀ k, scC n (times z k) = true
  | 0 => rfl
  | k + 1 => scC_append.2 ⟨h, scC_times h k⟩
theorem zeros_times (z : List AVal) (ρ : Nat → Loc) (hz : z ≠ []) : ∀ n, (List.range (n * z.length)).map (fun i => (γL ρ z).toArray[i % z.length]!) = γL ρ (times z n)
  | 0 => by simp [times, γL]
  | n + 1 => by
    have hl : 0 < z.length := List.length_pos_iff.2 hz
    rw [Nat.succ_mul, Nat.add_comm, List.range_add, List.map_append, List.map_map, times, γL_append]
    congr 1
    · apply List.ext_getElem
      · simp
      · intro i h1 h2
        simp only [List.length_map, List.length_range] at h1
        simp [Nat.mod_eq_of_lt h1, h1]
    · rw [← zeros_times z ρ hz n]
      apply List.map_congr_left
      intro i _
      simp
theorem buildSlice_run (h : Rel w0 ρ σ w) (hT : TabOk P T) {t : TypeId} {len : Nat} {parts : List (Nat × AVal)} {v : AVal} {σ' : Mem} (hp : ∀ x ∈ parts, sc σ.next x.2 = true)
    (hb : buildSliceA T σ t len parts = some (v, σ')) :
    ∃ ρ' w', (Instr.buildSlice t len (parts.map fun x => (x.1, γ ρ x.2)).toArray).run P w = .ok (γ ρ' v) w' ∧ Post w0 ρ σ.next ρ' σ' w' ∧ sc σ'.next v = true := by
  unfold buildSliceA at hb
  split at hb
  · rename_i e hTt
    split at hb
    · cases hb
    · rename_i j hTe
      split at hb
      · cases hb
      · rename_i hle
        have hu := (hT _ _ hTt).k
        simp only [KOk] at hu
        have hti := hT _ _ hTe
        have hzl := hti.zlen
        split at hb
        · cases hb
        · rename_i cs hf
          cases hb
          have hzne : j.zero ≠ [] := by
            intro e; rw [e] at hzl; simp at hzl; omega
          have hzs : scC σ.next (times j.zero len) = true := scC_times (scC_mono (Nat.zero_le _) _ hti.zsc) len
          obtain ⟨h1, h2⟩ := fill_run (ρ := ρ) hzs hp hf
          obtain ⟨h3, h4⟩ := h.newRow (P := P) h2 e (some j.size) len [] (by
            intro g hg; cases hg
            have : cs.length = (times j.zero len).length := by
              clear h1 h2 hzs
              revert hf
              generalize times j.zero len = z
              clear hp
              intro hf
              induction parts generalizing z with
              | nil => simp only [fillA, Option.some.injEq] at hf; rw [hf]
              | cons p ps ih =>
                obtain ⟨a, b⟩ := p
                simp only [fillA] at hf
                split at hf
                · rename_i hq
                  rw [ih _ hf]
                  obtain ⟨q1, q2, q3⟩ := hq
                  simp only [spliced, List.length_append, List.length_take, List.length_drop]; omega
                · cases hf
            simp [this, times_length, hzl])
          rw [List.append_nil] at h3 h4
          refine ⟨_, _, ?_, h4, by simp [sc]⟩
          by_cases hz : len * j.size = 0
          · have hl0 : len = 0 := by
              rcases Nat.mul_eq_zero.1 hz with h | h
              · exact h
              · exact absurd h (by omega)
            subst hl0
            have e0 : (γL ρ (times j.zero 0)).toArray = #[] := rfl
            rw [e0] at h1
            have e1 : ((Array.range (0 * j.size)).map fun i => (#[] : Array Value)[i % (#[] : Array Value).size]!) = #[] := by
              apply Array.ext'; simp
            simp only [Instr.buildSlice, Sem.run_bind, run_underlying hu, Result.andThen_ok, hti.run_size, if_neg (show ¬ 0 * j.size > 2 ^ 24 by omega), if_pos (Nat.zero_mul j.size), Sem.run_pure,
              e1, h1, h3, γ, upd_self, Nat.add_zero, if_true, Sem.run_ite]
          · have hz2 : ((Array.range (len * j.size)).map fun i => (γL ρ j.zero).toArray[i % (γL ρ j.zero).toArray.size]!) = (γL ρ (times j.zero len)).toArray := by
              apply Array.ext'
              rw [← zeros_times j.zero ρ hzne len]
              simp [hzl]
            simp only [Instr.buildSlice, Sem.run_bind, run_underlying hu, Result.andThen_ok, hti.run_size, if_neg (show ¬ len * j.size > 2 ^ 24 by omega), if_neg hz, Sem.run_pure,
              hti.run_zero ρ, hti.zero_cells, hz2, h1, h3, γ, upd_self, Nat.add_zero, if_true, Sem.run_ite]
  · cases hb
theorem make_run (h : Rel w0 ρ σ w) (hT : TabOk P T) {t : TypeId} {k : IntKind} {n : Int} {v : AVal} {σ' : Mem} (hb : makeA T σ t n = some (v, σ')) :
    ∃ ρ' w', (Instr.makeSlice t (.int k n) (.int k n)).run P w = .ok (γ ρ' v) w' ∧ Post w0 ρ σ.next ρ' σ' w' ∧ sc σ'.next v = true := by
  unfold makeA at hb
  split at hb
  rotate_left
  · cases hb
  rename_i e hTt
  split at hb
  · cases hb
  rename_i j hTe
  cases hc : makeB j n with
  | false => rw [hc] at hb; cases hb
  | true =>
    rw [hc] at hb
    cases hb
    simp only [makeB, Bool.and_eq_true, decide_eq_true_eq, Nat.ble_eq, Bool.not_eq_true'] at hc
    obtain ⟨⟨⟨c1, c2⟩, c3⟩, c4⟩ := hc
    have c5 : j.size ≠ 0 := by intro e; rw [e] at c4; cases c4
    have hu := (hT _ _ hTt).k
    simp only [KOk] at hu
    have hti := hT _ _ hTe
    have hzl := hti.zlen
    have hzne : j.zero ≠ [] := by
      intro e; rw [e] at hzl; simp at hzl; omega
    have hzs : scC σ.next (times j.zero n.toNat) = true := scC_times (scC_mono (Nat.zero_le _) _ hti.zsc) _
    obtain ⟨h3, h4⟩ := h.newRow (P := P) hzs e (some j.size) n.toNat [] (by
      intro g hg; cases hg
      simp [times_length, hzl])
    rw [List.append_nil] at h3 h4
    obtain ⟨inf, q1, q2, q3, z, q4, q5⟩ := hti.info
    have hbb : (inf.bytes : Int) * n ≤ 281474976710656 := by
      rw [q3]
      have : (j.bytes : Int) ≤ 16777216 := by omega
      calc (j.bytes : Int) * n ≤ 16777216 * n := Int.mul_le_mul_of_nonneg_right this c1
        _ ≤ 16777216 * 16777216 := Int.mul_le_mul_of_nonneg_left c2 (by decide)
        _ = 281474976710656 := by decide
    have hr := run_make (P := P) w t e inf z hu q1 q4 k k n n c1 (Int.le_refl _) hbb (by omega)
    have hz2 : madeCells z.cells (n.toNat * inf.size) = (γL ρ (times j.zero n.toNat)).toArray := by
      rw [q5 ρ, hti.zero_cells, q2]
      unfold madeCells
      apply Array.ext'
      rw [← zeros_times j.zero ρ hzne n.toNat]
      simp [hzl]
    rw [hz2] at hr
    refine ⟨_, _, ?_, h4, by simp [sc]⟩
    rw [hr]
    simp only [γ, upd_self, Nat.add_zero, if_true]
    rfl
theorem elemsA_run (h : Rel w0 ρ σ w) {size : Nat} {x : AVal} {cs : List AVal} {l : Nat} (he : elemsA σ size x = some (cs, l)) :
    (Builtin.lenOf (γ ρ x)).run P w = .ok l w ∧ (Builtin.firstCells size l (γ ρ x)).run P w = .ok (γL ρ cs).toArray w ∧ cs.length = l * size ∧ scC σ.next cs = true := by
  unfold elemsA at he
  split at he
  · cases he; exact ⟨rfl, rfl, by simp, rfl⟩
  · cases he
    exact ⟨rfl, by simp [Builtin.firstCells, γ, loadCells, loadCellsFrom, γL], by simp, rfl⟩
  · rename_i b o k ex c
    cases hc : cellsAt σ b o (k * size) with
    | none => rw [hc] at he; cases he
    | some ds =>
      rw [hc] at he; cases he
      obtain ⟨h1, h2, h3⟩ := h.run_loadCells (P := P) hc
      exact ⟨rfl, h1, h2, h3⟩
  · rename_i b
    split at he
    · rename_i cs' n' sz own hg
      split at he
      · rename_i hsz
        cases he
        subst hsz
        have hfl := h.sco b _ hg
        obtain ⟨g0, g1⟩ := h.ok b _ hg
        rcases g1 with ⟨rfl, rfl, g2⟩ | ⟨g1, g2, g3, _⟩
        · refine ⟨by simp [γ, g0, Builtin.lenOf], ?_, by simp, rfl⟩
          cases hsp : (ρ b).sp with
          | none => simp [γ, hsp, Builtin.firstCells, γL]
          | some a => simp [γ, hsp, Builtin.firstCells, loadCells, loadCellsFrom, γL]
        · have hc : cellsAt σ b 0 (l * sz) = some cs := by
            simp only [cellsAt, hg]
            rw [if_pos (by omega), List.drop_zero, List.take_of_length_le (by omega)]
          obtain ⟨h1, h2, h3⟩ := h.run_loadCells (P := P) hc
          refine ⟨by simp [γ, g0, Builtin.lenOf], ?_, g3, h3⟩
          simpa only [γ, g0, g2, Builtin.firstCells, Nat.add_zero] using h1
      · cases he
    · cases he
  · cases he
theorem flatA_sc {size : Nat} {x : AVal} {cs : List AVal} {l : Nat} (h : Rel w0 ρ σ w) (he : elemsA σ size x = some (cs, l)) (hf : flatA σ size x = true) : scC 0 cs = true := by
  unfold elemsA at he
  unfold flatA at hf
  split at he
  · cases he; rfl
  · cases he; rfl
  · cases hc : cellsAt σ _ _ _ with
    | none => rw [hc] at he; cases he
    | some ds =>
      rw [hc] at he; cases he
      simp only [hc] at hf
      exact hf
  · split at he
    · rename_i hg
      split at he
      · cases he; exact h.sco _ _ hg
      · cases he
    · cases he
  · cases he
theorem growBy_le (n : Nat) : ∀ r c, 256 ≤ c → Builtin.growBy n r c ≤ max c (2 * n)
  | 0, c, _ => by simp only [Builtin.growBy]; omega
  | r + 1, c, hc => by
    simp only [Builtin.growBy]
    split
    · omega
    · have := growBy_le n r (c + (c + 768) / 4) (by omega)
      omega
theorem nextslicecap_le {n c : Nat} (h : c < n) : Builtin.nextslicecap n c ≤ 2 * n := by
  unfold Builtin.nextslicecap
  split
  · omega
  · split
    · omega
    · have := growBy_le n 4 c (by omega); omega
theorem zeroCells_length (z : Array Value) (n : Nat) : (Builtin.zeroCells z n).size = n * z.size := by simp [Builtin.zeroCells]
theorem grow_run (h : Rel w0 ρ σ w) (hT : TabOk P T) {t u e : TypeId} {i j k : TyI} (ht : T t = some i) (hik : i.k = .slice e) (he : T e = some j) (hu : T u = some k)
    {e' : TypeId} (hkk : k.k = .slice e') {s x : AVal} {cs ds : List AVal} {l m : Nat} {base : Option Addr} {cap : Nat} (hs : γ ρ s = .slice base l cap)
    (hcs : elemsA σ j.size s = some (cs, l)) (hds : elemsA σ j.size x = some (ds, m)) (hcap : cap < l + m) (h1 : j.bytes ≠ 0) (h2 : 2 * (l + m) * j.bytes ≤ 2 ^ 48) (ty : TypeId) :
    ∃ ρ' w', (Builtin.append_ #[t, u] ty #[γ ρ s, γ ρ x]).run P w = .ok (γ ρ' (.slice σ.next 0 (l + m) false 0)) w' ∧
      Post w0 ρ σ.next ρ' (σ.push (.cells (cs ++ ds) true (some j.size))) w' := by
  have hti := hT _ _ ht
  have hui := hT _ _ hu
  have hei := hT _ _ he
  have kt := hti.k; rw [hik] at kt; simp only [KOk] at kt
  have ku := hui.k; rw [hkk] at ku; simp only [KOk] at ku
  obtain ⟨a1, a2, a3, a4⟩ := elemsA_run (P := P) h hcs
  obtain ⟨b1, b2, b3, b4⟩ := elemsA_run (P := P) h hds
  obtain ⟨inf, i1, i2, i3⟩ := hei.run_info w
  have hbnd : l + m ≤ 2 ^ 47 := by
    have : 2 * (l + m) * 1 ≤ 2 * (l + m) * j.bytes := Nat.mul_le_mul_left _ (by omega)
    omega
  have hnc : ¬ Builtin.nextslicecap (l + m) cap * inf.bytes > 2 ^ 48 := by
    rw [i3]
    have := Nat.mul_le_mul_right j.bytes (nextslicecap_le hcap)
    omega
  generalize hnew : Question.cut (.appendCap (l + m) cap e) (w.tape w.drawn (.appendCap (l + m) cap e)) = nc
  have hnc2 : l + m ≤ nc := by rw [← hnew]; simp only [Question.cut]; omega
  have hR1 : Rel w0 ρ σ { w with drawn := w.drawn + 1 } := h.drew _
  obtain ⟨inf2, j1, j2, j3⟩ := hei.run_info { w with drawn := w.drawn + 1 }
  have a2' := (elemsA_run (P := P) hR1 hcs).2.1
  have b2' := (elemsA_run (P := P) hR1 hds).2.1
  have hz := hei.zero_cells ρ
  obtain ⟨n1, n2⟩ := hR1.newRow (P := P) (cs := cs ++ ds) (scC_append.2 ⟨a4, b4⟩) e (some j.size) nc (Builtin.zeroCells (γL ρ j.zero).toArray (nc - (l + m))).toList (by
    intro g hg; cases hg
    have := zeroCells_length (γL ρ j.zero).toArray (nc - (l + m))
    simp only [List.size_toArray, γL_length, hei.zlen] at this
    simp only [Array.length_toList, this, List.length_append, a3, b3]
    rw [← Nat.add_mul, ← Nat.add_mul]
    congr 1; omega)
  refine ⟨_, _, ?_, n2⟩
  have hrow : (γL ρ cs).toArray ++ (γL ρ ds).toArray ++ Builtin.zeroCells (γL ρ j.zero).toArray (nc - (l + m)) =
      (γL ρ (cs ++ ds) ++ (Builtin.zeroCells (γL ρ j.zero).toArray (nc - (l + m))).toList).toArray := by
    apply Array.ext'; simp [γL_append]
  rw [hs] at a2' ⊢
  have a1' := a1
  simp only [Builtin.append_, List.getElem?_toArray, List.getElem?_cons_zero, List.getElem?_cons_succ, Sem.run_bind, run_underlying kt, run_underlying ku, Result.andThen_ok, hei.run_size,
    Sem.run_pure, Sem.run_ite, Bool.false_eq_true, if_false, b1, if_neg (show ¬ l + m ≤ cap by omega), i1,
    if_neg (show ¬ (((l + m : Nat) : Int) > IntKind.i64.max ∧ (False ∨ inf.bytes = 0)) by rw [i3]; simp [h1]), hnc]
  simp only [run_choose, Question.forced, Bool.false_eq_true, if_false, Result.andThen_ok, hnew, run_askRoom, Bool.not_false, if_true]
  rw [j1]
  simp only [Result.andThen_ok, a2', b2', hei.run_zero ρ, hz, hrow, n1, γ, upd_self, Nat.add_zero, Nat.sub_zero, Bool.false_eq_true, if_false]
end
end Go.Ev

