import Derived.Test.YtcgajpdhbanhaaaGreatEvA
import Derived.Laws.CopyRow
import Derived.Laws.Cells
import Derived.Laws.Entries
namespace Go.Ev
set_option linter.unusedVariables false
set_option linter.unusedSimpArgs false
theorem γL_map (ρ : Nat → Loc) : ∀ l, γL ρ l = l.map (γ ρ)
  | [] => rfl
  | v :: vs => by simp [γL, γL_map ρ vs]
@[simp] theorem γL_length (ρ : Nat → Loc) (l : List AVal) : (γL ρ l).length = l.length := by simp [γL_map]
theorem γL_append (ρ : Nat → Loc) (a b : List AVal) : γL ρ (a ++ b) = γL ρ a ++ γL ρ b := by simp [γL_map]
theorem γL_take (ρ : Nat → Loc) (n : Nat) (a : List AVal) : γL ρ (a.take n) = (γL ρ a).take n := by simp [γL_map, List.map_take]
theorem γL_drop (ρ : Nat → Loc) (n : Nat) (a : List AVal) : γL ρ (a.drop n) = (γL ρ a).drop n := by simp [γL_map, List.map_drop]
theorem γL_get (ρ : Nat → Loc) (a : List AVal) (i : Nat) : (γL ρ a)[i]? = (a[i]?).map (γ ρ) := by simp [γL_map]
theorem γL_set (ρ : Nat → Loc) (a : List AVal) (i : Nat) (v : AVal) : γL ρ (a.set i v) = (γL ρ a).set i (γ ρ v) := by simp [γL_map, List.map_set]
theorem γL_replicate (ρ : Nat → Loc) (n : Nat) (v : AVal) : γL ρ (List.replicate n v) = List.replicate n (γ ρ v) := by simp [γL_map]
theorem scL_iff (n : Nat) : ∀ l, scL n l = true ↔ ∀ v ∈ l, sc n v = true
  | [] => by simp [scL]
  | v :: vs => by simp [scL, scL_iff n vs]
theorem scC_iff (n : Nat) : ∀ l, scC n l = true ↔ ∀ v ∈ l, v.isCell = true ∧ sc n v = true
  | [] => by simp [scC]
  | v :: vs => by simp [scC, scC_iff n vs]
theorem scC_append {n : Nat} {a b : List AVal} : scC n (a ++ b) = true ↔ scC n a = true ∧ scC n b = true := by
  simp only [scC_iff, List.mem_append]
  exact ⟨fun h => ⟨fun v hv => h v (.inl hv), fun v hv => h v (.inr hv)⟩, fun h v hv => hv.elim (h.1 v) (h.2 v)⟩
theorem scL_append {n : Nat} {a b : List AVal} : scL n (a ++ b) = true ↔ scL n a = true ∧ scL n b = true := by
  simp only [scL_iff, List.mem_append]
  exact ⟨fun h => ⟨fun v hv => h v (.inl hv), fun v hv => h v (.inr hv)⟩, fun h v hv => hv.elim (h.1 v) (h.2 v)⟩
theorem scC_sub {n : Nat} {a b : List AVal} (h : scC n b = true) (hs : ∀ v ∈ a, v ∈ b) : scC n a = true := by
  rw [scC_iff] at *; exact fun v hv => h v (hs v hv)
theorem scC_take {n k : Nat} {a : List AVal} (h : scC n a = true) : scC n (a.take k) = true := scC_sub h fun _ => List.mem_of_mem_take
theorem scC_drop {n k : Nat} {a : List AVal} (h : scC n a = true) : scC n (a.drop k) = true := scC_sub h fun _ => List.mem_of_mem_drop
theorem scL_set {n i : Nat} {a : List AVal} {v : AVal} (h : scL n a = true) (hv : sc n v = true) : scL n (a.set i v) = true := by
  rw [scL_iff] at *
  intro x hx
  rcases List.mem_or_eq_of_mem_set hx with hx | rfl
  · exact h x hx
  · exact hv
theorem scL_getD {n i : Nat} {a : List AVal} (h : scL n a = true) : sc n (a.getD i (.tup [])) = true := by
  rw [scL_iff] at h
  rw [List.getD_eq_getElem?_getD]
  cases hi : a[i]? with
  | none => simp [sc, scL]
  | some v => simpa using h v (List.mem_of_getElem? hi)
mutual
theorem sc_mono {n m : Nat} (hnm : n ≤ m) : ∀ v, sc n v = true → sc m v = true
  | .ptr i o, h => by simp only [sc, decide_eq_true_eq] at *; omega
  | .slice i o l e c, h => by simp only [sc, decide_eq_true_eq] at *; omega
  | .map i, h => by simp only [sc, decide_eq_true_eq] at *; omega
  | .emp i, h => by simp only [sc, decide_eq_true_eq] at *; omega
  | .junk i, h => by simp only [sc, decide_eq_true_eq] at *; omega
  | .vec i, h => by simp only [sc, decide_eq_true_eq] at *; omega
  | .func f a b, h => by simp only [sc, Bool.and_eq_true] at *; exact ⟨scL_mono hnm a h.1, scL_mono hnm b h.2⟩
  | .iface t v, h => by simp only [sc] at *; exact sc_mono hnm v h
  | .agg cs, h => by simp only [sc] at *; exact scC_mono hnm cs h
  | .tup vs, h => by simp only [sc] at *; exact scL_mono hnm vs h
  | .bool _, _ | .int _ _, _ | .str _, _ | .nilp, _ | .nils, _ | .nilm, _ | .nilf, _ | .nili, _ => rfl
theorem scL_mono {n m : Nat} (hnm : n ≤ m) : ∀ l, scL n l = true → scL m l = true
  | [], _ => rfl
  | v :: vs, h => by simp only [scL, Bool.and_eq_true] at *; exact ⟨sc_mono hnm v h.1, scL_mono hnm vs h.2⟩
theorem scC_mono {n m : Nat} (hnm : n ≤ m) : ∀ l, scC n l = true → scC m l = true
  | [], _ => rfl
  | v :: vs, h => by simp only [scC, Bool.and_eq_true] at *; exact ⟨⟨h.1.1, sc_mono hnm v h.1.2⟩, scC_mono hnm vs h.2⟩
end
mutual
theorem γ_congr {n : Nat} {ρ ρ' : Nat → Loc} (hρ : ∀ i, i < n → ρ' i = ρ i) : ∀ v, sc n v = true → γ ρ' v = γ ρ v
  | .ptr i o, h => by simp only [sc, decide_eq_true_eq] at h; simp only [γ, hρ i h]
  | .slice i o l e c, h => by simp only [sc, decide_eq_true_eq] at h; simp only [γ, hρ i h]
  | .map i, h => by simp only [sc, decide_eq_true_eq] at h; simp only [γ, hρ i h]
  | .emp i, h => by simp only [sc, decide_eq_true_eq] at h; simp only [γ, hρ i h]
  | .junk i, h => by simp only [sc, decide_eq_true_eq] at h; simp only [γ, hρ i h]
  | .vec i, h => by simp only [sc, decide_eq_true_eq] at h; simp only [γ, hρ i h]
  | .func f a b, h => by simp only [sc, Bool.and_eq_true] at h; simp only [γ, γL_congr hρ a h.1, γL_congr hρ b h.2]
  | .iface t v, h => by simp only [sc] at h; simp only [γ, γ_congr hρ v h]
  | .agg cs, h => by simp only [sc] at h; simp only [γ, γC_congr hρ cs h]
  | .tup vs, h => by simp only [sc] at h; simp only [γ, γL_congr hρ vs h]
  | .bool _, _ | .int _ _, _ | .str _, _ | .nilp, _ | .nils, _ | .nilm, _ | .nilf, _ | .nili, _ => by simp only [γ]
theorem γL_congr {n : Nat} {ρ ρ' : Nat → Loc} (hρ : ∀ i, i < n → ρ' i = ρ i) : ∀ l, scL n l = true → γL ρ' l = γL ρ l
  | [], _ => rfl
  | v :: vs, h => by simp only [scL, Bool.and_eq_true] at h; simp only [γL, γ_congr hρ v h.1, γL_congr hρ vs h.2]
theorem γC_congr {n : Nat} {ρ ρ' : Nat → Loc} (hρ : ∀ i, i < n → ρ' i = ρ i) : ∀ l, scC n l = true → γL ρ' l = γL ρ l
  | [], _ => rfl
  | v :: vs, h => by simp only [scC, Bool.and_eq_true] at h; simp only [γL, γ_congr hρ v h.1.2, γC_congr hρ vs h.2]
end
theorem oneCell_γ {ρ : Nat → Loc} {v : AVal} (h : v.isCell = true) : (γ ρ v).oneCell' = true := by
  cases v <;> first | rfl | simp [AVal.isCell] at h
theorem cells_γ (ρ : Nat → Loc) (v : AVal) (ht : v.isTup = false) : (γ ρ v).cells = (γL ρ v.cellsOf).toArray := by
  cases v <;> first | (simp [γ, Value.cells, AVal.cellsOf, γL]; done) | simp [AVal.isTup] at ht
theorem scC_cellsOf {n : Nat} {v : AVal} (h : sc n v = true) (ht : v.isTup = false) : scC n v.cellsOf = true := by
  cases v <;> first | (simp [sc] at h; simpa [AVal.cellsOf] using h) | (simp [AVal.cellsOf, scC, AVal.isCell]; exact h) | simp [AVal.isTup] at ht
mutual
theorem aeq_eq : ∀ a b, aeq a b = true → a = b
  | .bool a, b, h => by cases b <;> simp_all [aeq]
  | .int k a, b, h => by cases b <;> simp_all [aeq]
  | .str a, b, h => by
    cases b <;> simp only [aeq, Bool.false_eq_true, beq_iff_eq] at h
    rename_i b
    obtain ⟨⟨x⟩⟩ := a
    obtain ⟨⟨y⟩⟩ := b
    simp only at h
    rw [h]
  | .ptr i o, b, h => by cases b <;> simp_all [aeq]
  | .nilp, b, h => by cases b <;> simp_all [aeq]
  | .slice i o l e c, b, h => by cases b <;> simp_all [aeq]
  | .nils, b, h => by cases b <;> simp_all [aeq]
  | .map i, b, h => by cases b <;> simp_all [aeq]
  | .emp i, b, h => by cases b <;> simp_all [aeq]
  | .junk i, b, h => by cases b <;> simp_all [aeq]
  | .vec i, b, h => by cases b <;> simp_all [aeq]
  | .nilm, b, h => by cases b <;> simp_all [aeq]
  | .func f x y, b, h => by
    cases b <;> simp only [aeq, Bool.and_eq_true, Bool.false_eq_true] at h
    case func g z u => rw [aeqL_eq x z h.1.2, aeqL_eq y u h.2, beq_iff_eq.1 h.1.1]
  | .nilf, b, h => by cases b <;> simp_all [aeq]
  | .iface t v, b, h => by
    cases b <;> simp only [aeq, Bool.and_eq_true, Bool.false_eq_true] at h
    case iface u w => rw [aeq_eq v w h.2, beq_iff_eq.1 h.1]
  | .nili, b, h => by cases b <;> simp_all [aeq]
  | .agg x, b, h => by
    cases b <;> simp only [aeq, Bool.false_eq_true] at h
    case agg y => rw [aeqL_eq x y h]
  | .tup x, b, h => by
    cases b <;> simp only [aeq, Bool.false_eq_true] at h
    case tup y => rw [aeqL_eq x y h]
theorem aeqL_eq : ∀ a b, aeqL a b = true → a = b
  | [], [], _ => rfl
  | [], _ :: _, h => by simp [aeqL] at h
  | _ :: _, [], h => by simp [aeqL] at h
  | x :: xs, y :: ys, h => by
    simp only [aeqL, Bool.and_eq_true] at h
    rw [aeq_eq x y h.1, aeqL_eq xs ys h.2]
end
mutual
theorem aeq_refl : ∀ a, aeq a a = true
  | .bool _ | .int _ _ | .str _ | .ptr _ _ | .nilp | .slice _ _ _ _ _ | .nils | .emp _ | .map _ | .nilm | .nilf | .nili | .junk _ | .vec _ => by simp [aeq]
  | .func f x y => by simp [aeq, aeqL_refl x, aeqL_refl y]
  | .iface t v => by simp [aeq, aeq_refl v]
  | .agg x => by simp [aeq, aeqL_refl x]
  | .tup x => by simp [aeq, aeqL_refl x]
theorem aeqL_refl : ∀ a, aeqL a a = true
  | [] => rfl
  | x :: xs => by simp [aeqL, aeq_refl x, aeqL_refl xs]
end
def ABlk.alive : ABlk → Bool
  | .dead => false
  | .vec cs _ _ _ => !cs.isEmpty
  | _ => true
def ABlk.owned : ABlk → Bool
  | .cells _ own _ => own
  | .map _ _ => true
  | .vec cs _ _ own => own && !cs.isEmpty
  | .iter _ _ _ _ => true
  | .coll => true
  | .turn _ _ => true
  | .dead => false
def scB (n : Nat) : ABlk → Bool
  | .cells cs _ _ => scC n cs
  | .vec cs _ _ _ => scC 0 cs
  | .map es _ => es.all fun e => sc 0 e.1 && sc 0 e.2.1
  | .iter m _ _ _ => decide (m < n)
  | .coll => true
  | .turn _ _ => true
  | .dead => true
theorem ABlk.owned_alive {b : ABlk} (h : b.owned = true) : b.alive = true := by
  cases b <;> simp_all [ABlk.alive, ABlk.owned]
theorem ABlk.dead_of {b : ABlk} (h : ¬ b.alive = true) : b = .dead ∨ ∃ n sz own, b = .vec [] n sz own := by
  cases b <;> simp_all [ABlk.alive]
def pendOf : Nat → Nat → Option Code
  | 0, _ => none
  | 1, _ => some .ret
  | 2, i => some (.exit i)
  | _, i => some (.goto i)
def turned (L : Loop) : Nat → Nat → Loop
  | 0, _ => L
  | 1, i => { L with state := .done, pending := pendOf 1 i }
  | 2, i => { L with state := .done, pending := pendOf 2 i }
  | 3, i => { L with state := .done, pending := pendOf 3 i }
  | _, _ => { L with state := .busy }
def fzOk (fz : Nat × Nat) (n : Nat) : Prop := fz = (0, 0) ∨ n ≤ fz.1
def BOk (ρ : Nat → Loc) (L : Loc) (w : World) : ABlk → Prop
  | .cells cs own gr => ∃ c e fz, w.heap[L.blk]? = some (.cells c e fz) ∧ (∃ pre post, c.toList = pre ++ γL ρ cs ++ post ∧ pre.length = L.base) ∧
      (own = true → fzOk fz c.size) ∧ (∀ g, gr = some g → own = true ∧ L.base + L.capE * g ≤ c.size ∧ cs.length ≤ L.capE * g)
  | .vec cs n sz own => L.sl = n ∧ ((n = 0 ∧ cs = [] ∧ (own = true → L.sk = 0)) ∨ (cs ≠ [] ∧ L.sp = some ⟨L.blk, L.base, none⟩ ∧ cs.length = n * sz ∧
      ∃ c e fz, w.heap[L.blk]? = some (.cells c e fz) ∧ (∃ pre post, c.toList = pre ++ γL ρ cs ++ post ∧ pre.length = L.base) ∧ (own = true → fzOk fz c.size ∧ n ≤ L.sk ∧ L.base + L.sk * sz ≤ c.size)))
  | .map es clock => ∃ mes : Array MapEntry, w.heap[L.blk]? = some (.map mes clock) ∧ mes.toList.map (fun e => (e.key, e.val, e.born)) = es.map fun e => (γ ρ e.1, γ ρ e.2.1, e.2.2)
  | .coll => w.heap[L.blk]? = some (.deferred (some [])) ∧ L.val = .int .i64 L.blk
  | .turn k i => w.heap[L.blk]? = some (.loop (turned L.lp k i))
  | .iter m since seen last => L.base = 0 ∧ w.heap[L.blk]? = some (.mapIter (some (ρ m).blk) since seen.toArray last)
  | .dead => True
structure W0 where
  w : World
  prot : Nat → Prop
  lt : ∀ k, prot k → k < w.heap.size
def W0.all (w : World) : W0 := ⟨w, fun k => k < w.heap.size, fun _ h => h⟩
structure Rel (w0 : W0) (ρ : Nat → Loc) (σ : Mem) (w : World) : Prop where
  lt : ∀ i b, σ.get i = some b → i < σ.next
  sco : ∀ i b, σ.get i = some b → scB σ.next b = true
  ok : ∀ i b, σ.get i = some b → BOk ρ (ρ i) w b
  inb : ∀ i b, σ.get i = some b → b.alive = true → (ρ i).blk < w.heap.size
  ap : ∀ i j bi bj, σ.get i = some bi → σ.get j = some bj → i ≠ j → bi.owned = true → bj.alive = true → (ρ i).blk ≠ (ρ j).blk
  own : ∀ i b, σ.get i = some b → b.owned = true → ¬ w0.prot (ρ i).blk
  os : w.os = w0.w.os
  tape : w.tape = w0.w.tape
  output : w.output = w0.w.output
  size : w0.w.heap.size ≤ w.heap.size
  old : ∀ k, w0.prot k → w.heap[k]? = w0.w.heap[k]?
theorem get_push (σ : Mem) (b : ABlk) (i : Nat) : (σ.push b).get i = if σ.next = i then some b else σ.get i := by
  simp [Mem.get, Mem.push, look]
theorem get_set (σ : Mem) (j : Nat) (b : ABlk) (i : Nat) : (σ.set j b).get i = if j = i then some b else σ.get i := by
  simp [Mem.get, Mem.set, look]
@[simp] theorem next_push (σ : Mem) (b : ABlk) : (σ.push b).next = σ.next + 1 := rfl
@[simp] theorem next_set (σ : Mem) (j : Nat) (b : ABlk) : (σ.set j b).next = σ.next := rfl
def upd (ρ : Nat → Loc) (n : Nat) (L : Loc) : Nat → Loc := fun i => if i = n then L else ρ i
@[simp] theorem upd_self (ρ : Nat → Loc) (n : Nat) (L : Loc) : upd ρ n L n = L := by simp [upd]
theorem upd_lt {ρ : Nat → Loc} {n i : Nat} {L : Loc} (h : i < n) : upd ρ n L i = ρ i := by simp [upd, Nat.ne_of_lt h]
theorem scB_mono {n m : Nat} (h : n ≤ m) : ∀ b, scB n b = true → scB m b = true
  | .cells cs _ _, hb => scC_mono h cs hb
  | .vec _ _ _ _, hb => hb
  | .map es _, hb => hb
  | .iter m _ _ _, hb => by simp only [scB, decide_eq_true_eq] at *; omega
  | .coll, _ => rfl
  | .turn _ _, _ => rfl
  | .dead, _ => rfl
theorem BOk_still {ρ ρ' : Nat → Loc} {L : Loc} {w w' : World} {b : ABlk} (hd : ¬ b.alive = true) (h : BOk ρ L w b) : BOk ρ' L w' b := by
  rcases ABlk.dead_of hd with rfl | ⟨n, sz, own, rfl⟩
  · trivial
  · exact ⟨h.1, .inl (h.2.resolve_right fun q => q.1 rfl)⟩
theorem BOk_congr {n : Nat} {ρ ρ' : Nat → Loc} {L : Loc} {w w' : World} (hρ : ∀ i, i < n → ρ' i = ρ i) (hw : w'.heap[L.blk]? = w.heap[L.blk]?) :
    ∀ b, scB n b = true → BOk ρ L w b → BOk ρ' L w' b
  | .cells cs own gr, hs, h => by
    obtain ⟨c, e, fz, h1, ⟨pre, post, h2, h3⟩, h4, h5⟩ := h
    exact ⟨c, e, fz, hw.trans h1, ⟨pre, post, by rw [γC_congr hρ cs hs]; exact h2, h3⟩, h4, h5⟩
  | .vec cs m sz own, hs, h => by
    refine ⟨h.1, h.2.imp id ?_⟩
    rintro ⟨q1, q2, q3, c, e, fz, h1, ⟨pre, post, h2, h3⟩, h4⟩
    exact ⟨q1, q2, q3, c, e, fz, hw.trans h1, ⟨pre, post, by rw [γC_congr hρ cs (scC_mono (Nat.zero_le _) _ hs)]; exact h2, h3⟩, h4⟩
  | .map es clock, hs, h => by
    obtain ⟨mes, h1, h2⟩ := h
    refine ⟨mes, hw.trans h1, h2.trans ?_⟩
    simp only [scB, List.all_eq_true, Bool.and_eq_true] at hs
    exact List.map_congr_left fun e he => by rw [γ_congr hρ _ (sc_mono (Nat.zero_le _) _ (hs e he).1), γ_congr hρ _ (sc_mono (Nat.zero_le _) _ (hs e he).2)]
  | .iter m since seen last, hs, h => by
    simp only [scB, decide_eq_true_eq] at hs
    exact ⟨h.1, by rw [hρ m hs]; exact hw.trans h.2⟩
  | .coll, _, h => ⟨hw.trans h.1, h.2⟩
  | .turn _ _, _, h => hw.trans h
  | .dead, _, _ => trivial
theorem Rel.drew {w0 : W0} {ρ : Nat → Loc} {σ : Mem} {w : World} (h : Rel w0 ρ σ w) (n : Nat) : Rel w0 ρ σ { w with drawn := n } :=
  ⟨h.lt, h.sco, fun i b hb => BOk_congr (fun _ _ => rfl) rfl b (h.sco i b hb) (h.ok i b hb), h.inb, h.ap, h.own, h.os, h.tape, h.output, h.size, h.old⟩
theorem Rel.push {w0 : W0} {ρ : Nat → Loc} {σ : Mem} {w : World} (h : Rel w0 ρ σ w) {o : Obj} {L : Loc} {b : ABlk} (hL : L.blk = w.heap.size)
    (hs : scB σ.next b = true) (hb : ∀ ρ', (∀ i, i < σ.next → ρ' i = ρ i) → BOk ρ' L { w with heap := w.heap.push o } b) :
    Rel w0 (upd ρ σ.next L) (σ.push b) { w with heap := w.heap.push o } := by
  have hρ : ∀ i, i < σ.next → upd ρ σ.next L i = ρ i := fun i hi => upd_lt hi
  have hin : ∀ i bi, σ.get i = some bi → upd ρ σ.next L i = ρ i := fun i bi hi => hρ i (h.lt i bi hi)
  refine ⟨?_, ?_, ?_, ?_, ?_, ?_, h.os, h.tape, h.output, ?_, ?_⟩
  · intro i bi hi
    rw [get_push] at hi
    split at hi
    · rename_i e; simp [← e]
    · have := h.lt i bi hi; simp; omega
  · intro i bi hi
    rw [get_push] at hi
    split at hi
    · cases hi; exact scB_mono (by simp) _ hs
    · exact scB_mono (by simp) _ (h.sco i bi hi)
  · intro i bi hi
    rw [get_push] at hi
    split at hi
    · rename_i e; cases hi; rw [← e, upd_self]; exact hb _ hρ
    · rw [hin i bi hi]
      by_cases ha : bi.alive = true
      · refine BOk_congr hρ ?_ bi (h.sco i bi hi) (h.ok i bi hi)
        have := h.inb i bi hi ha
        show (w.heap.push o)[_]? = _
        rw [Array.getElem?_push, if_neg (by omega)]
      · exact BOk_still ha (h.ok i bi hi)
  · intro i bi hi ha
    rw [get_push] at hi
    split at hi
    · rename_i e; rw [← e, upd_self, hL]; simp
    · rw [hin i bi hi]; have := h.inb i bi hi ha; simp; omega
  · intro i j bi bj hi hj hij hoi haj
    rw [get_push] at hi hj
    split at hi <;> split at hj
    · omega
    · rename_i e1 e2
      rw [← e1, upd_self, hin j bj hj, hL]
      have := h.inb j bj hj haj; omega
    · rename_i e1 e2
      rw [← e2, upd_self, hin i bi hi, hL]
      have := h.inb i bi hi (ABlk.owned_alive hoi); omega
    · rw [hin i bi hi, hin j bj hj]; exact h.ap i j bi bj hi hj hij hoi haj
  · intro i bi hi ho
    rw [get_push] at hi
    split at hi
    · rename_i e; rw [← e, upd_self, hL]; intro hq; have := w0.lt _ hq; have := h.size; omega
    · rw [hin i bi hi]; exact h.own i bi hi ho
  · have := h.size; simp; omega
  · intro k hk
    rw [← h.old k hk]
    show (w.heap.push o)[k]? = _
    have := h.size
    have := w0.lt k hk
    rw [Array.getElem?_push, if_neg (by omega)]
theorem Rel.set {w0 : W0} {ρ : Nat → Loc} {σ : Mem} {w w' : World} (h : Rel w0 ρ σ w) {i : Nat} {b b' : ABlk} (hi : σ.get i = some b) (ho : b.owned = true)
    (hs : scB σ.next b' = true) (hb : BOk ρ (ρ i) w' b') (hsz : w'.heap.size = w.heap.size)
    (hother : ∀ k, k ≠ (ρ i).blk → w'.heap[k]? = w.heap[k]?) (hos : w'.os = w.os) (htp : w'.tape = w.tape) (hout : w'.output = w.output) : Rel w0 ρ (σ.set i b') w' := by
  have hal : b.alive = true := ABlk.owned_alive ho
  refine ⟨?_, ?_, ?_, ?_, ?_, ?_, hos.trans h.os, htp.trans h.tape, hout.trans h.output, hsz ▸ h.size, ?_⟩
  · intro j bj hj
    rw [get_set] at hj
    split at hj
    · rename_i e; rw [← e]; exact h.lt i b hi
    · exact h.lt j bj hj
  · intro j bj hj
    rw [get_set] at hj
    split at hj
    · cases hj; exact hs
    · exact h.sco j bj hj
  · intro j bj hj
    rw [get_set] at hj
    split at hj
    · rename_i e; cases hj; rw [← e]; exact hb
    · rename_i e
      by_cases ha : bj.alive = true
      · refine BOk_congr (fun _ _ => rfl) (hother _ ?_) bj (h.sco j bj hj) (h.ok j bj hj)
        exact (h.ap i j b bj hi hj e ho ha).symm
      · exact BOk_still ha (h.ok j bj hj)
  · intro j bj hj ha
    rw [get_set] at hj
    split at hj
    · rename_i e; rw [← e, hsz]; exact h.inb i b hi hal
    · rw [hsz]; exact h.inb j bj hj ha
  · intro j k bj bk hj hk hjk hoj hak
    rw [get_set] at hj hk
    split at hj <;> split at hk
    · omega
    · rename_i e1 e2; rw [← e1]; exact h.ap i k b bk hi hk e2 ho hak
    · rename_i e1 e2; rw [← e2]; exact h.ap j i bj b hj hi (Ne.symm e1) hoj hal
    · exact h.ap j k bj bk hj hk hjk hoj hak
  · intro j bj hj hoj
    rw [get_set] at hj
    split at hj
    · rename_i e; rw [← e]; exact h.own i b hi ho
    · exact h.own j bj hj hoj
  · intro k hk
    rw [hother k ?_]
    · exact h.old k hk
    · intro e; exact h.own i b hi ho (e ▸ hk)
theorem Rel.kill {w0 : W0} {ρ : Nat → Loc} {σ : Mem} {w : World} (h : Rel w0 ρ σ w) {i : Nat} {b : ABlk} (hi : σ.get i = some b) : Rel w0 ρ (σ.set i .dead) w := by
  refine ⟨?_, ?_, ?_, ?_, ?_, ?_, h.os, h.tape, h.output, h.size, h.old⟩
  · intro j bj hj
    rw [get_set] at hj
    split at hj
    · rename_i e; rw [← e]; exact h.lt i b hi
    · exact h.lt j bj hj
  · intro j bj hj
    rw [get_set] at hj
    split at hj
    · cases hj; rfl
    · exact h.sco j bj hj
  · intro j bj hj
    rw [get_set] at hj
    split at hj
    · cases hj; trivial
    · exact h.ok j bj hj
  · intro j bj hj ha
    rw [get_set] at hj
    split at hj
    · cases hj; simp [ABlk.alive] at ha
    · exact h.inb j bj hj ha
  · intro j k bj bk hj hk hjk hoj hak
    rw [get_set] at hj hk
    split at hj
    · cases hj; simp [ABlk.owned] at hoj
    · split at hk
      · cases hk; simp [ABlk.alive] at hak
      · exact h.ap j k bj bk hj hk hjk hoj hak
  · intro j bj hj hoj
    rw [get_set] at hj
    split at hj
    · cases hj; simp [ABlk.owned] at hoj
    · exact h.own j bj hj hoj
theorem Rel.weaken {w0 : W0} {ρ : Nat → Loc} {σ σ' : Mem} {w : World} (h : Rel w0 ρ σ' w) (hg : ∀ i b, σ.get i = some b → b ≠ .dead → σ'.get i = some b)
    (hl : ∀ i b, σ.get i = some b → i < σ.next) (hs : ∀ i b, σ.get i = some b → scB σ.next b = true) : Rel w0 ρ σ w := by
  have nd : ∀ b : ABlk, b.alive = true → b ≠ .dead := fun b hb e => by rw [e] at hb; cases hb
  have hal : ∀ b : ABlk, b.owned = true → b ≠ .dead := fun b hb => nd b (ABlk.owned_alive hb)
  refine ⟨hl, hs, ?_, ?_, ?_, ?_, h.os, h.tape, h.output, h.size, h.old⟩
  · intro i b hi
    by_cases ha : b = .dead
    · subst ha; trivial
    · exact h.ok i b (hg i b hi ha)
  · exact fun i b hi ha => h.inb i b (hg i b hi (nd _ ha)) ha
  · exact fun i j bi bj hi hj hij hoi haj => h.ap i j bi bj (hg i bi hi (hal _ hoi)) (hg j bj hj (nd _ haj)) hij hoi haj
  · exact fun i b hi ho => h.own i b (hg i b hi (hal _ ho)) ho
theorem eqEs_eq : ∀ {x y : List (AVal × AVal × Nat)}, eqEs x y = true → x = y
  | [], [], _ => rfl
  | [], _ :: _, h => by simp [eqEs] at h
  | _ :: _, [], h => by simp [eqEs] at h
  | (a, b, n) :: x, (c, d, m) :: y, h => by
    simp only [eqEs, Bool.and_eq_true] at h
    rw [aeq_eq _ _ h.1.1.1, aeq_eq _ _ h.1.1.2, Nat.eq_of_beq_eq_true h.1.2, eqEs_eq h.2]
theorem eqNs_eq : ∀ {x y : List Nat}, eqNs x y = true → x = y
  | [], [], _ => rfl
  | [], _ :: _, h => by simp [eqNs] at h
  | _ :: _, [], h => by simp [eqNs] at h
  | a :: x, b :: y, h => by
    simp only [eqNs, Bool.and_eq_true] at h
    rw [Nat.eq_of_beq_eq_true h.1, eqNs_eq h.2]
theorem eqb_eq : ∀ {x y : Bool}, eqb x y = true → x = y
  | true, true, _ => rfl
  | false, false, _ => rfl
theorem eqON_eq : ∀ {x y : Option Nat}, eqON x y = true → x = y
  | none, none, _ => rfl
  | some a, some b, h => by simp only [eqON] at h; rw [Nat.eq_of_beq_eq_true h]
  | none, some _, h => by simp [eqON] at h
  | some _, none, h => by simp [eqON] at h
theorem eqB_eq : ∀ {x y : ABlk}, eqB x y = true → x = y := by
  intro x y h
  cases x <;> cases y <;> simp only [eqB, Bool.and_eq_true, Bool.false_eq_true] at h
  · rw [aeqL_eq _ _ h.1.1, eqb_eq h.1.2, eqON_eq h.2]
  · rw [aeqL_eq _ _ h.1.1.1, Nat.eq_of_beq_eq_true h.1.1.2, Nat.eq_of_beq_eq_true h.1.2, eqb_eq h.2]
  · rw [eqEs_eq h.1, Nat.eq_of_beq_eq_true h.2]
  · rw [Nat.eq_of_beq_eq_true h.1.1.1, Nat.eq_of_beq_eq_true h.1.1.2, eqNs_eq h.1.2, Nat.eq_of_beq_eq_true h.2]
  · rfl
  · rw [Nat.eq_of_beq_eq_true h.1, Nat.eq_of_beq_eq_true h.2]
  · rfl
theorem eqBs_eq : ∀ {x y : List (Nat × ABlk)}, eqBs x y = true → x = y
  | [], [], _ => rfl
  | [], _ :: _, h => by simp [eqBs] at h
  | _ :: _, [], h => by simp [eqBs] at h
  | (a, b) :: x, (c, d) :: y, h => by
    simp only [eqBs, Bool.and_eq_true] at h
    rw [Nat.eq_of_beq_eq_true h.1.1, eqB_eq h.1.2, eqBs_eq h.2]
theorem eqMem_eq {a b : Mem} (h : eqMem a b = true) : a = b := by
  obtain ⟨n, x⟩ := a
  obtain ⟨m, y⟩ := b
  simp only [eqMem, Bool.and_eq_true] at h
  rw [Nat.eq_of_beq_eq_true h.1, eqBs_eq h.2]
theorem dynR_true {H : Hooks} {σ σ' : Mem} {g : AVal} {vs : List AVal} {x : ORes} (h : dynR H σ true g vs = some (x, σ')) :
    σ' = σ ∧ ∃ v, x = .val v ∧ callA H ⟨0, []⟩ g vs = some (.val v, ⟨0, []⟩) ∧ sc 0 v = true ∧ sc 0 g = true ∧ scL 0 vs = true := by
  simp only [dynR, cond_true] at h
  cases e1 : (sc 0 g && scL 0 vs) with
  | false => rw [e1] at h; cases h
  | true =>
    rw [e1] at h
    simp only [cond_true] at h
    split at h
    · rename_i v σ1 hc
      cases e : (eqMem σ1 ⟨0, []⟩ && sc 0 v) with
      | false => rw [e] at h; cases h
      | true =>
        rw [e] at h
        cases h
        simp only [Bool.and_eq_true] at e e1
        rw [eqMem_eq e.1] at hc
        exact ⟨rfl, v, rfl, hc, e.2, e1.1, e1.2⟩
    · cases h
theorem dynR_of {H : Hooks} {σ : Mem} {g : AVal} {vs : List AVal} {v : AVal} (h : callA H ⟨0, []⟩ g vs = some (.val v, ⟨0, []⟩)) (hv : sc 0 v = true) (hg : sc 0 g = true) (hs : scL 0 vs = true) :
    dynR H σ true g vs = some (.val v, σ) := by
  simp only [dynR, cond_true, hg, hs, h, hv, Bool.and_true]
  rfl
theorem dynR_mono {H H' : Hooks} {σ : Mem} {b : Bool} {g : AVal} {vs : List AVal} (hr : ∀ σ x, callA H σ g vs = some x → callA H' σ g vs = some x) {x : ORes × Mem} (h : dynR H σ b g vs = some x) : dynR H' σ b g vs = some x := by
  cases b with
  | false => exact hr _ _ h
  | true =>
    obtain ⟨x, σ'⟩ := x
    obtain ⟨rfl, v, rfl, h1, h2, h3, h4⟩ := dynR_true h
    exact dynR_of (hr _ _ h1) h2 h3 h4
end Go.Ev

