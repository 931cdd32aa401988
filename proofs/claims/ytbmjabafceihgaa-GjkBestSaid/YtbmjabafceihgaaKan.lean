import Derived.Test.YtbmjabafceihgaaKae
import Derived.Deep.Slices
import Derived.WalkKit
import Derived.ProofKit
import Derived.OpenShut
import Derived.ChangeOld
import Derived.Below
import Derived.SizedLaws
set_option linter.unusedVariables false
set_option linter.unusedSimpArgs false
set_option maxRecDepth 100000
noncomputable section
namespace Go.Ev
open Go.ChangeShapes Go.WideShapes Go.ChangeAt Go.RowKit Go.Deep
def allI (P : Program) : Nat → TypeId → Bool
 | 0, _ => false
 | d + 1, t => match P.underlying t with
  | some (.int .i64) => true
  | some (.struct fs) => fs.toList.all (fun f => allI P d f.type) && (List.range (P.cellsOf t)).all fun i => fs.toList.any fun f => decide (f.offset ≤ i ∧ i < f.offset + P.cellsOf f.type)
  | _ => false
section
variable {H : Type} {enc : TypeId × Value → H} {P : Program} {w : World} {base : Nat} {spare : Nat → Bool} {held : Bool}
theorem OE : ∀ (d : Nat) (t : TypeId), allI P d t = true → ∀ (n : Nat) (cs : List Value) (x : DataW H × List MemPlace), DataW.trod enc P w base spare held n t cs = some x → ∀ (i : Nat) (v : Value), cs[i]? = some v → ∃ z, v = Value.int .i64 z := by
 intro d
 induction d with
 | zero => intro t h; cases h
 | succ d ih =>
  intro t h n cs x hx i v hv
  unfold allI at h
  split at h
  ·rename_i ht
   obtain ⟨z, rfl, _⟩ := DataW.trod_int ht hx
   cases i with
   | zero => simp only [List.getElem?_cons_zero, Option.some.injEq] at hv; exact ⟨z, hv.symm⟩
   | succ i => simp at hv
  ·rename_i fs ht
   rw [Bool.and_eq_true] at h
   obtain ⟨h1, h2⟩ := h
   obtain ⟨xs, m, _, _, hlen, hxl, hf⟩ := DataW.trod_struct ht hx
   have hi : i < P.cellsOf t := by rw [← hlen]; exact (List.getElem?_eq_some_iff.1 hv).1
   have h3 := List.all_eq_true.1 h2 i (List.mem_range.2 hi)
   obtain ⟨f, hfm, hfi⟩ := List.any_eq_true.1 h3
   rw [decide_eq_true_eq] at hfi
   obtain ⟨k, hk⟩ := List.mem_iff_getElem?.1 hfm
   rw [Array.getElem?_toList] at hk
   have h4 := hf k f hk
   have hk' : k < xs.length := by rw [hxl]; exact (Array.getElem?_eq_some_iff.1 hk).1
   rw [List.getElem?_eq_getElem hk'] at h4
   refine ih f.type (List.all_eq_true.1 h1 f hfm) m _ _ h4 (i - f.offset) v ?_
   rw [List.getElem?_take, if_pos (by omega), List.getElem?_drop, show f.offset + (i - f.offset) = i by omega]
   exact hv
  ·cases h
theorem OF {t e : TypeId} {C d : Nat} {a : Option Addr} {len cap : Nat} {dd : DataW H} {ps : List MemPlace} (ht : P.underlying t = some (.slice e)) (ha : allI P d e = true) (hC : P.cellsOf e = C) (hC0 : 0 < C)
  (h : DataW.Trod enc P w base (fun _ => true) held t (.slice a len cap) dd ps) :
  len = 0 ∨ ∃ (x : Addr) (Z : Nat → Int), a = some x ∧ ∀ k, k < len * C → w.cell? (x.add k) = some (.int .i64 (Z k)) := by
 obtain ⟨fuel, hf⟩ := h
 rcases open_slice ht hf with ⟨h0, _⟩ | ⟨x, l, c, m, n, D, Pl, hcs, _, hl, _, hm, _, hi⟩
 ·simp [Value.cells] at h0
  exact .inl h0.2.1
 ·simp [Value.cells] at hcs
  obtain ⟨rfl, rfl, rfl⟩ := hcs
  simp only [if_true] at hm
  subst hm
  right
  have key : ∀ k, ∃ z : Int, k < len * C → w.cell? (x.add k) = some (.int .i64 z) := by
   intro k
   by_cases hk : k < len * C
   ·have hq : k / C < len := (Nat.div_lt_iff_lt_mul hC0).2 hk
    obtain ⟨cs', h1, h2⟩ := hi (k / C) (by omega)
    rw [hC] at h1
    obtain ⟨_, hcl, hat⟩ := World.cells?_some h1
    have hr : k % C < C := Nat.mod_lt _ hC0
    have h3 := hat (k % C) hr
    have h4 : cs'[k % C]? = some (cs'[k % C]'(by omega)) := List.getElem?_eq_getElem (by omega)
    obtain ⟨z, hz⟩ := OE d e ha n cs' _ h2 (k % C) _ h4
    refine ⟨z, fun _ => ?_⟩
    rw [h4, hz, Go.Deep.add_add, Nat.div_add_mod' k C] at h3
    exact h3
   ·exact ⟨0, fun h => absurd h hk⟩
  exact ⟨x, fun k => (key k).choose, rfl, fun k hk => (key k).choose_spec hk⟩
end
theorem Rv {A B : Type} (f : A → List B) (m : Nat) (hm : ∀ a, (f a).length = m) (l : List A) (i j : Nat) (hj : j < m) : (l.flatMap f)[i * m + j]? = (l[i]?).bind fun a => (f a)[j]? := by
 induction l generalizing i with
 | nil => simp
 | cons a l ih =>
  cases i with
  | zero => simp [List.flatMap_cons, List.getElem?_append, hm, hj]
  | succ i =>
   have h1 : (i + 1) * m + j = m + (i * m + j) := by rw [Nat.add_mul]; omega
   rw [h1, List.flatMap_cons, List.getElem?_append_right (by rw [hm]; omega), hm]
   have h2 : m + (i * m + j) - m = i * m + j := by omega
   rw [h2, ih]
   simp
theorem Rw {A B : Type} (f : A → List B) (m : Nat) (hm : ∀ a, (f a).length = m) (l : List A) : (l.flatMap f).length = l.length * m := by
 induction l with
 | nil => simp
 | cons a l ih => rw [List.flatMap_cons, List.length_append, hm, ih, List.length_cons, Nat.add_mul]; omega
theorem PK {w : World} {A : Type} (f : A → LA_) (row : (Nat → Int) → A) (C : Nat) (hC : 0 < C) (hlen : ∀ a, (f a).length = C) (hrow : ∀ Z j, j < C → (f (row Z))[j]? = some (.int .i64 (Z j))) {a : Option Addr} {len cap : Nat}
  (h : len = 0 ∨ ∃ (x : Addr) (Z : Nat → Int), a = some x ∧ ∀ k, k < len * C → w.cell? (x.add k) = some (.int .i64 (Z k))) :
  ∃ (l : List A) (L : Loc), l.length = len ∧ L.sp = a ∧ L.sl = len ∧ L.sk = cap ∧ (∀ ρ, BOk ρ L w (.vec (l.flatMap f) l.length C false)) ∧ (l.flatMap f ≠ [] → L.blk < w.heap.size) ∧ scC 0 (l.flatMap f) = true := by
 by_cases h0 : len = 0
 ·subst h0
  exact ⟨[], ⟨0, 0, 0, ⟨0, 0, none⟩, .nilIface, a, 0, cap, default⟩, rfl, rfl, rfl, rfl, fun ρ => ⟨rfl, .inl ⟨rfl, rfl, fun h => by cases h⟩⟩, fun h => absurd rfl h, rfl⟩
 obtain ⟨x, Z, rfl, hx⟩ := h.resolve_left h0
 have hpos : 0 < len * C := Nat.mul_pos (by omega) hC
 let l : List A := (List.range len).map fun i => row fun j => Z (i * C + j)
 have hll : l.length = len := by simp [l]
 have hfl : (l.flatMap f).length = len * C := by rw [Rw f C hlen, hll]
 have hcell : ∀ k, k < len * C → (l.flatMap f)[k]? = some (.int .i64 (Z k)) := by
  intro k hk
  have hr : k % C < C := Nat.mod_lt _ hC
  have hq : k / C < len := (Nat.div_lt_iff_lt_mul hC).2 hk
  have h1 := Rv f C hlen l (k / C) (k % C) hr
  rw [Nat.div_add_mod' k C] at h1
  rw [h1]
  have h2 : l[k / C]? = some (row fun j => Z (k / C * C + j)) := by simp [l, hq]
  rw [h2]
  show (f _)[k % C]? = _
  rw [hrow _ _ hr, Nat.div_add_mod' k C]
 have h1 := hx 0 hpos
 have hx0 : x.add 0 = x := rfl
 rw [hx0] at h1
 unfold World.cell? at h1
 split at h1
 ·rename_i c e fz hb
  split at h1
  ·cases h1
  ·rename_i hspot
   have hsp : x.spot = none := by simpa using hspot
   have hat : ∀ k, k < len * C → c[x.off + k]? = some (.int .i64 (Z k)) := by
    intro k hk
    have h2 := hx k hk
    unfold World.cell? at h2
    have hb2 : (x.add k).block = x.block := by unfold Addr.add; split <;> rfl
    have ho2 : (x.add k).off = x.off + k := by unfold Addr.add; split <;> simp_all
    rw [hb2, hb] at h2
    simp only at h2
    split at h2
    ·cases h2
    ·rw [ho2] at h2; exact h2
   have hne : l.flatMap f ≠ [] := by intro hn; rw [hn] at hfl; simp at hfl; omega
   have hsz : x.off + len * C ≤ c.size := by
    have := (Array.getElem?_eq_some_iff.1 (hat (len * C - 1) (by omega))).1
    omega
   have hadr : x = ⟨x.block, x.off, none⟩ := by cases x; simp_all
   refine ⟨l, ⟨x.block, x.off, 0, ⟨0, 0, none⟩, .nilIface, some x, len, cap, default⟩, hll, rfl, rfl, rfl, fun ρ => ⟨hll.symm, .inr ⟨hne, congrArg some hadr, by rw [hfl, hll], c, e, fz, hb, ⟨c.toList.take x.off, c.toList.drop (x.off + len * C), ?_, ?_⟩, fun h => by cases h⟩⟩, fun _ => ?_, ?_⟩
   ·apply List.ext_getElem?
    intro i
    rw [List.append_assoc, List.getElem?_append, List.length_take, Array.length_toList, Nat.min_eq_left (by omega)]
    split
    ·rename_i hi; rw [List.getElem?_take, if_pos hi]
    ·rename_i hi
     rw [List.getElem?_append, aT, hfl]
     split
     ·rename_i hi2
      rw [jK, hcell _ hi2, Array.getElem?_toList]
      have := hat (i - x.off) hi2
      rw [show x.off + (i - x.off) = i by omega] at this
      rw [this]; rfl
     ·rename_i hi2
      rw [List.getElem?_drop, show x.off + len * C + (i - x.off - len * C) = i by omega]
   ·rw [List.length_take, Array.length_toList, Nat.min_eq_left (by omega)]
   ·exact (Array.getElem?_eq_some_iff.1 hb).1
   ·rw [fZ]
    intro v hv
    obtain ⟨i, hi⟩ := List.mem_iff_getElem?.1 hv
    have hil : i < len * C := by rw [← hfl]; exact (List.getElem?_eq_some_iff.1 hi).1
    rw [hcell i hil] at hi
    cases hi
    exact ⟨rfl, rfl⟩
 ·cases h1
theorem OG {cs : LA_} {n sz : Nat} {own : Bool} (h : (ar.vec cs n sz own).alive = true) : cs ≠ [] := by
 rintro rfl; cases h
theorem OH {w : World} {ρ : Nat → Loc} {ls : List ar} (h : ∀ i b, ls[i]? = some b → BOk ρ (ρ i) w b ∧ b.owned = false ∧ scB ls.length b = true ∧ (b.alive = true → (ρ i).blk < w.heap.size)) : Rel (W0.all w) ρ ⟨ls.length, cQ 0 ls⟩ w := by
 have hbk : ∀ i b, (⟨ls.length, cQ 0 ls⟩ : Mem).get i = some b → i < ls.length ∧ ls[i]? = some b := by
  intro i b hi
  obtain ⟨_, h2, h3⟩ := FM _ (mn hi)
  simp only [Nat.zero_add, Nat.sub_zero] at h2 h3
  exact ⟨h2, h3⟩
 refine ⟨fun i b hi => (hbk i b hi).1, fun i b hi => (h i b (hbk i b hi).2).2.2.1, fun i b hi => (h i b (hbk i b hi).2).1, fun i b hi => (h i b (hbk i b hi).2).2.2.2, ?_, ?_, rfl, rfl, rfl, Nat.le_refl _, fun _ _ => rfl⟩
 ·intro i j bi bj hi hj hij ho _
  rw [(h i bi (hbk i bi hi).2).2.1] at ho; cases ho
 ·intro i b hi ho
  rw [(h i b (hbk i b hi).2).2.1] at ho; cases ho
theorem di.row {P : Program} {g : FuncId} {cargs : LA_} {ls : List ar} {b : Bool} {σ' : Mem} {w : World} {ρ : Nat → Loc} (h : di P g cargs ⟨ls.length, cQ 0 ls⟩ (.ret (.bool b)) σ') (R : Rel (W0.all w) ρ ⟨ls.length, cQ 0 ls⟩ w)
  (hs : scL ls.length cargs = true) : Calls P g (γL ρ cargs).toArray w fun e w' => e = .returned (.bool b) ∧ Below w.heap.size w w' := by
 refine (h _ ρ w R hs).mono ?_
 rintro e w' ⟨ρ', rfl, k, _⟩
 exact ⟨rfl, k.rel.os, k.rel.tape, k.rel.output, k.rel.size, fun q hq => k.rel.old q hq⟩
end Go.Ev
