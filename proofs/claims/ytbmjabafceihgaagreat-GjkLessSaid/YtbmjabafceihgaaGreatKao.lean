import Derived.Test.YtbmjabafceihgaaGreatKan
import Derived.Deep.Slices
import Derived.WalkKit
import Derived.ProofKit
import Derived.OpenShut
import Derived.ChangeOld
import Derived.Below
import Derived.SizedLaws
set_option linter.unusedVariables false
set_option linter.unusedSimpArgs false
set_option maxRecDepth 100000
noncomputable section
namespace Go.Ev
open Go.Proofs
theorem Rr {l : List Pt} (hok : aD l = true) (h1 : 1 ≤ l.length) (h : l.length ≤ 256) : bW l = 0 := by
 unfold bW
 rw [hok, cond_true, decide_eq_false (by omega), cond_false]
 have : (((l.length : Nat) : Int) == 0) = false := beq_eq_false_iff_ne.2 (by omega)
 rw [this]; rfl
theorem Td {l : List Pt} (hok : aD l = true) (h1 : 1 ≤ l.length) (h64 : l.length ≤ 64) :
  ∃ o N D st, Wk l o N D st ∧ jz (pcs l) l.length = some (N.1, N.2.1, N.2.2, D, ((st : Nat) : Int), 0, cC o, o.length) := by
 obtain ⟨o, N, D, st, hW, e⟩ := Uu hok h1 h64
 refine ⟨o, N, D, st, hW, ?_⟩
 unfold jz tA
 unfold aZ
 rw [E9 (by omega), Rr hok h1 (by omega), Option.bind_some, e]
 have z : ((0 : Int) != 0) = false := rfl
 simp only [z, cond_false, Option.bind_some, bv, Bool.and_self, aA]
 rw [aG (aY hW.sN.h.1 (by decide)), aG (aY hW.sN.h.2.1 (by decide)), aG (aY hW.sN.h.2.2 (by decide)), aG (aY hW.sD (by decide))]
structure Nr (l : List Pt) (o : List Nat) (N : Pt) (D : Int) : Prop where
 own : Own l o
 Ut : Prim (bG (pick l o)) (wts (pick l o)).2 N D
 none : tu l (pick l o)
 sN : PtB 240 N
 sD : sm 190 D
theorem Te {l : List Pt} (hok : aD l = true) (h1 : 1 ≤ l.length) (h64 : l.length ≤ 64) :
  ∃ o N D, Nr l o N D ∧ cM (pcs l) l.length = some (N.1, N.2.1, N.2.2, D, 0, cC o, o.length) := by
 obtain ⟨o, N, D, st, hW, e⟩ := Td hok h1 h64
 have z : ((0 : Int) == 0) = true := rfl
 by_cases h4 : l.length ≤ 4
 ·obtain ⟨ch, hch, N', D', e2, hi, ⟨hw, hn⟩, hP, hN, hD⟩ := P7 hok h1 h4
  obtain ⟨c1, c2, c3, c4, c5⟩ := Qd hch
  refine ⟨ch, N', D', ⟨⟨⟨hi, hw⟩, c4, c5, c1, by omega⟩, hP, hn, hN, hD⟩, ?_⟩
  unfold cM qJ
  unfold aZ
  rw [e, Option.bind_some]
  have d4 : decide (((l.length : Nat) : Int) ≤ 4) = true := decide_eq_true (by omega)
  simp only [z, cond_true, d4]
  rw [e2]
  simp only [Option.bind_some, bv, Bool.and_self, aA]
  rw [aG (aY hN.h.1 (by decide)), aG (aY hN.h.2.1 (by decide)), aG (aY hN.h.2.2 (by decide)), aG (aY hD (by decide))]
  rfl
 ·refine ⟨o, N, D, ⟨hW.own, hW.Ut, hW.none, hW.sN, hW.sD⟩, ?_⟩
  unfold cM qJ
  unfold aZ
  rw [e, Option.bind_some]
  have d4 : decide (((l.length : Nat) : Int) ≤ 4) = false := decide_eq_false (by omega)
  simp only [z, cond_true, d4, cond_false, Option.bind_some, bv, Bool.and_self, aA]
  rw [aG (aY hW.sN.h.1 (by decide)), aG (aY hW.sN.h.2.1 (by decide)), aG (aY hW.sN.h.2.2 (by decide)), aG (aY hW.sD (by decide))]
theorem F7 (a b : List Pt) : ((de a b).1 ≠ 0 ∧ (de a b).2 = []) ∨ ((de a b).1 = 0 ∧ (de a b).2 = bX a b ∧ aD (bX a b) = true ∧ 1 ≤ (bX a b).length) := by
 unfold de
 cases c0 : (bW a == 7 || bW b == 7) with
 | true => exact .inl ⟨show (7 : Int) ≠ 0 by decide, rfl⟩
 | false =>
  cases c1 : (bW a == 3 || bW b == 3) with
  | true => exact .inl ⟨show (3 : Int) ≠ 0 by decide, rfl⟩
  | false =>
   cases c2 : (bW a == 2 || bW b == 2) with
   | true => exact .inl ⟨show (2 : Int) ≠ 0 by decide, rfl⟩
   | false =>
    simp only [cond_false]
    cases decide (a.length * b.length > 256) with
    | true => exact .inl ⟨show (3 : Int) ≠ 0 by decide, rfl⟩
    | false =>
     cases hc : aD (bX a b) with
     | false => exact .inl ⟨show (7 : Int) ≠ 0 by decide, rfl⟩
     | true =>
      refine .inr ⟨rfl, rfl, rfl, ?_⟩
      rw [Bool.or_eq_false_iff] at c0 c1 c2
      have na : 1 ≤ a.length := by
       rcases lR a with h | h | h | h
       ·rw [h] at c0; simp at c0
       ·rw [h] at c1; simp at c1
       ·rw [h] at c2; simp at c2
       ·exact h.2.2.1
      have nb : 1 ≤ b.length := by
       rcases lR b with h | h | h | h
       ·rw [h] at c0; simp at c0
       ·rw [h] at c1; simp at c1
       ·rw [h] at c2; simp at c2
       ·exact h.2.2.1
      rw [uw]
      exact Nat.mul_pos na nb
theorem O0 {a b : List Pt} (hla : a.length < 1000000000) (hlb : b.length < 1000000000) (h : (de a b).1 ≠ 0) : eT (pcs a) a.length (pcs b) b.length = some (0, 0, 0, 0, (de a b).1, [], 0) := by
 have z : ((de a b).1 != 0) = true := by simpa using h
 unfold eT oR
 unfold aZ
 rw [MH hla hlb, Option.bind_some]
 simp only [z, cond_true, Option.bind_some]
 have o0 : ok8 0 0 0 0 0 0 0 0 = true := rfl
 have n0 : num 0 0 0 0 0 0 0 0 = 0 := rfl
 simp only [o0, n0, Bool.and_self, aA]
theorem O1 {a b : List Pt} (hla : a.length < 1000000000) (hlb : b.length < 1000000000) (h : (de a b).1 = 0) {N : Pt} {D : Int} {cs : LA_} {n : Nat} (hN : PtB 240 N) (hD : sm 190 D)
  (e : cM (pcs (de a b).2) (de a b).2.length = some (N.1, N.2.1, N.2.2, D, 0, cs, n)) : eT (pcs a) a.length (pcs b) b.length = some (N.1, N.2.1, N.2.2, D, 0, cs, n) := by
 unfold eT oR
 unfold aZ
 rw [MH hla hlb, Option.bind_some]
 have z : ((de a b).1 != 0) = false := by rw [h]; rfl
 simp only [z, cond_false, e, Option.bind_some, bv, Bool.and_self, aA]
 rw [aG (aY hN.h.1 (by decide)), aG (aY hN.h.2.1 (by decide)), aG (aY hN.h.2.2 (by decide)), aG (aY hD (by decide))]
theorem Rt (a b : List Pt) : jB (pcs a) a.length (pcs b) b.length = some true := by
 unfold jB
 by_cases ha : a.length > 300
 ·rw [decide_eq_true (show ((a.length : Nat) : Int) > 300 by omega)]; rfl
 rw [decide_eq_false (show ¬ ((a.length : Nat) : Int) > 300 by omega), cond_false]
 by_cases hb : b.length > 300
 ·rw [decide_eq_true (show ((b.length : Nat) : Int) > 300 by omega)]; rfl
 rw [decide_eq_false (show ¬ ((b.length : Nat) : Int) > 300 by omega), cond_false]
 have hla : a.length < 1000000000 := by omega
 have hlb : b.length < 1000000000 := by omega
 rw [MH hla hlb, Option.bind_some, Uw hla hlb, Option.bind_some]
 have hz2 : (de a b).2.length < 1000000000 := by
  rcases F7 a b with ⟨_, h⟩ | ⟨_, h, _⟩
  ·rw [h]; simp
  ·rw [h, uw]
   have : a.length * b.length ≤ 300 * 300 := Nat.mul_le_mul (by omega) (by omega)
   omega
 simp only
 rw [Nh hz2, Option.bind_some, cond_true]
 have hne : ((de a b).1 != (de a b).1) = false := by simp
 rw [hne, cond_false]
 by_cases h40 : (de a b).2.length > 40
 ·rw [decide_eq_true (show (((de a b).2.length : Nat) : Int) > 40 by omega)]; rfl
 rw [decide_eq_false (show ¬ (((de a b).2.length : Nat) : Int) > 40 by omega), cond_false]
 rcases F7 a b with ⟨h0, h2⟩ | ⟨h0, h2, hok, h1⟩
 ·have hA := O0 hla hlb h0
  have hM : fR (pcs a) a.length (pcs b) b.length = some (false, (de a b).1) := by
   unfold fR
   rw [hA, Option.bind_some]
   have : ((de a b).1 == 0) = false := beq_eq_false_iff_ne.2 h0
   simp only [this, cond_false]
  have hne0 : ((de a b).1 != 0) = true := by simpa using h0
  rw [hA, Option.bind_some, hM, Option.bind_some]
  simp only [hne0, cond_true, cond_false, f0, beq_self_eq_true, Bool.and_self, qR, Option.bind_some]
 ·obtain ⟨o, N, D, hNr, e⟩ := Te (l := (de a b).2) (by rw [h2]; exact hok) (by rw [h2]; exact h1) (by omega)
  have hA := O1 hla hlb h0 hNr.sN hNr.sD e
  have hne0 : ((de a b).1 != 0) = false := by rw [h0]; rfl
  have z : ((0 : Int) == 0) = true := rfl
  rw [hA, Option.bind_some]
  unfold fR
  rw [hA]
  simp only [Option.bind_some, z, cond_true, hne0, cond_false, e, beq_self_eq_true, Bool.and_self, Bool.and_true, qR]
  generalize (aa N.1 0 == 0 && (aa N.1 1 == 0 && (aa N.1 2 == 0 && (aa N.1 3 == 0 && (aa N.1 4 == 0 && (aa N.1 5 == 0 && (aa N.1 6 == 0 && (aa N.1 7 == 0 && (aa N.2.1 0 == 0 && (aa N.2.1 1 == 0 && (aa N.2.1 2 == 0 && (aa N.2.1 3 == 0 && (aa N.2.1 4 == 0 && (aa N.2.1 5 == 0 && (aa N.2.1 6 == 0 && (aa N.2.1 7 == 0 && (aa N.2.2 0 == 0 && (aa N.2.2 1 == 0 && (aa N.2.2 2 == 0 && (aa N.2.2 3 == 0 && (aa N.2.2 4 == 0 && (aa N.2.2 5 == 0 && (aa N.2.2 6 == 0 && aa N.2.2 7 == 0))))))))))))))))))))))) = B
  cases B <;> rfl
end Go.Ev
namespace Go.Ev
open Go.ChangeShapes Go.WideShapes Go.ChangeAt Go.RowKit Go.Deep
def allI (P : Program) : Nat → TypeId → Bool
 | 0, _ => false
 | d + 1, t => match P.underlying t with
  | some (.int .i64) => true
  | some (.struct fs) => fs.toList.all (fun f => allI P d f.type) && (List.range (P.cellsOf t)).all fun i => fs.toList.any fun f => decide (f.offset ≤ i ∧ i < f.offset + P.cellsOf f.type)
  | _ => false
section
variable {H : Type} {enc : TypeId × Value → H} {P : Program} {w : World} {base : Nat} {spare : Nat → Bool} {held : Bool}
theorem PN : ∀ (d : Nat) (t : TypeId), allI P d t = true → ∀ (n : Nat) (cs : List Value) (x : DataW H × List MemPlace), DataW.trod enc P w base spare held n t cs = some x → ∀ (i : Nat) (v : Value), cs[i]? = some v → ∃ z, v = Value.int .i64 z := by
 intro d
 induction d with
 | zero => intro t h; cases h
 | succ d ih =>
  intro t h n cs x hx i v hv
  unfold allI at h
  split at h
  ·rename_i ht
   obtain ⟨z, rfl, _⟩ := DataW.trod_int ht hx
   cases i with
   | zero => simp only [List.getElem?_cons_zero, Option.some.injEq] at hv; exact ⟨z, hv.symm⟩
   | succ i => simp at hv
  ·rename_i fs ht
   rw [Bool.and_eq_true] at h
   obtain ⟨h1, h2⟩ := h
   obtain ⟨xs, m, _, _, hlen, hxl, hf⟩ := DataW.trod_struct ht hx
   have hi : i < P.cellsOf t := by rw [← hlen]; exact (List.getElem?_eq_some_iff.1 hv).1
   have h3 := List.all_eq_true.1 h2 i (List.mem_range.2 hi)
   obtain ⟨f, hfm, hfi⟩ := List.any_eq_true.1 h3
   rw [decide_eq_true_eq] at hfi
   obtain ⟨k, hk⟩ := List.mem_iff_getElem?.1 hfm
   rw [Array.getElem?_toList] at hk
   have h4 := hf k f hk
   have hk' : k < xs.length := by rw [hxl]; exact (Array.getElem?_eq_some_iff.1 hk).1
   rw [List.getElem?_eq_getElem hk'] at h4
   refine ih f.type (List.all_eq_true.1 h1 f hfm) m _ _ h4 (i - f.offset) v ?_
   rw [List.getElem?_take, if_pos (by omega), List.getElem?_drop, show f.offset + (i - f.offset) = i by omega]
   exact hv
  ·cases h
theorem Ki {t e : TypeId} {C d : Nat} {a : Option Addr} {len cap : Nat} {dd : DataW H} {ps : List MemPlace} (ht : P.underlying t = some (.slice e)) (ha : allI P d e = true) (hC : P.cellsOf e = C) (hC0 : 0 < C)
  (h : DataW.Trod enc P w base (fun _ => true) held t (.slice a len cap) dd ps) :
  len = 0 ∨ ∃ (x : Addr) (Z : Nat → Int), a = some x ∧ ∀ k, k < len * C → w.cell? (x.add k) = some (.int .i64 (Z k)) := by
 obtain ⟨fuel, hf⟩ := h
 rcases open_slice ht hf with ⟨h0, _⟩ | ⟨x, l, c, m, n, D, Pl, hcs, _, hl, _, hm, _, hi⟩
 ·simp [Value.cells] at h0
  exact .inl h0.2.1
 ·simp [Value.cells] at hcs
  obtain ⟨rfl, rfl, rfl⟩ := hcs
  simp only [if_true] at hm
  subst hm
  right
  have key : ∀ k, ∃ z : Int, k < len * C → w.cell? (x.add k) = some (.int .i64 z) := by
   intro k
   by_cases hk : k < len * C
   ·have hq : k / C < len := (Nat.div_lt_iff_lt_mul hC0).2 hk
    obtain ⟨cs', h1, h2⟩ := hi (k / C) (by omega)
    rw [hC] at h1
    obtain ⟨_, hcl, hat⟩ := World.cells?_some h1
    have hr : k % C < C := Nat.mod_lt _ hC0
    have h3 := hat (k % C) hr
    have h4 : cs'[k % C]? = some (cs'[k % C]'(by omega)) := List.getElem?_eq_getElem (by omega)
    obtain ⟨z, hz⟩ := PN d e ha n cs' _ h2 (k % C) _ h4
    refine ⟨z, fun _ => ?_⟩
    rw [h4, hz, Go.Deep.add_add, Nat.div_add_mod' k C] at h3
    exact h3
   ·exact ⟨0, fun h => absurd h hk⟩
  exact ⟨x, fun k => (key k).choose, rfl, fun k hk => (key k).choose_spec hk⟩
end
theorem SC {A B : Type} (f : A → List B) (m : Nat) (hm : ∀ a, (f a).length = m) (l : List A) (i j : Nat) (hj : j < m) : (l.flatMap f)[i * m + j]? = (l[i]?).bind fun a => (f a)[j]? := by
 induction l generalizing i with
 | nil => simp
 | cons a l ih =>
  cases i with
  | zero => simp [List.flatMap_cons, List.getElem?_append, hm, hj]
  | succ i =>
   have h1 : (i + 1) * m + j = m + (i * m + j) := by rw [Nat.add_mul]; omega
   rw [h1, List.flatMap_cons, List.getElem?_append_right (by rw [hm]; omega), hm]
   have h2 : m + (i * m + j) - m = i * m + j := by omega
   rw [h2, ih]
   simp
theorem SD {A B : Type} (f : A → List B) (m : Nat) (hm : ∀ a, (f a).length = m) (l : List A) : (l.flatMap f).length = l.length * m := by
 induction l with
 | nil => simp
 | cons a l ih => rw [List.flatMap_cons, List.length_append, hm, ih, List.length_cons, Nat.add_mul]; omega
theorem L6 {w : World} {A : Type} (f : A → LA_) (row : (Nat → Int) → A) (C : Nat) (hC : 0 < C) (hlen : ∀ a, (f a).length = C) (hrow : ∀ Z j, j < C → (f (row Z))[j]? = some (.int .i64 (Z j))) {a : Option Addr} {len cap : Nat}
  (h : len = 0 ∨ ∃ (x : Addr) (Z : Nat → Int), a = some x ∧ ∀ k, k < len * C → w.cell? (x.add k) = some (.int .i64 (Z k))) :
  ∃ (l : List A) (L : Loc), l.length = len ∧ L.sp = a ∧ L.sl = len ∧ L.sk = cap ∧ (∀ ρ, BOk ρ L w (.vec (l.flatMap f) l.length C false)) ∧ (l.flatMap f ≠ [] → L.blk < w.heap.size) ∧ scC 0 (l.flatMap f) = true := by
 by_cases h0 : len = 0
 ·subst h0
  exact ⟨[], ⟨0, 0, 0, ⟨0, 0, none⟩, .nilIface, a, 0, cap, default⟩, rfl, rfl, rfl, rfl, fun ρ => ⟨rfl, .inl ⟨rfl, rfl, fun h => by cases h⟩⟩, fun h => absurd rfl h, rfl⟩
 obtain ⟨x, Z, rfl, hx⟩ := h.resolve_left h0
 have hpos : 0 < len * C := Nat.mul_pos (by omega) hC
 let l : List A := (List.range len).map fun i => row fun j => Z (i * C + j)
 have hll : l.length = len := by simp [l]
 have hfl : (l.flatMap f).length = len * C := by rw [SD f C hlen, hll]
 have hcell : ∀ k, k < len * C → (l.flatMap f)[k]? = some (.int .i64 (Z k)) := by
  intro k hk
  have hr : k % C < C := Nat.mod_lt _ hC
  have hq : k / C < len := (Nat.div_lt_iff_lt_mul hC).2 hk
  have h1 := SC f C hlen l (k / C) (k % C) hr
  rw [Nat.div_add_mod' k C] at h1
  rw [h1]
  have h2 : l[k / C]? = some (row fun j => Z (k / C * C + j)) := by simp [l, hq]
  rw [h2]
  show (f _)[k % C]? = _
  rw [hrow _ _ hr, Nat.div_add_mod' k C]
 have h1 := hx 0 hpos
 have hx0 : x.add 0 = x := rfl
 rw [hx0] at h1
 unfold World.cell? at h1
 split at h1
 ·rename_i c e fz hb
  split at h1
  ·cases h1
  ·rename_i hspot
   have hsp : x.spot = none := by simpa using hspot
   have hat : ∀ k, k < len * C → c[x.off + k]? = some (.int .i64 (Z k)) := by
    intro k hk
    have h2 := hx k hk
    unfold World.cell? at h2
    have hb2 : (x.add k).block = x.block := by unfold Addr.add; split <;> rfl
    have ho2 : (x.add k).off = x.off + k := by unfold Addr.add; split <;> simp_all
    rw [hb2, hb] at h2
    simp only at h2
    split at h2
    ·cases h2
    ·rw [ho2] at h2; exact h2
   have hne : l.flatMap f ≠ [] := by intro hn; rw [hn] at hfl; simp at hfl; omega
   have hsz : x.off + len * C ≤ c.size := by
    have := (Array.getElem?_eq_some_iff.1 (hat (len * C - 1) (by omega))).1
    omega
   have hadr : x = ⟨x.block, x.off, none⟩ := by cases x; simp_all
   refine ⟨l, ⟨x.block, x.off, 0, ⟨0, 0, none⟩, .nilIface, some x, len, cap, default⟩, hll, rfl, rfl, rfl, fun ρ => ⟨hll.symm, .inr ⟨hne, congrArg some hadr, by rw [hfl, hll], c, e, fz, hb, ⟨c.toList.take x.off, c.toList.drop (x.off + len * C), ?_, ?_⟩, fun h => by cases h⟩⟩, fun _ => ?_, ?_⟩
   ·apply List.ext_getElem?
    intro i
    rw [List.append_assoc, List.getElem?_append, List.length_take, Array.length_toList, Nat.min_eq_left (by omega)]
    split
    ·rename_i hi; rw [List.getElem?_take, if_pos hi]
    ·rename_i hi
     rw [List.getElem?_append, aU, hfl]
     split
     ·rename_i hi2
      rw [kl, hcell _ hi2, Array.getElem?_toList]
      have := hat (i - x.off) hi2
      rw [show x.off + (i - x.off) = i by omega] at this
      rw [this]; rfl
     ·rename_i hi2
      rw [List.getElem?_drop, show x.off + len * C + (i - x.off - len * C) = i by omega]
   ·rw [List.length_take, Array.length_toList, Nat.min_eq_left (by omega)]
   ·exact (Array.getElem?_eq_some_iff.1 hb).1
   ·rw [gC]
    intro v hv
    obtain ⟨i, hi⟩ := List.mem_iff_getElem?.1 hv
    have hil : i < len * C := by rw [← hfl]; exact (List.getElem?_eq_some_iff.1 hi).1
    rw [hcell i hil] at hi
    cases hi
    exact ⟨rfl, rfl⟩
 ·cases h1
theorem Kj {cs : LA_} {n sz : Nat} {own : Bool} (h : (av.vec cs n sz own).alive = true) : cs ≠ [] := by
 rintro rfl; cases h
theorem PO {w : World} {ρ : Nat → Loc} {ls : List av} (h : ∀ i b, ls[i]? = some b → BOk ρ (ρ i) w b ∧ b.owned = false ∧ scB ls.length b = true ∧ (b.alive = true → (ρ i).blk < w.heap.size)) : Rel (W0.all w) ρ ⟨ls.length, dk 0 ls⟩ w := by
 have hbk : ∀ i b, (⟨ls.length, dk 0 ls⟩ : Mem).get i = some b → i < ls.length ∧ ls[i]? = some b := by
  intro i b hi
  obtain ⟨_, h2, h3⟩ := Hn _ (nv hi)
  simp only [Nat.zero_add, Nat.sub_zero] at h2 h3
  exact ⟨h2, h3⟩
 refine ⟨fun i b hi => (hbk i b hi).1, fun i b hi => (h i b (hbk i b hi).2).2.2.1, fun i b hi => (h i b (hbk i b hi).2).1, fun i b hi => (h i b (hbk i b hi).2).2.2.2, ?_, ?_, rfl, rfl, rfl, Nat.le_refl _, fun _ _ => rfl⟩
 ·intro i j bi bj hi hj hij ho _
  rw [(h i bi (hbk i bi hi).2).2.1] at ho; cases ho
 ·intro i b hi ho
  rw [(h i b (hbk i b hi).2).2.1] at ho; cases ho
end Go.Ev
