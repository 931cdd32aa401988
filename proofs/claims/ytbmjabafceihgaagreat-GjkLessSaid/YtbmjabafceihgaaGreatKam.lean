import Derived.Test.YtbmjabafceihgaaGreatKal
set_option linter.unusedVariables false
set_option linter.unusedSimpArgs false
set_option maxRecDepth 100000
noncomputable section
namespace Go.Ev
open Go.Proofs
theorem JU : ∀ (r : List Pt) (i : Int) (o : List Int) (t : List Pt), (mf r i o t).1.length ≤ o.length + r.length
 | [], i, o, t => Nat.le_refl _
 | p :: r, i, o, t => by
  unfold mf
  cases dV t p with
  | true => have := JU r (i + 1) (o ++ [i]) (t ++ [p]); simp only [cond_true, List.length_append, List.length_cons, List.length_nil] at *; omega
  | false => have := JU r (i + 1) o t; simp only [cond_false, List.length_cons] at *; omega
theorem ll {p : Pt} {r : List Pt} {i : Int} {o : List Int} {t : List Pt} : (mf (p :: r) i o t).1.length = o.length + (p :: r).length ↔ dV t p = true ∧ (mf r (i + 1) (o ++ [i]) (t ++ [p])).1.length = (o ++ [i]).length + r.length := by
 have h1 := JU r (i + 1) o t
 conv => lhs; unfold mf
 cases dV t p with
 | true => simp only [cond_true, true_and, List.length_append, List.length_cons, List.length_nil]; omega
 | false => simp only [cond_false, List.length_cons, Bool.false_eq_true, false_and, iff_false]; omega
theorem MB {S : List Pt} (h1 : 1 ≤ S.length) (h4 : S.length ≤ 4) : (mg S).length = S.length ↔ ind S := by
 have z : ∀ r i, (mf [] i r []).1 = r := fun _ _ => rfl
 have r0 : ∀ p, dV [] p = true := fun _ => rfl
 have r1 : ∀ a p, dV [a] p = true ↔ aq p a ≠ (0, 0, 0) := by
  intro a p
  simp only [dV, Bool.not_eq_true', decide_eq_false_iff_not, aq, ne_eq, Prod.mk.injEq]
  constructor
  ·intro h e; apply h; obtain ⟨a1, a2, a3⟩ := a; obtain ⟨p1, p2, p3⟩ := p; simp only [Prod.mk.injEq] at *; omega
  ·intro h e; apply h; subst e; omega
 have r2 : ∀ a b p, dV [a, b] p = true ↔ crs (aq b a) (aq p a) ≠ (0, 0, 0) := by intro a b p; simp [dV]
 have r3 : ∀ a b c p, dV [a, b, c] p = true ↔ dc (aq b a) (aq c a) (aq p a) ≠ 0 := by intro a b c p; simp [dV]
 have e0 : ∀ {l : List Pt}, (mg l).length = (mf l 0 [] []).1.length := fun {l} => rfl
 match S, h1, h4 with
 | [p], _, _ => exact ⟨fun _ => trivial, fun _ => rfl⟩
 | [p, q], _, _ =>
  have h := @ll p [q] 0 [] []
  rw [List.length_nil, Nat.zero_add] at h
  rw [e0, h, ll]
  simp only [r0, true_and, List.nil_append, r1]
  exact ⟨fun h => h.1, fun h => ⟨h, rfl⟩⟩
 | [p, q, r], _, _ =>
  have h := @ll p [q, r] 0 [] []
  rw [List.length_nil, Nat.zero_add] at h
  rw [e0, h, ll, ll]
  simp only [r0, true_and, List.nil_append, r1, List.cons_append, r2]
  exact ⟨fun h => h.2.1, fun h => ⟨E6 (l := [p, q, r]) h (t := [p, q]) (by simp) (by simp), h, rfl⟩⟩
 | [p, q, r, s], _, _ =>
  have h := @ll p [q, r, s] 0 [] []
  rw [List.length_nil, Nat.zero_add] at h
  rw [e0, h, ll, ll, ll]
  simp only [r0, true_and, List.nil_append, r1, List.cons_append, r2, r3]
  exact ⟨fun h => h.2.2.1, fun h => ⟨E6 (l := [p, q, r, s]) h (t := [p, q]) (by simp) (by simp), E6 (l := [p, q, r, s]) h (t := [p, q, r]) (by simp) (by simp), h, rfl⟩⟩
 | _ :: _ :: _ :: _ :: _ :: _, _, h => simp at h
def Us (l S : List Pt) (k : Nat) : Option RJ :=
 Option.bind (aB (pcs S) S.length) fun r => cond (r.1 != ((S.length : Nat) : Int) - 1) (some (true, fun _ => 0)) (Option.bind (ar (pcs l) l.length (pcs S) S.length) fun r3 => cond r3.2.2.2.2 (some (false, fun i => ac [.int .u64 (aa r3.1 0), .int .u64 (aa r3.1 1), .int .u64 (aa r3.1 2), .int .u64 (aa r3.1 3), .int .u64 (aa r3.1 4), .int .u64 (aa r3.1 5), .int .u64 (aa r3.1 6), .int .u64 (aa r3.1 7), .int .u64 (aa r3.2.1 0), .int .u64 (aa r3.2.1 1), .int .u64 (aa r3.2.1 2), .int .u64 (aa r3.2.1 3), .int .u64 (aa r3.2.1 4), .int .u64 (aa r3.2.1 5), .int .u64 (aa r3.2.1 6), .int .u64 (aa r3.2.1 7), .int .u64 (aa r3.2.2.1 0), .int .u64 (aa r3.2.2.1 1), .int .u64 (aa r3.2.2.1 2), .int .u64 (aa r3.2.2.1 3), .int .u64 (aa r3.2.2.1 4), .int .u64 (aa r3.2.2.1 5), .int .u64 (aa r3.2.2.1 6), .int .u64 (aa r3.2.2.1 7), .int .u64 (aa r3.2.2.2.1 0), .int .u64 (aa r3.2.2.2.1 1), .int .u64 (aa r3.2.2.2.1 2), .int .u64 (aa r3.2.2.2.1 3), .int .u64 (aa r3.2.2.2.1 4), .int .u64 (aa r3.2.2.2.1 5), .int .u64 (aa r3.2.2.2.1 6), .int .u64 (aa r3.2.2.2.1 7), .vec k] i)) (some (true, fun _ => 0)))
def U5 (N : Pt) (D : Int) (k : Nat) : Nat → Int := fun i => ac [.int .u64 (aa N.1 0), .int .u64 (aa N.1 1), .int .u64 (aa N.1 2), .int .u64 (aa N.1 3), .int .u64 (aa N.1 4), .int .u64 (aa N.1 5), .int .u64 (aa N.1 6), .int .u64 (aa N.1 7), .int .u64 (aa N.2.1 0), .int .u64 (aa N.2.1 1), .int .u64 (aa N.2.1 2), .int .u64 (aa N.2.1 3), .int .u64 (aa N.2.1 4), .int .u64 (aa N.2.1 5), .int .u64 (aa N.2.1 6), .int .u64 (aa N.2.1 7), .int .u64 (aa N.2.2 0), .int .u64 (aa N.2.2 1), .int .u64 (aa N.2.2 2), .int .u64 (aa N.2.2 3), .int .u64 (aa N.2.2 4), .int .u64 (aa N.2.2 5), .int .u64 (aa N.2.2 6), .int .u64 (aa N.2.2 7), .int .u64 (aa D 0), .int .u64 (aa D 1), .int .u64 (aa D 2), .int .u64 (aa D 3), .int .u64 (aa D 4), .int .u64 (aa D 5), .int .u64 (aa D 6), .int .u64 (aa D 7), .vec k] i
theorem rnd {l S : List Pt} (k : Nat) (hok : aD l = true) (hl : l.length < 1000000000) (hS : aD S = true) (h1 : 1 ≤ S.length) (h4 : S.length ≤ 4) :
  ∃ b N D, Us l S k = some (cond b (false, U5 N D k) (true, fun _ => 0)) ∧ (b = true ↔ ind S ∧ IR l S) ∧ (b = true → Prim (bG S) (wts S).2 N D ∧ PtB 240 N ∧ sm 190 D) := by
 unfold Us
 rw [ED (by omega), hS, cond_true, decide_eq_false (show ¬ S.length > 256 by omega), cond_false, Option.bind_some]
 by_cases hi : ind S
 ·have e := (MB h1 h4).2 hi
  have : (((mg S).length : Int) - 1 != ((S.length : Nat) : Int) - 1) = false := by rw [e]; simp
  simp only [this, cond_false]
  obtain ⟨b, N, D, q1, q2, q3⟩ := P6 hok hl hS hi
  rw [q1, Option.bind_some]
  refine ⟨b, N, D, ?_, ⟨fun h => ⟨hi, q2.1 h⟩, fun h => q2.2 h.2⟩, q3⟩
  cases b <;> rfl
 ·have e : (mg S).length ≠ S.length := fun h => hi ((MB h1 h4).1 h)
  have : (((mg S).length : Int) - 1 != ((S.length : Nat) : Int) - 1) = true := by simp; omega
  simp only [this, cond_true]
  exact ⟨false, (0, 0, 0), 0, rfl, ⟨fun h => (by cases h), fun h => absurd h.1 hi⟩, fun h => (by cases h)⟩
def chs : Nat → List (List Nat)
 | 1 => [[0]]
 | 2 => [[0], [1], [0, 1]]
 | 3 => [[0], [1], [2], [0, 1], [0, 2], [1, 2], [0, 1, 2]]
 | 4 => [[0], [1], [2], [3], [0, 1], [0, 2], [0, 3], [1, 2], [1, 3], [2, 3], [0, 1, 2], [0, 1, 3], [0, 2, 3], [1, 2, 3], [0, 1, 2, 3]]
 | _ => []
def pick (l : List Pt) (ch : List Nat) : List Pt := ch.map (pat l)
def Sg (N : Pt) (D : Int) (ch : List Nat) : (I8 (I8 (I8 (I8 (Int × LA_ × Nat))))) :=
 (aa N.1 0, aa N.1 1, aa N.1 2, aa N.1 3, aa N.1 4, aa N.1 5, aa N.1 6, aa N.1 7, aa N.2.1 0, aa N.2.1 1, aa N.2.1 2, aa N.2.1 3, aa N.2.1 4, aa N.2.1 5, aa N.2.1 6, aa N.2.1 7, aa N.2.2 0, aa N.2.2 1, aa N.2.2 2, aa N.2.2 3, aa N.2.2 4, aa N.2.2 5, aa N.2.2 6, aa N.2.2 7, aa D 0, aa D 1, aa D 2, aa D 3, aa D 4, aa D 5, aa D 6, aa D 7, 0, ics (ch.map fun i => ((i : Nat) : Int)), ch.length)
def bw (l : List Pt) (x : Option ((I8 (I8 (I8 (I8 (Int × LA_ × Nat))))))) : Prop :=
 ∃ ch ∈ chs l.length, ∃ N D, x = some (Sg N D ch) ∧ ind (pick l ch) ∧ IR l (pick l ch) ∧ Prim (bG (pick l ch)) (wts (pick l ch)).2 N D ∧ PtB 240 N ∧ sm 190 D
theorem stJ {X : Type} {P : Option X → Prop} {e : Option RJ} {b : Bool} {d : Nat → Int} {A : Option X} {B : RJ → Option X} (h : e = some (cond b (false, d) (true, fun _ => 0))) (ht : b = true → P (B (false, d))) (hf : b = false → P A) : P (Option.bind e fun q => cond q.1 A (B q)) := by
 subst h
 cases b with
 | true => exact ht rfl
 | false => exact hf rfl
theorem stB {X Y : Type} {P : Option X → Prop} {e : Option Y} {v : Y} {f : Y → Option X} (h : e = some v) (k : P (f v)) : P (Option.bind e f) := by
 subst h; exact k
theorem E7 {l : List Pt} (hl : l ≠ []) (h : ∀ T ∈ pX l, T ≠ [] → ¬ (ind T ∧ IR l T)) : False := by
 obtain ⟨T, h1, h2, h3⟩ := Ng hl
 refine h T (Hu h1) ?_ ⟨h2.1, h2.2, h3⟩
 rintro rfl
 exact h2.1
theorem Vr {p : Pt} (hok : aD [p] = true) : bw [p] (kQ p.1 p.2.1 p.2.2) := by
 have hk := hok
 simp only [aQ] at hk
 obtain ⟨hp, _⟩ := hk
 have hl : ([p] : List Pt).length < 1000000000 := by simp
 have hR : aB (pcs [p]) 1 = some (((mg [p]).length : Int) - 1, 0) := by
  have := ED hl
  rw [hok, cond_true] at this
  exact this
 unfold kQ
 refine stB (P := bw [p]) hR ?_
 show bw [p] (Option.bind _ _)
 obtain ⟨b0, N0, D0, e0, i0, o0⟩ := rnd (l := [p]) (S := [p]) 8 hok hl (by simp [aQ, hp]; rfl) (by simp) (by simp)
 refine stJ (P := bw [p]) e0 (fun hb => ⟨[0], by simp [chs], N0, D0, rfl, (i0.1 hb).1, (i0.1 hb).2, o0 hb⟩) (fun hb0 => ?_)
 exfalso
 refine E7 (l := [p]) (by simp) fun T hT hne => ?_
 simp only [pX, List.map_cons, List.map_nil, List.cons_append, List.nil_append, List.append_nil, List.mem_cons, List.mem_append, List.not_mem_nil, or_false] at hT
 rcases hT with rfl | rfl
 ·exact absurd rfl hne
 ·exact (fun h => by have := i0.2 h; rw [hb0] at this; cases this)
theorem Vs {p q : Pt} (hok : aD [p, q] = true) : bw [p, q] (kR p.1 p.2.1 p.2.2 q.1 q.2.1 q.2.2) := by
 have hk := hok
 simp only [aQ] at hk
 obtain ⟨hp, hq, _⟩ := hk
 have hl : ([p, q] : List Pt).length < 1000000000 := by simp
 have hR : aB (pcs [p, q]) 2 = some (((mg [p, q]).length : Int) - 1, 0) := by
  have := ED hl
  rw [hok, cond_true] at this
  exact this
 unfold kR
 refine stB (P := bw [p, q]) hR ?_
 show bw [p, q] (Option.bind _ _)
 obtain ⟨b0, N0, D0, e0, i0, o0⟩ := rnd (l := [p, q]) (S := [p]) 8 hok hl (by simp [aQ, hp]; rfl) (by simp) (by simp)
 refine stJ (P := bw [p, q]) e0 (fun hb => ⟨[0], by simp [chs], N0, D0, rfl, (i0.1 hb).1, (i0.1 hb).2, o0 hb⟩) (fun hb0 => ?_)
 obtain ⟨b1, N1, D1, e1, i1, o1⟩ := rnd (l := [p, q]) (S := [q]) 12 hok hl (by simp [aQ, hq]; rfl) (by simp) (by simp)
 refine stJ (P := bw [p, q]) e1 (fun hb => ⟨[1], by simp [chs], N1, D1, rfl, (i1.1 hb).1, (i1.1 hb).2, o1 hb⟩) (fun hb1 => ?_)
 obtain ⟨b2, N2, D2, e2, i2, o2⟩ := rnd (l := [p, q]) (S := [p, q]) 18 hok hl (by simp [aQ, hp, hq]; rfl) (by simp) (by simp)
 refine stJ (P := bw [p, q]) e2 (fun hb => ⟨[0, 1], by simp [chs], N2, D2, rfl, (i2.1 hb).1, (i2.1 hb).2, o2 hb⟩) (fun hb2 => ?_)
 exfalso
 refine E7 (l := [p, q]) (by simp) fun T hT hne => ?_
 simp only [pX, List.map_cons, List.map_nil, List.cons_append, List.nil_append, List.append_nil, List.mem_cons, List.mem_append, List.not_mem_nil, or_false] at hT
 rcases hT with rfl | rfl | rfl | rfl
 ·exact absurd rfl hne
 ·exact (fun h => by have := i1.2 h; rw [hb1] at this; cases this)
 ·exact (fun h => by have := i0.2 h; rw [hb0] at this; cases this)
 ·exact (fun h => by have := i2.2 h; rw [hb2] at this; cases this)
theorem Vt {p q r : Pt} (hok : aD [p, q, r] = true) : bw [p, q, r] (kS p.1 p.2.1 p.2.2 q.1 q.2.1 q.2.2 r.1 r.2.1 r.2.2) := by
 have hk := hok
 simp only [aQ] at hk
 obtain ⟨hp, hq, hr, _⟩ := hk
 have hl : ([p, q, r] : List Pt).length < 1000000000 := by simp
 have hR : aB (pcs [p, q, r]) 3 = some (((mg [p, q, r]).length : Int) - 1, 0) := by
  have := ED hl
  rw [hok, cond_true] at this
  exact this
 unfold kS
 refine stB (P := bw [p, q, r]) hR ?_
 show bw [p, q, r] (Option.bind _ _)
 obtain ⟨b0, N0, D0, e0, i0, o0⟩ := rnd (l := [p, q, r]) (S := [p]) 8 hok hl (by simp [aQ, hp]; rfl) (by simp) (by simp)
 refine stJ (P := bw [p, q, r]) e0 (fun hb => ⟨[0], by simp [chs], N0, D0, rfl, (i0.1 hb).1, (i0.1 hb).2, o0 hb⟩) (fun hb0 => ?_)
 obtain ⟨b1, N1, D1, e1, i1, o1⟩ := rnd (l := [p, q, r]) (S := [q]) 12 hok hl (by simp [aQ, hq]; rfl) (by simp) (by simp)
 refine stJ (P := bw [p, q, r]) e1 (fun hb => ⟨[1], by simp [chs], N1, D1, rfl, (i1.1 hb).1, (i1.1 hb).2, o1 hb⟩) (fun hb1 => ?_)
 obtain ⟨b2, N2, D2, e2, i2, o2⟩ := rnd (l := [p, q, r]) (S := [r]) 16 hok hl (by simp [aQ, hr]; rfl) (by simp) (by simp)
 refine stJ (P := bw [p, q, r]) e2 (fun hb => ⟨[2], by simp [chs], N2, D2, rfl, (i2.1 hb).1, (i2.1 hb).2, o2 hb⟩) (fun hb2 => ?_)
 obtain ⟨b3, N3, D3, e3, i3, o3⟩ := rnd (l := [p, q, r]) (S := [p, q]) 22 hok hl (by simp [aQ, hp, hq]; rfl) (by simp) (by simp)
 refine stJ (P := bw [p, q, r]) e3 (fun hb => ⟨[0, 1], by simp [chs], N3, D3, rfl, (i3.1 hb).1, (i3.1 hb).2, o3 hb⟩) (fun hb3 => ?_)
 obtain ⟨b4, N4, D4, e4, i4, o4⟩ := rnd (l := [p, q, r]) (S := [p, r]) 28 hok hl (by simp [aQ, hp, hr]; rfl) (by simp) (by simp)
 refine stJ (P := bw [p, q, r]) e4 (fun hb => ⟨[0, 2], by simp [chs], N4, D4, rfl, (i4.1 hb).1, (i4.1 hb).2, o4 hb⟩) (fun hb4 => ?_)
 obtain ⟨b5, N5, D5, e5, i5, o5⟩ := rnd (l := [p, q, r]) (S := [q, r]) 34 hok hl (by simp [aQ, hq, hr]; rfl) (by simp) (by simp)
 refine stJ (P := bw [p, q, r]) e5 (fun hb => ⟨[1, 2], by simp [chs], N5, D5, rfl, (i5.1 hb).1, (i5.1 hb).2, o5 hb⟩) (fun hb5 => ?_)
 obtain ⟨b6, N6, D6, e6, i6, o6⟩ := rnd (l := [p, q, r]) (S := [p, q, r]) 42 hok hl (by simp [aQ, hp, hq, hr]; rfl) (by simp) (by simp)
 refine stJ (P := bw [p, q, r]) e6 (fun hb => ⟨[0, 1, 2], by simp [chs], N6, D6, rfl, (i6.1 hb).1, (i6.1 hb).2, o6 hb⟩) (fun hb6 => ?_)
 exfalso
 refine E7 (l := [p, q, r]) (by simp) fun T hT hne => ?_
 simp only [pX, List.map_cons, List.map_nil, List.cons_append, List.nil_append, List.append_nil, List.mem_cons, List.mem_append, List.not_mem_nil, or_false] at hT
 rcases hT with rfl | rfl | rfl | rfl | rfl | rfl | rfl | rfl
 ·exact absurd rfl hne
 ·exact (fun h => by have := i2.2 h; rw [hb2] at this; cases this)
 ·exact (fun h => by have := i1.2 h; rw [hb1] at this; cases this)
 ·exact (fun h => by have := i5.2 h; rw [hb5] at this; cases this)
 ·exact (fun h => by have := i0.2 h; rw [hb0] at this; cases this)
 ·exact (fun h => by have := i4.2 h; rw [hb4] at this; cases this)
 ·exact (fun h => by have := i3.2 h; rw [hb3] at this; cases this)
 ·exact (fun h => by have := i6.2 h; rw [hb6] at this; cases this)
theorem Vu {p q r s : Pt} (hok : aD [p, q, r, s] = true) : bw [p, q, r, s] (kT p.1 p.2.1 p.2.2 q.1 q.2.1 q.2.2 r.1 r.2.1 r.2.2 s.1 s.2.1 s.2.2) := by
 have hk := hok
 simp only [aQ] at hk
 obtain ⟨hp, hq, hr, hs, _⟩ := hk
 have hl : ([p, q, r, s] : List Pt).length < 1000000000 := by simp
 have hR : aB (pcs [p, q, r, s]) 4 = some (((mg [p, q, r, s]).length : Int) - 1, 0) := by
  have := ED hl
  rw [hok, cond_true] at this
  exact this
 unfold kT
 refine stB (P := bw [p, q, r, s]) hR ?_
 show bw [p, q, r, s] (Option.bind _ _)
 obtain ⟨b0, N0, D0, e0, i0, o0⟩ := rnd (l := [p, q, r, s]) (S := [p]) 8 hok hl (by simp [aQ, hp]; rfl) (by simp) (by simp)
 refine stJ (P := bw [p, q, r, s]) e0 (fun hb => ⟨[0], by simp [chs], N0, D0, rfl, (i0.1 hb).1, (i0.1 hb).2, o0 hb⟩) (fun hb0 => ?_)
 obtain ⟨b1, N1, D1, e1, i1, o1⟩ := rnd (l := [p, q, r, s]) (S := [q]) 12 hok hl (by simp [aQ, hq]; rfl) (by simp) (by simp)
 refine stJ (P := bw [p, q, r, s]) e1 (fun hb => ⟨[1], by simp [chs], N1, D1, rfl, (i1.1 hb).1, (i1.1 hb).2, o1 hb⟩) (fun hb1 => ?_)
 obtain ⟨b2, N2, D2, e2, i2, o2⟩ := rnd (l := [p, q, r, s]) (S := [r]) 16 hok hl (by simp [aQ, hr]; rfl) (by simp) (by simp)
 refine stJ (P := bw [p, q, r, s]) e2 (fun hb => ⟨[2], by simp [chs], N2, D2, rfl, (i2.1 hb).1, (i2.1 hb).2, o2 hb⟩) (fun hb2 => ?_)
 obtain ⟨b3, N3, D3, e3, i3, o3⟩ := rnd (l := [p, q, r, s]) (S := [s]) 20 hok hl (by simp [aQ, hs]; rfl) (by simp) (by simp)
 refine stJ (P := bw [p, q, r, s]) e3 (fun hb => ⟨[3], by simp [chs], N3, D3, rfl, (i3.1 hb).1, (i3.1 hb).2, o3 hb⟩) (fun hb3 => ?_)
 obtain ⟨b4, N4, D4, e4, i4, o4⟩ := rnd (l := [p, q, r, s]) (S := [p, q]) 26 hok hl (by simp [aQ, hp, hq]; rfl) (by simp) (by simp)
 refine stJ (P := bw [p, q, r, s]) e4 (fun hb => ⟨[0, 1], by simp [chs], N4, D4, rfl, (i4.1 hb).1, (i4.1 hb).2, o4 hb⟩) (fun hb4 => ?_)
 obtain ⟨b5, N5, D5, e5, i5, o5⟩ := rnd (l := [p, q, r, s]) (S := [p, r]) 32 hok hl (by simp [aQ, hp, hr]; rfl) (by simp) (by simp)
 refine stJ (P := bw [p, q, r, s]) e5 (fun hb => ⟨[0, 2], by simp [chs], N5, D5, rfl, (i5.1 hb).1, (i5.1 hb).2, o5 hb⟩) (fun hb5 => ?_)
 obtain ⟨b6, N6, D6, e6, i6, o6⟩ := rnd (l := [p, q, r, s]) (S := [p, s]) 38 hok hl (by simp [aQ, hp, hs]; rfl) (by simp) (by simp)
 refine stJ (P := bw [p, q, r, s]) e6 (fun hb => ⟨[0, 3], by simp [chs], N6, D6, rfl, (i6.1 hb).1, (i6.1 hb).2, o6 hb⟩) (fun hb6 => ?_)
 obtain ⟨b7, N7, D7, e7, i7, o7⟩ := rnd (l := [p, q, r, s]) (S := [q, r]) 44 hok hl (by simp [aQ, hq, hr]; rfl) (by simp) (by simp)
 refine stJ (P := bw [p, q, r, s]) e7 (fun hb => ⟨[1, 2], by simp [chs], N7, D7, rfl, (i7.1 hb).1, (i7.1 hb).2, o7 hb⟩) (fun hb7 => ?_)
 obtain ⟨b8, N8, D8, e8, i8, o8⟩ := rnd (l := [p, q, r, s]) (S := [q, s]) 50 hok hl (by simp [aQ, hq, hs]; rfl) (by simp) (by simp)
 refine stJ (P := bw [p, q, r, s]) e8 (fun hb => ⟨[1, 3], by simp [chs], N8, D8, rfl, (i8.1 hb).1, (i8.1 hb).2, o8 hb⟩) (fun hb8 => ?_)
 obtain ⟨b9, N9, D9, e9, i9, o9⟩ := rnd (l := [p, q, r, s]) (S := [r, s]) 56 hok hl (by simp [aQ, hr, hs]; rfl) (by simp) (by simp)
 refine stJ (P := bw [p, q, r, s]) e9 (fun hb => ⟨[2, 3], by simp [chs], N9, D9, rfl, (i9.1 hb).1, (i9.1 hb).2, o9 hb⟩) (fun hb9 => ?_)
 obtain ⟨b10, N10, D10, e10, i10, o10⟩ := rnd (l := [p, q, r, s]) (S := [p, q, r]) 64 hok hl (by simp [aQ, hp, hq, hr]; rfl) (by simp) (by simp)
 refine stJ (P := bw [p, q, r, s]) e10 (fun hb => ⟨[0, 1, 2], by simp [chs], N10, D10, rfl, (i10.1 hb).1, (i10.1 hb).2, o10 hb⟩) (fun hb10 => ?_)
 obtain ⟨b11, N11, D11, e11, i11, o11⟩ := rnd (l := [p, q, r, s]) (S := [p, q, s]) 72 hok hl (by simp [aQ, hp, hq, hs]; rfl) (by simp) (by simp)
 refine stJ (P := bw [p, q, r, s]) e11 (fun hb => ⟨[0, 1, 3], by simp [chs], N11, D11, rfl, (i11.1 hb).1, (i11.1 hb).2, o11 hb⟩) (fun hb11 => ?_)
 obtain ⟨b12, N12, D12, e12, i12, o12⟩ := rnd (l := [p, q, r, s]) (S := [p, r, s]) 80 hok hl (by simp [aQ, hp, hr, hs]; rfl) (by simp) (by simp)
 refine stJ (P := bw [p, q, r, s]) e12 (fun hb => ⟨[0, 2, 3], by simp [chs], N12, D12, rfl, (i12.1 hb).1, (i12.1 hb).2, o12 hb⟩) (fun hb12 => ?_)
 obtain ⟨b13, N13, D13, e13, i13, o13⟩ := rnd (l := [p, q, r, s]) (S := [q, r, s]) 88 hok hl (by simp [aQ, hq, hr, hs]; rfl) (by simp) (by simp)
 refine stJ (P := bw [p, q, r, s]) e13 (fun hb => ⟨[1, 2, 3], by simp [chs], N13, D13, rfl, (i13.1 hb).1, (i13.1 hb).2, o13 hb⟩) (fun hb13 => ?_)
 obtain ⟨b14, N14, D14, e14, i14, o14⟩ := rnd (l := [p, q, r, s]) (S := [p, q, r, s]) 98 hok hl (by simp [aQ, hp, hq, hr, hs]; rfl) (by simp) (by simp)
 refine stJ (P := bw [p, q, r, s]) e14 (fun hb => ⟨[0, 1, 2, 3], by simp [chs], N14, D14, rfl, (i14.1 hb).1, (i14.1 hb).2, o14 hb⟩) (fun hb14 => ?_)
 exfalso
 refine E7 (l := [p, q, r, s]) (by simp) fun T hT hne => ?_
 simp only [pX, List.map_cons, List.map_nil, List.cons_append, List.nil_append, List.append_nil, List.mem_cons, List.mem_append, List.not_mem_nil, or_false] at hT
 rcases hT with rfl | rfl | rfl | rfl | rfl | rfl | rfl | rfl | rfl | rfl | rfl | rfl | rfl | rfl | rfl | rfl
 ·exact absurd rfl hne
 ·exact (fun h => by have := i3.2 h; rw [hb3] at this; cases this)
 ·exact (fun h => by have := i2.2 h; rw [hb2] at this; cases this)
 ·exact (fun h => by have := i9.2 h; rw [hb9] at this; cases this)
 ·exact (fun h => by have := i1.2 h; rw [hb1] at this; cases this)
 ·exact (fun h => by have := i8.2 h; rw [hb8] at this; cases this)
 ·exact (fun h => by have := i7.2 h; rw [hb7] at this; cases this)
 ·exact (fun h => by have := i13.2 h; rw [hb13] at this; cases this)
 ·exact (fun h => by have := i0.2 h; rw [hb0] at this; cases this)
 ·exact (fun h => by have := i6.2 h; rw [hb6] at this; cases this)
 ·exact (fun h => by have := i5.2 h; rw [hb5] at this; cases this)
 ·exact (fun h => by have := i12.2 h; rw [hb12] at this; cases this)
 ·exact (fun h => by have := i4.2 h; rw [hb4] at this; cases this)
 ·exact (fun h => by have := i11.2 h; rw [hb11] at this; cases this)
 ·exact (fun h => by have := i10.2 h; rw [hb10] at this; cases this)
 ·exact (fun h => by have := i14.2 h; rw [hb14] at this; cases this)
theorem P7 {l : List Pt} (hok : aD l = true) (h1 : 1 ≤ l.length) (h4 : l.length ≤ 4) :
  ∃ ch ∈ chs l.length, ∃ N D, dM (pcs l) l.length = some (N.1, N.2.1, N.2.2, D, 0, ics (ch.map fun i => ((i : Nat) : Int)), ch.length) ∧ ind (pick l ch) ∧ IR l (pick l ch) ∧ Prim (bG (pick l ch)) (wts (pick l ch)).2 N D ∧ PtB 240 N ∧ sm 190 D := by
 have h : bw l (kc (pcs l) l.length) := by
  match l, h1, h4 with
  | [p], _, _ => exact Vr hok
  | [p, q], _, _ => exact Vs hok
  | [p, q, r], _, _ => exact Vt hok
  | [p, q, r, s], _, _ => exact Vu hok
  | _ :: _ :: _ :: _ :: _ :: _, _, h => simp at h
 obtain ⟨ch, hc, N, D, e, q1, q2, q3, hN, hD⟩ := h
 refine ⟨ch, hc, N, D, ?_, q1, q2, q3, hN, hD⟩
 unfold dM
 rw [e]
 simp only [Sg, Option.bind_some, bv, Bool.and_self, aA]
 rw [aG (aY hN.h.1 (by decide)), aG (aY hN.h.2.1 (by decide)), aG (aY hN.h.2.2 (by decide)), aG (aY hD (by decide))]
end Go.Ev
namespace Go.Ev
def comb : Nat → Nat → List (List Nat)
 | _, 0 => [[]]
 | 0, _ + 1 => []
 | n + 1, k + 1 => comb n (k + 1) ++ (comb n k).map fun l => l ++ [n]
def dq (l : List Nat) : Prop := l.Pairwise (· < ·)
theorem HA : ∀ (n k : Nat) (l : List Nat), l.length = k → dq l → (∀ x ∈ l, x < n) → l ∈ comb n k
 | n, 0, l, hl, _, _ => by
  obtain rfl := List.length_eq_zero_iff.1 hl
  cases n <;> simp [comb]
 | 0, k + 1, l, hl, _, hb => by
  cases l with
  | nil => simp at hl
  | cons a l => exact absurd (hb a (by simp)) (by omega)
 | n + 1, k + 1, l, hl, hr, hb => by
  rcases List.eq_nil_or_concat l with rfl | ⟨l', x, rfl⟩
  ·simp at hl
  ·simp only [List.concat_eq_append] at *
   unfold dq at hr
   rw [List.pairwise_append] at hr
   obtain ⟨h1, _, h3⟩ := hr
   have hl' : l'.length = k := by simpa using hl
   have hx : ∀ y ∈ l', y < x := fun y hy => h3 y hy x (by simp)
   have hxn := hb x (by simp)
   simp only [comb, List.mem_append, List.mem_map]
   by_cases e : x = n
   ·subst e
    exact .inr ⟨l', HA x k l' hl' h1 hx, rfl⟩
   ·refine .inl (HA n (k + 1) (l' ++ [x]) (by simp [hl']) ?_ ?_)
    ·unfold dq
     rw [List.pairwise_append]
     exact ⟨h1, by simp, h3⟩
    ·intro y hy
     simp only [List.mem_append, List.mem_singleton] at hy
     rcases hy with hy | rfl
     ·have := hx y hy; omega
     ·omega
theorem Cl (n k : Nat) : (comb (n + 1) (k + 1)).length = (comb n (k + 1)).length + (comb n k).length := by simp [comb]
theorem U9 (n : Nat) : (comb n 0).length = 1 := by cases n <;> rfl
theorem Lf : ∀ n, ((comb n 1).length : Int) = n
 | 0 => rfl
 | n + 1 => by rw [Cl, U9]; have := Lf n; simp only [Nat.zero_add]; omega
theorem Lg : ∀ n : Nat, 2 * ((comb n 2).length : Int) = (n : Int) * (n - 1)
 | 0 => rfl
 | n + 1 => by
  rw [Cl]
  have h1 := Lf n
  have h2 := Lg n
  simp only [Int.natCast_add, Int.natCast_one] at *
  grind
theorem Lh : ∀ n : Nat, 6 * ((comb n 3).length : Int) = (n : Int) * (n - 1) * (n - 2)
 | 0 => rfl
 | n + 1 => by
  rw [Cl]
  have h1 := Lg n
  have h2 := Lh n
  simp only [Int.natCast_add, Int.natCast_one] at *
  grind
theorem OW : ∀ n : Nat, 24 * ((comb n 4).length : Int) = (n : Int) * (n - 1) * (n - 2) * (n - 3)
 | 0 => rfl
 | n + 1 => by
  rw [Cl]
  have h1 := Lh n
  have h2 := OW n
  simp only [Int.natCast_add, Int.natCast_one] at *
  grind
def ky (n : Nat) : List (List Nat) := comb n 1 ++ comb n 2 ++ comb n 3 ++ comb n 4
theorem Ro {n : Nat} {l : List Nat} (h1 : 1 ≤ l.length) (h4 : l.length ≤ 4) (hr : dq l) (hb : ∀ x ∈ l, x < n) : l ∈ ky n := by
 unfold ky
 have h : ∀ k, l.length = k → l ∈ comb n k := fun k hk => HA n k l hk hr hb
 simp only [List.mem_append]
 have : l.length = 1 ∨ l.length = 2 ∨ l.length = 3 ∨ l.length = 4 := by omega
 rcases this with e | e | e | e
 ·exact .inl (.inl (.inl (h 1 e)))
 ·exact .inl (.inl (.inr (h 2 e)))
 ·exact .inl (.inr (h 3 e))
 ·exact .inr (h 4 e)
theorem Rp (n : Nat) : 24 * ((ky n).length : Int) = 24 * n + 12 * (n * (n - 1)) + 4 * (n * (n - 1) * (n - 2)) + n * (n - 1) * (n - 2) * (n - 3) := by
 unfold ky
 simp only [List.length_append, Int.natCast_add]
 have := Lf n
 have := Lg n
 have := Lh n
 have := OW n
 grind
theorem Hw {α : Type} {p q : α → Bool} : ∀ {l : List α} {x : α}, (∀ y ∈ l, p y = true → q y = true) → x ∈ l → q x = true → p x = false → l.countP p < l.countP q
 | [], x, _, h, _, _ => by cases h
 | a :: l, x, hi, hx, hq, hp => by
  have mono : l.countP p ≤ l.countP q := List.countP_mono_left fun y hy => hi y (by simp [hy])
  rw [List.countP_cons, List.countP_cons]
  rcases List.mem_cons.1 hx with rfl | hx
  ·rw [hq, hp]; simp; omega
  ·have ih := Hw (fun y hy => hi y (by simp [hy])) hx hq hp
   cases ha : p a with
   | true => rw [hi a (by simp) ha]; simp; omega
   | false => simp; split <;> omega
def ins (k : Nat) : List Nat → List Nat
 | [] => [k]
 | a :: l => if k < a then k :: a :: l else a :: ins k l
theorem AO {k x : Nat} : ∀ {l : List Nat}, x ∈ ins k l ↔ x = k ∨ x ∈ l
 | [] => by simp [ins]
 | a :: l => by
  unfold ins
  split
  ·simp
  ·rw [List.mem_cons, AO, List.mem_cons]
   constructor
   ·rintro (h | h | h) <;> simp [h]
   ·rintro (h | h | h) <;> simp [h]
theorem E8 (k : Nat) : ∀ l : List Nat, (ins k l).length = l.length + 1
 | [] => rfl
 | a :: l => by unfold ins; split <;> simp [E8 k l]
theorem IS {k : Nat} : ∀ {l : List Nat}, dq l → k ∉ l → dq (ins k l)
 | [], _, _ => by simp [ins, dq]
 | a :: l, h, hk => by
  unfold dq at h
  rw [List.pairwise_cons] at h
  simp only [List.mem_cons, not_or] at hk
  unfold ins
  split
  ·rename_i hlt
   unfold dq
   rw [List.pairwise_cons, List.pairwise_cons]
   exact ⟨fun y hy => by
    rcases List.mem_cons.1 hy with rfl | hy
    ·exact hlt
    ·have := h.1 y hy; omega, h.1, h.2⟩
  ·rename_i hlt
   unfold dq
   rw [List.pairwise_cons]
   refine ⟨fun y hy => ?_, IS h.2 hk.2⟩
   rcases AO.1 hy with rfl | hy
   ·omega
   ·exact h.1 y hy
end Go.Ev
namespace Go.Ev
open Go.Proofs
def wa : CH := CH.none
theorem td : aE Tryz.prog wa := CH.aC
def fW (cs0 : LA_) (n1 : Nat) : Option (LA_ × Nat) :=
 (ag (!List.isEmpty cs0) (ag (decide (2 * (0 + n1) * 8 ≤ 2 ^ 48)) (some (cs0, n1))))
def cR : FD where
 X := LA_ × Nat
 k := 1
 pre := [(2, 1)]
 F := fun s => [0, nameAt s 0 []]
 M := .vec 1
 B := [.vec 1 true]
 toL := fun x => [.C x.1, .N x.2]
 ofL := fun ls => match ls with
  | [.C x0, .N x1] => some (x0, x1)
  | _ => none
 au := fun ls x h => by
  split at h
  ·cases h; rfl
  ·cases h
theorem uY (cs0 : LA_) (n1 : Nat) (x : LA_ × Nat) (h : fW cs0 n1 = some x) : aX Tryz.prog 50 1 [.vec 0] [.vec cs0 n1 1 false] cR x :=
 FD.semA cR td Tryz.func50 (fuel := 60) (by kernel_rfl) (by kernel_rfl)
  (by kernel_rfl) (Eq.trans (by kernel_rfl) h)
def jD : HK where
 call := fun args σ k => match args with
  | [x0] => cr σ 1 x0 fun cs0 n1 => Option.bind (fW cs0 n1) fun y => az σ 1 (cR.val y) (cR.aN y) k
  | _ => none
 nat := fun args σ k => by
  repeat' split
  all_goals simp only [aw, ax, Option.bind_assoc, Option.bind_none, az, Option.bind_some]
 pure := false
 pok := fun h => by cases h
theorem wb : aT Tryz.prog 50 jD := by
 intro args σ r σ' h
 simp only [jD] at h
 split at h
 ·rename_i x0
  obtain ⟨cs0, n1, he0, hf0, h⟩ := bf h
  obtain ⟨y, hy, h⟩ := bE_ h
  exact lifted (xs := [x0]) (ls := [.vec cs0 n1 1 false]) (cargs := [.vec 0]) (bt.of ⟨⟨rfl, he0, hf0, by decide⟩, trivial⟩) rfl (uY cs0 n1 y hy) rfl rfl rfl rfl h
 ·cases h
theorem JS {ks : List TK} {cs : LA_} {n : Nat} (h : (an ks cs 0 && Nat.beq (List.length cs) n) = true) (hn : ks.length = n) (hk : ks ≠ []) : cs = vh cs 0 ks 0 := by
 rw [Bool.and_eq_true] at h
 have hl := Nat.eq_of_beq_eq_true h.2
 rcases AF (o := 0) (j := 0) (ks := ks) h.1 with ⟨q1, q2⟩ | q
 ·rw [← q1, hn, ← hl]; simp
 ·exact absurd q hk
def Mw {R : Type} (cs : LA_) (n : Nat) (σ : Mem) (k : gi → Mem → Option R) : Option R :=
 cond (Nat.beq n 1) (ag (an [.int .i64] cs 0 && Nat.beq (List.length cs) 1) (k (.ret (.vec σ.next)) (σ.push (.vec [.int .i64 (ac cs 0)] 1 1 true))))
  (cond (Nat.beq n 2) (ag (an [.int .i64, .int .i64] cs 0 && Nat.beq (List.length cs) 2) (k (.ret (.vec σ.next)) (σ.push (.vec [.int .i64 (ac cs 0), .int .i64 (ac cs 1)] 2 1 true))))
   (cond (Nat.beq n 3) (ag (an ln cs 0 && Nat.beq (List.length cs) 3) (k (.ret (.vec σ.next)) (σ.push (.vec [.int .i64 (ac cs 0), .int .i64 (ac cs 1), .int .i64 (ac cs 2)] 3 1 true)))) none))
def Jd : HK where
 call := fun args σ k => match args with
  | [x0] => cr σ 1 x0 fun cs n => Mw cs n σ k
  | _ => none
 nat := fun args σ k => by
  split
  ·rw [aw]
   congr 1
   funext cs n
   simp only [Mw, bF, ax, Option.bind_some, Option.bind_none]
  ·rfl
 pure := false
 pok := fun h => by cases h
theorem Ob : aT Tryz.prog 50 Jd := wb.cS fun args σ x h => by
 simp only [Jd] at h
 split at h
 ·rename_i x0
  obtain ⟨cs, n, h1, h2, h⟩ := bf h
  simp only [jD, cr, h1, h2, if_true]
  have go : ∀ (m : Nat) (l : LA_), n = m → cs = l → l.isEmpty = false → 2 * (0 + m) * 8 ≤ 2 ^ 48 → (some (gi.ret (.vec σ.next), σ.push (.vec l m 1 true)) : Option (gi × Mem)) = some x →
    (Option.bind (fW cs n) fun y => az σ 1 (cR.val y) (cR.aN y) fun r σ' => some (r, σ')) = some x := by
   rintro m l rfl rfl he hm hx
   simp only [fW, he, Bool.not_false, aA, decide_eq_true hm, Option.bind_some]
   rw [← hx]
   rfl
  unfold Mw at h
  cases e1 : Nat.beq n 1 with
  | true =>
   rw [e1, cond_true] at h
   obtain ⟨h3, h⟩ := aM h
   exact go 1 _ (Nat.eq_of_beq_eq_true e1) (JS h3 rfl (by simp)) rfl (by decide) h
  | false =>
   rw [e1, cond_false] at h
   cases e2 : Nat.beq n 2 with
   | true =>
    rw [e2, cond_true] at h
    obtain ⟨h3, h⟩ := aM h
    exact go 2 _ (Nat.eq_of_beq_eq_true e2) (JS h3 rfl (by simp)) rfl (by decide) h
   | false =>
    rw [e2, cond_false] at h
    cases e3 : Nat.beq n 3 with
    | true =>
     rw [e3, cond_true] at h
     obtain ⟨h3, h⟩ := aM h
     exact go 3 _ (Nat.eq_of_beq_eq_true e3) (JS h3 rfl (by simp)) rfl (by decide) h
    | false => rw [e3] at h; cases h
 ·cases h
def Dc : CH := CH.none
theorem zS : aE Tryz.prog Dc := CH.aC
def gt (a0 : Int) : Option (Bool) :=
 (cond (a0 != a0) (some true) (some false))
def jL : FD where
 X := Bool
 k := 0
 pre := []
 F := fun s => []
 M := .bool
 B := []
 toL := fun x => [.B x]
 ofL := fun ls => match ls with
  | [.B x0] => some x0
  | _ => none
 au := fun ls x h => by
  split at h
  ·cases h; rfl
  ·cases h
theorem CD (a0 : Int) (x : Bool) (h : gt a0 = some x) : aX Tryz.prog 115 0 [.int .i64 a0] [] jL x :=
 FD.semA jL zS Tryz.func115 (fuel := 60) (by kernel_rfl) (by kernel_rfl)
  (by kernel_rfl) (Eq.trans (by kernel_rfl) h)
def qB : HK where
 call := fun args σ k => match args with
  | [.int .i64 a0] => Option.bind (gt a0) fun y => az σ 0 (jL.val y) (jL.aN y) k
  | _ => none
 nat := fun args σ k => by
  repeat' split
  all_goals simp only [aw, ax, Option.bind_assoc, Option.bind_none, az, Option.bind_some]
 pure := true
 pok := fun _ args σ r σ' h => by
  split at h
  ·exact bm h (fun y => rfl) (fun y f => rfl)
  ·cases h
theorem Dd : aT Tryz.prog 115 qB := by
 intro args σ r σ' h
 simp only [qB] at h
 split at h
 ·rename_i a0
  obtain ⟨y, hy, h⟩ := bE_ h
  exact lifted (xs := []) (ls := []) (cargs := [.int .i64 a0]) (bt.of trivial) rfl (CD a0 y hy) rfl rfl rfl rfl h
 ·cases h
def Fd : CH := (CH.add 115 qB CH.none)
theorem AT : aE Tryz.prog Fd := (CH.aj Dd CH.aC)
def aH (a0 a1 : Int) : Option (Bool) :=
 (Option.bind (gt a0) fun r1 => (cond r1 (Option.bind (gt a1) fun r2 => (cond r2 (cond (decide (a0 < a1)) (some true) (some false)) (some true))) (cond (decide (a0 < a1)) (some true) (some false))))
def kG : FD where
 X := Bool
 k := 0
 pre := []
 F := fun s => []
 M := .bool
 B := []
 toL := fun x => [.B x]
 ofL := fun ls => match ls with
  | [.B x0] => some x0
  | _ => none
 au := fun ls x h => by
  split at h
  ·cases h; rfl
  ·cases h
theorem De (a0 a1 : Int) (x : Bool) (h : aH a0 a1 = some x) : aX Tryz.prog 94 0 [.int .i64 a0, .int .i64 a1] [] kG x :=
 FD.semA kG AT Tryz.func94 (fuel := 60) (by kernel_rfl) (by kernel_rfl)
  (by kernel_rfl) (Eq.trans (by kernel_rfl) h)
def sR : HK where
 call := fun args σ k => match args with
  | [.int .i64 a0, .int .i64 a1] => Option.bind (aH a0 a1) fun y => az σ 0 (kG.val y) (kG.aN y) k
  | _ => none
 nat := fun args σ k => by
  repeat' split
  all_goals simp only [aw, ax, Option.bind_assoc, Option.bind_none, az, Option.bind_some]
 pure := true
 pok := fun _ args σ r σ' h => by
  split at h
  ·exact bm h (fun y => rfl) (fun y f => rfl)
  ·cases h
theorem Fe : aT Tryz.prog 94 sR := by
 intro args σ r σ' h
 simp only [sR] at h
 split at h
 ·rename_i a0 a1
  obtain ⟨y, hy, h⟩ := bE_ h
  exact lifted (xs := []) (ls := []) (cargs := [.int .i64 a0, .int .i64 a1]) (bt.of trivial) rfl (De a0 a1 y hy) rfl rfl rfl rfl h
 ·cases h
def KA : CH := CH.none
theorem Gi : aE Tryz.prog KA := CH.aC
def qH (a0 : Int) : Option (Int) :=
 (some (IntKind.wrap .i64 ((IntKind.wrap .i64 ((IntKind.wrap .i64 (a0 + (IntKind.wrap .i64 (Int.tdiv (IntKind.wrap .i64 (a0 * (IntKind.wrap .i64 (a0 - 1)))) 2)))) + (IntKind.wrap .i64 (Int.tdiv (IntKind.wrap .i64 ((IntKind.wrap .i64 (Int.tdiv (IntKind.wrap .i64 (a0 * (IntKind.wrap .i64 (a0 - 1)))) 2)) * (IntKind.wrap .i64 (a0 - 2)))) 3)))) + (IntKind.wrap .i64 (Int.tdiv (IntKind.wrap .i64 ((IntKind.wrap .i64 (Int.tdiv (IntKind.wrap .i64 ((IntKind.wrap .i64 (Int.tdiv (IntKind.wrap .i64 (a0 * (IntKind.wrap .i64 (a0 - 1)))) 2)) * (IntKind.wrap .i64 (a0 - 2)))) 3)) * (IntKind.wrap .i64 (a0 - 3)))) 4)))))
def qI : FD where
 X := Int
 k := 0
 pre := []
 F := fun s => []
 M := .int .i64
 B := []
 toL := fun x => [.I x]
 ofL := fun ls => match ls with
  | [.I x0] => some x0
  | _ => none
 au := fun ls x h => by
  split at h
  ·cases h; rfl
  ·cases h
theorem Ja (a0 x : Int) (h : qH a0 = some x) : aX Tryz.prog 48 0 [.int .i64 a0] [] qI x :=
 FD.semA qI Gi Tryz.func48 (fuel := 60) (by kernel_rfl) (by kernel_rfl)
  (by kernel_rfl) (Eq.trans (by kernel_rfl) h)
def AZ : HK where
 call := fun args σ k => match args with
  | [.int .i64 a0] => Option.bind (qH a0) fun y => az σ 0 (qI.val y) (qI.aN y) k
  | _ => none
 nat := fun args σ k => by
  repeat' split
  all_goals simp only [aw, ax, Option.bind_assoc, Option.bind_none, az, Option.bind_some]
 pure := true
 pok := fun _ args σ r σ' h => by
  split at h
  ·exact bm h (fun y => rfl) (fun y f => rfl)
  ·cases h
theorem KB : aT Tryz.prog 48 AZ := by
 intro args σ r σ' h
 simp only [AZ] at h
 split at h
 ·rename_i a0
  obtain ⟨y, hy, h⟩ := bE_ h
  exact lifted (xs := []) (ls := []) (cargs := [.int .i64 a0]) (bt.of trivial) rfl (Ja a0 y hy) rfl rfl rfl rfl h
 ·cases h
abbrev fS := (I8 (I8 (I8 (I8 (LA_ × Nat × Nat × LA_ × Nat × Int)))))
def pF : CH := (CH.add 47 K0 (CH.add 46 A1 CH.none))
theorem so : aE Tryz.prog pF := (CH.aj Lm (CH.aj FU CH.aC))
def cN {R : Type} (cc : fS) (v : Int × LA_ × Int) (kn : (Int × LA_ × Int) → Option R) (ke : ((Int)) → Option R) : Option R :=
 (cond (decide (v.2.2 < cc.2.2.2.2.2.2.2.2.2.2.2.2.2.2.2.2.2.2.2.2.2.2.2.2.2.2.2.2.2.2.2.2.2.2.2.2.2)) (ag (decide (0 ≤ v.2.2) && decide (v.2.2 < ((cc.2.2.2.2.2.2.2.2.2.2.2.2.2.2.2.2.2.2.2.2.2.2.2.2.2.2.2.2.2.2.2.2.2.2.2.2.1 : Nat) : Int))) (ag (an ln cc.2.2.2.2.2.2.2.2.2.2.2.2.2.2.2.2.2.2.2.2.2.2.2.2.2.2.2.2.2.2.2.2.2.2.2.1 (Int.toNat v.2.2 * 3)) (Option.bind (nF cc.1 cc.2.1 cc.2.2.1 cc.2.2.2.1 cc.2.2.2.2.1 cc.2.2.2.2.2.1 cc.2.2.2.2.2.2.1 cc.2.2.2.2.2.2.2.1 cc.2.2.2.2.2.2.2.2.1 cc.2.2.2.2.2.2.2.2.2.1 cc.2.2.2.2.2.2.2.2.2.2.1 cc.2.2.2.2.2.2.2.2.2.2.2.1 cc.2.2.2.2.2.2.2.2.2.2.2.2.1 cc.2.2.2.2.2.2.2.2.2.2.2.2.2.1 cc.2.2.2.2.2.2.2.2.2.2.2.2.2.2.1 cc.2.2.2.2.2.2.2.2.2.2.2.2.2.2.2.1 cc.2.2.2.2.2.2.2.2.2.2.2.2.2.2.2.2.1 cc.2.2.2.2.2.2.2.2.2.2.2.2.2.2.2.2.2.1 cc.2.2.2.2.2.2.2.2.2.2.2.2.2.2.2.2.2.2.1 cc.2.2.2.2.2.2.2.2.2.2.2.2.2.2.2.2.2.2.2.1 cc.2.2.2.2.2.2.2.2.2.2.2.2.2.2.2.2.2.2.2.2.1 cc.2.2.2.2.2.2.2.2.2.2.2.2.2.2.2.2.2.2.2.2.2.1 cc.2.2.2.2.2.2.2.2.2.2.2.2.2.2.2.2.2.2.2.2.2.2.1 cc.2.2.2.2.2.2.2.2.2.2.2.2.2.2.2.2.2.2.2.2.2.2.2.1 (ac cc.2.2.2.2.2.2.2.2.2.2.2.2.2.2.2.2.2.2.2.2.2.2.2.2.2.2.2.2.2.2.2.2.2.2.2.1 ((Int.toNat v.2.2 * 3) + 0)) (ac cc.2.2.2.2.2.2.2.2.2.2.2.2.2.2.2.2.2.2.2.2.2.2.2.2.2.2.2.2.2.2.2.2.2.2.2.1 ((Int.toNat v.2.2 * 3) + 1)) (ac cc.2.2.2.2.2.2.2.2.2.2.2.2.2.2.2.2.2.2.2.2.2.2.2.2.2.2.2.2.2.2.2.2.2.2.2.1 ((Int.toNat v.2.2 * 3) + 2))) fun r1 => (cond (decide (v.1 < 0)) (ag (decide (0 + 8 ≤ List.length v.2.1)) (kn (v.2.2, (spliced v.2.1 0 (v8 (aa r1 0) (aa r1 1) (aa r1 2) (aa r1 3) (aa r1 4) (aa r1 5) (aa r1 6) (aa r1 7) [])), (IntKind.wrap .i64 (v.2.2 + 1))))) (ag (an di v.2.1 0) (Option.bind (Gs (aa r1 0) (aa r1 1) (aa r1 2) (aa r1 3) (aa r1 4) (aa r1 5) (aa r1 6) (aa r1 7) (ac v.2.1 0) (ac v.2.1 1) (ac v.2.1 2) (ac v.2.1 3) (ac v.2.1 4) (ac v.2.1 5) (ac v.2.1 6) (ac v.2.1 7)) fun r2 => (cond (decide (r2 < 0)) (ag (decide (0 + 8 ≤ List.length v.2.1)) (kn (v.2.2, (spliced v.2.1 0 (v8 (aa r1 0) (aa r1 1) (aa r1 2) (aa r1 3) (aa r1 4) (aa r1 5) (aa r1 6) (aa r1 7) [])), (IntKind.wrap .i64 (v.2.2 + 1))))) (kn (v.1, v.2.1, (IntKind.wrap .i64 (v.2.2 + 1))))))))))) (ke v.1))
def fp (cc : fS) (v : Int × LA_ × Int) : Option ((Int × LA_ × Int) ⊕ ((Int))) := cN cc v (fun v => some (Sum.inl v)) fun e => some (Sum.inr e)
def wK (cc : fS) (v : Int × LA_ × Int) : Option ((Int)) := dA (fp cc) v
def CJ (cc : fS) (v : Int × LA_ × Int) : List ai := [.I v.1, .I cc.s16.s16.s4.2, .I v.2.2, .I cc.1, .I cc.2.1, .I cc.2.2.1, .I cc.2.2.2.1, .I cc.s4.1, .I cc.s4.2.1, .I cc.s4.2.2.1, .I cc.s4.2.2.2.1, .I cc.s8.1, .I cc.s8.2.1, .I cc.s8.2.2.1, .I cc.s8.2.2.2.1, .I cc.s8.s4.1, .I cc.s8.s4.2.1, .I cc.s8.s4.2.2.1, .I cc.s8.s4.2.2.2.1, .I cc.s16.1, .I cc.s16.2.1, .I cc.s16.2.2.1, .I cc.s16.2.2.2.1, .I cc.s16.s4.1, .I cc.s16.s4.2.1, .I cc.s16.s4.2.2.1, .I cc.s16.s4.2.2.2.1, .I cc.s16.s8.1, .I cc.s16.s8.2.1, .I cc.s16.s8.2.2.1, .I cc.s16.s8.2.2.2.1, .I cc.s16.s8.s4.1, .I cc.s16.s8.s4.2.1, .I cc.s16.s8.s4.2.2.1, .I cc.s16.s8.s4.2.2.2.1, .C cc.s16.s16.1, .N cc.s16.s16.2.1, .C v.2.1, .N cc.s16.s16.2.2.1, .C cc.s16.s16.2.2.2.1, .N cc.s16.s16.s4.1]
def sr (ls : List ai) : Option ((fS) × (Int × LA_ × Int)) := match ls with
 | (.I x0 :: .I x1 :: .I x2 :: .I x3 :: .I x4 :: .I x5 :: .I x6 :: .I x7 :: .I x8 :: .I x9 :: .I x10 :: .I x11 :: .I x12 :: .I x13 :: .I x14 :: .I x15 :: .I x16 :: .I x17 :: .I x18 :: .I x19 :: .I x20 :: .I x21 :: .I x22 :: .I x23 :: .I x24 :: .I x25 :: .I x26 :: .I x27 :: .I x28 :: .I x29 :: .I x30 :: .I x31 :: .I x32 :: .I x33 :: .I x34 :: .C x35 :: .N x36 :: .C x37 :: .N x38 :: .C x39 :: .N x40 :: []) => some ((x3, x4, x5, x6, x7, x8, x9, x10, x11, x12, x13, x14, x15, x16, x17, x18, x19, x20, x21, x22, x23, x24, x25, x26, x27, x28, x29, x30, x31, x32, x33, x34, x35, x36, x38, x39, x40, x1), (x0, x37, x2))
 | _ => none
def su (e : (Int)) : am := ((fun e => .exit 0) e)
def sv (cc : fS) (e : (Int)) : List ai := ((fun e => [.I e]) e)
def qL (cc : fS) (e : (Int)) : List ai := ((fun e => []) e)
def lT (o : am) (ls : List ai) : Option (((Int)) × List ai) := match o with
 | .exit 0 => (match ls with
  | [.I x0] => some (x0, [])
  | _ => none)
 | _ => none
theorem za : ∀ o ls e cl cc, lT o ls = some (e, cl) → cl = qL cc e → ls = sv cc e ∧ su e = o ∧ o ≠ .normal ∧ ∀ v, o = .pan v → sc 0 v = true := by
 intro o ls e cl cc h hc
 unfold lT at h
 split at h
 ·split at h
  ·cases h
   exact ⟨rfl, rfl, by simp, by intro v hv; cases hv <;> rfl⟩
  ·cases h
 ·cases h
def Dh (o : am) : ExS := match o with
 | .exit 0 => ⟨3, (none :: none :: none :: none :: some (.int .i64) :: (rl none 32 [])), [], fun s => [0, 1, 2], [], []⟩
 | _ => ⟨0, [], [], fun _ => [], [], []⟩
theorem CK {R : Type} (cc : fS) (v : Int × LA_ × Int) (kn : (Int × LA_ × Int) → Option R) (ke : ((Int)) → Option R) : cN cc v kn ke = (cN cc v (fun v => some (Sum.inl v)) fun e => some (Sum.inr e)).bind (Sum.elim kn ke) := by
 simp only [cN, bF, ax, Option.bind_assoc, bY, bB, Option.bind_some, Option.bind_none, Sum.elim_inl, Sum.elim_inr]
def vA : LD where
 CC := fS
 V := Int × LA_ × Int
 E := (Int)
 n := 3
 K := 5
 M := (none :: none :: some (.ptr 3 0) :: none :: some (.int .i64) :: some (.ptr 4 0) :: (rl none 5 (some (.vec 2) :: some (.int .i64) :: some (.int .i64) :: (rl none 23 []))))
 B := [(3, .cells (rl (.int .u64) 32 [.vec 0]) true none), (0, .vec 1 false), (4, .vec 8 true), (2, .vec 3 false)]
 D := []
 pre := []
 F := fun s => [0, 1, 2, nameAt s 2 [], nameAt s 5 []]
 toL := CJ
 ofL := sr
 au := fun ls c v h => by
  unfold sr at h
  split at h
  ·cases h; rfl
  ·cases h
 cj := cN
 nat := CK
 sh := Dh
 out := su
 toE := sv
 eV := qL
 ofE := lT
 cO := za
 post := fun cc e k => ((fun e => k (.exit 0) (aV 3 (none :: none :: none :: none :: some (.int .i64 e) :: (rl none 32 [])) [] [])) e)
 cd := fun cc e k => by rfl
theorem CL : cG Tryz.prog 3 vA.la (aK Tryz.f45 0) :=
 LD.ok (ch := pF) (A := bu) aL so mixed (fuel := 60) ⟨by kernel_rfl, fun e => by kernel_rfl, fun cc v => by kernel_rfl, aJ (l := []) (by kernel_rfl) trivial⟩
def pj (a0 a1 a2 a3 a4 a5 a6 a7 a8 a9 a10 a11 a12 a13 a14 a15 a16 a17 a18 a19 a20 a21 a22 a23 a24 a25 a26 a27 a28 a29 a30 a31 : Int) (cs32 : LA_) (n33 : Nat) (cs34 : LA_) (n35 : Nat) : Option (Int) :=
 (Option.bind (wK (a0, a1, a2, a3, a4, a5, a6, a7, a8, a9, a10, a11, a12, a13, a14, a15, a16, a17, a18, a19, a20, a21, a22, a23, a24, a25, a26, a27, a28, a29, a30, a31, cs32, n33, 1, cs34, n35, ((n35 : Nat) : Int)) ((-1), ((v8 0 0 0 0 0 0 0 0 []) : LA_), 0)) fun e1 => (some e1))
def mm : FD where
 X := Int
 k := 3
 pre := []
 F := fun s => [0, 1, 2]
 M := .int .i64
 B := []
 toL := fun x => [.I x]
 ofL := fun ls => match ls with
  | [.I x0] => some x0
  | _ => none
 au := fun ls x h => by
  split at h
  ·cases h; rfl
  ·cases h
theorem Fr (a0 a1 a2 a3 a4 a5 a6 a7 a8 a9 a10 a11 a12 a13 a14 a15 a16 a17 a18 a19 a20 a21 a22 a23 a24 a25 a26 a27 a28 a29 a30 a31 : Int) (cs32 : LA_) (n33 : Nat) (cs34 : LA_) (n35 : Nat) (x : Int) (h : pj a0 a1 a2 a3 a4 a5 a6 a7 a8 a9 a10 a11 a12 a13 a14 a15 a16 a17 a18 a19 a20 a21 a22 a23 a24 a25 a26 a27 a28 a29 a30 a31 cs32 n33 cs34 n35 = some x) : aX Tryz.prog 45 3 [.agg (v8 a0 a1 a2 a3 a4 a5 a6 a7 (v8 a8 a9 a10 a11 a12 a13 a14 a15 (v8 a16 a17 a18 a19 a20 a21 a22 a23 (v8 a24 a25 a26 a27 a28 a29 a30 a31 [.vec 0])))), .ptr 1 0] [.vec cs32 n33 1 false, .cells [.vec 2] false none, .vec cs34 n35 3 false] mm x :=
 FD.sem (ch := pF) (A := dW [(3, vA.la)]) (fn := Tryz.f45) (c := bq Tryz.f45) (fuel := 60) aL so mixed bE mm Tryz.func45 (by kernel_rfl) (aJ (l := [aK Tryz.f45 0]) (by kernel_rfl) ⟨bR (by kernel_rfl) CL, trivial⟩)
  (by kernel_rfl) (Eq.trans (by kernel_rfl) h)
def uF (z0 z8 z16 z24 : Int) (cs32 : LA_) (n33 : Nat) (cs34 : LA_) (n35 : Nat) : Option (Int) := pj (aa z0 0) (aa z0 1) (aa z0 2) (aa z0 3) (aa z0 4) (aa z0 5) (aa z0 6) (aa z0 7) (aa z8 0) (aa z8 1) (aa z8 2) (aa z8 3) (aa z8 4) (aa z8 5) (aa z8 6) (aa z8 7) (aa z16 0) (aa z16 1) (aa z16 2) (aa z16 3) (aa z16 4) (aa z16 5) (aa z16 6) (aa z16 7) (aa z24 0) (aa z24 1) (aa z24 2) (aa z24 3) (aa z24 4) (aa z24 5) (aa z24 6) (aa z24 7) cs32 n33 cs34 n35
def uE : HK where
 call := fun args σ k => match args with
  | [.agg (.int .u64 a0 :: .int .u64 a1 :: .int .u64 a2 :: .int .u64 a3 :: .int .u64 a4 :: .int .u64 a5 :: .int .u64 a6 :: .int .u64 a7 :: .int .u64 a8 :: .int .u64 a9 :: .int .u64 a10 :: .int .u64 a11 :: .int .u64 a12 :: .int .u64 a13 :: .int .u64 a14 :: .int .u64 a15 :: .int .u64 a16 :: .int .u64 a17 :: .int .u64 a18 :: .int .u64 a19 :: .int .u64 a20 :: .int .u64 a21 :: .int .u64 a22 :: .int .u64 a23 :: .int .u64 a24 :: .int .u64 a25 :: .int .u64 a26 :: .int .u64 a27 :: .int .u64 a28 :: .int .u64 a29 :: .int .u64 a30 :: .int .u64 a31 :: x0 :: []), .ptr b1 0] => cr σ 1 x0 fun cs32 n33 => match σ.get b1 with | some (.cells [x2] _ _) => (cr σ 3 x2 fun cs34 n35 => Option.bind (pj a0 a1 a2 a3 a4 a5 a6 a7 a8 a9 a10 a11 a12 a13 a14 a15 a16 a17 a18 a19 a20 a21 a22 a23 a24 a25 a26 a27 a28 a29 a30 a31 cs32 n33 cs34 n35) fun y => az σ 3 (mm.val y) (mm.aN y) k) | _ => none
  | _ => none
 nat := fun args σ k => by
  repeat' split
  all_goals simp only [aw, ax, Option.bind_assoc, Option.bind_none, az, Option.bind_some]
 pure := false
 pok := fun h => by cases h
theorem Gk : aT Tryz.prog 45 uE := by
 intro args σ r σ' h
 simp only [uE] at h
 split at h
 ·rename_i a0 a1 a2 a3 a4 a5 a6 a7 a8 a9 a10 a11 a12 a13 a14 a15 a16 a17 a18 a19 a20 a21 a22 a23 a24 a25 a26 a27 a28 a29 a30 a31 x0 b1
  obtain ⟨cs32, n33, he0, hf0, h⟩ := bf h
  split at h
  ·rename_i x2 own1 gr1 hb1
   obtain ⟨cs34, n35, he2, hf2, h⟩ := bf h
   obtain ⟨y, hy, h⟩ := bE_ h
   exact lifted (xs := [x0, .ptr b1 0, x2]) (ls := [.vec cs32 n33 1 false, .cells [.vec 2] false none, .vec cs34 n35 3 false]) (cargs := [.agg (v8 a0 a1 a2 a3 a4 a5 a6 a7 (v8 a8 a9 a10 a11 a12 a13 a14 a15 (v8 a16 a17 a18 a19 a20 a21 a22 a23 (v8 a24 a25 a26 a27 a28 a29 a30 a31 [.vec 0])))), .ptr 1 0]) (bt.of ⟨⟨rfl, he0, hf0, by decide⟩, ⟨rfl, rfl, by simp, rfl, b1, 0, rfl, by simp [cZ, hb1, sV, sub]⟩, ⟨rfl, he2, hf2, by decide⟩, trivial⟩) rfl (Fr a0 a1 a2 a3 a4 a5 a6 a7 a8 a9 a10 a11 a12 a13 a14 a15 a16 a17 a18 a19 a20 a21 a22 a23 a24 a25 a26 a27 a28 a29 a30 a31 cs32 n33 cs34 n35 y hy) rfl rfl rfl rfl h
  ·cases h
 ·cases h
abbrev jk := LA_ × Nat × Int × LA_ × Nat × Int × Int × Int × Int × Int × Int × Int × Int × Int × Int × Int × Int × Int × Int × Int × Int × Int × Int × Int × Int × Int × Int × Int × Int × Int × Int × Int × Int × Int × Int × Int × Int × LA_ × Nat × Int
abbrev jl := (I8 (I8 (I8 (I8 (LA_ × Nat × Int)))))
abbrev Dg := (I8 (I8 (I8 (I8 (Int × LA_ × Nat)))))
abbrev jm := LA_ × Nat × Int × LA_ × Nat × Int
abbrev yx := Int × Int × Int × Int × Int × LA_ × Nat
def z5 : CH := (CH.add 94 sR (CH.add 49 nD (CH.add 48 AZ (CH.add 45 uE (CH.add 25 nC (CH.add 50 Jd CH.none))))))
def lu : CH := wB Tryz.prog jM [51, 68, 69, 88, 98] 60 z5 5
theorem Fo : aE Tryz.prog z5 := (CH.aj Fe (CH.aj vt (CH.aj KB (CH.aj Gk (CH.aj vr (CH.aj Ob CH.aC))))))
theorem kJ : aE Tryz.prog lu := jn aL mixed bE Fo 5
def fI {R : Type} (cc : jm) (v : LA_ × Nat × Int) (kn : (LA_ × Nat × Int) → Option R) (ke : ((LA_ × Nat)) → Option R) : Option R :=
 (cond (decide (v.2.2 < cc.2.2.2.2.2)) (ag (decide (0 ≤ v.2.2) && decide (v.2.2 < ((cc.2.2.2.2.1 : Nat) : Int))) (ag (an [.int .i64] cc.2.2.2.1 (Int.toNat v.2.2 * 1)) (ag (decide (0 ≤ (ac cc.2.2.2.1 ((Int.toNat v.2.2 * 1) + 0))) && decide ((ac cc.2.2.2.1 ((Int.toNat v.2.2 * 1) + 0)) < ((cc.2.1 : Nat) : Int))) (ag (an ln cc.1 (Int.toNat (ac cc.2.2.2.1 ((Int.toNat v.2.2 * 1) + 0)) * 3)) (ag (decide (2 * (v.2.1 + 1) * 24 ≤ 2 ^ 48)) (kn ((v.1 ++ [.int .i64 (ac cc.1 ((Int.toNat (ac cc.2.2.2.1 ((Int.toNat v.2.2 * 1) + 0)) * 3) + 0)), .int .i64 (ac cc.1 ((Int.toNat (ac cc.2.2.2.1 ((Int.toNat v.2.2 * 1) + 0)) * 3) + 1)), .int .i64 (ac cc.1 ((Int.toNat (ac cc.2.2.2.1 ((Int.toNat v.2.2 * 1) + 0)) * 3) + 2))]), (v.2.1 + 1), (IntKind.wrap .i64 (v.2.2 + 1))))))))) (ke (v.1, v.2.1)))
def nE (cc : jm) (v : LA_ × Nat × Int) : Option ((LA_ × Nat × Int) ⊕ ((LA_ × Nat))) := fI cc v (fun v => some (Sum.inl v)) fun e => some (Sum.inr e)
def Ct (cc : jm) (v : LA_ × Nat × Int) : Option ((LA_ × Nat)) := dA (nE cc) v
def Gl (cc : jm) (v : LA_ × Nat × Int) : List ai := [.I cc.2.2.1, .I cc.s4.2, .I v.2.2, .C cc.1, .N cc.2.1, .C cc.2.2.2.1, .N cc.s4.1, .C v.1, .N v.2.1]
def wC (ls : List ai) : Option ((jm) × (LA_ × Nat × Int)) := match ls with
 | [.I x0, .I x1, .I x2, .C x3, .N x4, .C x5, .N x6, .C x7, .N x8] => some ((x3, x4, x0, x5, x6, x1), (x7, x8, x2))
 | _ => none
def wD (e : (LA_ × Nat)) : am := ((fun e => .exit 2) e)
def wE (cc : jm) (e : (LA_ × Nat)) : List ai := ((fun e => [.I cc.2.2.1, .C cc.1, .N cc.2.1, .C cc.2.2.2.1, .N cc.s4.1, .C e.1, .N e.2]) e)
def oA (cc : jm) (e : (LA_ × Nat)) : List ai := ((fun e => [.I cc.2.2.1, .C cc.1, .N cc.2.1, .C cc.2.2.2.1, .N cc.s4.1]) e)
def pD (o : am) (ls : List ai) : Option (((LA_ × Nat)) × List ai) := match o with
 | .exit 2 => (match ls with
  | [.I x0, .C x1, .N x2, .C x3, .N x4, .C x5, .N x6] => some ((x5, x6), [.I x0, .C x1, .N x2, .C x3, .N x4])
  | _ => none)
 | _ => none
theorem CG : ∀ o ls e cl cc, pD o ls = some (e, cl) → cl = oA cc e → ls = wE cc e ∧ wD e = o ∧ o ≠ .normal ∧ ∀ v, o = .pan v → sc 0 v = true := by
 intro o ls e cl cc h hc
 unfold pD at h
 split at h
 ·split at h
  ·cases h
   simp only [oA, List.cons.injEq, ai.I.injEq, ai.N.injEq, ai.C.injEq, and_true] at hc
   obtain ⟨rfl, rfl, rfl, rfl, rfl⟩ := hc
   exact ⟨rfl, rfl, by simp, by intro v hv; cases hv <;> rfl⟩
  ·cases h
 ·cases h
def HP (o : am) : ExS := match o with
 | .exit 2 => ⟨5, (none :: some (.ptr 1 0) :: some (.ptr 2 0) :: some (.int .i64) :: some (.func 45 [] [.ptr 1 0]) :: some (.vec 3) :: some (.vec 4) :: (rl none 74 [])), [(1, .cells [.vec 0] true none), (0, .vec 3 false), (2, .cells (rl (.fG .u64 0) 32 [.aO]) true none), (3, .vec 1 false), (4, .vec 3 true)], fun s => [0, nameAt s 1 [], nameAt s 2 [], nameAt s 5 [], nameAt s 6 []], [], []⟩
 | _ => ⟨0, [], [], fun _ => [], [], []⟩
theorem Gm {R : Type} (cc : jm) (v : LA_ × Nat × Int) (kn : (LA_ × Nat × Int) → Option R) (ke : ((LA_ × Nat)) → Option R) : fI cc v kn ke = (fI cc v (fun v => some (Sum.inl v)) fun e => some (Sum.inr e)).bind (Sum.elim kn ke) := by
 simp only [fI, bF, ax, Option.bind_assoc, bY, bB, Option.bind_some, Option.bind_none, Sum.elim_inl, Sum.elim_inr]
def sS : LD where
 CC := jm
 V := LA_ × Nat × Int
 E := (LA_ × Nat)
 n := 1
 K := 5
 M := (none :: some (.ptr 1 0) :: some (.ptr 2 0) :: some (.int .i64) :: some (.func 45 [] [.ptr 1 0]) :: some (.vec 3) :: some (.vec 4) :: (rl none 10 (some (.vec 3) :: some (.int .i64) :: some (.int .i64) :: (rl none 61 []))))
 B := [(1, .cells [.vec 0] true none), (0, .vec 3 false), (2, .cells (rl (.fG .u64 0) 32 [.aO]) true none), (3, .vec 1 false), (4, .vec 3 true)]
 D := []
 pre := [(6, 3)]
 F := fun s => [0, nameAt s 1 [], nameAt s 2 [], nameAt s 5 [], nameAt s 6 []]
 toL := Gl
 ofL := wC
 au := fun ls c v h => by
  unfold wC at h
  split at h
  ·cases h; rfl
  ·cases h
 cj := fI
 nat := Gm
 sh := HP
 out := wD
 toE := wE
 eV := oA
 ofE := pD
 cO := CG
 post := fun cc e k => ((fun e => k (.exit 2) (aV 5 (none :: some (.ptr 1 0) :: some (.ptr 2 0) :: some (.int .i64 cc.2.2.1) :: some (.func 45 [] [.ptr 1 0]) :: some (.vec 3) :: some (.vec 4) :: (rl none 74 [])) [(1, .cells [.vec 0] true none), (0, .vec cc.1 cc.2.1 3 false), (2, .cells (rl (.int .u64 0) 32 [.aO]) true none), (3, .vec cc.2.2.2.1 cc.s4.1 1 false), (4, .vec e.1 e.2 3 true)] [])) e)
 cd := fun cc e k => by rfl
theorem wF : cG Tryz.prog 1 sS.la (aK Tryz.f34 1) :=
 LD.ok (ch := lu) (A := bu) aL kJ mixed (fuel := 60) ⟨by kernel_rfl, fun e => by kernel_rfl, fun cc v => by kernel_rfl, aJ (l := []) (by kernel_rfl) trivial⟩
def eY {R : Type} (cc : jk) (v : LA_ × Nat × Int) (kn : (LA_ × Nat × Int) → Option R) (ke : ((LA_ × Nat)) → Option R) : Option R :=
 (cond (decide (v.2.2 < cc.2.2.2.2.2.2.2.2.2.2.2.2.2.2.2.2.2.2.2.2.2.2.2.2.2.2.2.2.2.2.2.2.2.2.2.2.2.2.2)) (ag (decide (0 ≤ v.2.2) && decide (v.2.2 < ((cc.2.2.2.2.2.2.2.2.2.2.2.2.2.2.2.2.2.2.2.2.2.2.2.2.2.2.2.2.2.2.2.2.2.2.2.2.2.2.1 : Nat) : Int))) (ag (an [.int .i64] cc.2.2.2.2.2.2.2.2.2.2.2.2.2.2.2.2.2.2.2.2.2.2.2.2.2.2.2.2.2.2.2.2.2.2.2.2.2.1 (Int.toNat v.2.2 * 1)) (ag (decide (0 ≤ (ac cc.2.2.2.2.2.2.2.2.2.2.2.2.2.2.2.2.2.2.2.2.2.2.2.2.2.2.2.2.2.2.2.2.2.2.2.2.2.1 ((Int.toNat v.2.2 * 1) + 0))) && decide ((ac cc.2.2.2.2.2.2.2.2.2.2.2.2.2.2.2.2.2.2.2.2.2.2.2.2.2.2.2.2.2.2.2.2.2.2.2.2.2.1 ((Int.toNat v.2.2 * 1) + 0)) < ((cc.2.2.2.2.1 : Nat) : Int))) (ag (an [.int .i64] cc.2.2.2.1 (Int.toNat (ac cc.2.2.2.2.2.2.2.2.2.2.2.2.2.2.2.2.2.2.2.2.2.2.2.2.2.2.2.2.2.2.2.2.2.2.2.2.2.1 ((Int.toNat v.2.2 * 1) + 0)) * 1)) (ag (decide (2 * (v.2.1 + 1) * 8 ≤ 2 ^ 48)) (kn ((v.1 ++ [.int .i64 (ac cc.2.2.2.1 ((Int.toNat (ac cc.2.2.2.2.2.2.2.2.2.2.2.2.2.2.2.2.2.2.2.2.2.2.2.2.2.2.2.2.2.2.2.2.2.2.2.2.2.1 ((Int.toNat v.2.2 * 1) + 0)) * 1) + 0))]), (v.2.1 + 1), (IntKind.wrap .i64 (v.2.2 + 1))))))))) (ke (v.1, v.2.1)))
def ml (cc : jk) (v : LA_ × Nat × Int) : Option ((LA_ × Nat × Int) ⊕ ((LA_ × Nat))) := eY cc v (fun v => some (Sum.inl v)) fun e => some (Sum.inr e)
def z6 (cc : jk) (v : LA_ × Nat × Int) : Option ((LA_ × Nat)) := dA (ml cc) v
def Fp (cc : jk) (v : LA_ × Nat × Int) : List ai := [.I cc.2.2.1, .I cc.s16.s16.s4.2.2.2, .I v.2.2, .C cc.1, .N cc.2.1, .C cc.2.2.2.1, .N cc.s4.1, .I cc.s4.2.1, .I cc.s4.2.2.1, .I cc.s4.2.2.2.1, .I cc.s8.1, .I cc.s8.2.1, .I cc.s8.2.2.1, .I cc.s8.2.2.2.1, .I cc.s8.s4.1, .I cc.s8.s4.2.1, .I cc.s8.s4.2.2.1, .I cc.s8.s4.2.2.2.1, .I cc.s16.1, .I cc.s16.2.1, .I cc.s16.2.2.1, .I cc.s16.2.2.2.1, .I cc.s16.s4.1, .I cc.s16.s4.2.1, .I cc.s16.s4.2.2.1, .I cc.s16.s4.2.2.2.1, .I cc.s16.s8.1, .I cc.s16.s8.2.1, .I cc.s16.s8.2.2.1, .I cc.s16.s8.2.2.2.1, .I cc.s16.s8.s4.1, .I cc.s16.s8.s4.2.1, .I cc.s16.s8.s4.2.2.1, .I cc.s16.s8.s4.2.2.2.1, .I cc.s16.s16.1, .I cc.s16.s16.2.1, .I cc.s16.s16.2.2.1, .I cc.s16.s16.2.2.2.1, .I cc.s16.s16.s4.1, .C cc.s16.s16.s4.2.1, .N cc.s16.s16.s4.2.2.1, .C v.1, .N v.2.1]
def vu (ls : List ai) : Option ((jk) × (LA_ × Nat × Int)) := match ls with
 | (.I x0 :: .I x1 :: .I x2 :: .C x3 :: .N x4 :: .C x5 :: .N x6 :: .I x7 :: .I x8 :: .I x9 :: .I x10 :: .I x11 :: .I x12 :: .I x13 :: .I x14 :: .I x15 :: .I x16 :: .I x17 :: .I x18 :: .I x19 :: .I x20 :: .I x21 :: .I x22 :: .I x23 :: .I x24 :: .I x25 :: .I x26 :: .I x27 :: .I x28 :: .I x29 :: .I x30 :: .I x31 :: .I x32 :: .I x33 :: .I x34 :: .I x35 :: .I x36 :: .I x37 :: .I x38 :: .C x39 :: .N x40 :: .C x41 :: .N x42 :: []) => some ((x3, x4, x0, x5, x6, x7, x8, x9, x10, x11, x12, x13, x14, x15, x16, x17, x18, x19, x20, x21, x22, x23, x24, x25, x26, x27, x28, x29, x30, x31, x32, x33, x34, x35, x36, x37, x38, x39, x40, x1), (x41, x42, x2))
 | _ => none
def vw (e : (LA_ × Nat)) : am := ((fun e => .exit 4) e)
def vx (cc : jk) (e : (LA_ × Nat)) : List ai := ((fun e => [.I cc.2.2.1, .C cc.1, .N cc.2.1, .I cc.s4.2.1, .I cc.s4.2.2.1, .I cc.s4.2.2.2.1, .I cc.s8.1, .I cc.s8.2.1, .I cc.s8.2.2.1, .I cc.s8.2.2.2.1, .I cc.s8.s4.1, .I cc.s8.s4.2.1, .I cc.s8.s4.2.2.1, .I cc.s8.s4.2.2.2.1, .I cc.s16.1, .I cc.s16.2.1, .I cc.s16.2.2.1, .I cc.s16.2.2.2.1, .I cc.s16.s4.1, .I cc.s16.s4.2.1, .I cc.s16.s4.2.2.1, .I cc.s16.s4.2.2.2.1, .I cc.s16.s8.1, .I cc.s16.s8.2.1, .I cc.s16.s8.2.2.1, .I cc.s16.s8.2.2.2.1, .I cc.s16.s8.s4.1, .I cc.s16.s8.s4.2.1, .I cc.s16.s8.s4.2.2.1, .I cc.s16.s8.s4.2.2.2.1, .I cc.s16.s16.1, .I cc.s16.s16.2.1, .I cc.s16.s16.2.2.1, .I cc.s16.s16.2.2.2.1, .I cc.s16.s16.s4.1, .C cc.s16.s16.s4.2.1, .N cc.s16.s16.s4.2.2.1, .C e.1, .N e.2]) e)
def mE (cc : jk) (e : (LA_ × Nat)) : List ai := ((fun e => [.I cc.2.2.1, .C cc.1, .N cc.2.1, .I cc.s4.2.1, .I cc.s4.2.2.1, .I cc.s4.2.2.2.1, .I cc.s8.1, .I cc.s8.2.1, .I cc.s8.2.2.1, .I cc.s8.2.2.2.1, .I cc.s8.s4.1, .I cc.s8.s4.2.1, .I cc.s8.s4.2.2.1, .I cc.s8.s4.2.2.2.1, .I cc.s16.1, .I cc.s16.2.1, .I cc.s16.2.2.1, .I cc.s16.2.2.2.1, .I cc.s16.s4.1, .I cc.s16.s4.2.1, .I cc.s16.s4.2.2.1, .I cc.s16.s4.2.2.2.1, .I cc.s16.s8.1, .I cc.s16.s8.2.1, .I cc.s16.s8.2.2.1, .I cc.s16.s8.2.2.2.1, .I cc.s16.s8.s4.1, .I cc.s16.s8.s4.2.1, .I cc.s16.s8.s4.2.2.1, .I cc.s16.s8.s4.2.2.2.1, .I cc.s16.s16.1, .I cc.s16.s16.2.1, .I cc.s16.s16.2.2.1, .I cc.s16.s16.2.2.2.1, .I cc.s16.s16.s4.1, .C cc.s16.s16.s4.2.1, .N cc.s16.s16.s4.2.2.1]) e)
def oB (o : am) (ls : List ai) : Option (((LA_ × Nat)) × List ai) := match o with
 | .exit 4 => (match ls with
  | (.I x0 :: .C x1 :: .N x2 :: .I x3 :: .I x4 :: .I x5 :: .I x6 :: .I x7 :: .I x8 :: .I x9 :: .I x10 :: .I x11 :: .I x12 :: .I x13 :: .I x14 :: .I x15 :: .I x16 :: .I x17 :: .I x18 :: .I x19 :: .I x20 :: .I x21 :: .I x22 :: .I x23 :: .I x24 :: .I x25 :: .I x26 :: .I x27 :: .I x28 :: .I x29 :: .I x30 :: .I x31 :: .I x32 :: .I x33 :: .I x34 :: .C x35 :: .N x36 :: .C x37 :: .N x38 :: []) => some ((x37, x38), [.I x0, .C x1, .N x2, .I x3, .I x4, .I x5, .I x6, .I x7, .I x8, .I x9, .I x10, .I x11, .I x12, .I x13, .I x14, .I x15, .I x16, .I x17, .I x18, .I x19, .I x20, .I x21, .I x22, .I x23, .I x24, .I x25, .I x26, .I x27, .I x28, .I x29, .I x30, .I x31, .I x32, .I x33, .I x34, .C x35, .N x36])
  | _ => none)
 | _ => none
theorem A0 : ∀ o ls e cl cc, oB o ls = some (e, cl) → cl = mE cc e → ls = vx cc e ∧ vw e = o ∧ o ≠ .normal ∧ ∀ v, o = .pan v → sc 0 v = true := by
 intro o ls e cl cc h hc
 unfold oB at h
 split at h
 ·split at h
  ·cases h
   simp only [mE, List.cons.injEq, ai.I.injEq, ai.N.injEq, ai.C.injEq, and_true] at hc
   obtain ⟨rfl, rfl, rfl, rfl, rfl, rfl, rfl, rfl, rfl, rfl, rfl, rfl, rfl, rfl, rfl, rfl, rfl, rfl, rfl, rfl, rfl, rfl, rfl, rfl, rfl, rfl, rfl, rfl, rfl, rfl, rfl, rfl, rfl, rfl, rfl, rfl, rfl⟩ := hc
   exact ⟨rfl, rfl, by simp, by intro v hv; cases hv <;> rfl⟩
  ·cases h
 ·cases h
def Gn (o : am) : ExS := match o with
 | .exit 4 => ⟨6, (none :: some (.ptr 1 0) :: some (.ptr 2 0) :: some (.int .i64) :: some (.func 45 [] [.ptr 1 0]) :: none :: none :: none :: none :: some (.ptr 3 0) :: none :: some (.vec 5) :: (rl none 69 [])), [(1, .cells [.vec 0] true none), (0, .vec 3 false), (2, .cells (rl (.fG .u64 0) 32 [.aO]) true none), (3, .cells (rl (.int .u64) 32 [.vec 4]) true none), (4, .vec 1 true), (5, .vec 1 true)], fun s => [0, nameAt s 1 [], nameAt s 2 [], nameAt s 9 [], nameAt s 9 [.d 32], nameAt s 11 []], [], []⟩
 | _ => ⟨0, [], [], fun _ => [], [], []⟩
theorem Fq {R : Type} (cc : jk) (v : LA_ × Nat × Int) (kn : (LA_ × Nat × Int) → Option R) (ke : ((LA_ × Nat)) → Option R) : eY cc v kn ke = (eY cc v (fun v => some (Sum.inl v)) fun e => some (Sum.inr e)).bind (Sum.elim kn ke) := by
 simp only [eY, bF, ax, Option.bind_assoc, bY, bB, Option.bind_some, Option.bind_none, Sum.elim_inl, Sum.elim_inr]
def qK : LD where
 CC := jk
 V := LA_ × Nat × Int
 E := (LA_ × Nat)
 n := 1
 K := 7
 M := (none :: some (.ptr 1 0) :: some (.ptr 2 0) :: some (.int .i64) :: some (.func 45 [] [.ptr 1 0]) :: some (.vec 3) :: none :: none :: none :: some (.ptr 4 0) :: none :: some (.vec 6) :: (rl none 25 (some (.vec 5) :: some (.int .i64) :: some (.int .i64) :: (rl none 41 []))))
 B := [(1, .cells [.vec 0] true none), (0, .vec 3 false), (2, .cells (rl (.fG .u64 0) 32 [.aO]) true none), (3, .vec 1 false), (4, .cells (rl (.int .u64) 32 [.vec 5]) true none), (5, .vec 1 true), (6, .vec 1 true)]
 D := []
 pre := [(11, 1)]
 F := fun s => [0, nameAt s 1 [], nameAt s 2 [], nameAt s 5 [], nameAt s 9 [], nameAt s 9 [.d 32], nameAt s 11 []]
 toL := Fp
 ofL := vu
 au := fun ls c v h => by
  unfold vu at h
  split at h
  ·cases h; rfl
  ·cases h
 cj := eY
 nat := Fq
 sh := Gn
 out := vw
 toE := vx
 eV := mE
 ofE := oB
 cO := A0
 post := fun cc e k => ((fun e => k (.exit 4) (aV 6 (none :: some (.ptr 1 0) :: some (.ptr 2 0) :: some (.int .i64 cc.2.2.1) :: some (.func 45 [] [.ptr 1 0]) :: none :: none :: none :: none :: some (.ptr 3 0) :: none :: some (.vec 5) :: (rl none 69 [])) [(1, .cells [.vec 0] true none), (0, .vec cc.1 cc.2.1 3 false), (2, .cells (rl (.int .u64 0) 32 [.aO]) true none), (3, .cells (v8 cc.s4.2.1 cc.s4.2.2.1 cc.s4.2.2.2.1 cc.s8.1 cc.s8.2.1 cc.s8.2.2.1 cc.s8.2.2.2.1 cc.s8.s4.1 (v8 cc.s8.s4.2.1 cc.s8.s4.2.2.1 cc.s8.s4.2.2.2.1 cc.s16.1 cc.s16.2.1 cc.s16.2.2.1 cc.s16.2.2.2.1 cc.s16.s4.1 (v8 cc.s16.s4.2.1 cc.s16.s4.2.2.1 cc.s16.s4.2.2.2.1 cc.s16.s8.1 cc.s16.s8.2.1 cc.s16.s8.2.2.1 cc.s16.s8.2.2.2.1 cc.s16.s8.s4.1 (v8 cc.s16.s8.s4.2.1 cc.s16.s8.s4.2.2.1 cc.s16.s8.s4.2.2.2.1 cc.s16.s16.1 cc.s16.s16.2.1 cc.s16.s16.2.2.1 cc.s16.s16.2.2.2.1 cc.s16.s16.s4.1 [.vec 4])))) true none), (4, .vec cc.s16.s16.s4.2.1 cc.s16.s16.s4.2.2.1 1 true), (5, .vec e.1 e.2 1 true)] [])) e)
 cd := fun cc e k => by rfl
theorem vy : cG Tryz.prog 1 qK.la (aK Tryz.f34 2) :=
 LD.ok (ch := lu) (A := bu) aL kJ mixed (fuel := 60) ⟨by kernel_rfl, fun e => by kernel_rfl, fun cc v => by kernel_rfl, aJ (l := []) (by kernel_rfl) trivial⟩
def dN {R : Type} (cc : LA_ × Nat) (v : Int × LA_ × Nat) (kn : (Int × LA_ × Nat) → Option R) (ke : ((Int) ⊕ (jl)) → Option R) : Option R :=
 (Option.bind (Ct (cc.1, cc.2, v.1, v.2.1, v.2.2, ((v.2.2 : Nat) : Int)) (([] : LA_), 0, 0)) fun e1 => (Option.bind (dM e1.1 e1.2) fun r2 => (Option.bind (z6 (cc.1, cc.2, v.1, v.2.1, v.2.2, (aa r2.1 0), (aa r2.1 1), (aa r2.1 2), (aa r2.1 3), (aa r2.1 4), (aa r2.1 5), (aa r2.1 6), (aa r2.1 7), (aa r2.2.1 0), (aa r2.2.1 1), (aa r2.2.1 2), (aa r2.2.1 3), (aa r2.2.1 4), (aa r2.2.1 5), (aa r2.2.1 6), (aa r2.2.1 7), (aa r2.2.2.1 0), (aa r2.2.2.1 1), (aa r2.2.2.1 2), (aa r2.2.2.1 3), (aa r2.2.2.1 4), (aa r2.2.2.1 5), (aa r2.2.2.1 6), (aa r2.2.2.1 7), (aa r2.2.2.2.1 0), (aa r2.2.2.2.1 1), (aa r2.2.2.2.1 2), (aa r2.2.2.2.1 3), (aa r2.2.2.2.1 4), (aa r2.2.2.2.1 5), (aa r2.2.2.2.1 6), (aa r2.2.2.2.1 7), r2.2.2.2.2.2.1, r2.2.2.2.2.2.2, ((r2.2.2.2.2.2.2 : Nat) : Int)) (([] : LA_), 0, 0)) fun e3 => (Option.bind (qH ((cc.2 : Nat) : Int)) fun r4 => (cond (decide ((IntKind.wrap .i64 (v.1 + 1)) > r4)) (ke (.inl (IntKind.wrap .i64 (v.1 + 1)))) (Option.bind (uF r2.1 r2.2.1 r2.2.2.1 r2.2.2.2.1 e3.1 e3.2 cc.1 cc.2) fun r5 => (ag (decide (0 ≤ r5) && decide (r5 < ((cc.2 : Nat) : Int))) (ag (an ln cc.1 (Int.toNat r5 * 3)) (Option.bind (sT r2.1 r2.2.1 r2.2.2.1 r2.2.2.2.1 e3.1 e3.2 (ac cc.1 ((Int.toNat r5 * 3) + 0)) (ac cc.1 ((Int.toNat r5 * 3) + 1)) (ac cc.1 ((Int.toNat r5 * 3) + 2))) fun r6 => (cond r6 (cond (Nat.beq e3.2 1) (ag (an [.int .i64] e3.1 0 && Nat.beq (List.length e3.1) 1) (Option.bind (aH r5 (ac e3.1 0)) fun r35 => (cond r35 (kn ((IntKind.wrap .i64 (v.1 + 1)), ([.int .i64 r5, .int .i64 (ac e3.1 0)] : LA_), 2)) (kn ((IntKind.wrap .i64 (v.1 + 1)), ([.int .i64 (ac e3.1 0), .int .i64 r5] : LA_), 2))))) (cond (Nat.beq e3.2 2) (ag (an [.int .i64, .int .i64] e3.1 0 && Nat.beq (List.length e3.1) 2) (Option.bind (aH (ac e3.1 1) (ac e3.1 0)) fun r30 => (cond r30 (Option.bind (aH r5 (ac e3.1 0)) fun r31 => (cond r31 (Option.bind (aH r5 (ac e3.1 1)) fun r32 => (cond r32 (kn ((IntKind.wrap .i64 (v.1 + 1)), ([.int .i64 r5, .int .i64 (ac e3.1 1), .int .i64 (ac e3.1 0)] : LA_), 3)) (kn ((IntKind.wrap .i64 (v.1 + 1)), ([.int .i64 (ac e3.1 1), .int .i64 r5, .int .i64 (ac e3.1 0)] : LA_), 3)))) (kn ((IntKind.wrap .i64 (v.1 + 1)), ([.int .i64 (ac e3.1 1), .int .i64 (ac e3.1 0), .int .i64 r5] : LA_), 3)))) (Option.bind (aH r5 (ac e3.1 1)) fun r33 => (cond r33 (Option.bind (aH r5 (ac e3.1 0)) fun r34 => (cond r34 (kn ((IntKind.wrap .i64 (v.1 + 1)), ([.int .i64 r5, .int .i64 (ac e3.1 0), .int .i64 (ac e3.1 1)] : LA_), 3)) (kn ((IntKind.wrap .i64 (v.1 + 1)), ([.int .i64 (ac e3.1 0), .int .i64 r5, .int .i64 (ac e3.1 1)] : LA_), 3)))) (kn ((IntKind.wrap .i64 (v.1 + 1)), ([.int .i64 (ac e3.1 0), .int .i64 (ac e3.1 1), .int .i64 r5] : LA_), 3))))))) (cond (Nat.beq e3.2 3) (ag (an ln e3.1 0 && Nat.beq (List.length e3.1) 3) (Option.bind (aH (ac e3.1 1) (ac e3.1 0)) fun r7 => (cond r7 (Option.bind (aH (ac e3.1 2) (ac e3.1 0)) fun r8 => (cond r8 (Option.bind (aH (ac e3.1 2) (ac e3.1 1)) fun r9 => (cond r9 (Option.bind (aH r5 (ac e3.1 0)) fun r10 => (cond r10 (Option.bind (aH r5 (ac e3.1 1)) fun r11 => (cond r11 (Option.bind (aH r5 (ac e3.1 2)) fun r12 => (cond r12 (kn ((IntKind.wrap .i64 (v.1 + 1)), ([.int .i64 r5, .int .i64 (ac e3.1 2), .int .i64 (ac e3.1 1), .int .i64 (ac e3.1 0)] : LA_), 4)) (kn ((IntKind.wrap .i64 (v.1 + 1)), ([.int .i64 (ac e3.1 2), .int .i64 r5, .int .i64 (ac e3.1 1), .int .i64 (ac e3.1 0)] : LA_), 4)))) (kn ((IntKind.wrap .i64 (v.1 + 1)), ([.int .i64 (ac e3.1 2), .int .i64 (ac e3.1 1), .int .i64 r5, .int .i64 (ac e3.1 0)] : LA_), 4)))) (kn ((IntKind.wrap .i64 (v.1 + 1)), ([.int .i64 (ac e3.1 2), .int .i64 (ac e3.1 1), .int .i64 (ac e3.1 0), .int .i64 r5] : LA_), 4)))) (Option.bind (aH r5 (ac e3.1 0)) fun r13 => (cond r13 (Option.bind (aH r5 (ac e3.1 2)) fun r14 => (cond r14 (Option.bind (aH r5 (ac e3.1 1)) fun r15 => (cond r15 (kn ((IntKind.wrap .i64 (v.1 + 1)), ([.int .i64 r5, .int .i64 (ac e3.1 1), .int .i64 (ac e3.1 2), .int .i64 (ac e3.1 0)] : LA_), 4)) (kn ((IntKind.wrap .i64 (v.1 + 1)), ([.int .i64 (ac e3.1 1), .int .i64 r5, .int .i64 (ac e3.1 2), .int .i64 (ac e3.1 0)] : LA_), 4)))) (kn ((IntKind.wrap .i64 (v.1 + 1)), ([.int .i64 (ac e3.1 1), .int .i64 (ac e3.1 2), .int .i64 r5, .int .i64 (ac e3.1 0)] : LA_), 4)))) (kn ((IntKind.wrap .i64 (v.1 + 1)), ([.int .i64 (ac e3.1 1), .int .i64 (ac e3.1 2), .int .i64 (ac e3.1 0), .int .i64 r5] : LA_), 4)))))) (Option.bind (aH r5 (ac e3.1 2)) fun r16 => (cond r16 (Option.bind (aH r5 (ac e3.1 0)) fun r17 => (cond r17 (Option.bind (aH r5 (ac e3.1 1)) fun r18 => (cond r18 (kn ((IntKind.wrap .i64 (v.1 + 1)), ([.int .i64 r5, .int .i64 (ac e3.1 1), .int .i64 (ac e3.1 0), .int .i64 (ac e3.1 2)] : LA_), 4)) (kn ((IntKind.wrap .i64 (v.1 + 1)), ([.int .i64 (ac e3.1 1), .int .i64 r5, .int .i64 (ac e3.1 0), .int .i64 (ac e3.1 2)] : LA_), 4)))) (kn ((IntKind.wrap .i64 (v.1 + 1)), ([.int .i64 (ac e3.1 1), .int .i64 (ac e3.1 0), .int .i64 r5, .int .i64 (ac e3.1 2)] : LA_), 4)))) (kn ((IntKind.wrap .i64 (v.1 + 1)), ([.int .i64 (ac e3.1 1), .int .i64 (ac e3.1 0), .int .i64 (ac e3.1 2), .int .i64 r5] : LA_), 4)))))) (Option.bind (aH (ac e3.1 2) (ac e3.1 1)) fun r19 => (cond r19 (Option.bind (aH (ac e3.1 2) (ac e3.1 0)) fun r20 => (cond r20 (Option.bind (aH r5 (ac e3.1 1)) fun r21 => (cond r21 (Option.bind (aH r5 (ac e3.1 0)) fun r22 => (cond r22 (Option.bind (aH r5 (ac e3.1 2)) fun r23 => (cond r23 (kn ((IntKind.wrap .i64 (v.1 + 1)), ([.int .i64 r5, .int .i64 (ac e3.1 2), .int .i64 (ac e3.1 0), .int .i64 (ac e3.1 1)] : LA_), 4)) (kn ((IntKind.wrap .i64 (v.1 + 1)), ([.int .i64 (ac e3.1 2), .int .i64 r5, .int .i64 (ac e3.1 0), .int .i64 (ac e3.1 1)] : LA_), 4)))) (kn ((IntKind.wrap .i64 (v.1 + 1)), ([.int .i64 (ac e3.1 2), .int .i64 (ac e3.1 0), .int .i64 r5, .int .i64 (ac e3.1 1)] : LA_), 4)))) (kn ((IntKind.wrap .i64 (v.1 + 1)), ([.int .i64 (ac e3.1 2), .int .i64 (ac e3.1 0), .int .i64 (ac e3.1 1), .int .i64 r5] : LA_), 4)))) (Option.bind (aH r5 (ac e3.1 1)) fun r24 => (cond r24 (Option.bind (aH r5 (ac e3.1 2)) fun r25 => (cond r25 (Option.bind (aH r5 (ac e3.1 0)) fun r26 => (cond r26 (kn ((IntKind.wrap .i64 (v.1 + 1)), ([.int .i64 r5, .int .i64 (ac e3.1 0), .int .i64 (ac e3.1 2), .int .i64 (ac e3.1 1)] : LA_), 4)) (kn ((IntKind.wrap .i64 (v.1 + 1)), ([.int .i64 (ac e3.1 0), .int .i64 r5, .int .i64 (ac e3.1 2), .int .i64 (ac e3.1 1)] : LA_), 4)))) (kn ((IntKind.wrap .i64 (v.1 + 1)), ([.int .i64 (ac e3.1 0), .int .i64 (ac e3.1 2), .int .i64 r5, .int .i64 (ac e3.1 1)] : LA_), 4)))) (kn ((IntKind.wrap .i64 (v.1 + 1)), ([.int .i64 (ac e3.1 0), .int .i64 (ac e3.1 2), .int .i64 (ac e3.1 1), .int .i64 r5] : LA_), 4)))))) (Option.bind (aH r5 (ac e3.1 2)) fun r27 => (cond r27 (Option.bind (aH r5 (ac e3.1 1)) fun r28 => (cond r28 (Option.bind (aH r5 (ac e3.1 0)) fun r29 => (cond r29 (kn ((IntKind.wrap .i64 (v.1 + 1)), ([.int .i64 r5, .int .i64 (ac e3.1 0), .int .i64 (ac e3.1 1), .int .i64 (ac e3.1 2)] : LA_), 4)) (kn ((IntKind.wrap .i64 (v.1 + 1)), ([.int .i64 (ac e3.1 0), .int .i64 r5, .int .i64 (ac e3.1 1), .int .i64 (ac e3.1 2)] : LA_), 4)))) (kn ((IntKind.wrap .i64 (v.1 + 1)), ([.int .i64 (ac e3.1 0), .int .i64 (ac e3.1 1), .int .i64 r5, .int .i64 (ac e3.1 2)] : LA_), 4)))) (kn ((IntKind.wrap .i64 (v.1 + 1)), ([.int .i64 (ac e3.1 0), .int .i64 (ac e3.1 1), .int .i64 (ac e3.1 2), .int .i64 r5] : LA_), 4))))))))) none))) (ke (.inr (aZ r2.1 (aZ r2.2.1 (aZ r2.2.2.1 (aZ r2.2.2.2.1 (e3.1, e3.2, (IntKind.wrap .i64 (v.1 + 1)))))))))))))))))))
def dm (cc : LA_ × Nat) (v : Int × LA_ × Nat) : Option ((Int × LA_ × Nat) ⊕ ((Int) ⊕ (jl))) := dN cc v (fun v => some (Sum.inl v)) fun e => some (Sum.inr e)
def uG (cc : LA_ × Nat) (v : Int × LA_ × Nat) : Option ((Int) ⊕ (jl)) := dA (dm cc) v
def Gp (cc : LA_ × Nat) (v : Int × LA_ × Nat) : List ai := [.I v.1, .C cc.1, .N cc.2, .C v.2.1, .N v.2.2]
def wG (ls : List ai) : Option ((LA_ × Nat) × (Int × LA_ × Nat)) := match ls with
 | [.I x0, .C x1, .N x2, .C x3, .N x4] => some ((x1, x2), (x0, x3, x4))
 | _ => none
def wH (e : (Int) ⊕ (jl)) : am := ((Sum.elim (fun e => .pan (.iface 90 (.agg []))) (fun e => .ret)) e)
def wI (cc : LA_ × Nat) (e : (Int) ⊕ (jl)) : List ai := ((Sum.elim (fun e => [.I e]) (fun e => [.I e.s16.s16.2.2, .I e.1, .I e.2.1, .I e.2.2.1, .I e.2.2.2.1, .I e.s4.1, .I e.s4.2.1, .I e.s4.2.2.1, .I e.s4.2.2.2.1, .I e.s8.1, .I e.s8.2.1, .I e.s8.2.2.1, .I e.s8.2.2.2.1, .I e.s8.s4.1, .I e.s8.s4.2.1, .I e.s8.s4.2.2.1, .I e.s8.s4.2.2.2.1, .I e.s16.1, .I e.s16.2.1, .I e.s16.2.2.1, .I e.s16.2.2.2.1, .I e.s16.s4.1, .I e.s16.s4.2.1, .I e.s16.s4.2.2.1, .I e.s16.s4.2.2.2.1, .I e.s16.s8.1, .I e.s16.s8.2.1, .I e.s16.s8.2.2.1, .I e.s16.s8.2.2.2.1, .I e.s16.s8.s4.1, .I e.s16.s8.s4.2.1, .I e.s16.s8.s4.2.2.1, .I e.s16.s8.s4.2.2.2.1, .C e.s16.s16.1, .N e.s16.s16.2.1])) e)
def vz (cc : LA_ × Nat) (e : (Int) ⊕ (jl)) : List ai := ((Sum.elim (fun e => []) (fun e => [])) e)
def pE (o : am) (ls : List ai) : Option (((Int) ⊕ (jl)) × List ai) := match o with
 | .pan (.iface 90 (.agg [])) => (match ls with
  | [.I x0] => some ((.inl x0), [])
  | _ => none)
 | .ret => (match ls with
  | (.I x0 :: .I x1 :: .I x2 :: .I x3 :: .I x4 :: .I x5 :: .I x6 :: .I x7 :: .I x8 :: .I x9 :: .I x10 :: .I x11 :: .I x12 :: .I x13 :: .I x14 :: .I x15 :: .I x16 :: .I x17 :: .I x18 :: .I x19 :: .I x20 :: .I x21 :: .I x22 :: .I x23 :: .I x24 :: .I x25 :: .I x26 :: .I x27 :: .I x28 :: .I x29 :: .I x30 :: .I x31 :: .I x32 :: .C x33 :: .N x34 :: []) => some ((.inr (x1, x2, x3, x4, x5, x6, x7, x8, x9, x10, x11, x12, x13, x14, x15, x16, x17, x18, x19, x20, x21, x22, x23, x24, x25, x26, x27, x28, x29, x30, x31, x32, x33, x34, x0)), [])
  | _ => none)
 | _ => none
theorem CI : ∀ o ls e cl cc, pE o ls = some (e, cl) → cl = vz cc e → ls = wI cc e ∧ wH e = o ∧ o ≠ .normal ∧ ∀ v, o = .pan v → sc 0 v = true := by
 intro o ls e cl cc h hc
 unfold pE at h
 split at h
 ·split at h
  ·cases h
   exact ⟨rfl, rfl, by simp, by intro v hv; cases hv <;> rfl⟩
  ·cases h
 ·split at h
  ·cases h
   exact ⟨rfl, rfl, by simp, by intro v hv; cases hv <;> rfl⟩
  ·cases h
 ·cases h
def HQ (o : am) : ExS := match o with
 | .pan (.iface 90 (.agg [])) => ⟨2, (none :: none :: some (.ptr 1 0) :: some (.int .i64) :: (rl none 77 [])), [(1, .cells (rl (.fG .u64 0) 32 [.aO]) true none)], fun s => [0, nameAt s 2 []], [], []⟩
 | .ret => ⟨3, (none :: none :: some (.ptr 1 0) :: some (.int .i64) :: (rl none 77 [])), [(1, .cells (rl (.int .u64) 32 [.vec 2]) true none), (2, .vec 1 true)], fun s => [0, nameAt s 2 [], nameAt s 2 [.d 32]], [], []⟩
 | _ => ⟨0, [], [], fun _ => [], [], []⟩
theorem Gq {R : Type} (cc : LA_ × Nat) (v : Int × LA_ × Nat) (kn : (Int × LA_ × Nat) → Option R) (ke : ((Int) ⊕ (jl)) → Option R) : dN cc v kn ke = (dN cc v (fun v => some (Sum.inl v)) fun e => some (Sum.inr e)).bind (Sum.elim kn ke) := by
 simp only [dN, bF, ax, Option.bind_assoc, bY, bB, Option.bind_some, Option.bind_none, Sum.elim_inl, Sum.elim_inr]
def z7 : LD where
 CC := LA_ × Nat
 V := Int × LA_ × Nat
 E := (Int) ⊕ (jl)
 n := 1
 K := 4
 M := (none :: some (.ptr 1 0) :: some (.ptr 2 0) :: some (.int .i64) :: some (.func 45 [] [.ptr 1 0]) :: some (.vec 3) :: (rl none 75 []))
 B := [(1, .cells [.vec 0] true none), (0, .vec 3 false), (2, .cells (rl (.fG .u64 0) 32 [.aO]) true none), (3, .vec 1 false)]
 D := []
 pre := [(1000000000005, 1)]
 F := fun s => [0, nameAt s 1 [], nameAt s 2 [], nameAt s 5 []]
 toL := Gp
 ofL := wG
 au := fun ls c v h => by
  unfold wG at h
  split at h
  ·cases h; rfl
  ·cases h
 cj := dN
 nat := Gq
 sh := HQ
 out := wH
 toE := wI
 eV := vz
 ofE := pE
 cO := CI
 post := fun cc e k => ((Sum.elim (fun e => k (.pan (.iface 90 (.agg []))) (aV 2 (none :: none :: some (.ptr 1 0) :: some (.int .i64 e) :: (rl none 77 [])) [(1, .cells (rl (.int .u64 0) 32 [.aO]) true none)] [])) (fun e => k (.ret) (aV 3 (none :: none :: some (.ptr 1 0) :: some (.int .i64 e.s16.s16.2.2) :: (rl none 77 [])) [(1, .cells (v8 e.1 e.2.1 e.2.2.1 e.2.2.2.1 e.s4.1 e.s4.2.1 e.s4.2.2.1 e.s4.2.2.2.1 (v8 e.s8.1 e.s8.2.1 e.s8.2.2.1 e.s8.2.2.2.1 e.s8.s4.1 e.s8.s4.2.1 e.s8.s4.2.2.1 e.s8.s4.2.2.2.1 (v8 e.s16.1 e.s16.2.1 e.s16.2.2.1 e.s16.2.2.2.1 e.s16.s4.1 e.s16.s4.2.1 e.s16.s4.2.2.1 e.s16.s4.2.2.2.1 (v8 e.s16.s8.1 e.s16.s8.2.1 e.s16.s8.2.2.1 e.s16.s8.2.2.2.1 e.s16.s8.s4.1 e.s16.s8.s4.2.1 e.s16.s8.s4.2.2.1 e.s16.s8.s4.2.2.2.1 [.vec 2])))) true none), (2, .vec e.s16.s16.1 e.s16.s16.2.1 1 true)] []))) e)
 cd := fun cc e k => by rcases e with e | e <;> rfl
theorem Gr : cG Tryz.prog 1 z7.la (aK Tryz.f34 0) :=
 LD.ok (ch := lu) (A := dW [(5, sS.la), (12, qK.la)]) aL kJ mixed (fuel := 60) ⟨by kernel_rfl, fun e => by (rcases e with e | e <;> kernel_rfl), fun cc v => by kernel_rfl, aJ (l := [aK Tryz.f34 1, aK Tryz.f34 2]) (by kernel_rfl) ⟨bR (by kernel_rfl) wF, bR (by kernel_rfl) vy, trivial⟩⟩
def vQ (cs0 : LA_) (n1 : Nat) : Option (Dg) :=
 (Option.bind (uG (cs0, n1) (0, ([.int .i64 0] : LA_), 1)) (Sum.elim (fun e1 => none) (fun e1 => (some (e1.1, e1.2.1, e1.2.2.1, e1.2.2.2.1, e1.2.2.2.2.1, e1.2.2.2.2.2.1, e1.2.2.2.2.2.2.1, e1.2.2.2.2.2.2.2.1, e1.2.2.2.2.2.2.2.2.1, e1.2.2.2.2.2.2.2.2.2.1, e1.2.2.2.2.2.2.2.2.2.2.1, e1.2.2.2.2.2.2.2.2.2.2.2.1, e1.2.2.2.2.2.2.2.2.2.2.2.2.1, e1.2.2.2.2.2.2.2.2.2.2.2.2.2.1, e1.2.2.2.2.2.2.2.2.2.2.2.2.2.2.1, e1.2.2.2.2.2.2.2.2.2.2.2.2.2.2.2.1, e1.2.2.2.2.2.2.2.2.2.2.2.2.2.2.2.2.1, e1.2.2.2.2.2.2.2.2.2.2.2.2.2.2.2.2.2.1, e1.2.2.2.2.2.2.2.2.2.2.2.2.2.2.2.2.2.2.1, e1.2.2.2.2.2.2.2.2.2.2.2.2.2.2.2.2.2.2.2.1, e1.2.2.2.2.2.2.2.2.2.2.2.2.2.2.2.2.2.2.2.2.1, e1.2.2.2.2.2.2.2.2.2.2.2.2.2.2.2.2.2.2.2.2.2.1, e1.2.2.2.2.2.2.2.2.2.2.2.2.2.2.2.2.2.2.2.2.2.2.1, e1.2.2.2.2.2.2.2.2.2.2.2.2.2.2.2.2.2.2.2.2.2.2.2.1, e1.2.2.2.2.2.2.2.2.2.2.2.2.2.2.2.2.2.2.2.2.2.2.2.2.1, e1.2.2.2.2.2.2.2.2.2.2.2.2.2.2.2.2.2.2.2.2.2.2.2.2.2.1, e1.2.2.2.2.2.2.2.2.2.2.2.2.2.2.2.2.2.2.2.2.2.2.2.2.2.2.1, e1.2.2.2.2.2.2.2.2.2.2.2.2.2.2.2.2.2.2.2.2.2.2.2.2.2.2.2.1, e1.2.2.2.2.2.2.2.2.2.2.2.2.2.2.2.2.2.2.2.2.2.2.2.2.2.2.2.2.1, e1.2.2.2.2.2.2.2.2.2.2.2.2.2.2.2.2.2.2.2.2.2.2.2.2.2.2.2.2.2.1, e1.2.2.2.2.2.2.2.2.2.2.2.2.2.2.2.2.2.2.2.2.2.2.2.2.2.2.2.2.2.2.1, e1.2.2.2.2.2.2.2.2.2.2.2.2.2.2.2.2.2.2.2.2.2.2.2.2.2.2.2.2.2.2.2.1, e1.2.2.2.2.2.2.2.2.2.2.2.2.2.2.2.2.2.2.2.2.2.2.2.2.2.2.2.2.2.2.2.2.2.2, e1.2.2.2.2.2.2.2.2.2.2.2.2.2.2.2.2.2.2.2.2.2.2.2.2.2.2.2.2.2.2.2.2.1, e1.2.2.2.2.2.2.2.2.2.2.2.2.2.2.2.2.2.2.2.2.2.2.2.2.2.2.2.2.2.2.2.2.2.1)))))
def ga : FD where
 X := Dg
 k := 1
 pre := []
 F := fun s => [0, nameAt s 0 [.c 0, .c 32]]
 M := .tup [.agg (rl (.int .u64) 32 [.vec 1]), .int .i64]
 B := [.vec 1 true]
 toL := fun x => [.I x.1, .I x.2.1, .I x.2.2.1, .I x.2.2.2.1, .I x.s4.1, .I x.s4.2.1, .I x.s4.2.2.1, .I x.s4.2.2.2.1, .I x.s8.1, .I x.s8.2.1, .I x.s8.2.2.1, .I x.s8.2.2.2.1, .I x.s8.s4.1, .I x.s8.s4.2.1, .I x.s8.s4.2.2.1, .I x.s8.s4.2.2.2.1, .I x.s16.1, .I x.s16.2.1, .I x.s16.2.2.1, .I x.s16.2.2.2.1, .I x.s16.s4.1, .I x.s16.s4.2.1, .I x.s16.s4.2.2.1, .I x.s16.s4.2.2.2.1, .I x.s16.s8.1, .I x.s16.s8.2.1, .I x.s16.s8.2.2.1, .I x.s16.s8.2.2.2.1, .I x.s16.s8.s4.1, .I x.s16.s8.s4.2.1, .I x.s16.s8.s4.2.2.1, .I x.s16.s8.s4.2.2.2.1, .I x.s16.s16.1, .C x.s16.s16.2.1, .N x.s16.s16.2.2]
 ofL := fun ls => match ls with
  | (.I x0 :: .I x1 :: .I x2 :: .I x3 :: .I x4 :: .I x5 :: .I x6 :: .I x7 :: .I x8 :: .I x9 :: .I x10 :: .I x11 :: .I x12 :: .I x13 :: .I x14 :: .I x15 :: .I x16 :: .I x17 :: .I x18 :: .I x19 :: .I x20 :: .I x21 :: .I x22 :: .I x23 :: .I x24 :: .I x25 :: .I x26 :: .I x27 :: .I x28 :: .I x29 :: .I x30 :: .I x31 :: .I x32 :: .C x33 :: .N x34 :: []) => some (x0, x1, x2, x3, x4, x5, x6, x7, x8, x9, x10, x11, x12, x13, x14, x15, x16, x17, x18, x19, x20, x21, x22, x23, x24, x25, x26, x27, x28, x29, x30, x31, x32, x33, x34)
  | _ => none
 au := fun ls x h => by
  split at h
  ·cases h; rfl
  ·cases h
theorem Je (cs0 : LA_) (n1 : Nat) (x : Dg) (h : vQ cs0 n1 = some x) : aX Tryz.prog 34 1 [.vec 0] [.vec cs0 n1 3 false] ga x :=
 FD.sem (ch := lu) (A := dW [(5, sS.la), (12, qK.la), (3, z7.la)]) (fn := Tryz.f34) (c := bq Tryz.f34) (fuel := 60) aL kJ mixed bE ga Tryz.func34 (by kernel_rfl) (aJ (l := [aK Tryz.f34 0, aK Tryz.f34 1, aK Tryz.f34 2]) (by kernel_rfl) ⟨bR (by kernel_rfl) Gr, bR (by kernel_rfl) wF, bR (by kernel_rfl) vy, trivial⟩)
  (by kernel_rfl) (Eq.trans (by kernel_rfl) h)
def kH (cs0 : LA_) (n1 : Nat) : Option (yx) := Option.bind (vQ cs0 n1) fun (x0, x1, x2, x3, x4, x5, x6, x7, x8, x9, x10, x11, x12, x13, x14, x15, x16, x17, x18, x19, x20, x21, x22, x23, x24, x25, x26, x27, x28, x29, x30, x31, x32, x33, x34) => ag (ok8 x0 x1 x2 x3 x4 x5 x6 x7 && ok8 x8 x9 x10 x11 x12 x13 x14 x15 && ok8 x16 x17 x18 x19 x20 x21 x22 x23 && ok8 x24 x25 x26 x27 x28 x29 x30 x31) (some ((num x0 x1 x2 x3 x4 x5 x6 x7), (num x8 x9 x10 x11 x12 x13 x14 x15), (num x16 x17 x18 x19 x20 x21 x22 x23), (num x24 x25 x26 x27 x28 x29 x30 x31), x32, x33, x34))
def wJ : FD := ⟨yx, ga.k, ga.pre, ga.F, ga.M, ga.B, fun y => ga.toL (aZ y.1 (aZ y.2.1 (aZ y.2.2.1 (aZ y.2.2.2.1 (y.s4.1, y.s4.2.1, y.s4.2.2))))), fun _ => none, fun _ _ h => by cases h⟩
theorem KE (cs0 : LA_) (n1 : Nat) {y : yx} (h : kH cs0 n1 = some y) : vQ cs0 n1 = some (aZ y.1 (aZ y.2.1 (aZ y.2.2.1 (aZ y.2.2.2.1 (y.s4.1, y.s4.2.1, y.s4.2.2))))) := by
 unfold kH at h
 obtain ⟨⟨x0, x1, x2, x3, x4, x5, x6, x7, x8, x9, x10, x11, x12, x13, x14, x15, x16, x17, x18, x19, x20, x21, x22, x23, x24, x25, x26, x27, x28, x29, x30, x31, x32, x33, x34⟩, h1, h2⟩ := bE_ h
 obtain ⟨h3, h4⟩ := aM h2
 simp only [Bool.and_eq_true, and_assoc] at h3
 simp only [Option.some.injEq] at h4
 subst h4
 obtain ⟨o0, o1, o2, o3⟩ := h3
 have q0 := aR o0
 have q1 := aR o1
 have q2 := aR o2
 have q3 := aR o3
 rw [h1]
 simp only [aZ, q0, q1, q2, q3]
theorem Jf (cs0 : LA_) (n1 : Nat) (y : yx) (h : kH cs0 n1 = some y) : aX Tryz.prog 34 1 [.vec 0] [.vec cs0 n1 3 false] wJ y := Je cs0 n1 _ (KE cs0 n1 h)
def AW : HK where
 call := fun args σ k => match args with
  | [x0] => cr σ 3 x0 fun cs0 n1 => Option.bind (kH cs0 n1) fun y => az σ 1 (wJ.val y) (wJ.aN y) k
  | _ => none
 nat := fun args σ k => by
  repeat' split
  all_goals simp only [aw, ax, Option.bind_assoc, Option.bind_none, az, Option.bind_some]
 pure := false
 pok := fun h => by cases h
theorem Kz : aT Tryz.prog 34 AW := by
 intro args σ r σ' h
 simp only [AW] at h
 split at h
 ·rename_i x0
  obtain ⟨cs0, n1, he0, hf0, h⟩ := bf h
  obtain ⟨y, hy, h⟩ := bE_ h
  exact lifted (xs := [x0]) (ls := [.vec cs0 n1 3 false]) (cargs := [.vec 0]) (bt.of ⟨⟨rfl, he0, hf0, by decide⟩, trivial⟩) rfl (Jf cs0 n1 y hy) rfl rfl rfl rfl h
 ·cases h
def cC (l : List Nat) : LA_ := ics (l.map fun i => ((i : Nat) : Int))
theorem NI {l : List Nat} {i : Nat} (h : i < l.length) : (cC l)[i * 1 + 0]? = some (.int .i64 ((l.getD i 0 : Nat) : Int)) := by
 simp [cC, ics, List.getElem?_map, List.getElem?_eq_getElem h, List.getD_eq_getElem?_getD]
theorem nig {l : List Nat} {i : Nat} (h : i < l.length) : ac (cC l) (i * 1 + 0) = ((l.getD i 0 : Nat) : Int) := by unfold ac; rw [NI h]
theorem Rj {l : List Nat} {i : Nat} (h : i < l.length) : an [.int .i64] (cC l) (i * 1) = true := by
 have := NI h
 simp only [Nat.mul_one, Nat.add_zero] at this
 simp [an, this, isK]
theorem Rk (a b : List Nat) : cC (a ++ b) = cC a ++ cC b := by simp [cC, ics]
theorem Rl (l : List Pt) (a b : List Nat) : pick l (a ++ b) = pick l a ++ pick l b := by simp [pick]
theorem NJ {l : List Nat} {n i : Nat} (hb : ∀ x ∈ l, x < n) (h : i < l.length) : l.getD i 0 < n := by
 rw [List.getD_eq_getElem?_getD, List.getElem?_eq_getElem h]; exact hb _ (List.getElem_mem h)
theorem take_succ {l : List Nat} {i : Nat} (h : i < l.length) : l.take (i + 1) = l.take i ++ [l.getD i 0] := by
 rw [List.take_add_one, List.getElem?_eq_getElem h]; simp [List.getD_eq_getElem?_getD, List.getElem?_eq_getElem h]
theorem P8 {l : List Pt} {at_ : List Nat} (hb : ∀ x ∈ at_, x < l.length) (h5 : at_.length ≤ 100) (st : Int) :
  Ct (pcs l, l.length, st, cC at_, at_.length, ((at_.length : Nat) : Int)) ([], 0, 0) = some (pcs (pick l at_), at_.length) := by
 have key : ∀ (n i : Nat), at_.length - i = n → i ≤ at_.length → iter (nE (pcs l, l.length, st, cC at_, at_.length, ((at_.length : Nat) : Int))) (n + 1) (pcs (pick l (at_.take i)), i, (i : Int)) = some (pcs (pick l at_), at_.length) := by
  intro n
  induction n with
  | zero =>
   intro i hn hi
   have he : i = at_.length := by omega
   subst he
   refine cB 0 ?_
   simp only [nE, fI, decide_eq_false (show ¬ ((at_.length : Int) < ((at_.length : Nat) : Int)) by omega), cond_false, List.take_length]
  | succ n ih =>
   intro i hn hi
   have h : i < at_.length := by omega
   have wr : IntKind.wrap .i64 ((i : Int) + 1) = ((i + 1 : Nat) : Int) := by rw [bV (by omega)]; omega
   have hk := NJ hb h
   have d2 : decide (2 * (i + 1) * 24 ≤ 2 ^ 48) = true := decide_eq_true (by omega)
   refine bN ?_ (ih (i + 1) (by omega) (by omega))
   simp only [nE, fI, decLt h, fk, cond_true, Bool.and_self, aA, fZ, Rj h, nig h, decLt hk, pro hk, pg0 hk, pg1 hk, pg2 hk, d2, wr, take_succ h, Rl, AN]
   rfl
 have := key at_.length 0 (by omega) (by omega)
 exact dI (by unfold me; omega) this
theorem Rm {l : List Pt} {at_ ch : List Nat} (hb : ∀ x ∈ ch, x < at_.length) (h5 : ch.length ≤ 100) (st : Int) (N : Pt) (D : Int) :
  z6 (pcs l, l.length, st, cC at_, at_.length, aa N.1 0, aa N.1 1, aa N.1 2, aa N.1 3, aa N.1 4, aa N.1 5, aa N.1 6, aa N.1 7, aa N.2.1 0, aa N.2.1 1, aa N.2.1 2, aa N.2.1 3, aa N.2.1 4, aa N.2.1 5, aa N.2.1 6, aa N.2.1 7, aa N.2.2 0, aa N.2.2 1, aa N.2.2 2, aa N.2.2 3, aa N.2.2 4, aa N.2.2 5, aa N.2.2 6, aa N.2.2 7, aa D 0, aa D 1, aa D 2, aa D 3, aa D 4, aa D 5, aa D 6, aa D 7, cC ch, ch.length, ((ch.length : Nat) : Int)) ([], 0, 0) = some (cC (ch.map fun i => at_.getD i 0), ch.length) := by
 have key : ∀ (n i : Nat), ch.length - i = n → i ≤ ch.length → iter (ml (pcs l, l.length, st, cC at_, at_.length, aa N.1 0, aa N.1 1, aa N.1 2, aa N.1 3, aa N.1 4, aa N.1 5, aa N.1 6, aa N.1 7, aa N.2.1 0, aa N.2.1 1, aa N.2.1 2, aa N.2.1 3, aa N.2.1 4, aa N.2.1 5, aa N.2.1 6, aa N.2.1 7, aa N.2.2 0, aa N.2.2 1, aa N.2.2 2, aa N.2.2 3, aa N.2.2 4, aa N.2.2 5, aa N.2.2 6, aa N.2.2 7, aa D 0, aa D 1, aa D 2, aa D 3, aa D 4, aa D 5, aa D 6, aa D 7, cC ch, ch.length, ((ch.length : Nat) : Int))) (n + 1) (cC ((ch.take i).map fun i => at_.getD i 0), i, (i : Int)) = some (cC (ch.map fun i => at_.getD i 0), ch.length) := by
  intro n
  induction n with
  | zero =>
   intro i hn hi
   have he : i = ch.length := by omega
   subst he
   refine cB 0 ?_
   simp only [ml, eY, decide_eq_false (show ¬ ((ch.length : Int) < ((ch.length : Nat) : Int)) by omega), cond_false, List.take_length]
  | succ n ih =>
   intro i hn hi
   have h : i < ch.length := by omega
   have wr : IntKind.wrap .i64 ((i : Int) + 1) = ((i + 1 : Nat) : Int) := by rw [bV (by omega)]; omega
   have hk := NJ hb h
   have d2 : decide (2 * (i + 1) * 8 ≤ 2 ^ 48) = true := decide_eq_true (by omega)
   refine bN ?_ (ih (i + 1) (by omega) (by omega))
   simp only [ml, eY, decLt h, fk, cond_true, Bool.and_self, aA, fZ, Rj h, nig h, decLt hk, Rj hk, nig hk, d2, wr, take_succ h, List.map_append, Rk]
   rfl
 have := key ch.length 0 (by omega) (by omega)
 exact dI (by unfold me; omega) this
theorem P9 {l : List Pt} {N : Pt} {D : Int} (hok : aD l = true) (h1 : 1 ≤ l.length) (hl : l.length < 1000000000) (hN : PtB 240 N) (cs : LA_) (n : Nat) :
  ∃ k : Nat, k < l.length ∧ uF N.1 N.2.1 N.2.2 D cs n (pcs l) l.length = some (k : Int) ∧ ∀ p ∈ l, ae N (pat l k) ≤ ae N p := by
 haveI n1 : Sm 240 N.1 := ⟨hN.h.1⟩
 haveI n2 : Sm 240 N.2.1 := ⟨hN.h.2.1⟩
 haveI n3 : Sm 240 N.2.2 := ⟨hN.h.2.2⟩
 have along : ∀ {i : Nat}, i < l.length → nF (aa N.1 0) (aa N.1 1) (aa N.1 2) (aa N.1 3) (aa N.1 4) (aa N.1 5) (aa N.1 6) (aa N.1 7) (aa N.2.1 0) (aa N.2.1 1) (aa N.2.1 2) (aa N.2.1 3) (aa N.2.1 4) (aa N.2.1 5) (aa N.2.1 6) (aa N.2.1 7) (aa N.2.2 0) (aa N.2.2 1) (aa N.2.2 2) (aa N.2.2 3) (aa N.2.2 4) (aa N.2.2 5) (aa N.2.2 6) (aa N.2.2 7) (pat l i).1 (pat l i).2.1 (pat l i).2.2 = some (ae N (pat l i)) ∧ fit (ae N (pat l i)) := by
  intro i h
  have hq := PtB.of (eh hok h)
  haveI p1 : Sm 28 (pat l i).1 := ⟨hq.h.1⟩
  haveI p2 : Sm 28 (pat l i).2.1 := ⟨hq.h.2.1⟩
  haveI p3 : Sm 28 (pat l i).2.2 := ⟨hq.h.2.2⟩
  exact ⟨Kx (Sm.fit (by decide)) (Sm.fit (by decide)) (Sm.fit (by decide)) (p1.rng (by decide)) (p2.rng (by decide)) (p3.rng (by decide)) (Sm.fit (by decide)) (Sm.fit (by decide)) (Sm.fit (by decide)) (Sm.fit (by decide)) (Sm.fit (by decide)), Sm.fit (k := 270) (by decide)⟩
 have e0 : (([.int .u64 0, .int .u64 0, .int .u64 0, .int .u64 0, .int .u64 0, .int .u64 0, .int .u64 0, .int .u64 0] : LA_)) = wcs [0] := by simp only [wcs, f0]
 have main : ∃ e, wK (aa N.1 0, aa N.1 1, aa N.1 2, aa N.1 3, aa N.1 4, aa N.1 5, aa N.1 6, aa N.1 7, aa N.2.1 0, aa N.2.1 1, aa N.2.1 2, aa N.2.1 3, aa N.2.1 4, aa N.2.1 5, aa N.2.1 6, aa N.2.1 7, aa N.2.2 0, aa N.2.2 1, aa N.2.2 2, aa N.2.2 3, aa N.2.2 4, aa N.2.2 5, aa N.2.2 6, aa N.2.2 7, aa D 0, aa D 1, aa D 2, aa D 3, aa D 4, aa D 5, aa D 6, aa D 7, cs, n, 1, pcs l, l.length, ((l.length : Nat) : Int)) (-1, wcs [0], 0) = some e ∧ ∃ k : Nat, e = (k : Int) ∧ k < l.length ∧ ∀ p ∈ l, ae N (pat l k) ≤ ae N p := by
  refine gp (step := fp (aa N.1 0, aa N.1 1, aa N.1 2, aa N.1 3, aa N.1 4, aa N.1 5, aa N.1 6, aa N.1 7, aa N.2.1 0, aa N.2.1 1, aa N.2.1 2, aa N.2.1 3, aa N.2.1 4, aa N.2.1 5, aa N.2.1 6, aa N.2.1 7, aa N.2.2 0, aa N.2.2 1, aa N.2.2 2, aa N.2.2 3, aa N.2.2 4, aa N.2.2 5, aa N.2.2 6, aa N.2.2 7, aa D 0, aa D 1, aa D 2, aa D 3, aa D 4, aa D 5, aa D 6, aa D 7, cs, n, 1, pcs l, l.length, ((l.length : Nat) : Int)))
   (fun v => ∃ i : Nat, v.2.2 = (i : Int) ∧ i ≤ l.length ∧ ((i = 0 ∧ v.1 = -1 ∧ v.2.1 = wcs [0]) ∨ ∃ k : Nat, v.1 = (k : Int) ∧ k < i ∧ v.2.1 = wcs [ae N (pat l k)] ∧ ∀ j, j < i → ae N (pat l k) ≤ ae N (pat l j))) (fun v => ((l.length : Int) - v.2.2).toNat) _ ?_
   (Nat.lt_of_le_of_lt (show ((l.length : Int) - 0).toNat ≤ 1000000000 by omega) (by decide)) ⟨0, rfl, by omega, .inl ⟨rfl, rfl, rfl⟩⟩
  rintro ⟨b, far, v⟩ ⟨i, rfl, hi, hinv⟩
  by_cases h : i < l.length
  ·obtain ⟨ha, hfit⟩ := along h
   have wr : IntKind.wrap .i64 ((i : Int) + 1) = ((i + 1 : Nat) : Int) := by rw [bV (by omega)]; omega
   have s1 : ∀ x r : Int, spliced (wcs [x]) 0 [.int .u64 (aa r 0), .int .u64 (aa r 1), .int .u64 (aa r 2), .int .u64 (aa r 3), .int .u64 (aa r 4), .int .u64 (aa r 5), .int .u64 (aa r 6), .int .u64 (aa r 7)] = wcs [r] := fun _ _ => rfl
   have l8 : ∀ z : Int, decide (0 + 8 ≤ List.length (wcs [z])) = true := fun _ => rfl
   have r0 : ∀ z : Int, an k8 (wcs [z]) 0 = true := fun z => wro (l := [z]) (i := 0) (by simp)
   rcases hinv with ⟨rfl, rfl, rfl⟩ | ⟨k, hk, hki, rfl, hmin⟩
   ·refine .inl ⟨(((0 : Nat) : Int), wcs [ae N (pat l 0)], ((0 + 1 : Nat) : Int)), ?_, ⟨1, rfl, by omega, .inr ⟨0, rfl, by omega, rfl, fun j hj => ?_⟩⟩, by simp only; omega⟩
    ·simp only [fp, cN, decLt h, fk, cond_true, Bool.and_self, aA, fZ, pro h, pg0 h, pg1 h, pg2 h, ha, Option.bind_some, show decide ((-1 : Int) < 0) = true from rfl, l8, s1, wr]
    ·obtain rfl : j = 0 := by omega
     exact Int.le_refl _
   ·simp only at hk
    subst hk
    have hfk := (along (show k < l.length by omega)).2
    have hc := NF hfit hfk
    have hc' : Gs (aa (ae N (pat l i)) 0) (aa (ae N (pat l i)) 1) (aa (ae N (pat l i)) 2) (aa (ae N (pat l i)) 3) (aa (ae N (pat l i)) 4) (aa (ae N (pat l i)) 5) (aa (ae N (pat l i)) 6) (aa (ae N (pat l i)) 7) (ac (wcs [ae N (pat l k)]) 0) (ac (wcs [ae N (pat l k)]) 1) (ac (wcs [ae N (pat l k)]) 2) (ac (wcs [ae N (pat l k)]) 3) (ac (wcs [ae N (pat l k)]) 4) (ac (wcs [ae N (pat l k)]) 5) (ac (wcs [ae N (pat l k)]) 6) (ac (wcs [ae N (pat l k)]) 7) = some (sgn (ae N (pat l i) - ae N (pat l k))) := hc
    have kneg : decide (((k : Nat) : Int) < 0) = false := decide_eq_false (by omega)
    by_cases hlt : ae N (pat l i) < ae N (pat l k)
    ·have hs : decide (sgn (ae N (pat l i) - ae N (pat l k)) < 0) = true := by
      have : ae N (pat l i) - ae N (pat l k) < 0 := by omega
      simp [sgn, this]
     refine .inl ⟨(((i : Nat) : Int), wcs [ae N (pat l i)], ((i + 1 : Nat) : Int)), ?_, ⟨i + 1, rfl, by omega, .inr ⟨i, rfl, by omega, rfl, fun j hj => ?_⟩⟩, by simp only; omega⟩
     ·simp only [fp, cN, decLt h, fk, cond_true, cond_false, Bool.and_self, aA, fZ, pro h, pg0 h, pg1 h, pg2 h, ha, Option.bind_some, kneg, l8, s1, wr, r0, hc', hs]
     ·rcases Nat.lt_or_ge j i with q | q
      ·have := hmin j q; omega
      ·obtain rfl : j = i := by omega
       exact Int.le_refl _
    ·have hs : decide (sgn (ae N (pat l i) - ae N (pat l k)) < 0) = false := by
      have h1 : ¬ ae N (pat l i) - ae N (pat l k) < 0 := by omega
      unfold sgn
      rw [decide_eq_false h1, cond_false]
      by_cases h0 : ae N (pat l i) - ae N (pat l k) = 0
      ·rw [decide_eq_true h0]; rfl
      ·rw [decide_eq_false h0]; rfl
     refine .inl ⟨(((k : Nat) : Int), wcs [ae N (pat l k)], ((i + 1 : Nat) : Int)), ?_, ⟨i + 1, rfl, by omega, .inr ⟨k, rfl, by omega, rfl, fun j hj => ?_⟩⟩, by simp only; omega⟩
     ·simp only [fp, cN, decLt h, fk, cond_true, cond_false, Bool.and_self, aA, fZ, pro h, pg0 h, pg1 h, pg2 h, ha, Option.bind_some, kneg, wr, r0, hc', hs]
     ·rcases Nat.lt_or_ge j i with q | q
      ·exact hmin j q
      ·obtain rfl : j = i := by omega
       omega
  ·have hi' : i = l.length := by omega
   subst hi'
   rcases hinv with ⟨h0, _⟩ | ⟨k, hk, hki, rfl, hmin⟩
   ·omega
   ·simp only at hk
    subst hk
    refine .inr ⟨((k : Nat) : Int), ?_, k, rfl, hki, fun p hp => ?_⟩
    ·simp only [fp, cN, decide_eq_false (show ¬ ((l.length : Int) < ((l.length : Nat) : Int)) by omega), cond_false]
    ·obtain ⟨j, hj, rfl⟩ := List.getElem_of_mem hp
     have := hmin j hj
     simpa [pat, List.getD_eq_getElem?_getD, List.getElem?_eq_getElem hj] using this
 obtain ⟨e, he, k, rfl, hk, hmin⟩ := main
 refine ⟨k, hk, ?_, hmin⟩
 unfold uF pj
 unfold v8
 rw [e0, he]
 rfl
theorem S7 {n : Nat} (h1 : 1 ≤ n) (h : n ≤ 64) : qH ((n : Nat) : Int) = some ((ky n).length : Int) := by
 have c1 := Lf n
 have c2 := Lg n
 have c3 := Lh n
 have c4 := OW n
 have hn0 : (0 : Int) ≤ n := by omega
 have hn1 : (0 : Int) ≤ (n : Int) - 1 := by omega
 have b2 : (n : Int) * (n - 1) ≤ 64 * 64 := Int.mul_le_mul (by omega) (by omega) hn1 (by decide)
 have e3 : ((comb n 2).length : Int) * (n - 2) = 3 * ((comb n 3).length : Int) := by
  have : 2 * (((comb n 2).length : Int) * (n - 2)) = 2 * (3 * ((comb n 3).length : Int)) := by grind
  omega
 have e4 : ((comb n 3).length : Int) * (n - 3) = 4 * ((comb n 4).length : Int) := by
  have : 6 * (((comb n 3).length : Int) * (n - 3)) = 6 * (4 * ((comb n 4).length : Int)) := by grind
  omega
 have u2 : ((comb n 2).length : Int) ≤ 4096 := by omega
 have b3 : ((comb n 2).length : Int) * (n - 2) ≤ 4096 * 64 := by
  rcases Int.le_total 0 ((n : Int) - 2) with q | q
  ·exact Int.mul_le_mul u2 (by omega) q (by decide)
  ·have := Int.mul_nonpos_of_nonneg_of_nonpos (show (0 : Int) ≤ ((comb n 2).length : Int) by omega) q
   omega
 have u3 : ((comb n 3).length : Int) ≤ 262144 := by omega
 have b4 : ((comb n 3).length : Int) * (n - 3) ≤ 262144 * 64 := by
  rcases Int.le_total 0 ((n : Int) - 3) with q | q
  ·exact Int.mul_le_mul u3 (by omega) q (by decide)
  ·have := Int.mul_nonpos_of_nonneg_of_nonpos (show (0 : Int) ≤ ((comb n 3).length : Int) by omega) q
   omega
 have u4 : ((comb n 4).length : Int) ≤ 16777216 := by omega
 have w : ∀ {x : Int}, 0 ≤ x → x ≤ 1000000000 → IntKind.wrap .i64 x = x := fun {x} q1 q2 => bV (by omega)
 have w' : ∀ {x : Int}, -100 ≤ x → x ≤ 1000000000 → IntKind.wrap .i64 x = x := fun {x} q1 q2 => bV (by omega)
 have t2 : Int.tdiv ((n : Int) * (n - 1)) 2 = ((comb n 2).length : Int) := by rw [← c2]; exact Int.mul_tdiv_cancel_left _ (by decide)
 have t3 : Int.tdiv (((comb n 2).length : Int) * (n - 2)) 3 = ((comb n 3).length : Int) := by rw [e3]; exact Int.mul_tdiv_cancel_left _ (by decide)
 have t4 : Int.tdiv (((comb n 3).length : Int) * (n - 3)) 4 = ((comb n 4).length : Int) := by rw [e4]; exact Int.mul_tdiv_cancel_left _ (by decide)
 unfold qH
 rw [w' (x := (n : Int) - 1) (by omega) (by omega), w (x := (n : Int) * (n - 1)) (by omega) (by omega), t2, w (x := ((comb n 2).length : Int)) (by omega) (by omega),
  w' (x := (n : Int) - 2) (by omega) (by omega), w' (x := ((comb n 2).length : Int) * (n - 2)) (by omega) (by omega), t3, w (x := ((comb n 3).length : Int)) (by omega) (by omega),
  w' (x := (n : Int) - 3) (by omega) (by omega), w' (x := ((comb n 3).length : Int) * (n - 3)) (by omega) (by omega), t4, w (x := ((comb n 4).length : Int)) (by omega) (by omega),
  w (x := (n : Int) + ((comb n 2).length : Int)) (by omega) (by omega), w (x := (n : Int) + ((comb n 2).length : Int) + ((comb n 3).length : Int)) (by omega) (by omega),
  w (x := (n : Int) + ((comb n 2).length : Int) + ((comb n 3).length : Int) + ((comb n 4).length : Int)) (by omega) (by omega)]
 unfold ky
 simp only [List.length_append, Int.natCast_add, c1]
theorem Hv (a b : Int) : aH a b = some (decide (a < b)) := by
 have n : ∀ x : Int, gt x = some false := by intro x; simp [gt]
 unfold aH
 rw [n, Option.bind_some]
 cases decide (a < b) <;> rfl
def qv (l : List Pt) (o : List Nat) : Int := ae (bG (pick l o)) (bG (pick l o))
def dvv (l : List Pt) (o : List Nat) : Int := (wts (pick l o)).2
theorem wn {l : List Pt} {o : List Nat} (h : val (pick l o)) : 0 < dvv l o := qu h.1
def nlt (l : List Pt) (u o : List Nat) : Prop := val (pick l u) ∧ qv l u * (dvv l o * dvv l o) < qv l o * (dvv l u * dvv l u)
theorem NK {l : List Pt} {o : List Nat} : ¬ nlt l o o := fun h => Int.lt_irrefl _ h.2
theorem Qa {l : List Pt} {u v o : List Nat} (hv : val (pick l v)) (ho : val (pick l o)) (h1 : nlt l u v) (h2 : nlt l v o) : nlt l u o := by
 refine ⟨h1.1, ?_⟩
 have a := Int.mul_pos (wn h1.1) (wn h1.1)
 have b := Int.mul_pos (wn hv) (wn hv)
 have c := Int.mul_pos (wn ho) (wn ho)
 have k1 := Int.mul_lt_mul_of_pos_right h1.2 c
 have k2 := Int.mul_lt_mul_of_pos_right h2.2 a
 generalize dvv l u * dvv l u = A at *
 generalize dvv l v * dvv l v = B at *
 generalize dvv l o * dvv l o = C at *
 have e1 : qv l u * B * C = (qv l u * C) * B := by grind
 have e2 : qv l v * A * C = qv l v * C * A := by grind
 have e3 : qv l o * B * A = (qv l o * A) * B := by grind
 exact Int.lt_of_mul_lt_mul_right (show (qv l u * C) * B < (qv l o * A) * B by omega) (Int.le_of_lt b)
open Classical in
def xL (l : List Pt) (o : List Nat) : Nat := (ky l.length).countP fun u => decide (nlt l u o)
theorem Qb {l : List Pt} {o o' : List Nat} (ho : val (pick l o)) (ho' : val (pick l o')) (hm : o' ∈ ky l.length) (h : nlt l o' o) : xL l o' < xL l o := by
 unfold xL
 refine Hw (x := o') (fun y _ hy => ?_) hm (by simpa using h) (by simpa using NK)
 simp only [decide_eq_true_eq] at hy ⊢
 exact Qa ho' ho hy h
theorem Qc {T : List Pt} (hi : ind T) (h4 : T.length = 4) (p : Pt) : ae p (bG T) = ae (T.headD (0, 0, 0)) (bG T) := by
 by_cases h : ae p (bG T) = ae (T.headD (0, 0, 0)) (bG T)
 ·exact h
 ·exfalso
  have := MC (p := p) hi (yZ T (by omega) (by omega)) h
  match T, h4 with
  | [_, _, _, _], _ => exact this
theorem Qd {m : Nat} {ch : List Nat} (h : ch ∈ chs m) : 1 ≤ ch.length ∧ ch.length ≤ m ∧ m ≤ 4 ∧ dq ch ∧ ∀ x ∈ ch, x < m := by
 unfold dq
 have key : ∀ m ≤ 4, ∀ ch ∈ chs m, 1 ≤ ch.length ∧ ch.length ≤ m ∧ m ≤ 4 ∧ ch.Pairwise (· < ·) ∧ ∀ x ∈ ch, x < m := by decide
 have hm : m ≤ 4 := by
  unfold chs at h
  split at h <;> first | omega | (simp at h)
 exact key m hm ch h
def sel (at_ ch : List Nat) : List Nat := ch.map fun i => at_.getD i 0
theorem S8 (at_ ch : List Nat) : (sel at_ ch).length = ch.length := by simp [sel]
theorem S9 {at_ ch : List Nat} (hb : ∀ x ∈ ch, x < at_.length) : ∀ x ∈ sel at_ ch, x ∈ at_ := by
 intro x hx
 simp only [sel, List.mem_map] at hx
 obtain ⟨i, hi, rfl⟩ := hx
 rw [List.getD_eq_getElem?_getD, List.getElem?_eq_getElem (hb i hi)]
 exact List.getElem_mem _
theorem OX {at_ ch : List Nat} (ha : dq at_) (hc : dq ch) (hb : ∀ x ∈ ch, x < at_.length) : dq (sel at_ ch) := by
 unfold dq sel at *
 rw [List.pairwise_map]
 refine List.Pairwise.imp_of_mem ?_ hc
 intro a b hma hmb hlt
 have h1 := hb a hma
 have h2 := hb b hmb
 rw [List.getD_eq_getElem?_getD, List.getD_eq_getElem?_getD, List.getElem?_eq_getElem h1, List.getElem?_eq_getElem h2]
 exact List.pairwise_iff_getElem.1 ha a b h1 h2 hlt
theorem Rn {l : List Pt} {at_ ch : List Nat} (hb : ∀ x ∈ ch, x < at_.length) : pick (pick l at_) ch = pick l (sel at_ ch) := by
 unfold pick sel
 rw [List.map_map]
 refine List.map_congr_left fun i hi => ?_
 have h := hb i hi
 simp [pat, List.getD_eq_getElem?_getD, List.getElem?_map, List.getElem?_eq_getElem h]
theorem MD (l : List Pt) (o : List Nat) : (pick l o).length = o.length := by simp [pick]
theorem Ta {l : List Pt} {o : List Nat} (hok : aD l = true) (hb : ∀ x ∈ o, x < l.length) : aD (pick l o) = true := by
 unfold aD pick
 rw [List.all_eq_true]
 intro p hp
 obtain ⟨i, hi, rfl⟩ := List.mem_map.1 hp
 exact eh hok (hb i hi)
theorem Hx {l : List Pt} {o : List Nat} {k : Nat} (h : k ∈ o) : pat l k ∈ pick l o := List.mem_map.2 ⟨k, h, rfl⟩
structure Own (l : List Pt) (o : List Nat) : Prop where
 v : val (pick l o)
 r : dq o
 b : ∀ x ∈ o, x < l.length
 n1 : 1 ≤ o.length
 n4 : o.length ≤ 4
theorem Own.mem {l : List Pt} {o : List Nat} (h : Own l o) : o ∈ ky l.length := Ro h.n1 h.n4 h.r h.b
def lev (l : List Pt) (o : List Nat) : Int := ae ((pick l o).headD (0, 0, 0)) (bG (pick l o))
structure Hd (l : List Pt) (st : Nat) (at_ : List Nat) : Prop where
 r : dq at_
 b : ∀ x ∈ at_, x < l.length
 n1 : 1 ≤ at_.length
 n4 : at_.length ≤ 4
 c : st = 0 ∨ ∃ o k, Own l o ∧ at_ = ins k o ∧ ae (pat l k) (bG (pick l o)) < lev l o ∧ st + xL l o ≤ (ky l.length).length
theorem Hd.OY {l : List Pt} {st : Nat} {at_ o' : List Nat} (h : Hd l st at_) (ho : Own l o') (hn : tu (pick l at_) (pick l o')) : st + 1 + xL l o' ≤ (ky l.length).length := by
 rcases h.c with rfl | ⟨o, k, hO, rfl, hp, hc⟩
 ·have : xL l o' < (ky l.length).length := by
   unfold xL
   have hle := List.countP_le_length (p := fun u => (Classical.propDecidable (nlt l u o')).decide) (l := ky l.length)
   have := Hw (p := fun u => (Classical.propDecidable (nlt l u o')).decide) (q := fun _ => true) (l := ky l.length) (x := o') (fun _ _ _ => rfl) ho.mem rfl (by simpa using NK)
   simp only [List.countP_true] at this
   exact this
  omega
 ·have f := Go.Ev.OY (Nst.of hO.v.1 hO.v.2) (Nst.of ho.v.1 ho.v.2) (k := pat l k) (fun p hpm => by
    obtain ⟨i, hi, rfl⟩ := List.mem_map.1 hpm
    exact hn _ (Hx (AO.2 (.inr hi)))) (hn _ (Hx (AO.2 (.inl rfl)))) hp
  have : nlt l o' o := ⟨ho.v, f⟩
  have := Qb hO.v ho.v ho.mem this
  omega
structure Wk (l : List Pt) (o : List Nat) (N : Pt) (D : Int) (st : Nat) : Prop where
 own : Own l o
 Ut : Prim (bG (pick l o)) (wts (pick l o)).2 N D
 none : tu l (pick l o)
 sN : PtB 240 N
 sD : sm 190 D
 s1 : 1 ≤ st
 sU : st ≤ (ky l.length).length
theorem NL {l : List Pt} (h1 : 1 ≤ l.length) (h64 : l.length ≤ 64) : (ky l.length).length ≤ 720000 := by
 have e := Rp l.length
 have b1 : (l.length : Int) * ((l.length : Int) - 1) ≤ 64 * 64 := Int.mul_le_mul (by omega) (by omega) (by omega) (by decide)
 have b2 : (l.length : Int) * ((l.length : Int) - 1) * ((l.length : Int) - 2) ≤ 64 * 64 * 64 := by
  rcases Int.le_total 0 ((l.length : Int) - 2) with q | q
  ·exact Int.mul_le_mul b1 (by omega) q (by decide)
  ·have := Int.mul_nonpos_of_nonneg_of_nonpos (Int.mul_nonneg (show (0 : Int) ≤ l.length by omega) (show (0 : Int) ≤ (l.length : Int) - 1 by omega)) q
   omega
 have b3 : (l.length : Int) * ((l.length : Int) - 1) * ((l.length : Int) - 2) * ((l.length : Int) - 3) ≤ 64 * 64 * 64 * 61 := by
  rcases Int.le_total 0 ((l.length : Int) - 3) with q | q
  ·exact Int.mul_le_mul b2 (by omega) q (by decide)
  ·have := Int.mul_nonpos_of_nonneg_of_nonpos (Int.mul_nonneg (Int.mul_nonneg (show (0 : Int) ≤ l.length by omega) (show (0 : Int) ≤ (l.length : Int) - 1 by omega)) (show (0 : Int) ≤ (l.length : Int) - 2 + 1 by omega)) q
   by_cases h2 : (l.length : Int) - 2 < 0
   ·have hl1 : (l.length : Int) = 1 := by omega
    rw [hl1]; decide
   ·have := Int.mul_nonpos_of_nonneg_of_nonpos (Int.mul_nonneg (Int.mul_nonneg (show (0 : Int) ≤ l.length by omega) (show (0 : Int) ≤ (l.length : Int) - 1 by omega)) (show (0 : Int) ≤ (l.length : Int) - 2 by omega)) q
    omega
 omega
theorem Qe {l : List Pt} (hok : aD l = true) (h1 : 1 ≤ l.length) (h64 : l.length ≤ 64) {st : Nat} {at_ : List Nat} (h : Hd l st at_) :
  (∃ at', dm (pcs l, l.length) (((st : Nat) : Int), cC at_, at_.length) = some (.inl (((st + 1 : Nat) : Int), cC at', at'.length)) ∧ Hd l (st + 1) at' ∧ st + 1 ≤ (ky l.length).length) ∨
  (∃ o N D, Wk l o N D (st + 1) ∧ dm (pcs l, l.length) (((st : Nat) : Int), cC at_, at_.length) = some (.inr (.inr (aa N.1 0, aa N.1 1, aa N.1 2, aa N.1 3, aa N.1 4, aa N.1 5, aa N.1 6, aa N.1 7, aa N.2.1 0, aa N.2.1 1, aa N.2.1 2, aa N.2.1 3, aa N.2.1 4, aa N.2.1 5, aa N.2.1 6, aa N.2.1 7, aa N.2.2 0, aa N.2.2 1, aa N.2.2 2, aa N.2.2 3, aa N.2.2 4, aa N.2.2 5, aa N.2.2 6, aa N.2.2 7, aa D 0, aa D 1, aa D 2, aa D 3, aa D 4, aa D 5, aa D 6, aa D 7, cC o, o.length, ((st + 1 : Nat) : Int))))) := by
 have hS := Ta hok h.b
 have hlen := MD l at_
 obtain ⟨ch, hch, N, D, hnear, hi, ⟨hw, hnp⟩, hP, hN, hD⟩ := P7 hS (by rw [hlen]; exact h.n1) (by rw [hlen]; exact h.n4)
 rw [hlen] at hch hnear
 replace hnear : dM (pcs (pick l at_)) at_.length = some (N.1, N.2.1, N.2.2, D, 0, cC ch, ch.length) := hnear
 obtain ⟨c1, c2, c3, c4, c5⟩ := Qd hch
 rw [Rn c5] at hi hw hnp hP
 have hsl := S8 at_ ch
 generalize ho : sel at_ ch = o at *
 have hO : Own l o := by
  subst ho
  exact ⟨⟨hi, hw⟩, OX h.r c4 c5, fun x hx => h.b x (S9 c5 x hx), by omega, by omega⟩
 have hfall := h.OY hO hnp
 have hsome := P8 (st := ((st : Nat) : Int)) h.b (by have := h.n4; omega)
 have hown := Rm (l := l) (at_ := at_) (ch := ch) c5 (by omega) ((st : Nat) : Int) N D
 have hown' : (ch.map fun i => at_.getD i 0) = o := ho
 rw [hown'] at hown
 have hmost := S7 h1 h64
 obtain ⟨k, hk, hback, hmin⟩ := P9 (D := D) hok h1 (by omega) hN (cC o) ch.length
 have hpast := P5 hN hD (eh hok hk) (cC o) ch.length
 have hst := NL h1 h64
 have wr : IntKind.wrap .i64 (((st : Nat) : Int) + 1) = ((st + 1 : Nat) : Int) := by rw [bV (by omega)]; omega
 have hgt : decide (((st + 1 : Nat) : Int) > ((ky l.length).length : Int)) = false := decide_eq_false (by omega)
 have hz : Nst (pick l o) (wts (pick l o)).1 (bG (pick l o)) (wts (pick l o)).2 (lev l o) := Nst.of hi hw
 have hpi : ∀ p, jV N D p = true ↔ ae p (bG (pick l o)) < lev l o := fun p => hP.Ur hz.OZ hz.sq
 have base : ∀ X, dm (pcs l, l.length) (((st : Nat) : Int), cC at_, at_.length) = X ↔ dm (pcs l, l.length) (((st : Nat) : Int), cC at_, at_.length) = X := fun _ => Iff.rfl
 cases hb : jV N D (pat l k) with
 | false =>
  rw [hb] at hpast
  refine .inr ⟨o, N, D, ⟨hO, hP, fun p hp => ?_, hN, hD, by omega, by omega⟩, ?_⟩
  ·
   have hk' : ¬ ae (pat l k) (bG (pick l o)) < lev l o := fun q => by rw [(hpi _).2 q] at hb; cases hb
   obtain ⟨g, g0, e, _⟩ := hP.ex
   have e2 : ∀ q : Pt, ae q (bG (pick l o)) = g * ae N q := by
    intro q; rw [e]; simp only [ae]; grind
   have := Int.mul_le_mul_of_nonneg_left (hmin p hp) (Int.le_of_lt g0)
   rw [← e2, ← e2] at this
   show lev l o ≤ _
   omega
  ·rw [hsl]
   simp only [dm, dN, hsome, Option.bind_some, hnear, hown, hmost, wr, hgt, cond_false, hback, fk, decLt hk, Bool.and_self, aA, fZ, pro hk, pg0 hk, pg1 hk, pg2 hk, hpast]
 | true =>
  rw [hb] at hpast
  have hp := (hpi _).1 hb
  have hko : k ∉ o := by
   intro hm
   have := hz.lev _ (Hx (l := l) hm)
   omega
  have h3 : o.length ≤ 3 := by
   have := hO.n4
   rcases Nat.lt_or_ge o.length 4 with q | q
   ·omega
   ·have := Qc hi (by rw [MD]; omega) (pat l k)
    unfold lev at hp
    omega
  have H' : Hd l (st + 1) (ins k o) := by
   refine ⟨IS hO.r hko, fun x hx => ?_, by rw [E8]; omega, by rw [E8]; omega, .inr ⟨o, k, hO, rfl, hp, by omega⟩⟩
   rcases AO.1 hx with rfl | hx
   ·exact hk
   ·exact hO.b x hx
  refine .inl ⟨ins k o, ?_, H', by omega⟩
  rw [E8]
  have hcl : ch.length = o.length := hsl.symm
  rw [hcl] at hown hnear hback hpast
  have hr := hO.r
  have hn1 := hO.n1
  clear hP hpi hz hfall hO H' hi hw hnp base
  match o, hn1, h3 with
  | [a], _, _ =>
   simp only [dm, dN, hsome, Option.bind_some, hnear, hown, hmost, wr, hgt, cond_false, hback, fk, decLt hk, Bool.and_self, aA, fZ, pro hk, pg0 hk, pg1 hk, pg2 hk, hpast, cond_true, Hv]
   have e1 : Nat.beq [a].length 1 = true := rfl
   have g0 : ac (cC [a]) 0 = (a : Int) := rfl
   have ro : (an [.int .i64] (cC [a]) 0 && Nat.beq (List.length (cC [a])) 1) = true := rfl
   rw [e1, cond_true, ro, aA, g0]
   unfold ins
   by_cases q : k < a
   ·rw [if_pos q, decide_eq_true (show ((k : Nat) : Int) < (a : Int) by omega)]; rfl
   ·rw [if_neg q, decide_eq_false (show ¬ ((k : Nat) : Int) < (a : Int) by omega)]; rfl
  | [a, b], _, _ =>
   simp only [dm, dN, hsome, Option.bind_some, hnear, hown, hmost, wr, hgt, cond_false, hback, fk, decLt hk, Bool.and_self, aA, fZ, pro hk, pg0 hk, pg1 hk, pg2 hk, hpast, cond_true, Hv]
   have e1 : Nat.beq [a, b].length 1 = false := rfl
   have e2 : Nat.beq [a, b].length 2 = true := rfl
   have g0 : ac (cC [a, b]) 0 = (a : Int) := rfl
   have g1 : ac (cC [a, b]) 1 = (b : Int) := rfl
   have ro : (an [.int .i64, .int .i64] (cC [a, b]) 0 && Nat.beq (List.length (cC [a, b])) 2) = true := rfl
   have hab : a < b := by unfold dq at hr; simp at hr; exact hr
   simp only [List.mem_cons, List.not_mem_nil, or_false, not_or] at hko
   rw [e1, cond_false, e2, cond_true, ro, aA, g0, g1, decide_eq_false (show ¬ (b : Int) < (a : Int) by omega), cond_false]
   unfold ins ins
   by_cases q : k < a
   ·rw [if_pos q, decide_eq_true (show ((k : Nat) : Int) < (b : Int) by omega), decide_eq_true (show ((k : Nat) : Int) < (a : Int) by omega)]; rfl
   ·rw [if_neg q]
    by_cases q2 : k < b
    ·rw [if_pos q2, decide_eq_true (show ((k : Nat) : Int) < (b : Int) by omega), decide_eq_false (show ¬ ((k : Nat) : Int) < (a : Int) by omega)]; rfl
    ·rw [if_neg q2, decide_eq_false (show ¬ ((k : Nat) : Int) < (b : Int) by omega)]; rfl
  | [a, b, c], _, _ =>
   simp only [dm, dN, hsome, Option.bind_some, hnear, hown, hmost, wr, hgt, cond_false, hback, fk, decLt hk, Bool.and_self, aA, fZ, pro hk, pg0 hk, pg1 hk, pg2 hk, hpast, cond_true, Hv]
   have e1 : Nat.beq [a, b, c].length 1 = false := rfl
   have e2 : Nat.beq [a, b, c].length 2 = false := rfl
   have e3 : Nat.beq [a, b, c].length 3 = true := rfl
   have g0 : ac (cC [a, b, c]) 0 = (a : Int) := rfl
   have g1 : ac (cC [a, b, c]) 1 = (b : Int) := rfl
   have g2 : ac (cC [a, b, c]) 2 = (c : Int) := rfl
   have ro : (an ln (cC [a, b, c]) 0 && Nat.beq (List.length (cC [a, b, c])) 3) = true := rfl
   have hab : (a < b ∧ a < c) ∧ b < c := by unfold dq at hr; simp at hr; exact hr
   simp only [List.mem_cons, List.not_mem_nil, or_false, not_or] at hko
   rw [e1, cond_false, e2, cond_false, e3, cond_true, ro, aA, g0, g1, g2, decide_eq_false (show ¬ (b : Int) < (a : Int) by omega), cond_false, decide_eq_false (show ¬ (c : Int) < (b : Int) by omega), cond_false]
   unfold ins ins ins
   by_cases q : k < a
   ·rw [if_pos q, decide_eq_true (show ((k : Nat) : Int) < (c : Int) by omega), decide_eq_true (show ((k : Nat) : Int) < (b : Int) by omega), decide_eq_true (show ((k : Nat) : Int) < (a : Int) by omega)]; rfl
   ·rw [if_neg q]
    by_cases q2 : k < b
    ·rw [if_pos q2, decide_eq_true (show ((k : Nat) : Int) < (c : Int) by omega), decide_eq_true (show ((k : Nat) : Int) < (b : Int) by omega), decide_eq_false (show ¬ ((k : Nat) : Int) < (a : Int) by omega)]; rfl
    ·rw [if_neg q2]
     by_cases q3 : k < c
     ·rw [if_pos q3, decide_eq_true (show ((k : Nat) : Int) < (c : Int) by omega), decide_eq_false (show ¬ ((k : Nat) : Int) < (b : Int) by omega)]; rfl
     ·rw [if_neg q3, decide_eq_false (show ¬ ((k : Nat) : Int) < (c : Int) by omega)]; rfl
  | _ :: _ :: _ :: _ :: _, _, h => simp at h
theorem Uu {l : List Pt} (hok : aD l = true) (h1 : 1 ≤ l.length) (h64 : l.length ≤ 64) :
  ∃ o N D st, Wk l o N D st ∧ kH (pcs l) l.length = some (N.1, N.2.1, N.2.2, D, ((st : Nat) : Int), cC o, o.length) := by
 have main : ∃ e, uG (pcs l, l.length) (((0 : Nat) : Int), cC [0], [0].length) = some e ∧ ∃ o N D st, Wk l o N D st ∧ e = .inr (aa N.1 0, aa N.1 1, aa N.1 2, aa N.1 3, aa N.1 4, aa N.1 5, aa N.1 6, aa N.1 7, aa N.2.1 0, aa N.2.1 1, aa N.2.1 2, aa N.2.1 3, aa N.2.1 4, aa N.2.1 5, aa N.2.1 6, aa N.2.1 7, aa N.2.2 0, aa N.2.2 1, aa N.2.2 2, aa N.2.2 3, aa N.2.2 4, aa N.2.2 5, aa N.2.2 6, aa N.2.2 7, aa D 0, aa D 1, aa D 2, aa D 3, aa D 4, aa D 5, aa D 6, aa D 7, cC o, o.length, ((st : Nat) : Int)) := by
  refine gp (step := dm (pcs l, l.length)) (fun v => ∃ st at_, v = (((st : Nat) : Int), cC at_, at_.length) ∧ Hd l st at_ ∧ st ≤ (ky l.length).length) (fun v => ((ky l.length).length : Int).toNat - v.1.toNat) _ ?_ ?_ ⟨0, [0], rfl, ⟨by simp [dq], by simp; omega, by simp, by simp, .inl rfl⟩, by omega⟩
  ·rintro v ⟨st, at_, rfl, h, hs⟩
   rcases Qe hok h1 h64 h with ⟨at', e1, e2, e3⟩ | ⟨o, N, D, e1, e2⟩
   ·refine .inl ⟨_, e1, ⟨st + 1, at', rfl, e2, e3⟩, ?_⟩
    simp only [Int.toNat_natCast]
    omega
   ·exact .inr ⟨_, e2, o, N, D, st + 1, e1, rfl⟩
  ·have := NL h1 h64
   simp only [Int.toNat_natCast]
   omega
 obtain ⟨e, he, o, N, D, st, hW, rfl⟩ := main
 refine ⟨o, N, D, st, hW, ?_⟩
 have z : uG (pcs l, l.length) (0, ([.int .i64 0] : LA_), 1) = some (.inr (aa N.1 0, aa N.1 1, aa N.1 2, aa N.1 3, aa N.1 4, aa N.1 5, aa N.1 6, aa N.1 7, aa N.2.1 0, aa N.2.1 1, aa N.2.1 2, aa N.2.1 3, aa N.2.1 4, aa N.2.1 5, aa N.2.1 6, aa N.2.1 7, aa N.2.2 0, aa N.2.2 1, aa N.2.2 2, aa N.2.2 3, aa N.2.2 4, aa N.2.2 5, aa N.2.2 6, aa N.2.2 7, aa D 0, aa D 1, aa D 2, aa D 3, aa D 4, aa D 5, aa D 6, aa D 7, cC o, o.length, ((st : Nat) : Int))) := he
 unfold kH vQ
 rw [z]
 simp only [Option.bind_some, Sum.elim_inr, bv, Bool.and_self, aA]
 rw [aG (aY hW.sN.h.1 (by decide)), aG (aY hW.sN.h.2.1 (by decide)), aG (aY hW.sN.h.2.2 (by decide)), aG (aY hW.sD (by decide))]
def uC : CH := (CH.add 13 qD CH.none)
theorem wt : aE Tryz.prog uC := (CH.aj yr CH.aC)
def fF {R : Type} (cc : LA_ × Nat × Int) (v : Int) (kn : (Int) → Option R) (ke : ((Unit) ⊕ (Unit)) → Option R) : Option R :=
 (cond (decide (v < cc.2.2)) (ag (decide (0 ≤ v) && decide (v < ((cc.2.1 : Nat) : Int))) (ag (an ln cc.1 (Int.toNat v * 3)) (Option.bind (jW (ac cc.1 ((Int.toNat v * 3) + 0)) (ac cc.1 ((Int.toNat v * 3) + 1)) (ac cc.1 ((Int.toNat v * 3) + 2))) fun r1 => (cond (r1 != 0) (ke (.inl ())) (kn (IntKind.wrap .i64 (v + 1))))))) (ke (.inr ())))
def jX (cc : LA_ × Nat × Int) (v : Int) : Option ((Int) ⊕ ((Unit) ⊕ (Unit))) := fF cc v (fun v => some (Sum.inl v)) fun e => some (Sum.inr e)
def Cq (cc : LA_ × Nat × Int) (v : Int) : Option ((Unit) ⊕ (Unit)) := dA (jX cc) v
def Ga (cc : LA_ × Nat × Int) (v : Int) : List ai := [.I cc.2.2, .I v, .C cc.1, .N cc.2.1]
def wu (ls : List ai) : Option ((LA_ × Nat × Int) × (Int)) := match ls with
 | [.I x0, .I x1, .C x2, .N x3] => some ((x2, x3, x0), x1)
 | _ => none
def wv (e : (Unit) ⊕ (Unit)) : am := ((Sum.elim (fun e => .ret) (fun e => .exit 0)) e)
def ww (cc : LA_ × Nat × Int) (e : (Unit) ⊕ (Unit)) : List ai := ((Sum.elim (fun e => []) (fun e => [.C cc.1, .N cc.2.1])) e)
def ou (cc : LA_ × Nat × Int) (e : (Unit) ⊕ (Unit)) : List ai := ((Sum.elim (fun e => []) (fun e => [.C cc.1, .N cc.2.1])) e)
def pB (o : am) (ls : List ai) : Option (((Unit) ⊕ (Unit)) × List ai) := match o with
 | .ret => (match ls with
  | [] => some ((.inl ()), [])
  | _ => none)
 | .exit 0 => (match ls with
  | [.C x0, .N x1] => some ((.inr ()), [.C x0, .N x1])
  | _ => none)
 | _ => none
theorem CE : ∀ o ls e cl cc, pB o ls = some (e, cl) → cl = ou cc e → ls = ww cc e ∧ wv e = o ∧ o ≠ .normal ∧ ∀ v, o = .pan v → sc 0 v = true := by
 intro o ls e cl cc h hc
 unfold pB at h
 split at h
 ·split at h
  ·cases h
   exact ⟨rfl, rfl, by simp, by intro v hv; cases hv <;> rfl⟩
  ·cases h
 ·split at h
  ·cases h
   simp only [ou, Sum.elim_inl, Sum.elim_inr, List.cons.injEq, ai.N.injEq, ai.C.injEq, and_true] at hc
   obtain ⟨rfl, rfl⟩ := hc
   exact ⟨rfl, rfl, by simp, by intro v hv; cases hv <;> rfl⟩
  ·cases h
 ·cases h
def HI (o : am) : ExS := match o with
 | .ret => ⟨1, (none :: none :: some (.fG .i64 7) :: (rl none 20 [])), [], fun s => [0], [], []⟩
 | .exit 0 => ⟨1, (some (.vec 0) :: (rl none 22 [])), [(0, .vec 3 false)], fun s => [0], [], []⟩
 | _ => ⟨0, [], [], fun _ => [], [], []⟩
theorem Gb {R : Type} (cc : LA_ × Nat × Int) (v : Int) (kn : (Int) → Option R) (ke : ((Unit) ⊕ (Unit)) → Option R) : fF cc v kn ke = (fF cc v (fun v => some (Sum.inl v)) fun e => some (Sum.inr e)).bind (Sum.elim kn ke) := by
 simp only [fF, bF, ax, Option.bind_assoc, bY, bB, Option.bind_some, Option.bind_none, Sum.elim_inl, Sum.elim_inr]
def zU : LD where
 CC := LA_ × Nat × Int
 V := Int
 E := (Unit) ⊕ (Unit)
 n := 1
 K := 1
 M := (some (.vec 0) :: none :: none :: none :: none :: some (.vec 0) :: some (.int .i64) :: some (.int .i64) :: (rl none 15 []))
 B := [(0, .vec 3 false)]
 D := []
 pre := []
 F := fun s => [0]
 toL := Ga
 ofL := wu
 au := fun ls c v h => by
  unfold wu at h
  split at h
  ·cases h; rfl
  ·cases h
 cj := fF
 nat := Gb
 sh := HI
 out := wv
 toE := ww
 eV := ou
 ofE := pB
 cO := CE
 post := fun cc e k => ((Sum.elim (fun e => k (.ret) (aV 1 (none :: none :: some (.int .i64 7) :: (rl none 20 [])) [] [])) (fun e => k (.exit 0) (aV 1 (some (.vec 0) :: (rl none 22 [])) [(0, .vec cc.1 cc.2.1 3 false)] []))) e)
 cd := fun cc e k => by rcases e with e | e <;> rfl
theorem Gc : cG Tryz.prog 1 zU.la (aK Tryz.f20 0) :=
 LD.ok (ch := uC) (A := bu) aL wt mixed (fuel := 60) ⟨by kernel_rfl, fun e => by (rcases e with e | e <;> kernel_rfl), fun cc v => by kernel_rfl, aJ (l := []) (by kernel_rfl) trivial⟩
def jf (cs0 : LA_) (n1 : Nat) : Option (Int) :=
 (Option.bind (Cq (cs0, n1, ((n1 : Nat) : Int)) 0) (Sum.elim (fun e1 => (some 7)) (fun e1 => (cond (decide (((n1 : Nat) : Int) > 256)) (some 3) (cond (((n1 : Nat) : Int) == 0) (some 2) (some 0))))))
def qE : FD where
 X := Int
 k := 1
 pre := []
 F := fun s => [0]
 M := .int .i64
 B := []
 toL := fun x => [.I x]
 ofL := fun ls => match ls with
  | [.I x0] => some x0
  | _ => none
 au := fun ls x h => by
  split at h
  ·cases h; rfl
  ·cases h
theorem I3 (cs0 : LA_) (n1 : Nat) (x : Int) (h : jf cs0 n1 = some x) : aX Tryz.prog 20 1 [.vec 0] [.vec cs0 n1 3 false] qE x :=
 FD.sem (ch := uC) (A := dW [(2, zU.la)]) (fn := Tryz.f20) (c := bq Tryz.f20) (fuel := 60) aL wt mixed bE qE Tryz.func20 (by kernel_rfl) (aJ (l := [aK Tryz.f20 0]) (by kernel_rfl) ⟨bR (by kernel_rfl) Gc, trivial⟩)
  (by kernel_rfl) (Eq.trans (by kernel_rfl) h)
def vO : HK where
 call := fun args σ k => match args with
  | [x0] => cr σ 3 x0 fun cs0 n1 => Option.bind (jf cs0 n1) fun y => az σ 1 (qE.val y) (qE.aN y) k
  | _ => none
 nat := fun args σ k => by
  repeat' split
  all_goals simp only [aw, ax, Option.bind_assoc, Option.bind_none, az, Option.bind_some]
 pure := false
 pok := fun h => by cases h
theorem Cr : aT Tryz.prog 20 vO := by
 intro args σ r σ' h
 simp only [vO] at h
 split at h
 ·rename_i x0
  obtain ⟨cs0, n1, he0, hf0, h⟩ := bf h
  obtain ⟨y, hy, h⟩ := bE_ h
  exact lifted (xs := [x0]) (ls := [.vec cs0 n1 3 false]) (cargs := [.vec 0]) (bt.of ⟨⟨rfl, he0, hf0, by decide⟩, trivial⟩) rfl (I3 cs0 n1 y hy) rfl rfl rfl rfl h
 ·cases h
end Go.Ev
