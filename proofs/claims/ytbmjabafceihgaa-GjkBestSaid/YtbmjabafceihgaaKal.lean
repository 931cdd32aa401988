import Derived.Test.YtbmjabafceihgaaKak
set_option linter.unusedVariables false
set_option linter.unusedSimpArgs false
set_option maxRecDepth 100000
noncomputable section
namespace Go.Ev
open Go.Proofs
theorem IN : ∀ (r : List Pt) (i : Int) (o : List Int) (t : List Pt), (ll r i o t).1.length ≤ o.length + r.length
 | [], i, o, t => Nat.le_refl _
 | p :: r, i, o, t => by
  unfold ll
  cases dG t p with
  | true => have := IN r (i + 1) (o ++ [i]) (t ++ [p]); simp only [cond_true, List.length_append, List.length_cons, List.length_nil] at *; omega
  | false => have := IN r (i + 1) o t; simp only [cond_false, List.length_cons] at *; omega
theorem kI {p : Pt} {r : List Pt} {i : Int} {o : List Int} {t : List Pt} : (ll (p :: r) i o t).1.length = o.length + (p :: r).length ↔ dG t p = true ∧ (ll r (i + 1) (o ++ [i]) (t ++ [p])).1.length = (o ++ [i]).length + r.length := by
 have h1 := IN r (i + 1) o t
 conv => lhs; unfold ll
 cases dG t p with
 | true => simp only [cond_true, true_and, List.length_append, List.length_cons, List.length_nil]; omega
 | false => simp only [cond_false, List.length_cons, Bool.false_eq_true, false_and, iff_false]; omega
theorem FT {S : List Pt} (h1 : 1 ≤ S.length) (h4 : S.length ≤ 4) : (lm S).length = S.length ↔ ind S := by
 have z : ∀ r i, (ll [] i r []).1 = r := fun _ _ => rfl
 have r0 : ∀ p, dG [] p = true := fun _ => rfl
 have r1 : ∀ a p, dG [a] p = true ↔ ax p a ≠ (0, 0, 0) := by
  intro a p
  simp only [dG, Bool.not_eq_true', decide_eq_false_iff_not, ax, ne_eq, Prod.mk.injEq]
  constructor
  ·intro h e; apply h; obtain ⟨a1, a2, a3⟩ := a; obtain ⟨p1, p2, p3⟩ := p; simp only [Prod.mk.injEq] at *; omega
  ·intro h e; apply h; subst e; omega
 have r2 : ∀ a b p, dG [a, b] p = true ↔ crs (ax b a) (ax p a) ≠ (0, 0, 0) := by intro a b p; simp [dG]
 have r3 : ∀ a b c p, dG [a, b, c] p = true ↔ cL (ax b a) (ax c a) (ax p a) ≠ 0 := by intro a b c p; simp [dG]
 have e0 : ∀ {l : List Pt}, (lm l).length = (ll l 0 [] []).1.length := fun {l} => rfl
 match S, h1, h4 with
 | [p], _, _ => exact ⟨fun _ => trivial, fun _ => rfl⟩
 | [p, q], _, _ =>
  have h := @kI p [q] 0 [] []
  rw [List.length_nil, Nat.zero_add] at h
  rw [e0, h, kI]
  simp only [r0, true_and, List.nil_append, r1]
  exact ⟨fun h => h.1, fun h => ⟨h, rfl⟩⟩
 | [p, q, r], _, _ =>
  have h := @kI p [q, r] 0 [] []
  rw [List.length_nil, Nat.zero_add] at h
  rw [e0, h, kI, kI]
  simp only [r0, true_and, List.nil_append, r1, List.cons_append, r2]
  exact ⟨fun h => h.2.1, fun h => ⟨DB (l := [p, q, r]) h (t := [p, q]) (by simp) (by simp), h, rfl⟩⟩
 | [p, q, r, s], _, _ =>
  have h := @kI p [q, r, s] 0 [] []
  rw [List.length_nil, Nat.zero_add] at h
  rw [e0, h, kI, kI, kI]
  simp only [r0, true_and, List.nil_append, r1, List.cons_append, r2, r3]
  exact ⟨fun h => h.2.2.1, fun h => ⟨DB (l := [p, q, r, s]) h (t := [p, q]) (by simp) (by simp), DB (l := [p, q, r, s]) h (t := [p, q, r]) (by simp) (by simp), h, rfl⟩⟩
 | _ :: _ :: _ :: _ :: _ :: _, _, h => simp at h
def Tw (l S : List Pt) (k : Nat) : Option RJ :=
 Option.bind (ay (pcs S) S.length) fun r => cond (r.1 != ((S.length : Nat) : Int) - 1) (some (true, fun _ => 0)) (Option.bind (ao (pcs l) l.length (pcs S) S.length) fun r3 => cond r3.2.2.2.2 (some (false, fun i => ac [.int .u64 (aa r3.1 0), .int .u64 (aa r3.1 1), .int .u64 (aa r3.1 2), .int .u64 (aa r3.1 3), .int .u64 (aa r3.1 4), .int .u64 (aa r3.1 5), .int .u64 (aa r3.1 6), .int .u64 (aa r3.1 7), .int .u64 (aa r3.2.1 0), .int .u64 (aa r3.2.1 1), .int .u64 (aa r3.2.1 2), .int .u64 (aa r3.2.1 3), .int .u64 (aa r3.2.1 4), .int .u64 (aa r3.2.1 5), .int .u64 (aa r3.2.1 6), .int .u64 (aa r3.2.1 7), .int .u64 (aa r3.2.2.1 0), .int .u64 (aa r3.2.2.1 1), .int .u64 (aa r3.2.2.1 2), .int .u64 (aa r3.2.2.1 3), .int .u64 (aa r3.2.2.1 4), .int .u64 (aa r3.2.2.1 5), .int .u64 (aa r3.2.2.1 6), .int .u64 (aa r3.2.2.1 7), .int .u64 (aa r3.2.2.2.1 0), .int .u64 (aa r3.2.2.2.1 1), .int .u64 (aa r3.2.2.2.1 2), .int .u64 (aa r3.2.2.2.1 3), .int .u64 (aa r3.2.2.2.1 4), .int .u64 (aa r3.2.2.2.1 5), .int .u64 (aa r3.2.2.2.1 6), .int .u64 (aa r3.2.2.2.1 7), .vec k] i)) (some (true, fun _ => 0)))
def T9 (N : Pt) (D : Int) (k : Nat) : Nat → Int := fun i => ac [.int .u64 (aa N.1 0), .int .u64 (aa N.1 1), .int .u64 (aa N.1 2), .int .u64 (aa N.1 3), .int .u64 (aa N.1 4), .int .u64 (aa N.1 5), .int .u64 (aa N.1 6), .int .u64 (aa N.1 7), .int .u64 (aa N.2.1 0), .int .u64 (aa N.2.1 1), .int .u64 (aa N.2.1 2), .int .u64 (aa N.2.1 3), .int .u64 (aa N.2.1 4), .int .u64 (aa N.2.1 5), .int .u64 (aa N.2.1 6), .int .u64 (aa N.2.1 7), .int .u64 (aa N.2.2 0), .int .u64 (aa N.2.2 1), .int .u64 (aa N.2.2 2), .int .u64 (aa N.2.2 3), .int .u64 (aa N.2.2 4), .int .u64 (aa N.2.2 5), .int .u64 (aa N.2.2 6), .int .u64 (aa N.2.2 7), .int .u64 (aa D 0), .int .u64 (aa D 1), .int .u64 (aa D 2), .int .u64 (aa D 3), .int .u64 (aa D 4), .int .u64 (aa D 5), .int .u64 (aa D 6), .int .u64 (aa D 7), .vec k] i
theorem rnd {l S : List Pt} (k : Nat) (hok : bf l = true) (hl : l.length < 1000000000) (hS : bf S = true) (h1 : 1 ≤ S.length) (h4 : S.length ≤ 4) :
  ∃ b N D, Tw l S k = some (cond b (false, T9 N D k) (true, fun _ => 0)) ∧ (b = true ↔ ind S ∧ Dz l S) ∧ (b = true → Prim (bu S) (wts S).2 N D ∧ PtB 240 N ∧ sm 190 D) := by
 unfold Tw
 rw [zj (by omega), hS, cond_true, decide_eq_false (show ¬ S.length > 256 by omega), cond_false, Option.bind_some]
 by_cases hi : ind S
 ·have e := (FT h1 h4).2 hi
  have : (((lm S).length : Int) - 1 != ((S.length : Nat) : Int) - 1) = false := by rw [e]; simp
  simp only [this, cond_false]
  obtain ⟨b, N, D, q1, q2, q3⟩ := OY hok hl hS hi
  rw [q1, Option.bind_some]
  refine ⟨b, N, D, ?_, ⟨fun h => ⟨hi, q2.1 h⟩, fun h => q2.2 h.2⟩, q3⟩
  cases b <;> rfl
 ·have e : (lm S).length ≠ S.length := fun h => hi ((FT h1 h4).1 h)
  have : (((lm S).length : Int) - 1 != ((S.length : Nat) : Int) - 1) = true := by simp; omega
  simp only [this, cond_true]
  exact ⟨false, (0, 0, 0), 0, rfl, ⟨fun h => (by cases h), fun h => absurd h.1 hi⟩, fun h => (by cases h)⟩
def chs : Nat → List (List Nat)
 | 1 => [[0]]
 | 2 => [[0], [1], [0, 1]]
 | 3 => [[0], [1], [2], [0, 1], [0, 2], [1, 2], [0, 1, 2]]
 | 4 => [[0], [1], [2], [3], [0, 1], [0, 2], [0, 3], [1, 2], [1, 3], [2, 3], [0, 1, 2], [0, 1, 3], [0, 2, 3], [1, 2, 3], [0, 1, 2, 3]]
 | _ => []
def pick (l : List Pt) (ch : List Nat) : List Pt := ch.map (pat l)
def Ra (N : Pt) (D : Int) (ch : List Nat) : (I8 (I8 (I8 (I8 (Int × LA_ × Nat))))) :=
 (aa N.1 0, aa N.1 1, aa N.1 2, aa N.1 3, aa N.1 4, aa N.1 5, aa N.1 6, aa N.1 7, aa N.2.1 0, aa N.2.1 1, aa N.2.1 2, aa N.2.1 3, aa N.2.1 4, aa N.2.1 5, aa N.2.1 6, aa N.2.1 7, aa N.2.2 0, aa N.2.2 1, aa N.2.2 2, aa N.2.2 3, aa N.2.2 4, aa N.2.2 5, aa N.2.2 6, aa N.2.2 7, aa D 0, aa D 1, aa D 2, aa D 3, aa D 4, aa D 5, aa D 6, aa D 7, 0, ics (ch.map fun i => ((i : Nat) : Int)), ch.length)
def br (l : List Pt) (x : Option ((I8 (I8 (I8 (I8 (Int × LA_ × Nat))))))) : Prop :=
 ∃ ch ∈ chs l.length, ∃ N D, x = some (Ra N D ch) ∧ ind (pick l ch) ∧ Dz l (pick l ch) ∧ Prim (bu (pick l ch)) (wts (pick l ch)).2 N D ∧ PtB 240 N ∧ sm 190 D
theorem stJ {X : Type} {P : Option X → Prop} {e : Option RJ} {b : Bool} {d : Nat → Int} {A : Option X} {B : RJ → Option X} (h : e = some (cond b (false, d) (true, fun _ => 0))) (ht : b = true → P (B (false, d))) (hf : b = false → P A) : P (Option.bind e fun q => cond q.1 A (B q)) := by
 subst h
 cases b with
 | true => exact ht rfl
 | false => exact hf rfl
theorem stB {X Y : Type} {P : Option X → Prop} {e : Option Y} {v : Y} {f : Y → Option X} (h : e = some v) (k : P (f v)) : P (Option.bind e f) := by
 subst h; exact k
theorem DC {l : List Pt} (hl : l ≠ []) (h : ∀ T ∈ oV l, T ≠ [] → ¬ (ind T ∧ Dz l T)) : False := by
 obtain ⟨T, h1, h2, h3⟩ := L7 hl
 refine h T (FU h1) ?_ ⟨h2.1, h2.2, h3⟩
 rintro rfl
 exact h2.1
theorem Uu {p : Pt} (hok : bf [p] = true) : br [p] (kh p.1 p.2.1 p.2.2) := by
 have hk := hok
 simp only [aP] at hk
 obtain ⟨hp, _⟩ := hk
 have hl : ([p] : List Pt).length < 1000000000 := by simp
 have hR : ay (pcs [p]) 1 = some (((lm [p]).length : Int) - 1, 0) := by
  have := zj hl
  rw [hok, cond_true] at this
  exact this
 unfold kh
 refine stB (P := br [p]) hR ?_
 show br [p] (Option.bind _ _)
 obtain ⟨b0, N0, D0, e0, i0, o0⟩ := rnd (l := [p]) (S := [p]) 8 hok hl (by simp [aP, hp]; rfl) (by simp) (by simp)
 refine stJ (P := br [p]) e0 (fun hb => ⟨[0], by simp [chs], N0, D0, rfl, (i0.1 hb).1, (i0.1 hb).2, o0 hb⟩) (fun hb0 => ?_)
 exfalso
 refine DC (l := [p]) (by simp) fun T hT hne => ?_
 simp only [oV, List.map_cons, List.map_nil, List.cons_append, List.nil_append, List.append_nil, List.mem_cons, List.mem_append, List.not_mem_nil, or_false] at hT
 rcases hT with rfl | rfl
 ·exact absurd rfl hne
 ·exact (fun h => by have := i0.2 h; rw [hb0] at this; cases this)
theorem Uv {p q : Pt} (hok : bf [p, q] = true) : br [p, q] (ki p.1 p.2.1 p.2.2 q.1 q.2.1 q.2.2) := by
 have hk := hok
 simp only [aP] at hk
 obtain ⟨hp, hq, _⟩ := hk
 have hl : ([p, q] : List Pt).length < 1000000000 := by simp
 have hR : ay (pcs [p, q]) 2 = some (((lm [p, q]).length : Int) - 1, 0) := by
  have := zj hl
  rw [hok, cond_true] at this
  exact this
 unfold ki
 refine stB (P := br [p, q]) hR ?_
 show br [p, q] (Option.bind _ _)
 obtain ⟨b0, N0, D0, e0, i0, o0⟩ := rnd (l := [p, q]) (S := [p]) 8 hok hl (by simp [aP, hp]; rfl) (by simp) (by simp)
 refine stJ (P := br [p, q]) e0 (fun hb => ⟨[0], by simp [chs], N0, D0, rfl, (i0.1 hb).1, (i0.1 hb).2, o0 hb⟩) (fun hb0 => ?_)
 obtain ⟨b1, N1, D1, e1, i1, o1⟩ := rnd (l := [p, q]) (S := [q]) 12 hok hl (by simp [aP, hq]; rfl) (by simp) (by simp)
 refine stJ (P := br [p, q]) e1 (fun hb => ⟨[1], by simp [chs], N1, D1, rfl, (i1.1 hb).1, (i1.1 hb).2, o1 hb⟩) (fun hb1 => ?_)
 obtain ⟨b2, N2, D2, e2, i2, o2⟩ := rnd (l := [p, q]) (S := [p, q]) 18 hok hl (by simp [aP, hp, hq]; rfl) (by simp) (by simp)
 refine stJ (P := br [p, q]) e2 (fun hb => ⟨[0, 1], by simp [chs], N2, D2, rfl, (i2.1 hb).1, (i2.1 hb).2, o2 hb⟩) (fun hb2 => ?_)
 exfalso
 refine DC (l := [p, q]) (by simp) fun T hT hne => ?_
 simp only [oV, List.map_cons, List.map_nil, List.cons_append, List.nil_append, List.append_nil, List.mem_cons, List.mem_append, List.not_mem_nil, or_false] at hT
 rcases hT with rfl | rfl | rfl | rfl
 ·exact absurd rfl hne
 ·exact (fun h => by have := i1.2 h; rw [hb1] at this; cases this)
 ·exact (fun h => by have := i0.2 h; rw [hb0] at this; cases this)
 ·exact (fun h => by have := i2.2 h; rw [hb2] at this; cases this)
theorem Uw {p q r : Pt} (hok : bf [p, q, r] = true) : br [p, q, r] (kj p.1 p.2.1 p.2.2 q.1 q.2.1 q.2.2 r.1 r.2.1 r.2.2) := by
 have hk := hok
 simp only [aP] at hk
 obtain ⟨hp, hq, hr, _⟩ := hk
 have hl : ([p, q, r] : List Pt).length < 1000000000 := by simp
 have hR : ay (pcs [p, q, r]) 3 = some (((lm [p, q, r]).length : Int) - 1, 0) := by
  have := zj hl
  rw [hok, cond_true] at this
  exact this
 unfold kj
 refine stB (P := br [p, q, r]) hR ?_
 show br [p, q, r] (Option.bind _ _)
 obtain ⟨b0, N0, D0, e0, i0, o0⟩ := rnd (l := [p, q, r]) (S := [p]) 8 hok hl (by simp [aP, hp]; rfl) (by simp) (by simp)
 refine stJ (P := br [p, q, r]) e0 (fun hb => ⟨[0], by simp [chs], N0, D0, rfl, (i0.1 hb).1, (i0.1 hb).2, o0 hb⟩) (fun hb0 => ?_)
 obtain ⟨b1, N1, D1, e1, i1, o1⟩ := rnd (l := [p, q, r]) (S := [q]) 12 hok hl (by simp [aP, hq]; rfl) (by simp) (by simp)
 refine stJ (P := br [p, q, r]) e1 (fun hb => ⟨[1], by simp [chs], N1, D1, rfl, (i1.1 hb).1, (i1.1 hb).2, o1 hb⟩) (fun hb1 => ?_)
 obtain ⟨b2, N2, D2, e2, i2, o2⟩ := rnd (l := [p, q, r]) (S := [r]) 16 hok hl (by simp [aP, hr]; rfl) (by simp) (by simp)
 refine stJ (P := br [p, q, r]) e2 (fun hb => ⟨[2], by simp [chs], N2, D2, rfl, (i2.1 hb).1, (i2.1 hb).2, o2 hb⟩) (fun hb2 => ?_)
 obtain ⟨b3, N3, D3, e3, i3, o3⟩ := rnd (l := [p, q, r]) (S := [p, q]) 22 hok hl (by simp [aP, hp, hq]; rfl) (by simp) (by simp)
 refine stJ (P := br [p, q, r]) e3 (fun hb => ⟨[0, 1], by simp [chs], N3, D3, rfl, (i3.1 hb).1, (i3.1 hb).2, o3 hb⟩) (fun hb3 => ?_)
 obtain ⟨b4, N4, D4, e4, i4, o4⟩ := rnd (l := [p, q, r]) (S := [p, r]) 28 hok hl (by simp [aP, hp, hr]; rfl) (by simp) (by simp)
 refine stJ (P := br [p, q, r]) e4 (fun hb => ⟨[0, 2], by simp [chs], N4, D4, rfl, (i4.1 hb).1, (i4.1 hb).2, o4 hb⟩) (fun hb4 => ?_)
 obtain ⟨b5, N5, D5, e5, i5, o5⟩ := rnd (l := [p, q, r]) (S := [q, r]) 34 hok hl (by simp [aP, hq, hr]; rfl) (by simp) (by simp)
 refine stJ (P := br [p, q, r]) e5 (fun hb => ⟨[1, 2], by simp [chs], N5, D5, rfl, (i5.1 hb).1, (i5.1 hb).2, o5 hb⟩) (fun hb5 => ?_)
 obtain ⟨b6, N6, D6, e6, i6, o6⟩ := rnd (l := [p, q, r]) (S := [p, q, r]) 42 hok hl (by simp [aP, hp, hq, hr]; rfl) (by simp) (by simp)
 refine stJ (P := br [p, q, r]) e6 (fun hb => ⟨[0, 1, 2], by simp [chs], N6, D6, rfl, (i6.1 hb).1, (i6.1 hb).2, o6 hb⟩) (fun hb6 => ?_)
 exfalso
 refine DC (l := [p, q, r]) (by simp) fun T hT hne => ?_
 simp only [oV, List.map_cons, List.map_nil, List.cons_append, List.nil_append, List.append_nil, List.mem_cons, List.mem_append, List.not_mem_nil, or_false] at hT
 rcases hT with rfl | rfl | rfl | rfl | rfl | rfl | rfl | rfl
 ·exact absurd rfl hne
 ·exact (fun h => by have := i2.2 h; rw [hb2] at this; cases this)
 ·exact (fun h => by have := i1.2 h; rw [hb1] at this; cases this)
 ·exact (fun h => by have := i5.2 h; rw [hb5] at this; cases this)
 ·exact (fun h => by have := i0.2 h; rw [hb0] at this; cases this)
 ·exact (fun h => by have := i4.2 h; rw [hb4] at this; cases this)
 ·exact (fun h => by have := i3.2 h; rw [hb3] at this; cases this)
 ·exact (fun h => by have := i6.2 h; rw [hb6] at this; cases this)
theorem Ux {p q r s : Pt} (hok : bf [p, q, r, s] = true) : br [p, q, r, s] (kl p.1 p.2.1 p.2.2 q.1 q.2.1 q.2.2 r.1 r.2.1 r.2.2 s.1 s.2.1 s.2.2) := by
 have hk := hok
 simp only [aP] at hk
 obtain ⟨hp, hq, hr, hs, _⟩ := hk
 have hl : ([p, q, r, s] : List Pt).length < 1000000000 := by simp
 have hR : ay (pcs [p, q, r, s]) 4 = some (((lm [p, q, r, s]).length : Int) - 1, 0) := by
  have := zj hl
  rw [hok, cond_true] at this
  exact this
 unfold kl
 refine stB (P := br [p, q, r, s]) hR ?_
 show br [p, q, r, s] (Option.bind _ _)
 obtain ⟨b0, N0, D0, e0, i0, o0⟩ := rnd (l := [p, q, r, s]) (S := [p]) 8 hok hl (by simp [aP, hp]; rfl) (by simp) (by simp)
 refine stJ (P := br [p, q, r, s]) e0 (fun hb => ⟨[0], by simp [chs], N0, D0, rfl, (i0.1 hb).1, (i0.1 hb).2, o0 hb⟩) (fun hb0 => ?_)
 obtain ⟨b1, N1, D1, e1, i1, o1⟩ := rnd (l := [p, q, r, s]) (S := [q]) 12 hok hl (by simp [aP, hq]; rfl) (by simp) (by simp)
 refine stJ (P := br [p, q, r, s]) e1 (fun hb => ⟨[1], by simp [chs], N1, D1, rfl, (i1.1 hb).1, (i1.1 hb).2, o1 hb⟩) (fun hb1 => ?_)
 obtain ⟨b2, N2, D2, e2, i2, o2⟩ := rnd (l := [p, q, r, s]) (S := [r]) 16 hok hl (by simp [aP, hr]; rfl) (by simp) (by simp)
 refine stJ (P := br [p, q, r, s]) e2 (fun hb => ⟨[2], by simp [chs], N2, D2, rfl, (i2.1 hb).1, (i2.1 hb).2, o2 hb⟩) (fun hb2 => ?_)
 obtain ⟨b3, N3, D3, e3, i3, o3⟩ := rnd (l := [p, q, r, s]) (S := [s]) 20 hok hl (by simp [aP, hs]; rfl) (by simp) (by simp)
 refine stJ (P := br [p, q, r, s]) e3 (fun hb => ⟨[3], by simp [chs], N3, D3, rfl, (i3.1 hb).1, (i3.1 hb).2, o3 hb⟩) (fun hb3 => ?_)
 obtain ⟨b4, N4, D4, e4, i4, o4⟩ := rnd (l := [p, q, r, s]) (S := [p, q]) 26 hok hl (by simp [aP, hp, hq]; rfl) (by simp) (by simp)
 refine stJ (P := br [p, q, r, s]) e4 (fun hb => ⟨[0, 1], by simp [chs], N4, D4, rfl, (i4.1 hb).1, (i4.1 hb).2, o4 hb⟩) (fun hb4 => ?_)
 obtain ⟨b5, N5, D5, e5, i5, o5⟩ := rnd (l := [p, q, r, s]) (S := [p, r]) 32 hok hl (by simp [aP, hp, hr]; rfl) (by simp) (by simp)
 refine stJ (P := br [p, q, r, s]) e5 (fun hb => ⟨[0, 2], by simp [chs], N5, D5, rfl, (i5.1 hb).1, (i5.1 hb).2, o5 hb⟩) (fun hb5 => ?_)
 obtain ⟨b6, N6, D6, e6, i6, o6⟩ := rnd (l := [p, q, r, s]) (S := [p, s]) 38 hok hl (by simp [aP, hp, hs]; rfl) (by simp) (by simp)
 refine stJ (P := br [p, q, r, s]) e6 (fun hb => ⟨[0, 3], by simp [chs], N6, D6, rfl, (i6.1 hb).1, (i6.1 hb).2, o6 hb⟩) (fun hb6 => ?_)
 obtain ⟨b7, N7, D7, e7, i7, o7⟩ := rnd (l := [p, q, r, s]) (S := [q, r]) 44 hok hl (by simp [aP, hq, hr]; rfl) (by simp) (by simp)
 refine stJ (P := br [p, q, r, s]) e7 (fun hb => ⟨[1, 2], by simp [chs], N7, D7, rfl, (i7.1 hb).1, (i7.1 hb).2, o7 hb⟩) (fun hb7 => ?_)
 obtain ⟨b8, N8, D8, e8, i8, o8⟩ := rnd (l := [p, q, r, s]) (S := [q, s]) 50 hok hl (by simp [aP, hq, hs]; rfl) (by simp) (by simp)
 refine stJ (P := br [p, q, r, s]) e8 (fun hb => ⟨[1, 3], by simp [chs], N8, D8, rfl, (i8.1 hb).1, (i8.1 hb).2, o8 hb⟩) (fun hb8 => ?_)
 obtain ⟨b9, N9, D9, e9, i9, o9⟩ := rnd (l := [p, q, r, s]) (S := [r, s]) 56 hok hl (by simp [aP, hr, hs]; rfl) (by simp) (by simp)
 refine stJ (P := br [p, q, r, s]) e9 (fun hb => ⟨[2, 3], by simp [chs], N9, D9, rfl, (i9.1 hb).1, (i9.1 hb).2, o9 hb⟩) (fun hb9 => ?_)
 obtain ⟨b10, N10, D10, e10, i10, o10⟩ := rnd (l := [p, q, r, s]) (S := [p, q, r]) 64 hok hl (by simp [aP, hp, hq, hr]; rfl) (by simp) (by simp)
 refine stJ (P := br [p, q, r, s]) e10 (fun hb => ⟨[0, 1, 2], by simp [chs], N10, D10, rfl, (i10.1 hb).1, (i10.1 hb).2, o10 hb⟩) (fun hb10 => ?_)
 obtain ⟨b11, N11, D11, e11, i11, o11⟩ := rnd (l := [p, q, r, s]) (S := [p, q, s]) 72 hok hl (by simp [aP, hp, hq, hs]; rfl) (by simp) (by simp)
 refine stJ (P := br [p, q, r, s]) e11 (fun hb => ⟨[0, 1, 3], by simp [chs], N11, D11, rfl, (i11.1 hb).1, (i11.1 hb).2, o11 hb⟩) (fun hb11 => ?_)
 obtain ⟨b12, N12, D12, e12, i12, o12⟩ := rnd (l := [p, q, r, s]) (S := [p, r, s]) 80 hok hl (by simp [aP, hp, hr, hs]; rfl) (by simp) (by simp)
 refine stJ (P := br [p, q, r, s]) e12 (fun hb => ⟨[0, 2, 3], by simp [chs], N12, D12, rfl, (i12.1 hb).1, (i12.1 hb).2, o12 hb⟩) (fun hb12 => ?_)
 obtain ⟨b13, N13, D13, e13, i13, o13⟩ := rnd (l := [p, q, r, s]) (S := [q, r, s]) 88 hok hl (by simp [aP, hq, hr, hs]; rfl) (by simp) (by simp)
 refine stJ (P := br [p, q, r, s]) e13 (fun hb => ⟨[1, 2, 3], by simp [chs], N13, D13, rfl, (i13.1 hb).1, (i13.1 hb).2, o13 hb⟩) (fun hb13 => ?_)
 obtain ⟨b14, N14, D14, e14, i14, o14⟩ := rnd (l := [p, q, r, s]) (S := [p, q, r, s]) 98 hok hl (by simp [aP, hp, hq, hr, hs]; rfl) (by simp) (by simp)
 refine stJ (P := br [p, q, r, s]) e14 (fun hb => ⟨[0, 1, 2, 3], by simp [chs], N14, D14, rfl, (i14.1 hb).1, (i14.1 hb).2, o14 hb⟩) (fun hb14 => ?_)
 exfalso
 refine DC (l := [p, q, r, s]) (by simp) fun T hT hne => ?_
 simp only [oV, List.map_cons, List.map_nil, List.cons_append, List.nil_append, List.append_nil, List.mem_cons, List.mem_append, List.not_mem_nil, or_false] at hT
 rcases hT with rfl | rfl | rfl | rfl | rfl | rfl | rfl | rfl | rfl | rfl | rfl | rfl | rfl | rfl | rfl | rfl
 ·exact absurd rfl hne
 ·exact (fun h => by have := i3.2 h; rw [hb3] at this; cases this)
 ·exact (fun h => by have := i2.2 h; rw [hb2] at this; cases this)
 ·exact (fun h => by have := i9.2 h; rw [hb9] at this; cases this)
 ·exact (fun h => by have := i1.2 h; rw [hb1] at this; cases this)
 ·exact (fun h => by have := i8.2 h; rw [hb8] at this; cases this)
 ·exact (fun h => by have := i7.2 h; rw [hb7] at this; cases this)
 ·exact (fun h => by have := i13.2 h; rw [hb13] at this; cases this)
 ·exact (fun h => by have := i0.2 h; rw [hb0] at this; cases this)
 ·exact (fun h => by have := i6.2 h; rw [hb6] at this; cases this)
 ·exact (fun h => by have := i5.2 h; rw [hb5] at this; cases this)
 ·exact (fun h => by have := i12.2 h; rw [hb12] at this; cases this)
 ·exact (fun h => by have := i4.2 h; rw [hb4] at this; cases this)
 ·exact (fun h => by have := i11.2 h; rw [hb11] at this; cases this)
 ·exact (fun h => by have := i10.2 h; rw [hb10] at this; cases this)
 ·exact (fun h => by have := i14.2 h; rw [hb14] at this; cases this)
theorem Lx {l : List Pt} (hok : bf l = true) (h1 : 1 ≤ l.length) (h4 : l.length ≤ 4) :
  ∃ ch ∈ chs l.length, ∃ N D, dc (pcs l) l.length = some (N.1, N.2.1, N.2.2, D, 0, ics (ch.map fun i => ((i : Nat) : Int)), ch.length) ∧ ind (pick l ch) ∧ Dz l (pick l ch) ∧ Prim (bu (pick l ch)) (wts (pick l ch)).2 N D ∧ PtB 240 N ∧ sm 190 D := by
 have h : br l (jE (pcs l) l.length) := by
  match l, h1, h4 with
  | [p], _, _ => exact Uu hok
  | [p, q], _, _ => exact Uv hok
  | [p, q, r], _, _ => exact Uw hok
  | [p, q, r, s], _, _ => exact Ux hok
  | _ :: _ :: _ :: _ :: _ :: _, _, h => simp at h
 obtain ⟨ch, hc, N, D, e, q1, q2, q3, hN, hD⟩ := h
 refine ⟨ch, hc, N, D, ?_, q1, q2, q3, hN, hD⟩
 unfold dc
 rw [e]
 simp only [Ra, Option.bind_some, bz, Bool.and_self, az]
 rw [aG (be hN.h.1 (by decide)), aG (be hN.h.2.1 (by decide)), aG (be hN.h.2.2 (by decide)), aG (be hD (by decide))]
end Go.Ev
namespace Go.Ev
def comb : Nat → Nat → List (List Nat)
 | _, 0 => [[]]
 | 0, _ + 1 => []
 | n + 1, k + 1 => comb n (k + 1) ++ (comb n k).map fun l => l ++ [n]
def cW (l : List Nat) : Prop := l.Pairwise (· < ·)
theorem F3 : ∀ (n k : Nat) (l : List Nat), l.length = k → cW l → (∀ x ∈ l, x < n) → l ∈ comb n k
 | n, 0, l, hl, _, _ => by
  obtain rfl := List.length_eq_zero_iff.1 hl
  cases n <;> simp [comb]
 | 0, k + 1, l, hl, _, hb => by
  cases l with
  | nil => simp at hl
  | cons a l => exact absurd (hb a (by simp)) (by omega)
 | n + 1, k + 1, l, hl, hr, hb => by
  rcases List.eq_nil_or_concat l with rfl | ⟨l', x, rfl⟩
  ·simp at hl
  ·simp only [List.concat_eq_append] at *
   unfold cW at hr
   rw [List.pairwise_append] at hr
   obtain ⟨h1, _, h3⟩ := hr
   have hl' : l'.length = k := by simpa using hl
   have hx : ∀ y ∈ l', y < x := fun y hy => h3 y hy x (by simp)
   have hxn := hb x (by simp)
   simp only [comb, List.mem_append, List.mem_map]
   by_cases e : x = n
   ·subst e
    exact .inr ⟨l', F3 x k l' hl' h1 hx, rfl⟩
   ·refine .inl (F3 n (k + 1) (l' ++ [x]) (by simp [hl']) ?_ ?_)
    ·unfold cW
     rw [List.pairwise_append]
     exact ⟨h1, by simp, h3⟩
    ·intro y hy
     simp only [List.mem_append, List.mem_singleton] at hy
     rcases hy with hy | rfl
     ·have := hx y hy; omega
     ·omega
theorem A1 (n k : Nat) : (comb (n + 1) (k + 1)).length = (comb n (k + 1)).length + (comb n k).length := by simp [comb]
theorem Uc (n : Nat) : (comb n 0).length = 1 := by cases n <;> rfl
theorem Hz : ∀ n, ((comb n 1).length : Int) = n
 | 0 => rfl
 | n + 1 => by rw [A1, Uc]; have := Hz n; simp only [Nat.zero_add]; omega
theorem HA : ∀ n : Nat, 2 * ((comb n 2).length : Int) = (n : Int) * (n - 1)
 | 0 => rfl
 | n + 1 => by
  rw [A1]
  have h1 := Hz n
  have h2 := HA n
  simp only [Int.natCast_add, Int.natCast_one] at *
  grind
theorem HB : ∀ n : Nat, 6 * ((comb n 3).length : Int) = (n : Int) * (n - 1) * (n - 2)
 | 0 => rfl
 | n + 1 => by
  rw [A1]
  have h1 := HA n
  have h2 := HB n
  simp only [Int.natCast_add, Int.natCast_one] at *
  grind
theorem Kf : ∀ n : Nat, 24 * ((comb n 4).length : Int) = (n : Int) * (n - 1) * (n - 2) * (n - 3)
 | 0 => rfl
 | n + 1 => by
  rw [A1]
  have h1 := HB n
  have h2 := Kf n
  simp only [Int.natCast_add, Int.natCast_one] at *
  grind
def gY (n : Nat) : List (List Nat) := comb n 1 ++ comb n 2 ++ comb n 3 ++ comb n 4
theorem Qi {n : Nat} {l : List Nat} (h1 : 1 ≤ l.length) (h4 : l.length ≤ 4) (hr : cW l) (hb : ∀ x ∈ l, x < n) : l ∈ gY n := by
 unfold gY
 have h : ∀ k, l.length = k → l ∈ comb n k := fun k hk => F3 n k l hk hr hb
 simp only [List.mem_append]
 have : l.length = 1 ∨ l.length = 2 ∨ l.length = 3 ∨ l.length = 4 := by omega
 rcases this with e | e | e | e
 ·exact .inl (.inl (.inl (h 1 e)))
 ·exact .inl (.inl (.inr (h 2 e)))
 ·exact .inl (.inr (h 3 e))
 ·exact .inr (h 4 e)
theorem Qj (n : Nat) : 24 * ((gY n).length : Int) = 24 * n + 12 * (n * (n - 1)) + 4 * (n * (n - 1) * (n - 2)) + n * (n - 1) * (n - 2) * (n - 3) := by
 unfold gY
 simp only [List.length_append, Int.natCast_add]
 have := Hz n
 have := HA n
 have := HB n
 have := Kf n
 grind
theorem FY {α : Type} {p q : α → Bool} : ∀ {l : List α} {x : α}, (∀ y ∈ l, p y = true → q y = true) → x ∈ l → q x = true → p x = false → l.countP p < l.countP q
 | [], x, _, h, _, _ => by cases h
 | a :: l, x, hi, hx, hq, hp => by
  have mono : l.countP p ≤ l.countP q := List.countP_mono_left fun y hy => hi y (by simp [hy])
  rw [List.countP_cons, List.countP_cons]
  rcases List.mem_cons.1 hx with rfl | hx
  ·rw [hq, hp]; simp; omega
  ·have ih := FY (fun y hy => hi y (by simp [hy])) hx hq hp
   cases ha : p a with
   | true => rw [hi a (by simp) ha]; simp; omega
   | false => simp; split <;> omega
def ins (k : Nat) : List Nat → List Nat
 | [] => [k]
 | a :: l => if k < a then k :: a :: l else a :: ins k l
theorem zm {k x : Nat} : ∀ {l : List Nat}, x ∈ ins k l ↔ x = k ∨ x ∈ l
 | [] => by simp [ins]
 | a :: l => by
  unfold ins
  split
  ·simp
  ·rw [List.mem_cons, zm, List.mem_cons]
   constructor
   ·rintro (h | h | h) <;> simp [h]
   ·rintro (h | h | h) <;> simp [h]
theorem DD (k : Nat) : ∀ l : List Nat, (ins k l).length = l.length + 1
 | [] => rfl
 | a :: l => by unfold ins; split <;> simp [DD k l]
theorem HD {k : Nat} : ∀ {l : List Nat}, cW l → k ∉ l → cW (ins k l)
 | [], _, _ => by simp [ins, cW]
 | a :: l, h, hk => by
  unfold cW at h
  rw [List.pairwise_cons] at h
  simp only [List.mem_cons, not_or] at hk
  unfold ins
  split
  ·rename_i hlt
   unfold cW
   rw [List.pairwise_cons, List.pairwise_cons]
   exact ⟨fun y hy => by
    rcases List.mem_cons.1 hy with rfl | hy
    ·exact hlt
    ·have := h.1 y hy; omega, h.1, h.2⟩
  ·rename_i hlt
   unfold cW
   rw [List.pairwise_cons]
   refine ⟨fun y hy => ?_, HD h.2 hk.2⟩
   rcases zm.1 hy with rfl | hy
   ·omega
   ·exact h.1 y hy
end Go.Ev
namespace Go.Ev
open Go.Proofs
def uN : CH := CH.none
theorem rU : aE Try.prog uN := CH.aB
def fI (cs0 : LA_) (n1 : Nat) : Option (LA_ × Nat) :=
 (af (!List.isEmpty cs0) (af (decide (2 * (0 + n1) * 8 ≤ 2 ^ 48)) (some (cs0, n1))))
def cI : FD where
 X := LA_ × Nat
 k := 1
 pre := [(2, 1)]
 F := fun s => [0, nameAt s 0 []]
 M := .vec 1
 B := [.vec 1 true]
 toL := fun x => [.C x.1, .N x.2]
 ofL := fun ls => match ls with
  | [.C x0, .N x1] => some (x0, x1)
  | _ => none
 au := fun ls x h => by
  split at h
  ·cases h; rfl
  ·cases h
theorem tT (cs0 : LA_) (n1 : Nat) (x : LA_ × Nat) (h : fI cs0 n1 = some x) : bc Try.prog 54 1 [.vec 0] [.vec cs0 n1 1 false] cI x :=
 FD.semA cI rU Try.func54 (fuel := 60) (by kernel_rfl) (by kernel_rfl)
  (by kernel_rfl) (Eq.trans (by kernel_rfl) h)
def iW : HK where
 call := fun args σ k => match args with
  | [x0] => cM σ 1 x0 fun cs0 n1 => Option.bind (fI cs0 n1) fun y => aA σ 1 (cI.val y) (cI.aL y) k
  | _ => none
 nat := fun args σ k => by
  repeat' split
  all_goals simp only [aw, ai, Option.bind_assoc, Option.bind_none, aA, Option.bind_some]
 pure := false
 pok := fun h => by cases h
theorem uO : aW Try.prog 54 iW := by
 intro args σ r σ' h
 simp only [iW] at h
 split at h
 ·rename_i x0
  obtain ⟨cs0, n1, he0, hf0, h⟩ := bA h
  obtain ⟨y, hy, h⟩ := bE_ h
  exact lifted (xs := [x0]) (ls := [.vec cs0 n1 1 false]) (cargs := [.vec 0]) (bv.of ⟨⟨rfl, he0, hf0, by decide⟩, trivial⟩) rfl (tT cs0 n1 y hy) rfl rfl rfl rfl h
 ·cases h
theorem IL {ks : List TK} {cs : LA_} {n : Nat} (h : (aq ks cs 0 && Nat.beq (List.length cs) n) = true) (hn : ks.length = n) (hk : ks ≠ []) : cs = t6 cs 0 ks 0 := by
 rw [Bool.and_eq_true] at h
 have hl := Nat.eq_of_beq_eq_true h.2
 rcases zb (o := 0) (j := 0) (ks := ks) h.1 with ⟨q1, q2⟩ | q
 ·rw [← q1, hn, ← hl]; simp
 ·exact absurd q hk
def Lq {R : Type} (cs : LA_) (n : Nat) (σ : Mem) (k : fR → Mem → Option R) : Option R :=
 cond (Nat.beq n 1) (af (aq [.int .i64] cs 0 && Nat.beq (List.length cs) 1) (k (.ret (.vec σ.next)) (σ.push (.vec [.int .i64 (ac cs 0)] 1 1 true))))
  (cond (Nat.beq n 2) (af (aq [.int .i64, .int .i64] cs 0 && Nat.beq (List.length cs) 2) (k (.ret (.vec σ.next)) (σ.push (.vec [.int .i64 (ac cs 0), .int .i64 (ac cs 1)] 2 1 true))))
   (cond (Nat.beq n 3) (af (aq lC cs 0 && Nat.beq (List.length cs) 3) (k (.ret (.vec σ.next)) (σ.push (.vec [.int .i64 (ac cs 0), .int .i64 (ac cs 1), .int .i64 (ac cs 2)] 3 1 true)))) none))
def H5 : HK where
 call := fun args σ k => match args with
  | [x0] => cM σ 1 x0 fun cs n => Lq cs n σ k
  | _ => none
 nat := fun args σ k => by
  split
  ·rw [aw]
   congr 1
   funext cs n
   simp only [Lq, bK, ai, Option.bind_some, Option.bind_none]
  ·rfl
 pure := false
 pok := fun h => by cases h
theorem MR : aW Try.prog 54 H5 := uO.cJ fun args σ x h => by
 simp only [H5] at h
 split at h
 ·rename_i x0
  obtain ⟨cs, n, h1, h2, h⟩ := bA h
  simp only [iW, cM, h1, h2, if_true]
  have go : ∀ (m : Nat) (l : LA_), n = m → cs = l → l.isEmpty = false → 2 * (0 + m) * 8 ≤ 2 ^ 48 → (some (fR.ret (.vec σ.next), σ.push (.vec l m 1 true)) : Option (fR × Mem)) = some x →
    (Option.bind (fI cs n) fun y => aA σ 1 (cI.val y) (cI.aL y) fun r σ' => some (r, σ')) = some x := by
   rintro m l rfl rfl he hm hx
   simp only [fI, he, Bool.not_false, az, decide_eq_true hm, Option.bind_some]
   rw [← hx]
   rfl
  unfold Lq at h
  cases e1 : Nat.beq n 1 with
  | true =>
   rw [e1, cond_true] at h
   obtain ⟨h3, h⟩ := aH h
   exact go 1 _ (Nat.eq_of_beq_eq_true e1) (IL h3 rfl (by simp)) rfl (by decide) h
  | false =>
   rw [e1, cond_false] at h
   cases e2 : Nat.beq n 2 with
   | true =>
    rw [e2, cond_true] at h
    obtain ⟨h3, h⟩ := aH h
    exact go 2 _ (Nat.eq_of_beq_eq_true e2) (IL h3 rfl (by simp)) rfl (by decide) h
   | false =>
    rw [e2, cond_false] at h
    cases e3 : Nat.beq n 3 with
    | true =>
     rw [e3, cond_true] at h
     obtain ⟨h3, h⟩ := aH h
     exact go 3 _ (Nat.eq_of_beq_eq_true e3) (IL h3 rfl (by simp)) rfl (by decide) h
    | false => rw [e3] at h; cases h
 ·cases h
end Go.Ev
namespace Go.Ev
def FD.Od (d : FD) (T : av) (rs : List ResultVar) (ch : CH) (fuel : Nat) (gd nt : Nat) (rest : Code) (t3 t2 : Tmp) (o : an) (s : St) (w : Ow) : Option d.X :=
 match owB w with
 | true => match s.df with
  | [⟨g, cap, []⟩] => if g = gd then (match J5 o with
   | some r => bh T ch bt fuel rest (Av nt cap s.mem t3 t2 r) .nil fun o' s2 w' => match owB w' with
    | true => match o', s2.df with
     | .normal, [] => Aw T rs [] .ret ⟨s.tm, [], s2.mem⟩ fun s3 => (mSt d.k (d.k + d.B.length) (d.F s3) [some d.M] (dX d.k d.B) [] s3).bind d.ofL
     | .ret, [] => Aw T rs [] .ret ⟨s.tm, [], s2.mem⟩ fun s3 => (mSt d.k (d.k + d.B.length) (d.F s3) [some d.M] (dX d.k d.B) [] s3).bind d.ofL
     | _, _ => none
    | false => none
   | none => none) else none
  | [] => Aw T rs d.pre o s fun s3 => (mSt d.k (d.k + d.B.length) (d.F s3) [some d.M] (dX d.k d.B) [] s3).bind d.ofL
  | _ => none
 | false => none
section
variable {P : Program} {T : av} {ch : CH} {A : qJ}
theorem FD.T2 (hT : aY P T) (hH : aE P ch) (hm : P.follows .mixedOrders = true) (hN : ou P) (d : FD) {g : FuncId} {fn : Func} {c : Code} {fuel : Nat} {cargs : LA_} {B0 : List (Nat × ar)} {x : d.X}
  (hf : P.funcs[g]? = some fn) (hb : fn.body = some c) (hA : ∀ b ∈ bm c, ∀ la, A (dO b) = some la → cF P d.k la b)
  (hS : shP (d.k + d.B.length) [some d.M] (dX d.k d.B) = true)
  {gd : FuncId} {fd : Func} {id : Nat} {ops : Array Oper} {o0 o1 : Oper} {rest : Code} {t3 t2 : Tmp} (hk : wJ P gd fd id ops o0 o1 rest t3 t2) (hl : bm rest = [])
  (hx : bh T ch A fuel c (bC fn.ntmps cargs ⟨d.k, B0⟩) .nil (d.Od T fn.results.toList ch fuel gd fd.ntmps rest t3 t2) = some x) :
  nE P g ∧ di P g cargs ⟨d.k, B0⟩ (.ret (d.val x)) ⟨d.k + (d.aL x).length, cQ d.k (d.aL x)⟩ := by
 rw [jV] at hx
 obtain ⟨⟨o, s, w1⟩, k1, k2⟩ := bE_ hx
 obtain ⟨o2, s2, w2, j1, j2, j3⟩ := ja (k := d.k) hT hH hm fuel c _ _ _ _ hA k1
 simp only [Option.some.injEq, Prod.mk.injEq] at j1
 obtain ⟨rfl, rfl, rfl⟩ := j1
 simp only [FD.Od] at k2
 split at k2
 rotate_left
 ·cases k2
 rename_i how
 have hAW := j3 (fj how)
 split at k2
 rotate_left
 ·rename_i hdf
  obtain ⟨s4, q1, q2⟩ := mc k2
  have hfin : (o2 = .normal ∨ o2 = .ret) ∧ (bZ d.pre s2).df = [] ∧ ∃ v, gF T (bZ d.pre s2) fn.results.toList = some v ∧ s4 = ⟨[v], [], (bZ d.pre s2).mem⟩ := by
   unfold Ax at q1
   cases o2 with
   | normal =>
    simp only at q1
    split at q1
    ·rename_i hd
     obtain ⟨v, hv, rfl⟩ := Option.map_eq_some_iff.1 q1
     exact ⟨.inl rfl, hd, v, hv, rfl⟩
    ·cases q1
   | ret =>
    simp only at q1
    split at q1
    ·rename_i hd
     obtain ⟨v, hv, rfl⟩ := Option.map_eq_some_iff.1 q1
     exact ⟨.inr rfl, hd, v, hv, rfl⟩
    ·cases q1
   | exit i => cases q1
   | goto i => cases q1
   | pan v => cases q1
  obtain ⟨ho, hdf2, v, hres, rfl⟩ := hfin
  refine d.fin ⟨fn, hf, hN g fn hf, by rw [hb]; rfl⟩ hS q2 ?_
  intro w0 ρ w hr hs
  have key : AWP P c (bC fn.ntmps cargs ⟨d.k, B0⟩) fun o1 s1 => o1 = o2 ∧ s1 = bZ d.pre s2 := by
   refine dq.tg (s := bC fn.ntmps cargs ⟨d.k, B0⟩) (pn ?_)
   intro hn w0 ρ a w hr
   refine wp_mono (hAW hn w0 ρ a w hr) ?_
   rintro e' a' w' ⟨o3, s3, ⟨h1, h2⟩, hq⟩
   subst h1 h2
   obtain ⟨ρ', r1, r2, r3, r4, r5⟩ := hq
   refine ⟨_, _, ⟨?_, _, kC r4, rfl, rfl⟩, ⟨ρ', r1, r2, r3, r4, r5⟩⟩
   rintro v rfl
   rcases ho with h | h <;> cases h
  have := iO (R := fun v3 σ3 => v3 = v ∧ σ3 = (bZ d.pre s2).mem) hT hf hb hk (key.mono fun o1 s1 hh => by
   obtain ⟨rfl, rfl⟩ := hh
   exact .inl ⟨hdf2, ho, v, hres, rfl, rfl⟩) w0 ρ w hr hs
  refine this.mono ?_
  rintro e w' ⟨v3, σ3, ρ', ⟨rfl, rfl⟩, k3, k4, k5⟩
  exact ⟨ρ', k3, k4, k5⟩
 ·cases k2
 rename_i g' cap hdf
 split at k2
 rotate_left
 ·cases k2
 rename_i hgd
 subst hgd
 split at k2
 rotate_left
 ·cases k2
 rename_i r hrec
 rw [jV] at k2
 obtain ⟨⟨o', s', w'⟩, k3, k4⟩ := bE_ k2
 obtain ⟨o3, s3, w3, j4, j5, j6⟩ := ja (k := (Av fd.ntmps cap s2.mem t3 t2 r).mem.next) hT hH hm fuel rest _ _ _ _ (fun b hb => by rw [hl] at hb; cases hb) k3
 simp only [Option.some.injEq, Prod.mk.injEq] at j4
 obtain ⟨rfl, rfl, rfl⟩ := j4
 simp only at k4
 split at k4
 rotate_left
 ·cases k4
 rename_i how3
 have hAR := j6 (fj how3)
 have hend : (o3 = .normal ∨ o3 = .ret) ∧ s3.df = [] ∧ ∃ v, gF T ⟨s2.tm, [], s3.mem⟩ fn.results.toList = some v ∧ (mSt d.k (d.k + d.B.length) (d.F ⟨[v], [], s3.mem⟩) [some d.M] (dX d.k d.B) [] ⟨[v], [], s3.mem⟩).bind d.ofL = some x := by
  split at k4
  ·rename_i hd
   obtain ⟨s4, q1, q2⟩ := mc k4
   simp only [Ax, bZ] at q1
   obtain ⟨v, hv, rfl⟩ := Option.map_eq_some_iff.1 q1
   exact ⟨.inl rfl, hd, v, hv, q2⟩
  ·rename_i hd
   obtain ⟨s4, q1, q2⟩ := mc k4
   simp only [Ax, bZ] at q1
   obtain ⟨v, hv, rfl⟩ := Option.map_eq_some_iff.1 q1
   exact ⟨.inr rfl, hd, v, hv, q2⟩
  ·cases k4
 obtain ⟨ho3, hd3, v, hres, q2⟩ := hend
 refine d.fin ⟨fn, hf, hN g fn hf, by rw [hb]; rfl⟩ hS q2 ?_
 intro w0 ρ w hr hs
 have key : AWP P c (bC fn.ntmps cargs ⟨d.k, B0⟩) fun o1 s1 => o1 = o2 ∧ s1 = s2 := dq.tg (s := bC fn.ntmps cargs ⟨d.k, B0⟩) hAW
 have := iO (R := fun v3 σ3 => v3 = v ∧ σ3 = s3.mem) hT hf hb hk (key.mono fun o1 s1 hh => by
  obtain ⟨rfl, rfl⟩ := hh
  refine .inr ⟨cap, r, hdf, ?_, (dq.tg hAR).mono fun o5 s5 h5 => ?_⟩
  ·cases o1 <;> simp only [J5, Option.some.injEq, reduceCtorEq] at hrec
   ·exact .inl ⟨.inl rfl, hrec.symm⟩
   ·exact .inl ⟨.inr rfl, hrec.symm⟩
   ·exact .inr (by rw [hrec])
  ·obtain ⟨rfl, rfl⟩ := h5
   exact ⟨ho3, hd3, v, hres, rfl, rfl⟩) w0 ρ w hr hs
 refine this.mono ?_
 rintro e w' ⟨v3, σ3, ρ', ⟨rfl, rfl⟩, k3, k4, k5⟩
 exact ⟨ρ', k3, k4, k5⟩
end
end Go.Ev
namespace Go.Ev
open Go.Proofs
def BO : CH := CH.none
theorem yj : aE Try.prog BO := CH.aB
def fV (a0 : Int) : Option (Bool) :=
 (cond (a0 != a0) (some true) (some false))
def jl : FD where
 X := Bool
 k := 0
 pre := []
 F := fun s => []
 M := .bool
 B := []
 toL := fun x => [.B x]
 ofL := fun ls => match ls with
  | [.B x0] => some x0
  | _ => none
 au := fun ls x h => by
  split at h
  ·cases h; rfl
  ·cases h
theorem Bg (a0 : Int) (x : Bool) (h : fV a0 = some x) : bc Try.prog 103 0 [.int .i64 a0] [] jl x :=
 FD.semA jl yj Try.func103 (fuel := 60) (by kernel_rfl) (by kernel_rfl)
  (by kernel_rfl) (Eq.trans (by kernel_rfl) h)
def pC : HK where
 call := fun args σ k => match args with
  | [.int .i64 a0] => Option.bind (fV a0) fun y => aA σ 0 (jl.val y) (jl.aL y) k
  | _ => none
 nat := fun args σ k => by
  repeat' split
  all_goals simp only [aw, ai, Option.bind_assoc, Option.bind_none, aA, Option.bind_some]
 pure := true
 pok := fun _ args σ r σ' h => by
  split at h
  ·exact bp h (fun y => rfl) (fun y f => rfl)
  ·cases h
theorem BP : aW Try.prog 103 pC := by
 intro args σ r σ' h
 simp only [pC] at h
 split at h
 ·rename_i a0
  obtain ⟨y, hy, h⟩ := bE_ h
  exact lifted (xs := []) (ls := []) (cargs := [.int .i64 a0]) (bv.of trivial) rfl (Bg a0 y hy) rfl rfl rfl rfl h
 ·cases h
def DH : CH := (CH.add 103 pC CH.none)
theorem zs : aE Try.prog DH := (CH.aj BP CH.aB)
def aD (a0 a1 : Int) : Option (Bool) :=
 (Option.bind (fV a0) fun r1 => (cond r1 (Option.bind (fV a1) fun r2 => (cond r2 (cond (decide (a0 < a1)) (some true) (some false)) (some true))) (cond (decide (a0 < a1)) (some true) (some false))))
def jY : FD where
 X := Bool
 k := 0
 pre := []
 F := fun s => []
 M := .bool
 B := []
 toL := fun x => [.B x]
 ofL := fun ls => match ls with
  | [.B x0] => some x0
  | _ => none
 au := fun ls x h => by
  split at h
  ·cases h; rfl
  ·cases h
theorem BQ (a0 a1 : Int) (x : Bool) (h : aD a0 a1 = some x) : bc Try.prog 94 0 [.int .i64 a0, .int .i64 a1] [] jY x :=
 FD.semA jY zs Try.func94 (fuel := 60) (by kernel_rfl) (by kernel_rfl)
  (by kernel_rfl) (Eq.trans (by kernel_rfl) h)
def rG : HK where
 call := fun args σ k => match args with
  | [.int .i64 a0, .int .i64 a1] => Option.bind (aD a0 a1) fun y => aA σ 0 (jY.val y) (jY.aL y) k
  | _ => none
 nat := fun args σ k => by
  repeat' split
  all_goals simp only [aw, ai, Option.bind_assoc, Option.bind_none, aA, Option.bind_some]
 pure := true
 pok := fun _ args σ r σ' h => by
  split at h
  ·exact bp h (fun y => rfl) (fun y f => rfl)
  ·cases h
theorem DI : aW Try.prog 94 rG := by
 intro args σ r σ' h
 simp only [rG] at h
 split at h
 ·rename_i a0 a1
  obtain ⟨y, hy, h⟩ := bE_ h
  exact lifted (xs := []) (ls := []) (cargs := [.int .i64 a0, .int .i64 a1]) (bv.of trivial) rfl (BQ a0 a1 y hy) rfl rfl rfl rfl h
 ·cases h
def JA : CH := CH.none
theorem ET : aE Try.prog JA := CH.aB
def pI (a0 : Int) : Option (Int) :=
 (some (IntKind.wrap .i64 ((IntKind.wrap .i64 ((IntKind.wrap .i64 (a0 + (IntKind.wrap .i64 (Int.tdiv (IntKind.wrap .i64 (a0 * (IntKind.wrap .i64 (a0 - 1)))) 2)))) + (IntKind.wrap .i64 (Int.tdiv (IntKind.wrap .i64 ((IntKind.wrap .i64 (Int.tdiv (IntKind.wrap .i64 (a0 * (IntKind.wrap .i64 (a0 - 1)))) 2)) * (IntKind.wrap .i64 (a0 - 2)))) 3)))) + (IntKind.wrap .i64 (Int.tdiv (IntKind.wrap .i64 ((IntKind.wrap .i64 (Int.tdiv (IntKind.wrap .i64 ((IntKind.wrap .i64 (Int.tdiv (IntKind.wrap .i64 (a0 * (IntKind.wrap .i64 (a0 - 1)))) 2)) * (IntKind.wrap .i64 (a0 - 2)))) 3)) * (IntKind.wrap .i64 (a0 - 3)))) 4)))))
def pJ : FD where
 X := Int
 k := 0
 pre := []
 F := fun s => []
 M := .int .i64
 B := []
 toL := fun x => [.I x]
 ofL := fun ls => match ls with
  | [.I x0] => some x0
  | _ => none
 au := fun ls x h => by
  split at h
  ·cases h; rfl
  ·cases h
theorem H0 (a0 x : Int) (h : pI a0 = some x) : bc Try.prog 53 0 [.int .i64 a0] [] pJ x :=
 FD.semA pJ ET Try.func53 (fuel := 60) (by kernel_rfl) (by kernel_rfl)
  (by kernel_rfl) (Eq.trans (by kernel_rfl) h)
def zB : HK where
 call := fun args σ k => match args with
  | [.int .i64 a0] => Option.bind (pI a0) fun y => aA σ 0 (pJ.val y) (pJ.aL y) k
  | _ => none
 nat := fun args σ k => by
  repeat' split
  all_goals simp only [aw, ai, Option.bind_assoc, Option.bind_none, aA, Option.bind_some]
 pure := true
 pok := fun _ args σ r σ' h => by
  split at h
  ·exact bp h (fun y => rfl) (fun y f => rfl)
  ·cases h
theorem JB : aW Try.prog 53 zB := by
 intro args σ r σ' h
 simp only [zB] at h
 split at h
 ·rename_i a0
  obtain ⟨y, hy, h⟩ := bE_ h
  exact lifted (xs := []) (ls := []) (cargs := [.int .i64 a0]) (bv.of trivial) rfl (H0 a0 y hy) rfl rfl rfl rfl h
 ·cases h
abbrev fG := (I8 (I8 (I8 (I8 (LA_ × Nat × Nat × LA_ × Nat × Int)))))
def oB : CH := (CH.add 21 J0 (CH.add 20 zD CH.none))
theorem rc : aE Try.prog oB := (CH.aj Kk (CH.aj Ez CH.aB))
def cE {R : Type} (cc : fG) (v : Int × LA_ × Int) (kn : (Int × LA_ × Int) → Option R) (ke : ((Int)) → Option R) : Option R :=
 (cond (decide (v.2.2 < cc.2.2.2.2.2.2.2.2.2.2.2.2.2.2.2.2.2.2.2.2.2.2.2.2.2.2.2.2.2.2.2.2.2.2.2.2.2)) (af (decide (0 ≤ v.2.2) && decide (v.2.2 < ((cc.2.2.2.2.2.2.2.2.2.2.2.2.2.2.2.2.2.2.2.2.2.2.2.2.2.2.2.2.2.2.2.2.2.2.2.2.1 : Nat) : Int))) (af (aq lC cc.2.2.2.2.2.2.2.2.2.2.2.2.2.2.2.2.2.2.2.2.2.2.2.2.2.2.2.2.2.2.2.2.2.2.2.1 (Int.toNat v.2.2 * 3)) (Option.bind (mC cc.1 cc.2.1 cc.2.2.1 cc.2.2.2.1 cc.2.2.2.2.1 cc.2.2.2.2.2.1 cc.2.2.2.2.2.2.1 cc.2.2.2.2.2.2.2.1 cc.2.2.2.2.2.2.2.2.1 cc.2.2.2.2.2.2.2.2.2.1 cc.2.2.2.2.2.2.2.2.2.2.1 cc.2.2.2.2.2.2.2.2.2.2.2.1 cc.2.2.2.2.2.2.2.2.2.2.2.2.1 cc.2.2.2.2.2.2.2.2.2.2.2.2.2.1 cc.2.2.2.2.2.2.2.2.2.2.2.2.2.2.1 cc.2.2.2.2.2.2.2.2.2.2.2.2.2.2.2.1 cc.2.2.2.2.2.2.2.2.2.2.2.2.2.2.2.2.1 cc.2.2.2.2.2.2.2.2.2.2.2.2.2.2.2.2.2.1 cc.2.2.2.2.2.2.2.2.2.2.2.2.2.2.2.2.2.2.1 cc.2.2.2.2.2.2.2.2.2.2.2.2.2.2.2.2.2.2.2.1 cc.2.2.2.2.2.2.2.2.2.2.2.2.2.2.2.2.2.2.2.2.1 cc.2.2.2.2.2.2.2.2.2.2.2.2.2.2.2.2.2.2.2.2.2.1 cc.2.2.2.2.2.2.2.2.2.2.2.2.2.2.2.2.2.2.2.2.2.2.1 cc.2.2.2.2.2.2.2.2.2.2.2.2.2.2.2.2.2.2.2.2.2.2.2.1 (ac cc.2.2.2.2.2.2.2.2.2.2.2.2.2.2.2.2.2.2.2.2.2.2.2.2.2.2.2.2.2.2.2.2.2.2.2.1 ((Int.toNat v.2.2 * 3) + 0)) (ac cc.2.2.2.2.2.2.2.2.2.2.2.2.2.2.2.2.2.2.2.2.2.2.2.2.2.2.2.2.2.2.2.2.2.2.2.1 ((Int.toNat v.2.2 * 3) + 1)) (ac cc.2.2.2.2.2.2.2.2.2.2.2.2.2.2.2.2.2.2.2.2.2.2.2.2.2.2.2.2.2.2.2.2.2.2.2.1 ((Int.toNat v.2.2 * 3) + 2))) fun r1 => (cond (decide (v.1 < 0)) (af (decide (0 + 8 ≤ List.length v.2.1)) (kn (v.2.2, (spliced v.2.1 0 (v8 (aa r1 0) (aa r1 1) (aa r1 2) (aa r1 3) (aa r1 4) (aa r1 5) (aa r1 6) (aa r1 7) [])), (IntKind.wrap .i64 (v.2.2 + 1))))) (af (aq fW v.2.1 0) (Option.bind (E2 (aa r1 0) (aa r1 1) (aa r1 2) (aa r1 3) (aa r1 4) (aa r1 5) (aa r1 6) (aa r1 7) (ac v.2.1 0) (ac v.2.1 1) (ac v.2.1 2) (ac v.2.1 3) (ac v.2.1 4) (ac v.2.1 5) (ac v.2.1 6) (ac v.2.1 7)) fun r2 => (cond (decide (r2 < 0)) (af (decide (0 + 8 ≤ List.length v.2.1)) (kn (v.2.2, (spliced v.2.1 0 (v8 (aa r1 0) (aa r1 1) (aa r1 2) (aa r1 3) (aa r1 4) (aa r1 5) (aa r1 6) (aa r1 7) [])), (IntKind.wrap .i64 (v.2.2 + 1))))) (kn (v.1, v.2.1, (IntKind.wrap .i64 (v.2.2 + 1))))))))))) (ke v.1))
def eT (cc : fG) (v : Int × LA_ × Int) : Option ((Int × LA_ × Int) ⊕ ((Int))) := cE cc v (fun v => some (Sum.inl v)) fun e => some (Sum.inr e)
def vx (cc : fG) (v : Int × LA_ × Int) : Option ((Int)) := dA (eT cc) v
def Bl (cc : fG) (v : Int × LA_ × Int) : List ah := [.I v.1, .I cc.s16.s16.s4.2, .I v.2.2, .I cc.1, .I cc.2.1, .I cc.2.2.1, .I cc.2.2.2.1, .I cc.s4.1, .I cc.s4.2.1, .I cc.s4.2.2.1, .I cc.s4.2.2.2.1, .I cc.s8.1, .I cc.s8.2.1, .I cc.s8.2.2.1, .I cc.s8.2.2.2.1, .I cc.s8.s4.1, .I cc.s8.s4.2.1, .I cc.s8.s4.2.2.1, .I cc.s8.s4.2.2.2.1, .I cc.s16.1, .I cc.s16.2.1, .I cc.s16.2.2.1, .I cc.s16.2.2.2.1, .I cc.s16.s4.1, .I cc.s16.s4.2.1, .I cc.s16.s4.2.2.1, .I cc.s16.s4.2.2.2.1, .I cc.s16.s8.1, .I cc.s16.s8.2.1, .I cc.s16.s8.2.2.1, .I cc.s16.s8.2.2.2.1, .I cc.s16.s8.s4.1, .I cc.s16.s8.s4.2.1, .I cc.s16.s8.s4.2.2.1, .I cc.s16.s8.s4.2.2.2.1, .C cc.s16.s16.1, .N cc.s16.s16.2.1, .C v.2.1, .N cc.s16.s16.2.2.1, .C cc.s16.s16.2.2.2.1, .N cc.s16.s16.s4.1]
def re (ls : List ah) : Option ((fG) × (Int × LA_ × Int)) := match ls with
 | (.I x0 :: .I x1 :: .I x2 :: .I x3 :: .I x4 :: .I x5 :: .I x6 :: .I x7 :: .I x8 :: .I x9 :: .I x10 :: .I x11 :: .I x12 :: .I x13 :: .I x14 :: .I x15 :: .I x16 :: .I x17 :: .I x18 :: .I x19 :: .I x20 :: .I x21 :: .I x22 :: .I x23 :: .I x24 :: .I x25 :: .I x26 :: .I x27 :: .I x28 :: .I x29 :: .I x30 :: .I x31 :: .I x32 :: .I x33 :: .I x34 :: .C x35 :: .N x36 :: .C x37 :: .N x38 :: .C x39 :: .N x40 :: []) => some ((x3, x4, x5, x6, x7, x8, x9, x10, x11, x12, x13, x14, x15, x16, x17, x18, x19, x20, x21, x22, x23, x24, x25, x26, x27, x28, x29, x30, x31, x32, x33, x34, x35, x36, x38, x39, x40, x1), (x0, x37, x2))
 | _ => none
def rf (e : (Int)) : an := ((fun e => .exit 0) e)
def rh (cc : fG) (e : (Int)) : List ah := ((fun e => [.I e]) e)
def pL (cc : fG) (e : (Int)) : List ah := ((fun e => []) e)
def k9 (o : an) (ls : List ah) : Option (((Int)) × List ah) := match o with
 | .exit 0 => (match ls with
  | [.I x0] => some (x0, [])
  | _ => none)
 | _ => none
theorem xA : ∀ o ls e cl cc, k9 o ls = some (e, cl) → cl = pL cc e → ls = rh cc e ∧ rf e = o ∧ o ≠ .normal ∧ ∀ v, o = .pan v → sc 0 v = true := by
 intro o ls e cl cc h hc
 unfold k9 at h
 split at h
 ·split at h
  ·cases h
   exact ⟨rfl, rfl, by simp, by intro v hv; cases hv <;> rfl⟩
  ·cases h
 ·cases h
def BT (o : an) : ExS := match o with
 | .exit 0 => ⟨3, (none :: none :: none :: none :: some (.int .i64) :: (rl none 32 [])), [], fun s => [0, 1, 2], [], []⟩
 | _ => ⟨0, [], [], fun _ => [], [], []⟩
theorem Bm {R : Type} (cc : fG) (v : Int × LA_ × Int) (kn : (Int × LA_ × Int) → Option R) (ke : ((Int)) → Option R) : cE cc v kn ke = (cE cc v (fun v => some (Sum.inl v)) fun e => some (Sum.inr e)).bind (Sum.elim kn ke) := by
 simp only [cE, bK, ai, Option.bind_assoc, cb, bF, Option.bind_some, Option.bind_none, Sum.elim_inl, Sum.elim_inr]
def um : LD where
 CC := fG
 V := Int × LA_ × Int
 E := (Int)
 n := 3
 K := 5
 M := (none :: none :: some (.ptr 3 0) :: none :: some (.int .i64) :: some (.ptr 4 0) :: (rl none 5 (some (.vec 2) :: some (.int .i64) :: some (.int .i64) :: (rl none 23 []))))
 B := [(3, .cells (rl (.int .u64) 32 [.vec 0]) true none), (0, .vec 1 false), (4, .vec 8 true), (2, .vec 3 false)]
 D := []
 pre := []
 F := fun s => [0, 1, 2, nameAt s 2 [], nameAt s 5 []]
 toL := Bl
 ofL := re
 au := fun ls c v h => by
  unfold re at h
  split at h
  ·cases h; rfl
  ·cases h
 ck := cE
 nat := Bm
 sh := BT
 out := rf
 toE := rh
 fp := pL
 ofE := k9
 da := xA
 post := fun cc e k => ((fun e => k (.exit 0) (bd 3 (none :: none :: none :: none :: some (.int .i64 e) :: (rl none 32 [])) [] [])) e)
 cd := fun cc e k => by rfl
theorem Bn : cF Try.prog 3 um.la (aK Try.f52 0) :=
 LD.ok (ch := oB) (A := bt) aJ rc mixed (fuel := 60) ⟨by kernel_rfl, fun e => by kernel_rfl, fun cc v => by kernel_rfl, aI (l := []) (by kernel_rfl) trivial⟩
def nY (a0 a1 a2 a3 a4 a5 a6 a7 a8 a9 a10 a11 a12 a13 a14 a15 a16 a17 a18 a19 a20 a21 a22 a23 a24 a25 a26 a27 a28 a29 a30 a31 : Int) (cs32 : LA_) (n33 : Nat) (cs34 : LA_) (n35 : Nat) : Option (Int) :=
 (Option.bind (vx (a0, a1, a2, a3, a4, a5, a6, a7, a8, a9, a10, a11, a12, a13, a14, a15, a16, a17, a18, a19, a20, a21, a22, a23, a24, a25, a26, a27, a28, a29, a30, a31, cs32, n33, 1, cs34, n35, ((n35 : Nat) : Int)) ((-1), ((v8 0 0 0 0 0 0 0 0 []) : LA_), 0)) fun e1 => (some e1))
def lr : FD where
 X := Int
 k := 3
 pre := []
 F := fun s => [0, 1, 2]
 M := .int .i64
 B := []
 toL := fun x => [.I x]
 ofL := fun ls => match ls with
  | [.I x0] => some x0
  | _ => none
 au := fun ls x h => by
  split at h
  ·cases h; rfl
  ·cases h
theorem DV (a0 a1 a2 a3 a4 a5 a6 a7 a8 a9 a10 a11 a12 a13 a14 a15 a16 a17 a18 a19 a20 a21 a22 a23 a24 a25 a26 a27 a28 a29 a30 a31 : Int) (cs32 : LA_) (n33 : Nat) (cs34 : LA_) (n35 : Nat) (x : Int) (h : nY a0 a1 a2 a3 a4 a5 a6 a7 a8 a9 a10 a11 a12 a13 a14 a15 a16 a17 a18 a19 a20 a21 a22 a23 a24 a25 a26 a27 a28 a29 a30 a31 cs32 n33 cs34 n35 = some x) : bc Try.prog 52 3 [.agg (v8 a0 a1 a2 a3 a4 a5 a6 a7 (v8 a8 a9 a10 a11 a12 a13 a14 a15 (v8 a16 a17 a18 a19 a20 a21 a22 a23 (v8 a24 a25 a26 a27 a28 a29 a30 a31 [.vec 0])))), .ptr 1 0] [.vec cs32 n33 1 false, .cells [.vec 2] false none, .vec cs34 n35 3 false] lr x :=
 FD.sem (ch := oB) (A := eF [(3, um.la)]) (fn := Try.f52) (c := bq Try.f52) (fuel := 60) aJ rc mixed bG lr Try.func52 (by kernel_rfl) (aI (l := [aK Try.f52 0]) (by kernel_rfl) ⟨bX (by kernel_rfl) Bn, trivial⟩)
  (by kernel_rfl) (Eq.trans (by kernel_rfl) h)
def tF (z0 z8 z16 z24 : Int) (cs32 : LA_) (n33 : Nat) (cs34 : LA_) (n35 : Nat) : Option (Int) := nY (aa z0 0) (aa z0 1) (aa z0 2) (aa z0 3) (aa z0 4) (aa z0 5) (aa z0 6) (aa z0 7) (aa z8 0) (aa z8 1) (aa z8 2) (aa z8 3) (aa z8 4) (aa z8 5) (aa z8 6) (aa z8 7) (aa z16 0) (aa z16 1) (aa z16 2) (aa z16 3) (aa z16 4) (aa z16 5) (aa z16 6) (aa z16 7) (aa z24 0) (aa z24 1) (aa z24 2) (aa z24 3) (aa z24 4) (aa z24 5) (aa z24 6) (aa z24 7) cs32 n33 cs34 n35
def tE : HK where
 call := fun args σ k => match args with
  | [.agg (.int .u64 a0 :: .int .u64 a1 :: .int .u64 a2 :: .int .u64 a3 :: .int .u64 a4 :: .int .u64 a5 :: .int .u64 a6 :: .int .u64 a7 :: .int .u64 a8 :: .int .u64 a9 :: .int .u64 a10 :: .int .u64 a11 :: .int .u64 a12 :: .int .u64 a13 :: .int .u64 a14 :: .int .u64 a15 :: .int .u64 a16 :: .int .u64 a17 :: .int .u64 a18 :: .int .u64 a19 :: .int .u64 a20 :: .int .u64 a21 :: .int .u64 a22 :: .int .u64 a23 :: .int .u64 a24 :: .int .u64 a25 :: .int .u64 a26 :: .int .u64 a27 :: .int .u64 a28 :: .int .u64 a29 :: .int .u64 a30 :: .int .u64 a31 :: x0 :: []), .ptr b1 0] => cM σ 1 x0 fun cs32 n33 => match σ.get b1 with | some (.cells [x2] _ _) => (cM σ 3 x2 fun cs34 n35 => Option.bind (nY a0 a1 a2 a3 a4 a5 a6 a7 a8 a9 a10 a11 a12 a13 a14 a15 a16 a17 a18 a19 a20 a21 a22 a23 a24 a25 a26 a27 a28 a29 a30 a31 cs32 n33 cs34 n35) fun y => aA σ 3 (lr.val y) (lr.aL y) k) | _ => none
  | _ => none
 nat := fun args σ k => by
  repeat' split
  all_goals simp only [aw, ai, Option.bind_assoc, Option.bind_none, aA, Option.bind_some]
 pure := false
 pok := fun h => by cases h
theorem EV : aW Try.prog 52 tE := by
 intro args σ r σ' h
 simp only [tE] at h
 split at h
 ·rename_i a0 a1 a2 a3 a4 a5 a6 a7 a8 a9 a10 a11 a12 a13 a14 a15 a16 a17 a18 a19 a20 a21 a22 a23 a24 a25 a26 a27 a28 a29 a30 a31 x0 b1
  obtain ⟨cs32, n33, he0, hf0, h⟩ := bA h
  split at h
  ·rename_i x2 own1 gr1 hb1
   obtain ⟨cs34, n35, he2, hf2, h⟩ := bA h
   obtain ⟨y, hy, h⟩ := bE_ h
   exact lifted (xs := [x0, .ptr b1 0, x2]) (ls := [.vec cs32 n33 1 false, .cells [.vec 2] false none, .vec cs34 n35 3 false]) (cargs := [.agg (v8 a0 a1 a2 a3 a4 a5 a6 a7 (v8 a8 a9 a10 a11 a12 a13 a14 a15 (v8 a16 a17 a18 a19 a20 a21 a22 a23 (v8 a24 a25 a26 a27 a28 a29 a30 a31 [.vec 0])))), .ptr 1 0]) (bv.of ⟨⟨rfl, he0, hf0, by decide⟩, ⟨rfl, rfl, by simp, rfl, b1, 0, rfl, by simp [cV, hb1, rI, sub]⟩, ⟨rfl, he2, hf2, by decide⟩, trivial⟩) rfl (DV a0 a1 a2 a3 a4 a5 a6 a7 a8 a9 a10 a11 a12 a13 a14 a15 a16 a17 a18 a19 a20 a21 a22 a23 a24 a25 a26 a27 a28 a29 a30 a31 cs32 n33 cs34 n35 y hy) rfl rfl rfl rfl h
  ·cases h
 ·cases h
abbrev iC := LA_ × Nat × Int × LA_ × Nat × Int × Int × Int × Int × Int × Int × Int × Int × Int × Int × Int × Int × Int × Int × Int × Int × Int × Int × Int × Int × Int × Int × Int × Int × Int × Int × Int × Int × Int × Int × Int × Int × LA_ × Nat × Int
abbrev iD := (I8 (I8 (I8 (I8 (LA_ × Nat × Int)))))
abbrev BS := (I8 (I8 (I8 (I8 (Int × LA_ × Nat)))))
abbrev iE := LA_ × Nat × Int × LA_ × Nat × Int
abbrev wM := Int × Int × Int × Int × Int × LA_ × Nat
def yt : CH := (CH.add 94 rG (CH.add 53 zB (CH.add 52 tE (CH.add 12 jy (CH.add 10 jz (CH.add 54 H5 CH.none))))))
def kL : CH := vm Try.prog jm [55, 77, 78, 86, 88] 60 yt 5
theorem DS : aE Try.prog yt := (CH.aj DI (CH.aj JB (CH.aj EV (CH.aj ni (CH.aj nj (CH.aj MR CH.aB))))))
theorem j7 : aE Try.prog kL := iF aJ mixed bG DS 5
def ft {R : Type} (cc : iE) (v : LA_ × Nat × Int) (kn : (LA_ × Nat × Int) → Option R) (ke : ((LA_ × Nat)) → Option R) : Option R :=
 (cond (decide (v.2.2 < cc.2.2.2.2.2)) (af (decide (0 ≤ v.2.2) && decide (v.2.2 < ((cc.2.2.2.2.1 : Nat) : Int))) (af (aq [.int .i64] cc.2.2.2.1 (Int.toNat v.2.2 * 1)) (af (decide (0 ≤ (ac cc.2.2.2.1 ((Int.toNat v.2.2 * 1) + 0))) && decide ((ac cc.2.2.2.1 ((Int.toNat v.2.2 * 1) + 0)) < ((cc.2.1 : Nat) : Int))) (af (aq lC cc.1 (Int.toNat (ac cc.2.2.2.1 ((Int.toNat v.2.2 * 1) + 0)) * 3)) (af (decide (2 * (v.2.1 + 1) * 24 ≤ 2 ^ 48)) (kn ((v.1 ++ [.int .i64 (ac cc.1 ((Int.toNat (ac cc.2.2.2.1 ((Int.toNat v.2.2 * 1) + 0)) * 3) + 0)), .int .i64 (ac cc.1 ((Int.toNat (ac cc.2.2.2.1 ((Int.toNat v.2.2 * 1) + 0)) * 3) + 1)), .int .i64 (ac cc.1 ((Int.toNat (ac cc.2.2.2.1 ((Int.toNat v.2.2 * 1) + 0)) * 3) + 2))]), (v.2.1 + 1), (IntKind.wrap .i64 (v.2.2 + 1))))))))) (ke (v.1, v.2.1)))
def mz (cc : iE) (v : LA_ × Nat × Int) : Option ((LA_ × Nat × Int) ⊕ ((LA_ × Nat))) := ft cc v (fun v => some (Sum.inl v)) fun e => some (Sum.inr e)
def A7 (cc : iE) (v : LA_ × Nat × Int) : Option ((LA_ × Nat)) := dA (mz cc) v
def EW (cc : iE) (v : LA_ × Nat × Int) : List ah := [.I cc.2.2.1, .I cc.s4.2, .I v.2.2, .C cc.1, .N cc.2.1, .C cc.2.2.2.1, .N cc.s4.1, .C v.1, .N v.2.1]
def vn (ls : List ah) : Option ((iE) × (LA_ × Nat × Int)) := match ls with
 | [.I x0, .I x1, .I x2, .C x3, .N x4, .C x5, .N x6, .C x7, .N x8] => some ((x3, x4, x0, x5, x6, x1), (x7, x8, x2))
 | _ => none
def vo (e : (LA_ × Nat)) : an := ((fun e => .exit 2) e)
def vp (cc : iE) (e : (LA_ × Nat)) : List ah := ((fun e => [.I cc.2.2.1, .C cc.1, .N cc.2.1, .C cc.2.2.2.1, .N cc.s4.1, .C e.1, .N e.2]) e)
def nk (cc : iE) (e : (LA_ × Nat)) : List ah := ((fun e => [.I cc.2.2.1, .C cc.1, .N cc.2.1, .C cc.2.2.2.1, .N cc.s4.1]) e)
def oz (o : an) (ls : List ah) : Option (((LA_ × Nat)) × List ah) := match o with
 | .exit 2 => (match ls with
  | [.I x0, .C x1, .N x2, .C x3, .N x4, .C x5, .N x6] => some ((x5, x6), [.I x0, .C x1, .N x2, .C x3, .N x4])
  | _ => none)
 | _ => none
theorem Bj : ∀ o ls e cl cc, oz o ls = some (e, cl) → cl = nk cc e → ls = vp cc e ∧ vo e = o ∧ o ≠ .normal ∧ ∀ v, o = .pan v → sc 0 v = true := by
 intro o ls e cl cc h hc
 unfold oz at h
 split at h
 ·split at h
  ·cases h
   simp only [nk, List.cons.injEq, ah.I.injEq, ah.N.injEq, ah.C.injEq, and_true] at hc
   obtain ⟨rfl, rfl, rfl, rfl, rfl⟩ := hc
   exact ⟨rfl, rfl, by simp, by intro v hv; cases hv <;> rfl⟩
  ·cases h
 ·cases h
def Gk (o : an) : ExS := match o with
 | .exit 2 => ⟨5, (none :: some (.ptr 1 0) :: some (.ptr 2 0) :: some (.int .i64) :: some (.func 52 [] [.ptr 1 0]) :: some (.vec 3) :: some (.vec 4) :: (rl none 74 [])), [(1, .cells [.vec 0] true none), (0, .vec 3 false), (2, .cells (rl (.ga .u64 0) 32 [.aO]) true none), (3, .vec 1 false), (4, .vec 3 true)], fun s => [0, nameAt s 1 [], nameAt s 2 [], nameAt s 5 [], nameAt s 6 []], [], []⟩
 | _ => ⟨0, [], [], fun _ => [], [], []⟩
theorem EX {R : Type} (cc : iE) (v : LA_ × Nat × Int) (kn : (LA_ × Nat × Int) → Option R) (ke : ((LA_ × Nat)) → Option R) : ft cc v kn ke = (ft cc v (fun v => some (Sum.inl v)) fun e => some (Sum.inr e)).bind (Sum.elim kn ke) := by
 simp only [ft, bK, ai, Option.bind_assoc, cb, bF, Option.bind_some, Option.bind_none, Sum.elim_inl, Sum.elim_inr]
def rH : LD where
 CC := iE
 V := LA_ × Nat × Int
 E := (LA_ × Nat)
 n := 1
 K := 5
 M := (none :: some (.ptr 1 0) :: some (.ptr 2 0) :: some (.int .i64) :: some (.func 52 [] [.ptr 1 0]) :: some (.vec 3) :: some (.vec 4) :: (rl none 10 (some (.vec 3) :: some (.int .i64) :: some (.int .i64) :: (rl none 61 []))))
 B := [(1, .cells [.vec 0] true none), (0, .vec 3 false), (2, .cells (rl (.ga .u64 0) 32 [.aO]) true none), (3, .vec 1 false), (4, .vec 3 true)]
 D := []
 pre := [(6, 3)]
 F := fun s => [0, nameAt s 1 [], nameAt s 2 [], nameAt s 5 [], nameAt s 6 []]
 toL := EW
 ofL := vn
 au := fun ls c v h => by
  unfold vn at h
  split at h
  ·cases h; rfl
  ·cases h
 ck := ft
 nat := EX
 sh := Gk
 out := vo
 toE := vp
 fp := nk
 ofE := oz
 da := Bj
 post := fun cc e k => ((fun e => k (.exit 2) (bd 5 (none :: some (.ptr 1 0) :: some (.ptr 2 0) :: some (.int .i64 cc.2.2.1) :: some (.func 52 [] [.ptr 1 0]) :: some (.vec 3) :: some (.vec 4) :: (rl none 74 [])) [(1, .cells [.vec 0] true none), (0, .vec cc.1 cc.2.1 3 false), (2, .cells (rl (.int .u64 0) 32 [.aO]) true none), (3, .vec cc.2.2.2.1 cc.s4.1 1 false), (4, .vec e.1 e.2 3 true)] [])) e)
 cd := fun cc e k => by rfl
theorem vq : cF Try.prog 1 rH.la (aK Try.f31 1) :=
 LD.ok (ch := kL) (A := bt) aJ j7 mixed (fuel := 60) ⟨by kernel_rfl, fun e => by kernel_rfl, fun cc v => by kernel_rfl, aI (l := []) (by kernel_rfl) trivial⟩
def eG {R : Type} (cc : iC) (v : LA_ × Nat × Int) (kn : (LA_ × Nat × Int) → Option R) (ke : ((LA_ × Nat)) → Option R) : Option R :=
 (cond (decide (v.2.2 < cc.2.2.2.2.2.2.2.2.2.2.2.2.2.2.2.2.2.2.2.2.2.2.2.2.2.2.2.2.2.2.2.2.2.2.2.2.2.2.2)) (af (decide (0 ≤ v.2.2) && decide (v.2.2 < ((cc.2.2.2.2.2.2.2.2.2.2.2.2.2.2.2.2.2.2.2.2.2.2.2.2.2.2.2.2.2.2.2.2.2.2.2.2.2.2.1 : Nat) : Int))) (af (aq [.int .i64] cc.2.2.2.2.2.2.2.2.2.2.2.2.2.2.2.2.2.2.2.2.2.2.2.2.2.2.2.2.2.2.2.2.2.2.2.2.2.1 (Int.toNat v.2.2 * 1)) (af (decide (0 ≤ (ac cc.2.2.2.2.2.2.2.2.2.2.2.2.2.2.2.2.2.2.2.2.2.2.2.2.2.2.2.2.2.2.2.2.2.2.2.2.2.1 ((Int.toNat v.2.2 * 1) + 0))) && decide ((ac cc.2.2.2.2.2.2.2.2.2.2.2.2.2.2.2.2.2.2.2.2.2.2.2.2.2.2.2.2.2.2.2.2.2.2.2.2.2.1 ((Int.toNat v.2.2 * 1) + 0)) < ((cc.2.2.2.2.1 : Nat) : Int))) (af (aq [.int .i64] cc.2.2.2.1 (Int.toNat (ac cc.2.2.2.2.2.2.2.2.2.2.2.2.2.2.2.2.2.2.2.2.2.2.2.2.2.2.2.2.2.2.2.2.2.2.2.2.2.1 ((Int.toNat v.2.2 * 1) + 0)) * 1)) (af (decide (2 * (v.2.1 + 1) * 8 ≤ 2 ^ 48)) (kn ((v.1 ++ [.int .i64 (ac cc.2.2.2.1 ((Int.toNat (ac cc.2.2.2.2.2.2.2.2.2.2.2.2.2.2.2.2.2.2.2.2.2.2.2.2.2.2.2.2.2.2.2.2.2.2.2.2.2.1 ((Int.toNat v.2.2 * 1) + 0)) * 1) + 0))]), (v.2.1 + 1), (IntKind.wrap .i64 (v.2.2 + 1))))))))) (ke (v.1, v.2.1)))
def ln (cc : iC) (v : LA_ × Nat × Int) : Option ((LA_ × Nat × Int) ⊕ ((LA_ × Nat))) := eG cc v (fun v => some (Sum.inl v)) fun e => some (Sum.inr e)
def yu (cc : iC) (v : LA_ × Nat × Int) : Option ((LA_ × Nat)) := dA (ln cc) v
def DT (cc : iC) (v : LA_ × Nat × Int) : List ah := [.I cc.2.2.1, .I cc.s16.s16.s4.2.2.2, .I v.2.2, .C cc.1, .N cc.2.1, .C cc.2.2.2.1, .N cc.s4.1, .I cc.s4.2.1, .I cc.s4.2.2.1, .I cc.s4.2.2.2.1, .I cc.s8.1, .I cc.s8.2.1, .I cc.s8.2.2.1, .I cc.s8.2.2.2.1, .I cc.s8.s4.1, .I cc.s8.s4.2.1, .I cc.s8.s4.2.2.1, .I cc.s8.s4.2.2.2.1, .I cc.s16.1, .I cc.s16.2.1, .I cc.s16.2.2.1, .I cc.s16.2.2.2.1, .I cc.s16.s4.1, .I cc.s16.s4.2.1, .I cc.s16.s4.2.2.1, .I cc.s16.s4.2.2.2.1, .I cc.s16.s8.1, .I cc.s16.s8.2.1, .I cc.s16.s8.2.2.1, .I cc.s16.s8.2.2.2.1, .I cc.s16.s8.s4.1, .I cc.s16.s8.s4.2.1, .I cc.s16.s8.s4.2.2.1, .I cc.s16.s8.s4.2.2.2.1, .I cc.s16.s16.1, .I cc.s16.s16.2.1, .I cc.s16.s16.2.2.1, .I cc.s16.s16.2.2.2.1, .I cc.s16.s16.s4.1, .C cc.s16.s16.s4.2.1, .N cc.s16.s16.s4.2.2.1, .C v.1, .N v.2.1]
def uh (ls : List ah) : Option ((iC) × (LA_ × Nat × Int)) := match ls with
 | (.I x0 :: .I x1 :: .I x2 :: .C x3 :: .N x4 :: .C x5 :: .N x6 :: .I x7 :: .I x8 :: .I x9 :: .I x10 :: .I x11 :: .I x12 :: .I x13 :: .I x14 :: .I x15 :: .I x16 :: .I x17 :: .I x18 :: .I x19 :: .I x20 :: .I x21 :: .I x22 :: .I x23 :: .I x24 :: .I x25 :: .I x26 :: .I x27 :: .I x28 :: .I x29 :: .I x30 :: .I x31 :: .I x32 :: .I x33 :: .I x34 :: .I x35 :: .I x36 :: .I x37 :: .I x38 :: .C x39 :: .N x40 :: .C x41 :: .N x42 :: []) => some ((x3, x4, x0, x5, x6, x7, x8, x9, x10, x11, x12, x13, x14, x15, x16, x17, x18, x19, x20, x21, x22, x23, x24, x25, x26, x27, x28, x29, x30, x31, x32, x33, x34, x35, x36, x37, x38, x39, x40, x1), (x41, x42, x2))
 | _ => none
def ui (e : (LA_ × Nat)) : an := ((fun e => .exit 4) e)
def uj (cc : iC) (e : (LA_ × Nat)) : List ah := ((fun e => [.I cc.2.2.1, .C cc.1, .N cc.2.1, .I cc.s4.2.1, .I cc.s4.2.2.1, .I cc.s4.2.2.2.1, .I cc.s8.1, .I cc.s8.2.1, .I cc.s8.2.2.1, .I cc.s8.2.2.2.1, .I cc.s8.s4.1, .I cc.s8.s4.2.1, .I cc.s8.s4.2.2.1, .I cc.s8.s4.2.2.2.1, .I cc.s16.1, .I cc.s16.2.1, .I cc.s16.2.2.1, .I cc.s16.2.2.2.1, .I cc.s16.s4.1, .I cc.s16.s4.2.1, .I cc.s16.s4.2.2.1, .I cc.s16.s4.2.2.2.1, .I cc.s16.s8.1, .I cc.s16.s8.2.1, .I cc.s16.s8.2.2.1, .I cc.s16.s8.2.2.2.1, .I cc.s16.s8.s4.1, .I cc.s16.s8.s4.2.1, .I cc.s16.s8.s4.2.2.1, .I cc.s16.s8.s4.2.2.2.1, .I cc.s16.s16.1, .I cc.s16.s16.2.1, .I cc.s16.s16.2.2.1, .I cc.s16.s16.2.2.2.1, .I cc.s16.s16.s4.1, .C cc.s16.s16.s4.2.1, .N cc.s16.s16.s4.2.2.1, .C e.1, .N e.2]) e)
def lE (cc : iC) (e : (LA_ × Nat)) : List ah := ((fun e => [.I cc.2.2.1, .C cc.1, .N cc.2.1, .I cc.s4.2.1, .I cc.s4.2.2.1, .I cc.s4.2.2.2.1, .I cc.s8.1, .I cc.s8.2.1, .I cc.s8.2.2.1, .I cc.s8.2.2.2.1, .I cc.s8.s4.1, .I cc.s8.s4.2.1, .I cc.s8.s4.2.2.1, .I cc.s8.s4.2.2.2.1, .I cc.s16.1, .I cc.s16.2.1, .I cc.s16.2.2.1, .I cc.s16.2.2.2.1, .I cc.s16.s4.1, .I cc.s16.s4.2.1, .I cc.s16.s4.2.2.1, .I cc.s16.s4.2.2.2.1, .I cc.s16.s8.1, .I cc.s16.s8.2.1, .I cc.s16.s8.2.2.1, .I cc.s16.s8.2.2.2.1, .I cc.s16.s8.s4.1, .I cc.s16.s8.s4.2.1, .I cc.s16.s8.s4.2.2.1, .I cc.s16.s8.s4.2.2.2.1, .I cc.s16.s16.1, .I cc.s16.s16.2.1, .I cc.s16.s16.2.2.1, .I cc.s16.s16.2.2.2.1, .I cc.s16.s16.s4.1, .C cc.s16.s16.s4.2.1, .N cc.s16.s16.s4.2.2.1]) e)
def no (o : an) (ls : List ah) : Option (((LA_ × Nat)) × List ah) := match o with
 | .exit 4 => (match ls with
  | (.I x0 :: .C x1 :: .N x2 :: .I x3 :: .I x4 :: .I x5 :: .I x6 :: .I x7 :: .I x8 :: .I x9 :: .I x10 :: .I x11 :: .I x12 :: .I x13 :: .I x14 :: .I x15 :: .I x16 :: .I x17 :: .I x18 :: .I x19 :: .I x20 :: .I x21 :: .I x22 :: .I x23 :: .I x24 :: .I x25 :: .I x26 :: .I x27 :: .I x28 :: .I x29 :: .I x30 :: .I x31 :: .I x32 :: .I x33 :: .I x34 :: .C x35 :: .N x36 :: .C x37 :: .N x38 :: []) => some ((x37, x38), [.I x0, .C x1, .N x2, .I x3, .I x4, .I x5, .I x6, .I x7, .I x8, .I x9, .I x10, .I x11, .I x12, .I x13, .I x14, .I x15, .I x16, .I x17, .I x18, .I x19, .I x20, .I x21, .I x22, .I x23, .I x24, .I x25, .I x26, .I x27, .I x28, .I x29, .I x30, .I x31, .I x32, .I x33, .I x34, .C x35, .N x36])
  | _ => none)
 | _ => none
theorem zC : ∀ o ls e cl cc, no o ls = some (e, cl) → cl = lE cc e → ls = uj cc e ∧ ui e = o ∧ o ≠ .normal ∧ ∀ v, o = .pan v → sc 0 v = true := by
 intro o ls e cl cc h hc
 unfold no at h
 split at h
 ·split at h
  ·cases h
   simp only [lE, List.cons.injEq, ah.I.injEq, ah.N.injEq, ah.C.injEq, and_true] at hc
   obtain ⟨rfl, rfl, rfl, rfl, rfl, rfl, rfl, rfl, rfl, rfl, rfl, rfl, rfl, rfl, rfl, rfl, rfl, rfl, rfl, rfl, rfl, rfl, rfl, rfl, rfl, rfl, rfl, rfl, rfl, rfl, rfl, rfl, rfl, rfl, rfl, rfl, rfl⟩ := hc
   exact ⟨rfl, rfl, by simp, by intro v hv; cases hv <;> rfl⟩
  ·cases h
 ·cases h
def EY (o : an) : ExS := match o with
 | .exit 4 => ⟨6, (none :: some (.ptr 1 0) :: some (.ptr 2 0) :: some (.int .i64) :: some (.func 52 [] [.ptr 1 0]) :: none :: none :: none :: none :: some (.ptr 3 0) :: none :: some (.vec 5) :: (rl none 69 [])), [(1, .cells [.vec 0] true none), (0, .vec 3 false), (2, .cells (rl (.ga .u64 0) 32 [.aO]) true none), (3, .cells (rl (.int .u64) 32 [.vec 4]) true none), (4, .vec 1 true), (5, .vec 1 true)], fun s => [0, nameAt s 1 [], nameAt s 2 [], nameAt s 9 [], nameAt s 9 [.d 32], nameAt s 11 []], [], []⟩
 | _ => ⟨0, [], [], fun _ => [], [], []⟩
theorem DU {R : Type} (cc : iC) (v : LA_ × Nat × Int) (kn : (LA_ × Nat × Int) → Option R) (ke : ((LA_ × Nat)) → Option R) : eG cc v kn ke = (eG cc v (fun v => some (Sum.inl v)) fun e => some (Sum.inr e)).bind (Sum.elim kn ke) := by
 simp only [eG, bK, ai, Option.bind_assoc, cb, bF, Option.bind_some, Option.bind_none, Sum.elim_inl, Sum.elim_inr]
def pK : LD where
 CC := iC
 V := LA_ × Nat × Int
 E := (LA_ × Nat)
 n := 1
 K := 7
 M := (none :: some (.ptr 1 0) :: some (.ptr 2 0) :: some (.int .i64) :: some (.func 52 [] [.ptr 1 0]) :: some (.vec 3) :: none :: none :: none :: some (.ptr 4 0) :: none :: some (.vec 6) :: (rl none 25 (some (.vec 5) :: some (.int .i64) :: some (.int .i64) :: (rl none 41 []))))
 B := [(1, .cells [.vec 0] true none), (0, .vec 3 false), (2, .cells (rl (.ga .u64 0) 32 [.aO]) true none), (3, .vec 1 false), (4, .cells (rl (.int .u64) 32 [.vec 5]) true none), (5, .vec 1 true), (6, .vec 1 true)]
 D := []
 pre := [(11, 1)]
 F := fun s => [0, nameAt s 1 [], nameAt s 2 [], nameAt s 5 [], nameAt s 9 [], nameAt s 9 [.d 32], nameAt s 11 []]
 toL := DT
 ofL := uh
 au := fun ls c v h => by
  unfold uh at h
  split at h
  ·cases h; rfl
  ·cases h
 ck := eG
 nat := DU
 sh := EY
 out := ui
 toE := uj
 fp := lE
 ofE := no
 da := zC
 post := fun cc e k => ((fun e => k (.exit 4) (bd 6 (none :: some (.ptr 1 0) :: some (.ptr 2 0) :: some (.int .i64 cc.2.2.1) :: some (.func 52 [] [.ptr 1 0]) :: none :: none :: none :: none :: some (.ptr 3 0) :: none :: some (.vec 5) :: (rl none 69 [])) [(1, .cells [.vec 0] true none), (0, .vec cc.1 cc.2.1 3 false), (2, .cells (rl (.int .u64 0) 32 [.aO]) true none), (3, .cells (v8 cc.s4.2.1 cc.s4.2.2.1 cc.s4.2.2.2.1 cc.s8.1 cc.s8.2.1 cc.s8.2.2.1 cc.s8.2.2.2.1 cc.s8.s4.1 (v8 cc.s8.s4.2.1 cc.s8.s4.2.2.1 cc.s8.s4.2.2.2.1 cc.s16.1 cc.s16.2.1 cc.s16.2.2.1 cc.s16.2.2.2.1 cc.s16.s4.1 (v8 cc.s16.s4.2.1 cc.s16.s4.2.2.1 cc.s16.s4.2.2.2.1 cc.s16.s8.1 cc.s16.s8.2.1 cc.s16.s8.2.2.1 cc.s16.s8.2.2.2.1 cc.s16.s8.s4.1 (v8 cc.s16.s8.s4.2.1 cc.s16.s8.s4.2.2.1 cc.s16.s8.s4.2.2.2.1 cc.s16.s16.1 cc.s16.s16.2.1 cc.s16.s16.2.2.1 cc.s16.s16.2.2.2.1 cc.s16.s16.s4.1 [.vec 4])))) true none), (4, .vec cc.s16.s16.s4.2.1 cc.s16.s16.s4.2.2.1 1 true), (5, .vec e.1 e.2 1 true)] [])) e)
 cd := fun cc e k => by rfl
theorem uk : cF Try.prog 1 pK.la (aK Try.f31 2) :=
 LD.ok (ch := kL) (A := bt) aJ j7 mixed (fuel := 60) ⟨by kernel_rfl, fun e => by kernel_rfl, fun cc v => by kernel_rfl, aI (l := []) (by kernel_rfl) trivial⟩
def dB {R : Type} (cc : LA_ × Nat) (v : Int × LA_ × Nat) (kn : (Int × LA_ × Nat) → Option R) (ke : ((Int) ⊕ (iD)) → Option R) : Option R :=
 (Option.bind (A7 (cc.1, cc.2, v.1, v.2.1, v.2.2, ((v.2.2 : Nat) : Int)) (([] : LA_), 0, 0)) fun e1 => (Option.bind (dc e1.1 e1.2) fun r2 => (Option.bind (yu (cc.1, cc.2, v.1, v.2.1, v.2.2, (aa r2.1 0), (aa r2.1 1), (aa r2.1 2), (aa r2.1 3), (aa r2.1 4), (aa r2.1 5), (aa r2.1 6), (aa r2.1 7), (aa r2.2.1 0), (aa r2.2.1 1), (aa r2.2.1 2), (aa r2.2.1 3), (aa r2.2.1 4), (aa r2.2.1 5), (aa r2.2.1 6), (aa r2.2.1 7), (aa r2.2.2.1 0), (aa r2.2.2.1 1), (aa r2.2.2.1 2), (aa r2.2.2.1 3), (aa r2.2.2.1 4), (aa r2.2.2.1 5), (aa r2.2.2.1 6), (aa r2.2.2.1 7), (aa r2.2.2.2.1 0), (aa r2.2.2.2.1 1), (aa r2.2.2.2.1 2), (aa r2.2.2.2.1 3), (aa r2.2.2.2.1 4), (aa r2.2.2.2.1 5), (aa r2.2.2.2.1 6), (aa r2.2.2.2.1 7), r2.2.2.2.2.2.1, r2.2.2.2.2.2.2, ((r2.2.2.2.2.2.2 : Nat) : Int)) (([] : LA_), 0, 0)) fun e3 => (Option.bind (pI ((cc.2 : Nat) : Int)) fun r4 => (cond (decide ((IntKind.wrap .i64 (v.1 + 1)) > r4)) (ke (.inl (IntKind.wrap .i64 (v.1 + 1)))) (Option.bind (tF r2.1 r2.2.1 r2.2.2.1 r2.2.2.2.1 e3.1 e3.2 cc.1 cc.2) fun r5 => (af (decide (0 ≤ r5) && decide (r5 < ((cc.2 : Nat) : Int))) (af (aq lC cc.1 (Int.toNat r5 * 3)) (Option.bind (mA r2.1 r2.2.1 r2.2.2.1 r2.2.2.2.1 e3.1 e3.2 (ac cc.1 ((Int.toNat r5 * 3) + 0)) (ac cc.1 ((Int.toNat r5 * 3) + 1)) (ac cc.1 ((Int.toNat r5 * 3) + 2))) fun r6 => (cond r6 (cond (Nat.beq e3.2 1) (af (aq [.int .i64] e3.1 0 && Nat.beq (List.length e3.1) 1) (Option.bind (aD r5 (ac e3.1 0)) fun r35 => (cond r35 (kn ((IntKind.wrap .i64 (v.1 + 1)), ([.int .i64 r5, .int .i64 (ac e3.1 0)] : LA_), 2)) (kn ((IntKind.wrap .i64 (v.1 + 1)), ([.int .i64 (ac e3.1 0), .int .i64 r5] : LA_), 2))))) (cond (Nat.beq e3.2 2) (af (aq [.int .i64, .int .i64] e3.1 0 && Nat.beq (List.length e3.1) 2) (Option.bind (aD (ac e3.1 1) (ac e3.1 0)) fun r30 => (cond r30 (Option.bind (aD r5 (ac e3.1 0)) fun r31 => (cond r31 (Option.bind (aD r5 (ac e3.1 1)) fun r32 => (cond r32 (kn ((IntKind.wrap .i64 (v.1 + 1)), ([.int .i64 r5, .int .i64 (ac e3.1 1), .int .i64 (ac e3.1 0)] : LA_), 3)) (kn ((IntKind.wrap .i64 (v.1 + 1)), ([.int .i64 (ac e3.1 1), .int .i64 r5, .int .i64 (ac e3.1 0)] : LA_), 3)))) (kn ((IntKind.wrap .i64 (v.1 + 1)), ([.int .i64 (ac e3.1 1), .int .i64 (ac e3.1 0), .int .i64 r5] : LA_), 3)))) (Option.bind (aD r5 (ac e3.1 1)) fun r33 => (cond r33 (Option.bind (aD r5 (ac e3.1 0)) fun r34 => (cond r34 (kn ((IntKind.wrap .i64 (v.1 + 1)), ([.int .i64 r5, .int .i64 (ac e3.1 0), .int .i64 (ac e3.1 1)] : LA_), 3)) (kn ((IntKind.wrap .i64 (v.1 + 1)), ([.int .i64 (ac e3.1 0), .int .i64 r5, .int .i64 (ac e3.1 1)] : LA_), 3)))) (kn ((IntKind.wrap .i64 (v.1 + 1)), ([.int .i64 (ac e3.1 0), .int .i64 (ac e3.1 1), .int .i64 r5] : LA_), 3))))))) (cond (Nat.beq e3.2 3) (af (aq lC e3.1 0 && Nat.beq (List.length e3.1) 3) (Option.bind (aD (ac e3.1 1) (ac e3.1 0)) fun r7 => (cond r7 (Option.bind (aD (ac e3.1 2) (ac e3.1 0)) fun r8 => (cond r8 (Option.bind (aD (ac e3.1 2) (ac e3.1 1)) fun r9 => (cond r9 (Option.bind (aD r5 (ac e3.1 0)) fun r10 => (cond r10 (Option.bind (aD r5 (ac e3.1 1)) fun r11 => (cond r11 (Option.bind (aD r5 (ac e3.1 2)) fun r12 => (cond r12 (kn ((IntKind.wrap .i64 (v.1 + 1)), ([.int .i64 r5, .int .i64 (ac e3.1 2), .int .i64 (ac e3.1 1), .int .i64 (ac e3.1 0)] : LA_), 4)) (kn ((IntKind.wrap .i64 (v.1 + 1)), ([.int .i64 (ac e3.1 2), .int .i64 r5, .int .i64 (ac e3.1 1), .int .i64 (ac e3.1 0)] : LA_), 4)))) (kn ((IntKind.wrap .i64 (v.1 + 1)), ([.int .i64 (ac e3.1 2), .int .i64 (ac e3.1 1), .int .i64 r5, .int .i64 (ac e3.1 0)] : LA_), 4)))) (kn ((IntKind.wrap .i64 (v.1 + 1)), ([.int .i64 (ac e3.1 2), .int .i64 (ac e3.1 1), .int .i64 (ac e3.1 0), .int .i64 r5] : LA_), 4)))) (Option.bind (aD r5 (ac e3.1 0)) fun r13 => (cond r13 (Option.bind (aD r5 (ac e3.1 2)) fun r14 => (cond r14 (Option.bind (aD r5 (ac e3.1 1)) fun r15 => (cond r15 (kn ((IntKind.wrap .i64 (v.1 + 1)), ([.int .i64 r5, .int .i64 (ac e3.1 1), .int .i64 (ac e3.1 2), .int .i64 (ac e3.1 0)] : LA_), 4)) (kn ((IntKind.wrap .i64 (v.1 + 1)), ([.int .i64 (ac e3.1 1), .int .i64 r5, .int .i64 (ac e3.1 2), .int .i64 (ac e3.1 0)] : LA_), 4)))) (kn ((IntKind.wrap .i64 (v.1 + 1)), ([.int .i64 (ac e3.1 1), .int .i64 (ac e3.1 2), .int .i64 r5, .int .i64 (ac e3.1 0)] : LA_), 4)))) (kn ((IntKind.wrap .i64 (v.1 + 1)), ([.int .i64 (ac e3.1 1), .int .i64 (ac e3.1 2), .int .i64 (ac e3.1 0), .int .i64 r5] : LA_), 4)))))) (Option.bind (aD r5 (ac e3.1 2)) fun r16 => (cond r16 (Option.bind (aD r5 (ac e3.1 0)) fun r17 => (cond r17 (Option.bind (aD r5 (ac e3.1 1)) fun r18 => (cond r18 (kn ((IntKind.wrap .i64 (v.1 + 1)), ([.int .i64 r5, .int .i64 (ac e3.1 1), .int .i64 (ac e3.1 0), .int .i64 (ac e3.1 2)] : LA_), 4)) (kn ((IntKind.wrap .i64 (v.1 + 1)), ([.int .i64 (ac e3.1 1), .int .i64 r5, .int .i64 (ac e3.1 0), .int .i64 (ac e3.1 2)] : LA_), 4)))) (kn ((IntKind.wrap .i64 (v.1 + 1)), ([.int .i64 (ac e3.1 1), .int .i64 (ac e3.1 0), .int .i64 r5, .int .i64 (ac e3.1 2)] : LA_), 4)))) (kn ((IntKind.wrap .i64 (v.1 + 1)), ([.int .i64 (ac e3.1 1), .int .i64 (ac e3.1 0), .int .i64 (ac e3.1 2), .int .i64 r5] : LA_), 4)))))) (Option.bind (aD (ac e3.1 2) (ac e3.1 1)) fun r19 => (cond r19 (Option.bind (aD (ac e3.1 2) (ac e3.1 0)) fun r20 => (cond r20 (Option.bind (aD r5 (ac e3.1 1)) fun r21 => (cond r21 (Option.bind (aD r5 (ac e3.1 0)) fun r22 => (cond r22 (Option.bind (aD r5 (ac e3.1 2)) fun r23 => (cond r23 (kn ((IntKind.wrap .i64 (v.1 + 1)), ([.int .i64 r5, .int .i64 (ac e3.1 2), .int .i64 (ac e3.1 0), .int .i64 (ac e3.1 1)] : LA_), 4)) (kn ((IntKind.wrap .i64 (v.1 + 1)), ([.int .i64 (ac e3.1 2), .int .i64 r5, .int .i64 (ac e3.1 0), .int .i64 (ac e3.1 1)] : LA_), 4)))) (kn ((IntKind.wrap .i64 (v.1 + 1)), ([.int .i64 (ac e3.1 2), .int .i64 (ac e3.1 0), .int .i64 r5, .int .i64 (ac e3.1 1)] : LA_), 4)))) (kn ((IntKind.wrap .i64 (v.1 + 1)), ([.int .i64 (ac e3.1 2), .int .i64 (ac e3.1 0), .int .i64 (ac e3.1 1), .int .i64 r5] : LA_), 4)))) (Option.bind (aD r5 (ac e3.1 1)) fun r24 => (cond r24 (Option.bind (aD r5 (ac e3.1 2)) fun r25 => (cond r25 (Option.bind (aD r5 (ac e3.1 0)) fun r26 => (cond r26 (kn ((IntKind.wrap .i64 (v.1 + 1)), ([.int .i64 r5, .int .i64 (ac e3.1 0), .int .i64 (ac e3.1 2), .int .i64 (ac e3.1 1)] : LA_), 4)) (kn ((IntKind.wrap .i64 (v.1 + 1)), ([.int .i64 (ac e3.1 0), .int .i64 r5, .int .i64 (ac e3.1 2), .int .i64 (ac e3.1 1)] : LA_), 4)))) (kn ((IntKind.wrap .i64 (v.1 + 1)), ([.int .i64 (ac e3.1 0), .int .i64 (ac e3.1 2), .int .i64 r5, .int .i64 (ac e3.1 1)] : LA_), 4)))) (kn ((IntKind.wrap .i64 (v.1 + 1)), ([.int .i64 (ac e3.1 0), .int .i64 (ac e3.1 2), .int .i64 (ac e3.1 1), .int .i64 r5] : LA_), 4)))))) (Option.bind (aD r5 (ac e3.1 2)) fun r27 => (cond r27 (Option.bind (aD r5 (ac e3.1 1)) fun r28 => (cond r28 (Option.bind (aD r5 (ac e3.1 0)) fun r29 => (cond r29 (kn ((IntKind.wrap .i64 (v.1 + 1)), ([.int .i64 r5, .int .i64 (ac e3.1 0), .int .i64 (ac e3.1 1), .int .i64 (ac e3.1 2)] : LA_), 4)) (kn ((IntKind.wrap .i64 (v.1 + 1)), ([.int .i64 (ac e3.1 0), .int .i64 r5, .int .i64 (ac e3.1 1), .int .i64 (ac e3.1 2)] : LA_), 4)))) (kn ((IntKind.wrap .i64 (v.1 + 1)), ([.int .i64 (ac e3.1 0), .int .i64 (ac e3.1 1), .int .i64 r5, .int .i64 (ac e3.1 2)] : LA_), 4)))) (kn ((IntKind.wrap .i64 (v.1 + 1)), ([.int .i64 (ac e3.1 0), .int .i64 (ac e3.1 1), .int .i64 (ac e3.1 2), .int .i64 r5] : LA_), 4))))))))) none))) (ke (.inr (aX r2.1 (aX r2.2.1 (aX r2.2.2.1 (aX r2.2.2.2.1 (e3.1, e3.2, (IntKind.wrap .i64 (v.1 + 1)))))))))))))))))))
def de (cc : LA_ × Nat) (v : Int × LA_ × Nat) : Option ((Int × LA_ × Nat) ⊕ ((Int) ⊕ (iD))) := dB cc v (fun v => some (Sum.inl v)) fun e => some (Sum.inr e)
def tG (cc : LA_ × Nat) (v : Int × LA_ × Nat) : Option ((Int) ⊕ (iD)) := dA (de cc) v
def EZ (cc : LA_ × Nat) (v : Int × LA_ × Nat) : List ah := [.I v.1, .C cc.1, .N cc.2, .C v.2.1, .N v.2.2]
def vr (ls : List ah) : Option ((LA_ × Nat) × (Int × LA_ × Nat)) := match ls with
 | [.I x0, .C x1, .N x2, .C x3, .N x4] => some ((x1, x2), (x0, x3, x4))
 | _ => none
def vt (e : (Int) ⊕ (iD)) : an := ((Sum.elim (fun e => .pan (.iface 101 (.agg []))) (fun e => .ret)) e)
def vu (cc : LA_ × Nat) (e : (Int) ⊕ (iD)) : List ah := ((Sum.elim (fun e => [.I e]) (fun e => [.I e.s16.s16.2.2, .I e.1, .I e.2.1, .I e.2.2.1, .I e.2.2.2.1, .I e.s4.1, .I e.s4.2.1, .I e.s4.2.2.1, .I e.s4.2.2.2.1, .I e.s8.1, .I e.s8.2.1, .I e.s8.2.2.1, .I e.s8.2.2.2.1, .I e.s8.s4.1, .I e.s8.s4.2.1, .I e.s8.s4.2.2.1, .I e.s8.s4.2.2.2.1, .I e.s16.1, .I e.s16.2.1, .I e.s16.2.2.1, .I e.s16.2.2.2.1, .I e.s16.s4.1, .I e.s16.s4.2.1, .I e.s16.s4.2.2.1, .I e.s16.s4.2.2.2.1, .I e.s16.s8.1, .I e.s16.s8.2.1, .I e.s16.s8.2.2.1, .I e.s16.s8.2.2.2.1, .I e.s16.s8.s4.1, .I e.s16.s8.s4.2.1, .I e.s16.s8.s4.2.2.1, .I e.s16.s8.s4.2.2.2.1, .C e.s16.s16.1, .N e.s16.s16.2.1])) e)
def ul (cc : LA_ × Nat) (e : (Int) ⊕ (iD)) : List ah := ((Sum.elim (fun e => []) (fun e => [])) e)
def oA (o : an) (ls : List ah) : Option (((Int) ⊕ (iD)) × List ah) := match o with
 | .pan (.iface 101 (.agg [])) => (match ls with
  | [.I x0] => some ((.inl x0), [])
  | _ => none)
 | .ret => (match ls with
  | (.I x0 :: .I x1 :: .I x2 :: .I x3 :: .I x4 :: .I x5 :: .I x6 :: .I x7 :: .I x8 :: .I x9 :: .I x10 :: .I x11 :: .I x12 :: .I x13 :: .I x14 :: .I x15 :: .I x16 :: .I x17 :: .I x18 :: .I x19 :: .I x20 :: .I x21 :: .I x22 :: .I x23 :: .I x24 :: .I x25 :: .I x26 :: .I x27 :: .I x28 :: .I x29 :: .I x30 :: .I x31 :: .I x32 :: .C x33 :: .N x34 :: []) => some ((.inr (x1, x2, x3, x4, x5, x6, x7, x8, x9, x10, x11, x12, x13, x14, x15, x16, x17, x18, x19, x20, x21, x22, x23, x24, x25, x26, x27, x28, x29, x30, x31, x32, x33, x34, x0)), [])
  | _ => none)
 | _ => none
theorem Bk : ∀ o ls e cl cc, oA o ls = some (e, cl) → cl = ul cc e → ls = vu cc e ∧ vt e = o ∧ o ≠ .normal ∧ ∀ v, o = .pan v → sc 0 v = true := by
 intro o ls e cl cc h hc
 unfold oA at h
 split at h
 ·split at h
  ·cases h
   exact ⟨rfl, rfl, by simp, by intro v hv; cases hv <;> rfl⟩
  ·cases h
 ·split at h
  ·cases h
   exact ⟨rfl, rfl, by simp, by intro v hv; cases hv <;> rfl⟩
  ·cases h
 ·cases h
def Gl (o : an) : ExS := match o with
 | .pan (.iface 101 (.agg [])) => ⟨2, (none :: none :: some (.ptr 1 0) :: some (.int .i64) :: (rl none 77 [])), [(1, .cells (rl (.ga .u64 0) 32 [.aO]) true none)], fun s => [0, nameAt s 2 []], [], []⟩
 | .ret => ⟨3, (none :: none :: some (.ptr 1 0) :: some (.int .i64) :: (rl none 77 [])), [(1, .cells (rl (.int .u64) 32 [.vec 2]) true none), (2, .vec 1 true)], fun s => [0, nameAt s 2 [], nameAt s 2 [.d 32]], [], []⟩
 | _ => ⟨0, [], [], fun _ => [], [], []⟩
theorem E0 {R : Type} (cc : LA_ × Nat) (v : Int × LA_ × Nat) (kn : (Int × LA_ × Nat) → Option R) (ke : ((Int) ⊕ (iD)) → Option R) : dB cc v kn ke = (dB cc v (fun v => some (Sum.inl v)) fun e => some (Sum.inr e)).bind (Sum.elim kn ke) := by
 simp only [dB, bK, ai, Option.bind_assoc, cb, bF, Option.bind_some, Option.bind_none, Sum.elim_inl, Sum.elim_inr]
def yw : LD where
 CC := LA_ × Nat
 V := Int × LA_ × Nat
 E := (Int) ⊕ (iD)
 n := 1
 K := 4
 M := (none :: some (.ptr 1 0) :: some (.ptr 2 0) :: some (.int .i64) :: some (.func 52 [] [.ptr 1 0]) :: some (.vec 3) :: (rl none 75 []))
 B := [(1, .cells [.vec 0] true none), (0, .vec 3 false), (2, .cells (rl (.ga .u64 0) 32 [.aO]) true none), (3, .vec 1 false)]
 D := []
 pre := [(1000000000005, 1)]
 F := fun s => [0, nameAt s 1 [], nameAt s 2 [], nameAt s 5 []]
 toL := EZ
 ofL := vr
 au := fun ls c v h => by
  unfold vr at h
  split at h
  ·cases h; rfl
  ·cases h
 ck := dB
 nat := E0
 sh := Gl
 out := vt
 toE := vu
 fp := ul
 ofE := oA
 da := Bk
 post := fun cc e k => ((Sum.elim (fun e => k (.pan (.iface 101 (.agg []))) (bd 2 (none :: none :: some (.ptr 1 0) :: some (.int .i64 e) :: (rl none 77 [])) [(1, .cells (rl (.int .u64 0) 32 [.aO]) true none)] [])) (fun e => k (.ret) (bd 3 (none :: none :: some (.ptr 1 0) :: some (.int .i64 e.s16.s16.2.2) :: (rl none 77 [])) [(1, .cells (v8 e.1 e.2.1 e.2.2.1 e.2.2.2.1 e.s4.1 e.s4.2.1 e.s4.2.2.1 e.s4.2.2.2.1 (v8 e.s8.1 e.s8.2.1 e.s8.2.2.1 e.s8.2.2.2.1 e.s8.s4.1 e.s8.s4.2.1 e.s8.s4.2.2.1 e.s8.s4.2.2.2.1 (v8 e.s16.1 e.s16.2.1 e.s16.2.2.1 e.s16.2.2.2.1 e.s16.s4.1 e.s16.s4.2.1 e.s16.s4.2.2.1 e.s16.s4.2.2.2.1 (v8 e.s16.s8.1 e.s16.s8.2.1 e.s16.s8.2.2.1 e.s16.s8.2.2.2.1 e.s16.s8.s4.1 e.s16.s8.s4.2.1 e.s16.s8.s4.2.2.1 e.s16.s8.s4.2.2.2.1 [.vec 2])))) true none), (2, .vec e.s16.s16.1 e.s16.s16.2.1 1 true)] []))) e)
 cd := fun cc e k => by rcases e with e | e <;> rfl
theorem E1 : cF Try.prog 1 yw.la (aK Try.f31 0) :=
 LD.ok (ch := kL) (A := eF [(5, rH.la), (12, pK.la)]) aJ j7 mixed (fuel := 60) ⟨by kernel_rfl, fun e => by (rcases e with e | e <;> kernel_rfl), fun cc v => by kernel_rfl, aI (l := [aK Try.f31 1, aK Try.f31 2]) (by kernel_rfl) ⟨bX (by kernel_rfl) vq, bX (by kernel_rfl) uk, trivial⟩⟩
def uE (cs0 : LA_) (n1 : Nat) : Option (BS) :=
 (Option.bind (tG (cs0, n1) (0, ([.int .i64 0] : LA_), 1)) (Sum.elim (fun e1 => none) (fun e1 => (some (e1.1, e1.2.1, e1.2.2.1, e1.2.2.2.1, e1.2.2.2.2.1, e1.2.2.2.2.2.1, e1.2.2.2.2.2.2.1, e1.2.2.2.2.2.2.2.1, e1.2.2.2.2.2.2.2.2.1, e1.2.2.2.2.2.2.2.2.2.1, e1.2.2.2.2.2.2.2.2.2.2.1, e1.2.2.2.2.2.2.2.2.2.2.2.1, e1.2.2.2.2.2.2.2.2.2.2.2.2.1, e1.2.2.2.2.2.2.2.2.2.2.2.2.2.1, e1.2.2.2.2.2.2.2.2.2.2.2.2.2.2.1, e1.2.2.2.2.2.2.2.2.2.2.2.2.2.2.2.1, e1.2.2.2.2.2.2.2.2.2.2.2.2.2.2.2.2.1, e1.2.2.2.2.2.2.2.2.2.2.2.2.2.2.2.2.2.1, e1.2.2.2.2.2.2.2.2.2.2.2.2.2.2.2.2.2.2.1, e1.2.2.2.2.2.2.2.2.2.2.2.2.2.2.2.2.2.2.2.1, e1.2.2.2.2.2.2.2.2.2.2.2.2.2.2.2.2.2.2.2.2.1, e1.2.2.2.2.2.2.2.2.2.2.2.2.2.2.2.2.2.2.2.2.2.1, e1.2.2.2.2.2.2.2.2.2.2.2.2.2.2.2.2.2.2.2.2.2.2.1, e1.2.2.2.2.2.2.2.2.2.2.2.2.2.2.2.2.2.2.2.2.2.2.2.1, e1.2.2.2.2.2.2.2.2.2.2.2.2.2.2.2.2.2.2.2.2.2.2.2.2.1, e1.2.2.2.2.2.2.2.2.2.2.2.2.2.2.2.2.2.2.2.2.2.2.2.2.2.1, e1.2.2.2.2.2.2.2.2.2.2.2.2.2.2.2.2.2.2.2.2.2.2.2.2.2.2.1, e1.2.2.2.2.2.2.2.2.2.2.2.2.2.2.2.2.2.2.2.2.2.2.2.2.2.2.2.1, e1.2.2.2.2.2.2.2.2.2.2.2.2.2.2.2.2.2.2.2.2.2.2.2.2.2.2.2.2.1, e1.2.2.2.2.2.2.2.2.2.2.2.2.2.2.2.2.2.2.2.2.2.2.2.2.2.2.2.2.2.1, e1.2.2.2.2.2.2.2.2.2.2.2.2.2.2.2.2.2.2.2.2.2.2.2.2.2.2.2.2.2.2.1, e1.2.2.2.2.2.2.2.2.2.2.2.2.2.2.2.2.2.2.2.2.2.2.2.2.2.2.2.2.2.2.2.1, e1.2.2.2.2.2.2.2.2.2.2.2.2.2.2.2.2.2.2.2.2.2.2.2.2.2.2.2.2.2.2.2.2.2.2, e1.2.2.2.2.2.2.2.2.2.2.2.2.2.2.2.2.2.2.2.2.2.2.2.2.2.2.2.2.2.2.2.2.1, e1.2.2.2.2.2.2.2.2.2.2.2.2.2.2.2.2.2.2.2.2.2.2.2.2.2.2.2.2.2.2.2.2.2.1)))))
def fM : FD where
 X := BS
 k := 1
 pre := []
 F := fun s => [0, nameAt s 0 [.c 0, .c 32]]
 M := .tup [.agg (rl (.int .u64) 32 [.vec 1]), .int .i64]
 B := [.vec 1 true]
 toL := fun x => [.I x.1, .I x.2.1, .I x.2.2.1, .I x.2.2.2.1, .I x.s4.1, .I x.s4.2.1, .I x.s4.2.2.1, .I x.s4.2.2.2.1, .I x.s8.1, .I x.s8.2.1, .I x.s8.2.2.1, .I x.s8.2.2.2.1, .I x.s8.s4.1, .I x.s8.s4.2.1, .I x.s8.s4.2.2.1, .I x.s8.s4.2.2.2.1, .I x.s16.1, .I x.s16.2.1, .I x.s16.2.2.1, .I x.s16.2.2.2.1, .I x.s16.s4.1, .I x.s16.s4.2.1, .I x.s16.s4.2.2.1, .I x.s16.s4.2.2.2.1, .I x.s16.s8.1, .I x.s16.s8.2.1, .I x.s16.s8.2.2.1, .I x.s16.s8.2.2.2.1, .I x.s16.s8.s4.1, .I x.s16.s8.s4.2.1, .I x.s16.s8.s4.2.2.1, .I x.s16.s8.s4.2.2.2.1, .I x.s16.s16.1, .C x.s16.s16.2.1, .N x.s16.s16.2.2]
 ofL := fun ls => match ls with
  | (.I x0 :: .I x1 :: .I x2 :: .I x3 :: .I x4 :: .I x5 :: .I x6 :: .I x7 :: .I x8 :: .I x9 :: .I x10 :: .I x11 :: .I x12 :: .I x13 :: .I x14 :: .I x15 :: .I x16 :: .I x17 :: .I x18 :: .I x19 :: .I x20 :: .I x21 :: .I x22 :: .I x23 :: .I x24 :: .I x25 :: .I x26 :: .I x27 :: .I x28 :: .I x29 :: .I x30 :: .I x31 :: .I x32 :: .C x33 :: .N x34 :: []) => some (x0, x1, x2, x3, x4, x5, x6, x7, x8, x9, x10, x11, x12, x13, x14, x15, x16, x17, x18, x19, x20, x21, x22, x23, x24, x25, x26, x27, x28, x29, x30, x31, x32, x33, x34)
  | _ => none
 au := fun ls x h => by
  split at h
  ·cases h; rfl
  ·cases h
theorem H6 (cs0 : LA_) (n1 : Nat) (x : BS) (h : uE cs0 n1 = some x) : bc Try.prog 31 1 [.vec 0] [.vec cs0 n1 3 false] fM x :=
 FD.sem (ch := kL) (A := eF [(5, rH.la), (12, pK.la), (3, yw.la)]) (fn := Try.f31) (c := bq Try.f31) (fuel := 60) aJ j7 mixed bG fM Try.func31 (by kernel_rfl) (aI (l := [aK Try.f31 0, aK Try.f31 1, aK Try.f31 2]) (by kernel_rfl) ⟨bX (by kernel_rfl) E1, bX (by kernel_rfl) vq, bX (by kernel_rfl) uk, trivial⟩)
  (by kernel_rfl) (Eq.trans (by kernel_rfl) h)
def jZ (cs0 : LA_) (n1 : Nat) : Option (wM) := Option.bind (uE cs0 n1) fun (x0, x1, x2, x3, x4, x5, x6, x7, x8, x9, x10, x11, x12, x13, x14, x15, x16, x17, x18, x19, x20, x21, x22, x23, x24, x25, x26, x27, x28, x29, x30, x31, x32, x33, x34) => af (ok8 x0 x1 x2 x3 x4 x5 x6 x7 && ok8 x8 x9 x10 x11 x12 x13 x14 x15 && ok8 x16 x17 x18 x19 x20 x21 x22 x23 && ok8 x24 x25 x26 x27 x28 x29 x30 x31) (some ((num x0 x1 x2 x3 x4 x5 x6 x7), (num x8 x9 x10 x11 x12 x13 x14 x15), (num x16 x17 x18 x19 x20 x21 x22 x23), (num x24 x25 x26 x27 x28 x29 x30 x31), x32, x33, x34))
def vw : FD := ⟨wM, fM.k, fM.pre, fM.F, fM.M, fM.B, fun y => fM.toL (aX y.1 (aX y.2.1 (aX y.2.2.1 (aX y.2.2.2.1 (y.s4.1, y.s4.2.1, y.s4.2.2))))), fun _ => none, fun _ _ h => by cases h⟩
theorem JE (cs0 : LA_) (n1 : Nat) {y : wM} (h : jZ cs0 n1 = some y) : uE cs0 n1 = some (aX y.1 (aX y.2.1 (aX y.2.2.1 (aX y.2.2.2.1 (y.s4.1, y.s4.2.1, y.s4.2.2))))) := by
 unfold jZ at h
 obtain ⟨⟨x0, x1, x2, x3, x4, x5, x6, x7, x8, x9, x10, x11, x12, x13, x14, x15, x16, x17, x18, x19, x20, x21, x22, x23, x24, x25, x26, x27, x28, x29, x30, x31, x32, x33, x34⟩, h1, h2⟩ := bE_ h
 obtain ⟨h3, h4⟩ := aH h2
 simp only [Bool.and_eq_true, and_assoc] at h3
 simp only [Option.some.injEq] at h4
 subst h4
 obtain ⟨o0, o1, o2, o3⟩ := h3
 have q0 := aQ o0
 have q1 := aQ o1
 have q2 := aQ o2
 have q3 := aQ o3
 rw [h1]
 simp only [aX, q0, q1, q2, q3]
theorem H7 (cs0 : LA_) (n1 : Nat) (y : wM) (h : jZ cs0 n1 = some y) : bc Try.prog 31 1 [.vec 0] [.vec cs0 n1 3 false] vw y := H6 cs0 n1 _ (JE cs0 n1 h)
def zx : HK where
 call := fun args σ k => match args with
  | [x0] => cM σ 3 x0 fun cs0 n1 => Option.bind (jZ cs0 n1) fun y => aA σ 1 (vw.val y) (vw.aL y) k
  | _ => none
 nat := fun args σ k => by
  repeat' split
  all_goals simp only [aw, ai, Option.bind_assoc, Option.bind_none, aA, Option.bind_some]
 pure := false
 pok := fun h => by cases h
theorem Jy : aW Try.prog 31 zx := by
 intro args σ r σ' h
 simp only [zx] at h
 split at h
 ·rename_i x0
  obtain ⟨cs0, n1, he0, hf0, h⟩ := bA h
  obtain ⟨y, hy, h⟩ := bE_ h
  exact lifted (xs := [x0]) (ls := [.vec cs0 n1 3 false]) (cargs := [.vec 0]) (bv.of ⟨⟨rfl, he0, hf0, by decide⟩, trivial⟩) rfl (H7 cs0 n1 y hy) rfl rfl rfl rfl h
 ·cases h
def cj (l : List Nat) : LA_ := ics (l.map fun i => ((i : Nat) : Int))
theorem Mz {l : List Nat} {i : Nat} (h : i < l.length) : (cj l)[i * 1 + 0]? = some (.int .i64 ((l.getD i 0 : Nat) : Int)) := by
 simp [cj, ics, List.getElem?_map, List.getElem?_eq_getElem h, List.getD_eq_getElem?_getD]
theorem nig {l : List Nat} {i : Nat} (h : i < l.length) : ac (cj l) (i * 1 + 0) = ((l.getD i 0 : Nat) : Int) := by unfold ac; rw [Mz h]
theorem IO {l : List Nat} {i : Nat} (h : i < l.length) : aq [.int .i64] (cj l) (i * 1) = true := by
 have := Mz h
 simp only [Nat.mul_one, Nat.add_zero] at this
 simp [aq, this, isK]
theorem Qf (a b : List Nat) : cj (a ++ b) = cj a ++ cj b := by simp [cj, ics]
theorem FV (l : List Pt) (a b : List Nat) : pick l (a ++ b) = pick l a ++ pick l b := by simp [pick]
theorem IP {l : List Nat} {n i : Nat} (hb : ∀ x ∈ l, x < n) (h : i < l.length) : l.getD i 0 < n := by
 rw [List.getD_eq_getElem?_getD, List.getElem?_eq_getElem h]; exact hb _ (List.getElem_mem h)
theorem take_succ {l : List Nat} {i : Nat} (h : i < l.length) : l.take (i + 1) = l.take i ++ [l.getD i 0] := by
 rw [List.take_add_one, List.getElem?_eq_getElem h]; simp [List.getD_eq_getElem?_getD, List.getElem?_eq_getElem h]
theorem OZ {l : List Pt} {at_ : List Nat} (hb : ∀ x ∈ at_, x < l.length) (h5 : at_.length ≤ 100) (st : Int) :
  A7 (pcs l, l.length, st, cj at_, at_.length, ((at_.length : Nat) : Int)) ([], 0, 0) = some (pcs (pick l at_), at_.length) := by
 have key : ∀ (n i : Nat), at_.length - i = n → i ≤ at_.length → iter (mz (pcs l, l.length, st, cj at_, at_.length, ((at_.length : Nat) : Int))) (n + 1) (pcs (pick l (at_.take i)), i, (i : Int)) = some (pcs (pick l at_), at_.length) := by
  intro n
  induction n with
  | zero =>
   intro i hn hi
   have he : i = at_.length := by omega
   subst he
   refine fB 0 ?_
   simp only [mz, ft, decide_eq_false (show ¬ ((at_.length : Int) < ((at_.length : Nat) : Int)) by omega), cond_false, List.take_length]
  | succ n ih =>
   intro i hn hi
   have h : i < at_.length := by omega
   have wr : IntKind.wrap .i64 ((i : Int) + 1) = ((i + 1 : Nat) : Int) := by rw [cf (by omega)]; omega
   have hk := IP hb h
   have d2 : decide (2 * (i + 1) * 24 ≤ 2 ^ 48) = true := decide_eq_true (by omega)
   refine dm ?_ (ih (i + 1) (by omega) (by omega))
   simp only [mz, ft, decLt h, fD, cond_true, Bool.and_self, az, gH, IO h, nig h, decLt hk, pro hk, pg0 hk, pg1 hk, pg2 hk, d2, wr, take_succ h, FV, zk]
   rfl
 have := key at_.length 0 (by omega) (by omega)
 exact jc (by unfold se; omega) this
theorem Qg {l : List Pt} {at_ ch : List Nat} (hb : ∀ x ∈ ch, x < at_.length) (h5 : ch.length ≤ 100) (st : Int) (N : Pt) (D : Int) :
  yu (pcs l, l.length, st, cj at_, at_.length, aa N.1 0, aa N.1 1, aa N.1 2, aa N.1 3, aa N.1 4, aa N.1 5, aa N.1 6, aa N.1 7, aa N.2.1 0, aa N.2.1 1, aa N.2.1 2, aa N.2.1 3, aa N.2.1 4, aa N.2.1 5, aa N.2.1 6, aa N.2.1 7, aa N.2.2 0, aa N.2.2 1, aa N.2.2 2, aa N.2.2 3, aa N.2.2 4, aa N.2.2 5, aa N.2.2 6, aa N.2.2 7, aa D 0, aa D 1, aa D 2, aa D 3, aa D 4, aa D 5, aa D 6, aa D 7, cj ch, ch.length, ((ch.length : Nat) : Int)) ([], 0, 0) = some (cj (ch.map fun i => at_.getD i 0), ch.length) := by
 have key : ∀ (n i : Nat), ch.length - i = n → i ≤ ch.length → iter (ln (pcs l, l.length, st, cj at_, at_.length, aa N.1 0, aa N.1 1, aa N.1 2, aa N.1 3, aa N.1 4, aa N.1 5, aa N.1 6, aa N.1 7, aa N.2.1 0, aa N.2.1 1, aa N.2.1 2, aa N.2.1 3, aa N.2.1 4, aa N.2.1 5, aa N.2.1 6, aa N.2.1 7, aa N.2.2 0, aa N.2.2 1, aa N.2.2 2, aa N.2.2 3, aa N.2.2 4, aa N.2.2 5, aa N.2.2 6, aa N.2.2 7, aa D 0, aa D 1, aa D 2, aa D 3, aa D 4, aa D 5, aa D 6, aa D 7, cj ch, ch.length, ((ch.length : Nat) : Int))) (n + 1) (cj ((ch.take i).map fun i => at_.getD i 0), i, (i : Int)) = some (cj (ch.map fun i => at_.getD i 0), ch.length) := by
  intro n
  induction n with
  | zero =>
   intro i hn hi
   have he : i = ch.length := by omega
   subst he
   refine fB 0 ?_
   simp only [ln, eG, decide_eq_false (show ¬ ((ch.length : Int) < ((ch.length : Nat) : Int)) by omega), cond_false, List.take_length]
  | succ n ih =>
   intro i hn hi
   have h : i < ch.length := by omega
   have wr : IntKind.wrap .i64 ((i : Int) + 1) = ((i + 1 : Nat) : Int) := by rw [cf (by omega)]; omega
   have hk := IP hb h
   have d2 : decide (2 * (i + 1) * 8 ≤ 2 ^ 48) = true := decide_eq_true (by omega)
   refine dm ?_ (ih (i + 1) (by omega) (by omega))
   simp only [ln, eG, decLt h, fD, cond_true, Bool.and_self, az, gH, IO h, nig h, decLt hk, IO hk, nig hk, d2, wr, take_succ h, List.map_append, Qf]
   rfl
 have := key ch.length 0 (by omega) (by omega)
 exact jc (by unfold se; omega) this
theorem O0 {l : List Pt} {N : Pt} {D : Int} (hok : bf l = true) (h1 : 1 ≤ l.length) (hl : l.length < 1000000000) (hN : PtB 240 N) (cs : LA_) (n : Nat) :
  ∃ k : Nat, k < l.length ∧ tF N.1 N.2.1 N.2.2 D cs n (pcs l) l.length = some (k : Int) ∧ ∀ p ∈ l, ae N (pat l k) ≤ ae N p := by
 haveI n1 : Sm 240 N.1 := ⟨hN.h.1⟩
 haveI n2 : Sm 240 N.2.1 := ⟨hN.h.2.1⟩
 haveI n3 : Sm 240 N.2.2 := ⟨hN.h.2.2⟩
 have along : ∀ {i : Nat}, i < l.length → mC (aa N.1 0) (aa N.1 1) (aa N.1 2) (aa N.1 3) (aa N.1 4) (aa N.1 5) (aa N.1 6) (aa N.1 7) (aa N.2.1 0) (aa N.2.1 1) (aa N.2.1 2) (aa N.2.1 3) (aa N.2.1 4) (aa N.2.1 5) (aa N.2.1 6) (aa N.2.1 7) (aa N.2.2 0) (aa N.2.2 1) (aa N.2.2 2) (aa N.2.2 3) (aa N.2.2 4) (aa N.2.2 5) (aa N.2.2 6) (aa N.2.2 7) (pat l i).1 (pat l i).2.1 (pat l i).2.2 = some (ae N (pat l i)) ∧ fit (ae N (pat l i)) := by
  intro i h
  have hq := PtB.of (fC hok h)
  haveI p1 : Sm 28 (pat l i).1 := ⟨hq.h.1⟩
  haveI p2 : Sm 28 (pat l i).2.1 := ⟨hq.h.2.1⟩
  haveI p3 : Sm 28 (pat l i).2.2 := ⟨hq.h.2.2⟩
  exact ⟨Jv (Sm.fit (by decide)) (Sm.fit (by decide)) (Sm.fit (by decide)) (p1.rng (by decide)) (p2.rng (by decide)) (p3.rng (by decide)) (Sm.fit (by decide)) (Sm.fit (by decide)) (Sm.fit (by decide)) (Sm.fit (by decide)) (Sm.fit (by decide)), Sm.fit (k := 270) (by decide)⟩
 have e0 : (([.int .u64 0, .int .u64 0, .int .u64 0, .int .u64 0, .int .u64 0, .int .u64 0, .int .u64 0, .int .u64 0] : LA_)) = wcs [0] := by simp only [wcs, fc]
 have main : ∃ e, vx (aa N.1 0, aa N.1 1, aa N.1 2, aa N.1 3, aa N.1 4, aa N.1 5, aa N.1 6, aa N.1 7, aa N.2.1 0, aa N.2.1 1, aa N.2.1 2, aa N.2.1 3, aa N.2.1 4, aa N.2.1 5, aa N.2.1 6, aa N.2.1 7, aa N.2.2 0, aa N.2.2 1, aa N.2.2 2, aa N.2.2 3, aa N.2.2 4, aa N.2.2 5, aa N.2.2 6, aa N.2.2 7, aa D 0, aa D 1, aa D 2, aa D 3, aa D 4, aa D 5, aa D 6, aa D 7, cs, n, 1, pcs l, l.length, ((l.length : Nat) : Int)) (-1, wcs [0], 0) = some e ∧ ∃ k : Nat, e = (k : Int) ∧ k < l.length ∧ ∀ p ∈ l, ae N (pat l k) ≤ ae N p := by
  refine gL (step := eT (aa N.1 0, aa N.1 1, aa N.1 2, aa N.1 3, aa N.1 4, aa N.1 5, aa N.1 6, aa N.1 7, aa N.2.1 0, aa N.2.1 1, aa N.2.1 2, aa N.2.1 3, aa N.2.1 4, aa N.2.1 5, aa N.2.1 6, aa N.2.1 7, aa N.2.2 0, aa N.2.2 1, aa N.2.2 2, aa N.2.2 3, aa N.2.2 4, aa N.2.2 5, aa N.2.2 6, aa N.2.2 7, aa D 0, aa D 1, aa D 2, aa D 3, aa D 4, aa D 5, aa D 6, aa D 7, cs, n, 1, pcs l, l.length, ((l.length : Nat) : Int)))
   (fun v => ∃ i : Nat, v.2.2 = (i : Int) ∧ i ≤ l.length ∧ ((i = 0 ∧ v.1 = -1 ∧ v.2.1 = wcs [0]) ∨ ∃ k : Nat, v.1 = (k : Int) ∧ k < i ∧ v.2.1 = wcs [ae N (pat l k)] ∧ ∀ j, j < i → ae N (pat l k) ≤ ae N (pat l j))) (fun v => ((l.length : Int) - v.2.2).toNat) _ ?_
   (Nat.lt_of_le_of_lt (show ((l.length : Int) - 0).toNat ≤ 1000000000 by omega) (by decide)) ⟨0, rfl, by omega, .inl ⟨rfl, rfl, rfl⟩⟩
  rintro ⟨b, far, v⟩ ⟨i, rfl, hi, hinv⟩
  by_cases h : i < l.length
  ·obtain ⟨ha, hfit⟩ := along h
   have wr : IntKind.wrap .i64 ((i : Int) + 1) = ((i + 1 : Nat) : Int) := by rw [cf (by omega)]; omega
   have s1 : ∀ x r : Int, spliced (wcs [x]) 0 [.int .u64 (aa r 0), .int .u64 (aa r 1), .int .u64 (aa r 2), .int .u64 (aa r 3), .int .u64 (aa r 4), .int .u64 (aa r 5), .int .u64 (aa r 6), .int .u64 (aa r 7)] = wcs [r] := fun _ _ => rfl
   have l8 : ∀ z : Int, decide (0 + 8 ≤ List.length (wcs [z])) = true := fun _ => rfl
   have r0 : ∀ z : Int, aq k8 (wcs [z]) 0 = true := fun z => wro (l := [z]) (i := 0) (by simp)
   rcases hinv with ⟨rfl, rfl, rfl⟩ | ⟨k, hk, hki, rfl, hmin⟩
   ·refine .inl ⟨(((0 : Nat) : Int), wcs [ae N (pat l 0)], ((0 + 1 : Nat) : Int)), ?_, ⟨1, rfl, by omega, .inr ⟨0, rfl, by omega, rfl, fun j hj => ?_⟩⟩, by simp only; omega⟩
    ·simp only [eT, cE, decLt h, fD, cond_true, Bool.and_self, az, gH, pro h, pg0 h, pg1 h, pg2 h, ha, Option.bind_some, show decide ((-1 : Int) < 0) = true from rfl, l8, s1, wr]
    ·obtain rfl : j = 0 := by omega
     exact Int.le_refl _
   ·simp only at hk
    subst hk
    have hfk := (along (show k < l.length by omega)).2
    have hc := Mw hfit hfk
    have hc' : E2 (aa (ae N (pat l i)) 0) (aa (ae N (pat l i)) 1) (aa (ae N (pat l i)) 2) (aa (ae N (pat l i)) 3) (aa (ae N (pat l i)) 4) (aa (ae N (pat l i)) 5) (aa (ae N (pat l i)) 6) (aa (ae N (pat l i)) 7) (ac (wcs [ae N (pat l k)]) 0) (ac (wcs [ae N (pat l k)]) 1) (ac (wcs [ae N (pat l k)]) 2) (ac (wcs [ae N (pat l k)]) 3) (ac (wcs [ae N (pat l k)]) 4) (ac (wcs [ae N (pat l k)]) 5) (ac (wcs [ae N (pat l k)]) 6) (ac (wcs [ae N (pat l k)]) 7) = some (sgn (ae N (pat l i) - ae N (pat l k))) := hc
    have kneg : decide (((k : Nat) : Int) < 0) = false := decide_eq_false (by omega)
    by_cases hlt : ae N (pat l i) < ae N (pat l k)
    ·have hs : decide (sgn (ae N (pat l i) - ae N (pat l k)) < 0) = true := by
      have : ae N (pat l i) - ae N (pat l k) < 0 := by omega
      simp [sgn, this]
     refine .inl ⟨(((i : Nat) : Int), wcs [ae N (pat l i)], ((i + 1 : Nat) : Int)), ?_, ⟨i + 1, rfl, by omega, .inr ⟨i, rfl, by omega, rfl, fun j hj => ?_⟩⟩, by simp only; omega⟩
     ·simp only [eT, cE, decLt h, fD, cond_true, cond_false, Bool.and_self, az, gH, pro h, pg0 h, pg1 h, pg2 h, ha, Option.bind_some, kneg, l8, s1, wr, r0, hc', hs]
     ·rcases Nat.lt_or_ge j i with q | q
      ·have := hmin j q; omega
      ·obtain rfl : j = i := by omega
       exact Int.le_refl _
    ·have hs : decide (sgn (ae N (pat l i) - ae N (pat l k)) < 0) = false := by
      have h1 : ¬ ae N (pat l i) - ae N (pat l k) < 0 := by omega
      unfold sgn
      rw [decide_eq_false h1, cond_false]
      by_cases h0 : ae N (pat l i) - ae N (pat l k) = 0
      ·rw [decide_eq_true h0]; rfl
      ·rw [decide_eq_false h0]; rfl
     refine .inl ⟨(((k : Nat) : Int), wcs [ae N (pat l k)], ((i + 1 : Nat) : Int)), ?_, ⟨i + 1, rfl, by omega, .inr ⟨k, rfl, by omega, rfl, fun j hj => ?_⟩⟩, by simp only; omega⟩
     ·simp only [eT, cE, decLt h, fD, cond_true, cond_false, Bool.and_self, az, gH, pro h, pg0 h, pg1 h, pg2 h, ha, Option.bind_some, kneg, wr, r0, hc', hs]
     ·rcases Nat.lt_or_ge j i with q | q
      ·exact hmin j q
      ·obtain rfl : j = i := by omega
       omega
  ·have hi' : i = l.length := by omega
   subst hi'
   rcases hinv with ⟨h0, _⟩ | ⟨k, hk, hki, rfl, hmin⟩
   ·omega
   ·simp only at hk
    subst hk
    refine .inr ⟨((k : Nat) : Int), ?_, k, rfl, hki, fun p hp => ?_⟩
    ·simp only [eT, cE, decide_eq_false (show ¬ ((l.length : Int) < ((l.length : Nat) : Int)) by omega), cond_false]
    ·obtain ⟨j, hj, rfl⟩ := List.getElem_of_mem hp
     have := hmin j hj
     simpa [pat, List.getD_eq_getElem?_getD, List.getElem?_eq_getElem hj] using this
 obtain ⟨e, he, k, rfl, hk, hmin⟩ := main
 refine ⟨k, hk, ?_, hmin⟩
 unfold tF nY
 unfold v8
 rw [e0, he]
 rfl
theorem R7 {n : Nat} (h1 : 1 ≤ n) (h : n ≤ 256) : pI ((n : Nat) : Int) = some ((gY n).length : Int) := by
 have c1 := Hz n
 have c2 := HA n
 have c3 := HB n
 have c4 := Kf n
 have hn0 : (0 : Int) ≤ n := by omega
 have hn1 : (0 : Int) ≤ (n : Int) - 1 := by omega
 have b2 : (n : Int) * (n - 1) ≤ 256 * 256 := Int.mul_le_mul (by omega) (by omega) hn1 (by decide)
 have e3 : ((comb n 2).length : Int) * (n - 2) = 3 * ((comb n 3).length : Int) := by
  have : 2 * (((comb n 2).length : Int) * (n - 2)) = 2 * (3 * ((comb n 3).length : Int)) := by grind
  omega
 have e4 : ((comb n 3).length : Int) * (n - 3) = 4 * ((comb n 4).length : Int) := by
  have : 6 * (((comb n 3).length : Int) * (n - 3)) = 6 * (4 * ((comb n 4).length : Int)) := by grind
  omega
 have u2 : ((comb n 2).length : Int) ≤ 32768 := by omega
 have b3 : ((comb n 2).length : Int) * (n - 2) ≤ 32768 * 256 := by
  rcases Int.le_total 0 ((n : Int) - 2) with q | q
  ·exact Int.mul_le_mul u2 (by omega) q (by decide)
  ·have := Int.mul_nonpos_of_nonneg_of_nonpos (show (0 : Int) ≤ ((comb n 2).length : Int) by omega) q
   omega
 have u3 : ((comb n 3).length : Int) ≤ 2800000 := by omega
 have b4 : ((comb n 3).length : Int) * (n - 3) ≤ 2800000 * 256 := by
  rcases Int.le_total 0 ((n : Int) - 3) with q | q
  ·exact Int.mul_le_mul u3 (by omega) q (by decide)
  ·have := Int.mul_nonpos_of_nonneg_of_nonpos (show (0 : Int) ≤ ((comb n 3).length : Int) by omega) q
   omega
 have u4 : ((comb n 4).length : Int) ≤ 180000000 := by omega
 have w : ∀ {x : Int}, 0 ≤ x → x ≤ 1000000000 → IntKind.wrap .i64 x = x := fun {x} q1 q2 => cf (by omega)
 have w' : ∀ {x : Int}, -100 ≤ x → x ≤ 1000000000 → IntKind.wrap .i64 x = x := fun {x} q1 q2 => cf (by omega)
 have t2 : Int.tdiv ((n : Int) * (n - 1)) 2 = ((comb n 2).length : Int) := by rw [← c2]; exact Int.mul_tdiv_cancel_left _ (by decide)
 have t3 : Int.tdiv (((comb n 2).length : Int) * (n - 2)) 3 = ((comb n 3).length : Int) := by rw [e3]; exact Int.mul_tdiv_cancel_left _ (by decide)
 have t4 : Int.tdiv (((comb n 3).length : Int) * (n - 3)) 4 = ((comb n 4).length : Int) := by rw [e4]; exact Int.mul_tdiv_cancel_left _ (by decide)
 unfold pI
 rw [w' (x := (n : Int) - 1) (by omega) (by omega), w (x := (n : Int) * (n - 1)) (by omega) (by omega), t2, w (x := ((comb n 2).length : Int)) (by omega) (by omega),
  w' (x := (n : Int) - 2) (by omega) (by omega), w' (x := ((comb n 2).length : Int) * (n - 2)) (by omega) (by omega), t3, w (x := ((comb n 3).length : Int)) (by omega) (by omega),
  w' (x := (n : Int) - 3) (by omega) (by omega), w' (x := ((comb n 3).length : Int) * (n - 3)) (by omega) (by omega), t4, w (x := ((comb n 4).length : Int)) (by omega) (by omega),
  w (x := (n : Int) + ((comb n 2).length : Int)) (by omega) (by omega), w (x := (n : Int) + ((comb n 2).length : Int) + ((comb n 3).length : Int)) (by omega) (by omega),
  w (x := (n : Int) + ((comb n 2).length : Int) + ((comb n 3).length : Int) + ((comb n 4).length : Int)) (by omega) (by omega)]
 unfold gY
 simp only [List.length_append, Int.natCast_add, c1]
theorem FX (a b : Int) : aD a b = some (decide (a < b)) := by
 have n : ∀ x : Int, fV x = some false := by intro x; simp [fV]
 unfold aD
 rw [n, Option.bind_some]
 cases decide (a < b) <;> rfl
def qv (l : List Pt) (o : List Nat) : Int := ae (bu (pick l o)) (bu (pick l o))
def dvv (l : List Pt) (o : List Nat) : Int := (wts (pick l o)).2
theorem uZ {l : List Pt} {o : List Nat} (h : val (pick l o)) : 0 < dvv l o := pz h.1
def nlt (l : List Pt) (u o : List Nat) : Prop := val (pick l u) ∧ qv l u * (dvv l o * dvv l o) < qv l o * (dvv l u * dvv l u)
theorem MA {l : List Pt} {o : List Nat} : ¬ nlt l o o := fun h => Int.lt_irrefl _ h.2
theorem O1 {l : List Pt} {u v o : List Nat} (hv : val (pick l v)) (ho : val (pick l o)) (h1 : nlt l u v) (h2 : nlt l v o) : nlt l u o := by
 refine ⟨h1.1, ?_⟩
 have a := Int.mul_pos (uZ h1.1) (uZ h1.1)
 have b := Int.mul_pos (uZ hv) (uZ hv)
 have c := Int.mul_pos (uZ ho) (uZ ho)
 have k1 := Int.mul_lt_mul_of_pos_right h1.2 c
 have k2 := Int.mul_lt_mul_of_pos_right h2.2 a
 generalize dvv l u * dvv l u = A at *
 generalize dvv l v * dvv l v = B at *
 generalize dvv l o * dvv l o = C at *
 have e1 : qv l u * B * C = (qv l u * C) * B := by grind
 have e2 : qv l v * A * C = qv l v * C * A := by grind
 have e3 : qv l o * B * A = (qv l o * A) * B := by grind
 exact Int.lt_of_mul_lt_mul_right (show (qv l u * C) * B < (qv l o * A) * B by omega) (Int.le_of_lt b)
open Classical in
def wh (l : List Pt) (o : List Nat) : Nat := (gY l.length).countP fun u => decide (nlt l u o)
theorem O2 {l : List Pt} {o o' : List Nat} (ho : val (pick l o)) (ho' : val (pick l o')) (hm : o' ∈ gY l.length) (h : nlt l o' o) : wh l o' < wh l o := by
 unfold wh
 refine FY (x := o') (fun y _ hy => ?_) hm (by simpa using h) (by simpa using MA)
 simp only [decide_eq_true_eq] at hy ⊢
 exact O1 ho' ho hy h
theorem O3 {T : List Pt} (hi : ind T) (h4 : T.length = 4) (p : Pt) : ae p (bu T) = ae (T.headD (0, 0, 0)) (bu T) := by
 by_cases h : ae p (bu T) = ae (T.headD (0, 0, 0)) (bu T)
 ·exact h
 ·exfalso
  have := Ly (p := p) hi (xm T (by omega) (by omega)) h
  match T, h4 with
  | [_, _, _, _], _ => exact this
theorem HC {m : Nat} {ch : List Nat} (h : ch ∈ chs m) : 1 ≤ ch.length ∧ ch.length ≤ m ∧ m ≤ 4 ∧ cW ch ∧ ∀ x ∈ ch, x < m := by
 unfold cW
 have key : ∀ m ≤ 4, ∀ ch ∈ chs m, 1 ≤ ch.length ∧ ch.length ≤ m ∧ m ≤ 4 ∧ ch.Pairwise (· < ·) ∧ ∀ x ∈ ch, x < m := by decide
 have hm : m ≤ 4 := by
  unfold chs at h
  split at h <;> first | omega | (simp at h)
 exact key m hm ch h
def sel (at_ ch : List Nat) : List Nat := ch.map fun i => at_.getD i 0
theorem R8 (at_ ch : List Nat) : (sel at_ ch).length = ch.length := by simp [sel]
theorem Sa {at_ ch : List Nat} (hb : ∀ x ∈ ch, x < at_.length) : ∀ x ∈ sel at_ ch, x ∈ at_ := by
 intro x hx
 simp only [sel, List.mem_map] at hx
 obtain ⟨i, hi, rfl⟩ := hx
 rw [List.getD_eq_getElem?_getD, List.getElem?_eq_getElem (hb i hi)]
 exact List.getElem_mem _
theorem NB {at_ ch : List Nat} (ha : cW at_) (hc : cW ch) (hb : ∀ x ∈ ch, x < at_.length) : cW (sel at_ ch) := by
 unfold cW sel at *
 rw [List.pairwise_map]
 refine List.Pairwise.imp_of_mem ?_ hc
 intro a b hma hmb hlt
 have h1 := hb a hma
 have h2 := hb b hmb
 rw [List.getD_eq_getElem?_getD, List.getD_eq_getElem?_getD, List.getElem?_eq_getElem h1, List.getElem?_eq_getElem h2]
 exact List.pairwise_iff_getElem.1 ha a b h1 h2 hlt
theorem Qh {l : List Pt} {at_ ch : List Nat} (hb : ∀ x ∈ ch, x < at_.length) : pick (pick l at_) ch = pick l (sel at_ ch) := by
 unfold pick sel
 rw [List.map_map]
 refine List.map_congr_left fun i hi => ?_
 have h := hb i hi
 simp [pat, List.getD_eq_getElem?_getD, List.getElem?_map, List.getElem?_eq_getElem h]
theorem mr (l : List Pt) (o : List Nat) : (pick l o).length = o.length := by simp [pick]
theorem MB {l : List Pt} {o : List Nat} (hok : bf l = true) (hb : ∀ x ∈ o, x < l.length) : bf (pick l o) = true := by
 unfold bf pick
 rw [List.all_eq_true]
 intro p hp
 obtain ⟨i, hi, rfl⟩ := List.mem_map.1 hp
 exact fC hok (hb i hi)
theorem FZ {l : List Pt} {o : List Nat} {k : Nat} (h : k ∈ o) : pat l k ∈ pick l o := List.mem_map.2 ⟨k, h, rfl⟩
structure Own (l : List Pt) (o : List Nat) : Prop where
 v : val (pick l o)
 r : cW o
 b : ∀ x ∈ o, x < l.length
 n1 : 1 ≤ o.length
 n4 : o.length ≤ 4
theorem Own.mem {l : List Pt} {o : List Nat} (h : Own l o) : o ∈ gY l.length := Qi h.n1 h.n4 h.r h.b
def lev (l : List Pt) (o : List Nat) : Int := ae ((pick l o).headD (0, 0, 0)) (bu (pick l o))
structure Hd (l : List Pt) (st : Nat) (at_ : List Nat) : Prop where
 r : cW at_
 b : ∀ x ∈ at_, x < l.length
 n1 : 1 ≤ at_.length
 n4 : at_.length ≤ 4
 c : st = 0 ∨ ∃ o k, Own l o ∧ at_ = ins k o ∧ ae (pat l k) (bu (pick l o)) < lev l o ∧ st + wh l o ≤ (gY l.length).length
theorem Hd.NC {l : List Pt} {st : Nat} {at_ o' : List Nat} (h : Hd l st at_) (ho : Own l o') (hn : sg (pick l at_) (pick l o')) : st + 1 + wh l o' ≤ (gY l.length).length := by
 rcases h.c with rfl | ⟨o, k, hO, rfl, hp, hc⟩
 ·have : wh l o' < (gY l.length).length := by
   unfold wh
   have hle := List.countP_le_length (p := fun u => (Classical.propDecidable (nlt l u o')).decide) (l := gY l.length)
   have := FY (p := fun u => (Classical.propDecidable (nlt l u o')).decide) (q := fun _ => true) (l := gY l.length) (x := o') (fun _ _ _ => rfl) ho.mem rfl (by simpa using MA)
   simp only [List.countP_true] at this
   exact this
  omega
 ·have f := Go.Ev.NC (Nst.of hO.v.1 hO.v.2) (Nst.of ho.v.1 ho.v.2) (k := pat l k) (fun p hpm => by
    obtain ⟨i, hi, rfl⟩ := List.mem_map.1 hpm
    exact hn _ (FZ (zm.2 (.inr hi)))) (hn _ (FZ (zm.2 (.inl rfl)))) hp
  have : nlt l o' o := ⟨ho.v, f⟩
  have := O2 hO.v ho.v ho.mem this
  omega
structure Wk (l : List Pt) (o : List Nat) (N : Pt) (D : Int) (st : Nat) : Prop where
 own : Own l o
 IQ : Prim (bu (pick l o)) (wts (pick l o)).2 N D
 none : sg l (pick l o)
 sN : PtB 240 N
 sD : sm 190 D
 s1 : 1 ≤ st
 sU : st ≤ (gY l.length).length
theorem MC {l : List Pt} (h1 : 1 ≤ l.length) (h64 : l.length ≤ 256) : (gY l.length).length ≤ 200000000 := by
 have e := Qj l.length
 have b1 : (l.length : Int) * ((l.length : Int) - 1) ≤ 256 * 256 := Int.mul_le_mul (by omega) (by omega) (by omega) (by decide)
 have b2 : (l.length : Int) * ((l.length : Int) - 1) * ((l.length : Int) - 2) ≤ 256 * 256 * 256 := by
  rcases Int.le_total 0 ((l.length : Int) - 2) with q | q
  ·exact Int.mul_le_mul b1 (by omega) q (by decide)
  ·have := Int.mul_nonpos_of_nonneg_of_nonpos (Int.mul_nonneg (show (0 : Int) ≤ l.length by omega) (show (0 : Int) ≤ (l.length : Int) - 1 by omega)) q
   omega
 have b3 : (l.length : Int) * ((l.length : Int) - 1) * ((l.length : Int) - 2) * ((l.length : Int) - 3) ≤ 256 * 256 * 256 * 253 := by
  rcases Int.le_total 0 ((l.length : Int) - 3) with q | q
  ·exact Int.mul_le_mul b2 (by omega) q (by decide)
  ·have := Int.mul_nonpos_of_nonneg_of_nonpos (Int.mul_nonneg (Int.mul_nonneg (show (0 : Int) ≤ l.length by omega) (show (0 : Int) ≤ (l.length : Int) - 1 by omega)) (show (0 : Int) ≤ (l.length : Int) - 2 + 1 by omega)) q
   by_cases h2 : (l.length : Int) - 2 < 0
   ·have hl1 : (l.length : Int) = 1 := by omega
    rw [hl1]; decide
   ·have := Int.mul_nonpos_of_nonneg_of_nonpos (Int.mul_nonneg (Int.mul_nonneg (show (0 : Int) ≤ l.length by omega) (show (0 : Int) ≤ (l.length : Int) - 1 by omega)) (show (0 : Int) ≤ (l.length : Int) - 2 by omega)) q
    omega
 omega
theorem O4 {l : List Pt} (hok : bf l = true) (h1 : 1 ≤ l.length) (h64 : l.length ≤ 256) {st : Nat} {at_ : List Nat} (h : Hd l st at_) :
  (∃ at', de (pcs l, l.length) (((st : Nat) : Int), cj at_, at_.length) = some (.inl (((st + 1 : Nat) : Int), cj at', at'.length)) ∧ Hd l (st + 1) at' ∧ st + 1 ≤ (gY l.length).length) ∨
  (∃ o N D, Wk l o N D (st + 1) ∧ de (pcs l, l.length) (((st : Nat) : Int), cj at_, at_.length) = some (.inr (.inr (aa N.1 0, aa N.1 1, aa N.1 2, aa N.1 3, aa N.1 4, aa N.1 5, aa N.1 6, aa N.1 7, aa N.2.1 0, aa N.2.1 1, aa N.2.1 2, aa N.2.1 3, aa N.2.1 4, aa N.2.1 5, aa N.2.1 6, aa N.2.1 7, aa N.2.2 0, aa N.2.2 1, aa N.2.2 2, aa N.2.2 3, aa N.2.2 4, aa N.2.2 5, aa N.2.2 6, aa N.2.2 7, aa D 0, aa D 1, aa D 2, aa D 3, aa D 4, aa D 5, aa D 6, aa D 7, cj o, o.length, ((st + 1 : Nat) : Int))))) := by
 have hS := MB hok h.b
 have hlen := mr l at_
 obtain ⟨ch, hch, N, D, hnear, hi, ⟨hw, hnp⟩, hP, hN, hD⟩ := Lx hS (by rw [hlen]; exact h.n1) (by rw [hlen]; exact h.n4)
 rw [hlen] at hch hnear
 replace hnear : dc (pcs (pick l at_)) at_.length = some (N.1, N.2.1, N.2.2, D, 0, cj ch, ch.length) := hnear
 obtain ⟨c1, c2, c3, c4, c5⟩ := HC hch
 rw [Qh c5] at hi hw hnp hP
 have hsl := R8 at_ ch
 generalize ho : sel at_ ch = o at *
 have hO : Own l o := by
  subst ho
  exact ⟨⟨hi, hw⟩, NB h.r c4 c5, fun x hx => h.b x (Sa c5 x hx), by omega, by omega⟩
 have hfall := h.NC hO hnp
 have hsome := OZ (st := ((st : Nat) : Int)) h.b (by have := h.n4; omega)
 have hown := Qg (l := l) (at_ := at_) (ch := ch) c5 (by omega) ((st : Nat) : Int) N D
 have hown' : (ch.map fun i => at_.getD i 0) = o := ho
 rw [hown'] at hown
 have hmost := R7 h1 h64
 obtain ⟨k, hk, hback, hmin⟩ := O0 (D := D) hok h1 (by omega) hN (cj o) ch.length
 have hpast := Lv hN hD (fC hok hk) (cj o) ch.length
 have hst := MC h1 h64
 have wr : IntKind.wrap .i64 (((st : Nat) : Int) + 1) = ((st + 1 : Nat) : Int) := by rw [cf (by omega)]; omega
 have hgt : decide (((st + 1 : Nat) : Int) > ((gY l.length).length : Int)) = false := decide_eq_false (by omega)
 have hz : Nst (pick l o) (wts (pick l o)).1 (bu (pick l o)) (wts (pick l o)).2 (lev l o) := Nst.of hi hw
 have hpi : ∀ p, f8 N D p = true ↔ ae p (bu (pick l o)) < lev l o := fun p => hP.Lw hz.oW hz.sq
 have base : ∀ X, de (pcs l, l.length) (((st : Nat) : Int), cj at_, at_.length) = X ↔ de (pcs l, l.length) (((st : Nat) : Int), cj at_, at_.length) = X := fun _ => Iff.rfl
 cases hb : f8 N D (pat l k) with
 | false =>
  rw [hb] at hpast
  refine .inr ⟨o, N, D, ⟨hO, hP, fun p hp => ?_, hN, hD, by omega, by omega⟩, ?_⟩
  ·
   have hk' : ¬ ae (pat l k) (bu (pick l o)) < lev l o := fun q => by rw [(hpi _).2 q] at hb; cases hb
   obtain ⟨g, g0, e, _⟩ := hP.ex
   have e2 : ∀ q : Pt, ae q (bu (pick l o)) = g * ae N q := by
    intro q; rw [e]; simp only [ae]; grind
   have := Int.mul_le_mul_of_nonneg_left (hmin p hp) (Int.le_of_lt g0)
   rw [← e2, ← e2] at this
   show lev l o ≤ _
   omega
  ·rw [hsl]
   simp only [de, dB, hsome, Option.bind_some, hnear, hown, hmost, wr, hgt, cond_false, hback, fD, decLt hk, Bool.and_self, az, gH, pro hk, pg0 hk, pg1 hk, pg2 hk, hpast]
 | true =>
  rw [hb] at hpast
  have hp := (hpi _).1 hb
  have hko : k ∉ o := by
   intro hm
   have := hz.lev _ (FZ (l := l) hm)
   omega
  have h3 : o.length ≤ 3 := by
   have := hO.n4
   rcases Nat.lt_or_ge o.length 4 with q | q
   ·omega
   ·have := O3 hi (by rw [mr]; omega) (pat l k)
    unfold lev at hp
    omega
  have H' : Hd l (st + 1) (ins k o) := by
   refine ⟨HD hO.r hko, fun x hx => ?_, by rw [DD]; omega, by rw [DD]; omega, .inr ⟨o, k, hO, rfl, hp, by omega⟩⟩
   rcases zm.1 hx with rfl | hx
   ·exact hk
   ·exact hO.b x hx
  refine .inl ⟨ins k o, ?_, H', by omega⟩
  rw [DD]
  have hcl : ch.length = o.length := hsl.symm
  rw [hcl] at hown hnear hback hpast
  have hr := hO.r
  have hn1 := hO.n1
  clear hP hpi hz hfall hO H' hi hw hnp base
  match o, hn1, h3 with
  | [a], _, _ =>
   simp only [de, dB, hsome, Option.bind_some, hnear, hown, hmost, wr, hgt, cond_false, hback, fD, decLt hk, Bool.and_self, az, gH, pro hk, pg0 hk, pg1 hk, pg2 hk, hpast, cond_true, FX]
   have e1 : Nat.beq [a].length 1 = true := rfl
   have g0 : ac (cj [a]) 0 = (a : Int) := rfl
   have ro : (aq [.int .i64] (cj [a]) 0 && Nat.beq (List.length (cj [a])) 1) = true := rfl
   rw [e1, cond_true, ro, az, g0]
   unfold ins
   by_cases q : k < a
   ·rw [if_pos q, decide_eq_true (show ((k : Nat) : Int) < (a : Int) by omega)]; rfl
   ·rw [if_neg q, decide_eq_false (show ¬ ((k : Nat) : Int) < (a : Int) by omega)]; rfl
  | [a, b], _, _ =>
   simp only [de, dB, hsome, Option.bind_some, hnear, hown, hmost, wr, hgt, cond_false, hback, fD, decLt hk, Bool.and_self, az, gH, pro hk, pg0 hk, pg1 hk, pg2 hk, hpast, cond_true, FX]
   have e1 : Nat.beq [a, b].length 1 = false := rfl
   have e2 : Nat.beq [a, b].length 2 = true := rfl
   have g0 : ac (cj [a, b]) 0 = (a : Int) := rfl
   have g1 : ac (cj [a, b]) 1 = (b : Int) := rfl
   have ro : (aq [.int .i64, .int .i64] (cj [a, b]) 0 && Nat.beq (List.length (cj [a, b])) 2) = true := rfl
   have hab : a < b := by unfold cW at hr; simp at hr; exact hr
   simp only [List.mem_cons, List.not_mem_nil, or_false, not_or] at hko
   rw [e1, cond_false, e2, cond_true, ro, az, g0, g1, decide_eq_false (show ¬ (b : Int) < (a : Int) by omega), cond_false]
   unfold ins ins
   by_cases q : k < a
   ·rw [if_pos q, decide_eq_true (show ((k : Nat) : Int) < (b : Int) by omega), decide_eq_true (show ((k : Nat) : Int) < (a : Int) by omega)]; rfl
   ·rw [if_neg q]
    by_cases q2 : k < b
    ·rw [if_pos q2, decide_eq_true (show ((k : Nat) : Int) < (b : Int) by omega), decide_eq_false (show ¬ ((k : Nat) : Int) < (a : Int) by omega)]; rfl
    ·rw [if_neg q2, decide_eq_false (show ¬ ((k : Nat) : Int) < (b : Int) by omega)]; rfl
  | [a, b, c], _, _ =>
   simp only [de, dB, hsome, Option.bind_some, hnear, hown, hmost, wr, hgt, cond_false, hback, fD, decLt hk, Bool.and_self, az, gH, pro hk, pg0 hk, pg1 hk, pg2 hk, hpast, cond_true, FX]
   have e1 : Nat.beq [a, b, c].length 1 = false := rfl
   have e2 : Nat.beq [a, b, c].length 2 = false := rfl
   have e3 : Nat.beq [a, b, c].length 3 = true := rfl
   have g0 : ac (cj [a, b, c]) 0 = (a : Int) := rfl
   have g1 : ac (cj [a, b, c]) 1 = (b : Int) := rfl
   have g2 : ac (cj [a, b, c]) 2 = (c : Int) := rfl
   have ro : (aq lC (cj [a, b, c]) 0 && Nat.beq (List.length (cj [a, b, c])) 3) = true := rfl
   have hab : (a < b ∧ a < c) ∧ b < c := by unfold cW at hr; simp at hr; exact hr
   simp only [List.mem_cons, List.not_mem_nil, or_false, not_or] at hko
   rw [e1, cond_false, e2, cond_false, e3, cond_true, ro, az, g0, g1, g2, decide_eq_false (show ¬ (b : Int) < (a : Int) by omega), cond_false, decide_eq_false (show ¬ (c : Int) < (b : Int) by omega), cond_false]
   unfold ins ins ins
   by_cases q : k < a
   ·rw [if_pos q, decide_eq_true (show ((k : Nat) : Int) < (c : Int) by omega), decide_eq_true (show ((k : Nat) : Int) < (b : Int) by omega), decide_eq_true (show ((k : Nat) : Int) < (a : Int) by omega)]; rfl
   ·rw [if_neg q]
    by_cases q2 : k < b
    ·rw [if_pos q2, decide_eq_true (show ((k : Nat) : Int) < (c : Int) by omega), decide_eq_true (show ((k : Nat) : Int) < (b : Int) by omega), decide_eq_false (show ¬ ((k : Nat) : Int) < (a : Int) by omega)]; rfl
    ·rw [if_neg q2]
     by_cases q3 : k < c
     ·rw [if_pos q3, decide_eq_true (show ((k : Nat) : Int) < (c : Int) by omega), decide_eq_false (show ¬ ((k : Nat) : Int) < (b : Int) by omega)]; rfl
     ·rw [if_neg q3, decide_eq_false (show ¬ ((k : Nat) : Int) < (c : Int) by omega)]; rfl
  | _ :: _ :: _ :: _ :: _, _, h => simp at h
theorem Tx {l : List Pt} (hok : bf l = true) (h1 : 1 ≤ l.length) (h64 : l.length ≤ 256) :
  ∃ o N D st, Wk l o N D st ∧ jZ (pcs l) l.length = some (N.1, N.2.1, N.2.2, D, ((st : Nat) : Int), cj o, o.length) := by
 have main : ∃ e, tG (pcs l, l.length) (((0 : Nat) : Int), cj [0], [0].length) = some e ∧ ∃ o N D st, Wk l o N D st ∧ e = .inr (aa N.1 0, aa N.1 1, aa N.1 2, aa N.1 3, aa N.1 4, aa N.1 5, aa N.1 6, aa N.1 7, aa N.2.1 0, aa N.2.1 1, aa N.2.1 2, aa N.2.1 3, aa N.2.1 4, aa N.2.1 5, aa N.2.1 6, aa N.2.1 7, aa N.2.2 0, aa N.2.2 1, aa N.2.2 2, aa N.2.2 3, aa N.2.2 4, aa N.2.2 5, aa N.2.2 6, aa N.2.2 7, aa D 0, aa D 1, aa D 2, aa D 3, aa D 4, aa D 5, aa D 6, aa D 7, cj o, o.length, ((st : Nat) : Int)) := by
  refine gL (step := de (pcs l, l.length)) (fun v => ∃ st at_, v = (((st : Nat) : Int), cj at_, at_.length) ∧ Hd l st at_ ∧ st ≤ (gY l.length).length) (fun v => ((gY l.length).length : Int).toNat - v.1.toNat) _ ?_ ?_ ⟨0, [0], rfl, ⟨by simp [cW], by simp; omega, by simp, by simp, .inl rfl⟩, by omega⟩
  ·rintro v ⟨st, at_, rfl, h, hs⟩
   rcases O4 hok h1 h64 h with ⟨at', e1, e2, e3⟩ | ⟨o, N, D, e1, e2⟩
   ·refine .inl ⟨_, e1, ⟨st + 1, at', rfl, e2, e3⟩, ?_⟩
    simp only [Int.toNat_natCast]
    omega
   ·exact .inr ⟨_, e2, o, N, D, st + 1, e1, rfl⟩
  ·have := MC h1 h64
   simp only [Int.toNat_natCast]
   omega
 obtain ⟨e, he, o, N, D, st, hW, rfl⟩ := main
 refine ⟨o, N, D, st, hW, ?_⟩
 have z : tG (pcs l, l.length) (0, ([.int .i64 0] : LA_), 1) = some (.inr (aa N.1 0, aa N.1 1, aa N.1 2, aa N.1 3, aa N.1 4, aa N.1 5, aa N.1 6, aa N.1 7, aa N.2.1 0, aa N.2.1 1, aa N.2.1 2, aa N.2.1 3, aa N.2.1 4, aa N.2.1 5, aa N.2.1 6, aa N.2.1 7, aa N.2.2 0, aa N.2.2 1, aa N.2.2 2, aa N.2.2 3, aa N.2.2 4, aa N.2.2 5, aa N.2.2 6, aa N.2.2 7, aa D 0, aa D 1, aa D 2, aa D 3, aa D 4, aa D 5, aa D 6, aa D 7, cj o, o.length, ((st : Nat) : Int))) := he
 unfold jZ uE
 rw [z]
 simp only [Option.bind_some, Sum.elim_inr, bz, Bool.and_self, az]
 rw [aG (be hW.sN.h.1 (by decide)), aG (be hW.sN.h.2.1 (by decide)), aG (be hW.sN.h.2.2 (by decide)), aG (be hW.sD (by decide))]
end Go.Ev
