import Derived.Test.YtbmjabafceihgaaKaj
set_option linter.unusedVariables false
set_option linter.unusedSimpArgs false
set_option maxRecDepth 100000
noncomputable section
namespace Go.Ev
open Go.Proofs
theorem zi {a b : Nat} {x y : Int} [Sm a x] [Sm b y] (h1 : a ≤ 510) (h2 : b ≤ 510) (h : a + b ≤ 510) : jp (aa x 0) (aa x 1) (aa x 2) (aa x 3) (aa x 4) (aa x 5) (aa x 6) (aa x 7) (aa y 0) (aa y 1) (aa y 2) (aa y 3) (aa y 4) (aa y 5) (aa y 6) (aa y 7) = some (x * y) := OV h1 h2 h
theorem R6 {a b : Nat} {x y : Int} [Sm a x] [Sm b y] (h1 : a ≤ 510) (h2 : b ≤ 510) (h : max a b + 1 ≤ 510) : n8 (aa x 0) (aa x 1) (aa x 2) (aa x 3) (aa x 4) (aa x 5) (aa x 6) (aa x 7) (aa y 0) (aa y 1) (aa y 2) (aa y 3) (aa y 4) (aa y 5) (aa y 6) (aa y 7) = some (x + y) := Hx h1 h2 h
abbrev k8 : List TK := [.int .u64, .int .u64, .int .u64, .int .u64, .int .u64, .int .u64, .int .u64, .int .u64]
theorem Ls : ∀ (l : List Int) (i j : Nat), i < l.length → j < 8 → (wcs l)[i * 8 + j]? = some (.int .u64 (aa (l.getD i 0) j))
 | [], i, j, h, _ => by simp at h
 | z :: l, 0, j, _, hj => by
  rcases j with _ | _ | _ | _ | _ | _ | _ | _ | j
  all_goals first | rfl | omega
 | z :: l, i + 1, j, h, hj => by
  have ih := Ls l i j (by simpa using h) hj
  rw [show (i + 1) * 8 + j = i * 8 + j + 8 by omega]
  simp only [List.getD_cons_succ]
  exact ih
theorem wg {l : List Int} {i j : Nat} (h : i < l.length) (hj : j < 8) : ac (wcs l) (i * 8 + j) = aa (l.getD i 0) j := by
 unfold ac; rw [Ls l i j h hj]
theorem wro {l : List Int} {i : Nat} (h : i < l.length) : aq k8 (wcs l) (i * 8) = true := by
 have g := fun j hj => Ls l i j h hj
 have g0 := g 0 (by decide)
 rw [Nat.add_zero] at g0
 simp only [aq, g0, g 1 (by decide), g 2 (by decide), g 3 (by decide), g 4 (by decide), g 5 (by decide), g 6 (by decide), g 7 (by decide), Nat.add_assoc, Nat.reduceAdd, isK, decide_true, Bool.and_self]
def Hy : List Int → List Pt → Pt → Pt
 | w :: ws, p :: ps, a => Hy ws ps (a.1 + w * p.1, a.2.1 + w * p.2.1, a.2.2 + w * p.2.2)
 | _, _, a => a
theorem Lt : ∀ (w : List Int) (l : List Pt) (a : Pt), w.length = l.length → Hy w l a = (a.1 + (bg w l).1, a.2.1 + (bg w l).2.1, a.2.2 + (bg w l).2.2)
 | [], [], a, _ => by simp [Hy, bg]
 | x :: w, p :: l, a, h => by
  rw [Hy, Lt w l _ (by simpa using h)]
  simp only [bg, Prod.mk.injEq]
  grind
 | [], _ :: _, _, h => by simp at h
 | _ :: _, [], _, h => by simp at h
abbrev p24 (p : Pt) : LA_ := wcs [p.1, p.2.1, p.2.2]
theorem Lu {w : List Int} {l : List Pt} (hlen : w.length = l.length) (hok : bf l = true) (hw : ∀ z ∈ w, sm 190 z) (h4 : l.length ≤ 4) (D : LA_) : ∀ (n i : Nat) (a : Pt) (k : Nat), l.length - i = n → i ≤ l.length → PtB (230 + i) a →
  iter (gn (wcs w, w.length, D, 1, 1, pcs l, l.length, ((l.length : Nat) : Int))) (n + 1) (p24 a, (i : Int)) = some (p24 (Hy (w.drop i) (l.drop i) a))
 | 0, i, a, k, hn, hi, ha => by
  have he : i = l.length := by omega
  subst he
  refine fB 0 ?_
  rw [List.drop_length, ← hlen, List.drop_length, hlen]
  simp only [gn, dJ, decide_eq_false (show ¬ ((l.length : Int) < ((l.length : Nat) : Int)) by omega), cond_false]
  rfl
 | n + 1, i, a, k, hn, hi, ha => by
  have h : i < l.length := by omega
  have hwi : i < w.length := by omega
  have hd : l.drop i = pat l i :: l.drop (i + 1) := by
   rw [List.drop_eq_getElem_cons h]; simp [pat, List.getD_eq_getElem?_getD, List.getElem?_eq_getElem h]
  have hdw : w.drop i = w.getD i 0 :: w.drop (i + 1) := by
   rw [List.drop_eq_getElem_cons hwi]; simp [List.getD_eq_getElem?_getD, List.getElem?_eq_getElem hwi]
  have wr : IntKind.wrap .i64 ((i : Int) + 1) = ((i + 1 : Nat) : Int) := by rw [cf (by omega)]; omega
  have hp := PtB.of (fC hok h)
  haveI : Sm 190 (w.getD i 0) := ⟨by
   rw [List.getD_eq_getElem?_getD, List.getElem?_eq_getElem hwi]
   exact hw _ (List.getElem_mem hwi)⟩
  haveI p1 : Sm 28 (pat l i).1 := ⟨hp.h.1⟩
  haveI p2 : Sm 28 (pat l i).2.1 := ⟨hp.h.2.1⟩
  haveI p3 : Sm 28 (pat l i).2.2 := ⟨hp.h.2.2⟩
  have hi3 : 230 + i ≤ 233 := by omega
  haveI a1 : Sm 233 a.1 := ⟨aV ha.h.1 hi3⟩
  haveI a2 : Sm 233 a.2.1 := ⟨aV ha.h.2.1 hi3⟩
  haveI a3 : Sm 233 a.2.2 := ⟨aV ha.h.2.2 hi3⟩
  have o1 : cOf (pat l i).1 = some (pat l i).1 := Dy (p1.rng (by decide))
  have o2 : cOf (pat l i).2.1 = some (pat l i).2.1 := Dy (p2.rng (by decide))
  have o3 : cOf (pat l i).2.2 = some (pat l i).2.2 := Dy (p3.rng (by decide))
  have key : gn (wcs w, w.length, D, 1, 1, pcs l, l.length, ((l.length : Nat) : Int)) (p24 a, (i : Int)) =
    some (.inl (p24 (a.1 + w.getD i 0 * (pat l i).1, a.2.1 + w.getD i 0 * (pat l i).2.1, a.2.2 + w.getD i 0 * (pat l i).2.2), ((i + 1 : Nat) : Int))) := by
   have dw : decide ((i : Int) < ((w.length : Nat) : Int)) = true := decLt hwi
   have w0 : ac (wcs w) (i * 8 + 0) = aa (w.getD i 0) 0 := wg hwi (by decide)
   have w1 : ac (wcs w) (i * 8 + 1) = aa (w.getD i 0) 1 := wg hwi (by decide)
   have w2 : ac (wcs w) (i * 8 + 2) = aa (w.getD i 0) 2 := wg hwi (by decide)
   have w3 : ac (wcs w) (i * 8 + 3) = aa (w.getD i 0) 3 := wg hwi (by decide)
   have w4 : ac (wcs w) (i * 8 + 4) = aa (w.getD i 0) 4 := wg hwi (by decide)
   have w5 : ac (wcs w) (i * 8 + 5) = aa (w.getD i 0) 5 := wg hwi (by decide)
   have w6 : ac (wcs w) (i * 8 + 6) = aa (w.getD i 0) 6 := wg hwi (by decide)
   have w7 : ac (wcs w) (i * 8 + 7) = aa (w.getD i 0) 7 := wg hwi (by decide)
   have s0 : ∀ x y z r : Int, spliced (wcs [x, y, z]) 0 [.int .u64 (aa r 0), .int .u64 (aa r 1), .int .u64 (aa r 2), .int .u64 (aa r 3), .int .u64 (aa r 4), .int .u64 (aa r 5), .int .u64 (aa r 6), .int .u64 (aa r 7)] = wcs [r, y, z] := fun _ _ _ _ => rfl
   have s8 : ∀ x y z r : Int, spliced (wcs [x, y, z]) 8 [.int .u64 (aa r 0), .int .u64 (aa r 1), .int .u64 (aa r 2), .int .u64 (aa r 3), .int .u64 (aa r 4), .int .u64 (aa r 5), .int .u64 (aa r 6), .int .u64 (aa r 7)] = wcs [x, r, z] := fun _ _ _ _ => rfl
   have s16 : ∀ x y z r : Int, spliced (wcs [x, y, z]) 16 [.int .u64 (aa r 0), .int .u64 (aa r 1), .int .u64 (aa r 2), .int .u64 (aa r 3), .int .u64 (aa r 4), .int .u64 (aa r 5), .int .u64 (aa r 6), .int .u64 (aa r 7)] = wcs [x, y, r] := fun _ _ _ _ => rfl
   have l24 : ∀ x y z : Int, List.length (wcs [x, y, z]) = 24 := fun _ _ _ => rfl
   have r0 : ∀ x y z : Int, aq k8 (wcs [x, y, z]) 0 = true := fun x y z => wro (l := [x, y, z]) (i := 0) (by simp)
   have r8 : ∀ x y z : Int, aq k8 (wcs [x, y, z]) 8 = true := fun x y z => wro (l := [x, y, z]) (i := 1) (by simp)
   have r16 : ∀ x y z : Int, aq k8 (wcs [x, y, z]) 16 = true := fun x y z => wro (l := [x, y, z]) (i := 2) (by simp)
   have G0 : ∀ x y z : Int, ac (wcs [x, y, z]) 0 = aa x 0 := fun _ _ _ => rfl
   have G1 : ∀ x y z : Int, ac (wcs [x, y, z]) 1 = aa x 1 := fun _ _ _ => rfl
   have G2 : ∀ x y z : Int, ac (wcs [x, y, z]) 2 = aa x 2 := fun _ _ _ => rfl
   have G3 : ∀ x y z : Int, ac (wcs [x, y, z]) 3 = aa x 3 := fun _ _ _ => rfl
   have G4 : ∀ x y z : Int, ac (wcs [x, y, z]) 4 = aa x 4 := fun _ _ _ => rfl
   have G5 : ∀ x y z : Int, ac (wcs [x, y, z]) 5 = aa x 5 := fun _ _ _ => rfl
   have G6 : ∀ x y z : Int, ac (wcs [x, y, z]) 6 = aa x 6 := fun _ _ _ => rfl
   have G7 : ∀ x y z : Int, ac (wcs [x, y, z]) 7 = aa x 7 := fun _ _ _ => rfl
   have G8 : ∀ x y z : Int, ac (wcs [x, y, z]) 8 = aa y 0 := fun _ _ _ => rfl
   have G9 : ∀ x y z : Int, ac (wcs [x, y, z]) 9 = aa y 1 := fun _ _ _ => rfl
   have G10 : ∀ x y z : Int, ac (wcs [x, y, z]) 10 = aa y 2 := fun _ _ _ => rfl
   have G11 : ∀ x y z : Int, ac (wcs [x, y, z]) 11 = aa y 3 := fun _ _ _ => rfl
   have G12 : ∀ x y z : Int, ac (wcs [x, y, z]) 12 = aa y 4 := fun _ _ _ => rfl
   have G13 : ∀ x y z : Int, ac (wcs [x, y, z]) 13 = aa y 5 := fun _ _ _ => rfl
   have G14 : ∀ x y z : Int, ac (wcs [x, y, z]) 14 = aa y 6 := fun _ _ _ => rfl
   have G15 : ∀ x y z : Int, ac (wcs [x, y, z]) 15 = aa y 7 := fun _ _ _ => rfl
   have G16 : ∀ x y z : Int, ac (wcs [x, y, z]) 16 = aa z 0 := fun _ _ _ => rfl
   have G17 : ∀ x y z : Int, ac (wcs [x, y, z]) 17 = aa z 1 := fun _ _ _ => rfl
   have G18 : ∀ x y z : Int, ac (wcs [x, y, z]) 18 = aa z 2 := fun _ _ _ => rfl
   have G19 : ∀ x y z : Int, ac (wcs [x, y, z]) 19 = aa z 3 := fun _ _ _ => rfl
   have G20 : ∀ x y z : Int, ac (wcs [x, y, z]) 20 = aa z 4 := fun _ _ _ => rfl
   have G21 : ∀ x y z : Int, ac (wcs [x, y, z]) 21 = aa z 5 := fun _ _ _ => rfl
   have G22 : ∀ x y z : Int, ac (wcs [x, y, z]) 22 = aa z 6 := fun _ _ _ => rfl
   have G23 : ∀ x y z : Int, ac (wcs [x, y, z]) 23 = aa z 7 := fun _ _ _ => rfl
   have d8 : decide (0 + 8 ≤ 24) = true := rfl
   have d16 : decide (8 + 8 ≤ 24) = true := rfl
   have d24 : decide (16 + 8 ≤ 24) = true := rfl
   have wro' := wro hwi
   simp (disch := decide) only [gn, dJ, decLt h, fD, dw, cond_true, Bool.and_self, az, gH, pro h, pg0 h, pg1 h, pg2 h, o1, o2, o3, Option.bind_some, wr, w0, w1, w2, w3, w4, w5, w6, w7, wro',
    s0, s8, s16, l24, r0, r8, r16, d8, d16, d24, zi, R6, G0, G1, G2, G3, G4, G5, G6, G7, G8, G9, G10, G11, G12, G13, G14, G15, G16, G17, G18, G19, G20, G21, G22, G23]
  refine dm key ?_
  have ha' : PtB (230 + (i + 1)) (a.1 + w.getD i 0 * (pat l i).1, a.2.1 + w.getD i 0 * (pat l i).2.1, a.2.2 + w.getD i 0 * (pat l i).2.2) := by
   have q : ∀ {x y : Int}, sm (230 + i) x → sm 28 y → sm (230 + (i + 1)) (x + w.getD i 0 * y) := by
    intro x y hx hy
    exact kT hx (aV (cK (Sm.h (z := w.getD i 0)) hy) (Nat.le_trans (show 190 + 28 ≤ 230 by decide) (Nat.le_add_right _ _)))
   exact ⟨q ha.h.1 hp.h.1, q ha.h.2.1 hp.h.2.1, q ha.h.2.2 hp.h.2.2⟩
  have ih := Lu hlen hok hw h4 D n (i + 1) _ k (by omega) (by omega) ha'
  rw [ih, hd, hdw]
  rfl
def Nw (g x h : Int) : Prop := 0 < h ∧ h ∣ g ∧ h ∣ x ∧ ∀ e, e ∣ g → e ∣ x → e ∣ h
theorem Ts {x : Int} (hx : fit x) : (aa x 0 == 0 && (aa x 1 == 0 && (aa x 2 == 0 && (aa x 3 == 0 && (aa x 4 == 0 && (aa x 5 == 0 && (aa x 6 == 0 && (aa x 7 == 0 && true)))))))) = decide (x = 0) := by
 have h := IM hx yd
 simp only [fc] at h
 exact h
theorem Tt (cc : LA_ × Nat × LA_ × Nat × Nat × Nat × Int × Int × Int × Int × Int × Int × Int × Int × Int × Int × Int × Int × Int × Int × Int × Int × Int × Int × Int × Int × Int × Int × Int × Int × Int) :
  ∀ (k : Nat) (g x : Int), 0 < g → fit g → 0 ≤ x → fit x → x < ((2 ^ k : Nat) : Int) → ∃ h, Nw g x h ∧ h ≤ g ∧ iter (et cc) (2 * k + 1) (wcs [g], wcs [x]) = some (wcs [h]) := by
 have ends : ∀ (g : Int) (n : Nat), iter (et cc) (n + 1) (wcs [g], wcs [0]) = some (wcs [g]) := by
  intro g n
  refine fB n ?_
  have r0 : aq k8 (wcs [0]) 0 = true := wro (l := [0]) (i := 0) (by simp)
  have e0 : (!((ac (wcs [(0 : Int)]) 0) == 0 && ((ac (wcs [(0 : Int)]) 1) == 0 && ((ac (wcs [(0 : Int)]) 2) == 0 && ((ac (wcs [(0 : Int)]) 3) == 0 && ((ac (wcs [(0 : Int)]) 4) == 0 && ((ac (wcs [(0 : Int)]) 5) == 0 && ((ac (wcs [(0 : Int)]) 6) == 0 && ((ac (wcs [(0 : Int)]) 7) == 0 && true))))))))) = false := by
   have := Ts yd
   rw [decide_eq_true rfl] at this
   exact congrArg (fun b => !b) this
  simp only [et, dt, r0, az, e0, cond_false]
 have next : ∀ {g x : Int}, fit g → fit x → x ≠ 0 → fit (g.fdiv x) → et cc (wcs [g], wcs [x]) = some (.inl (wcs [x], wcs [g.fmod x])) := by
  intro g x hg hx h0 hd
  have r0 : ∀ z : Int, aq k8 (wcs [z]) 0 = true := fun z => wro (l := [z]) (i := 0) (by simp)
  have e0 : (!((ac (wcs [x]) 0) == 0 && ((ac (wcs [x]) 1) == 0 && ((ac (wcs [x]) 2) == 0 && ((ac (wcs [x]) 3) == 0 && ((ac (wcs [x]) 4) == 0 && ((ac (wcs [x]) 5) == 0 && ((ac (wcs [x]) 6) == 0 && ((ac (wcs [x]) 7) == 0 && true))))))))) = true := by
   have := Ts hx
   rw [decide_eq_false h0] at this
   exact congrArg (fun b => !b) this
  have q : uI (ac (wcs [g]) 0) (ac (wcs [g]) 1) (ac (wcs [g]) 2) (ac (wcs [g]) 3) (ac (wcs [g]) 4) (ac (wcs [g]) 5) (ac (wcs [g]) 6) (ac (wcs [g]) 7) (ac (wcs [x]) 0) (ac (wcs [x]) 1) (ac (wcs [x]) 2) (ac (wcs [x]) 3) (ac (wcs [x]) 4) (ac (wcs [x]) 5) (ac (wcs [x]) 6) (ac (wcs [x]) 7) = some (g.fdiv x, g.fmod x) := Mv hg hx h0 hd
  have l8 : ∀ z : Int, decide (0 + 8 ≤ List.length (wcs [z])) = true := fun _ => rfl
  simp only [et, dt, r0, az, e0, cond_true, q, Option.bind_some, l8]
  rfl
 have fitle : ∀ {a b : Int}, fit b → 0 ≤ a → a ≤ b → fit a := by
  intro a b hb h0 h1
  unfold fit at *
  omega
 have fdiv_fit : ∀ {g x : Int}, fit g → 0 < g → 0 < x → fit (g.fdiv x) := by
  intro g x hg h1 h2
  have e : g.fdiv x = g / x := Int.fdiv_eq_ediv_of_nonneg _ (by omega)
  rw [e]
  exact fitle hg (Int.ediv_nonneg (by omega) (by omega)) (Int.ediv_le_self _ (by omega))
 have fm : ∀ {g x : Int}, 0 < x → g.fmod x = g % x := fun {g x} h => Int.fmod_eq_emod_of_nonneg _ (by omega)
 intro k
 induction k with
 | zero =>
  intro g x hg hfg h0 hx hlt
  obtain rfl : x = 0 := by simp at hlt; omega
  exact ⟨g, ⟨hg, Int.dvd_refl _, Int.dvd_zero _, fun e h _ => h⟩, Int.le_refl _, ends g 0⟩
 | succ k ih =>
  intro g x hg hfg h0 hx hlt
  by_cases hx0 : x = 0
  ·subst hx0
   exact ⟨g, ⟨hg, Int.dvd_refl _, Int.dvd_zero _, fun e h _ => h⟩, Int.le_refl _, ends g _⟩
  ·have hxp : 0 < x := by omega
   have n1 := next hfg hx hx0 (fdiv_fit hfg hg hxp)
   rw [fm hxp] at n1
   have r1 := Int.emod_nonneg g hx0
   have r2 := Int.emod_lt_of_pos g hxp
   have dg : x * (g / x) + g % x = g := Int.mul_ediv_add_emod g x
   have hle : x ≤ g ∨ g < x := by omega
   generalize hr : g % x = r at *
   by_cases hr0 : r = 0
   ·subst hr0
    refine ⟨x, ⟨hxp, Int.dvd_of_emod_eq_zero hr, Int.dvd_refl _, fun e _ h => h⟩, ?_, ?_⟩
    ·rcases hle with h | h
     ·exact h
     ·exfalso
      have : g % x = g := Int.emod_eq_of_lt (by omega) h
      omega
    ·rw [show 2 * (k + 1) + 1 = (2 * k + 1 + 1) + 1 by omega]
     exact dm n1 (ends x _)
   ·have hrp : 0 < r := by omega
    have hfr := fitle hx (by omega) (Int.le_of_lt r2)
    have n2 := next hx hfr (by omega) (fdiv_fit hx hxp hrp)
    rw [fm hrp] at n2
    have s1 := Int.emod_nonneg x (show r ≠ 0 by omega)
    have s2 := Int.emod_lt_of_pos x hrp
    have dx : r * (x / r) + x % r = x := Int.mul_ediv_add_emod x r
    have q1 : 1 ≤ x / r := (Int.le_ediv_iff_mul_le hrp).2 (by omega)
    have q2 : r * 1 ≤ r * (x / r) := Int.mul_le_mul_of_nonneg_left q1 (by omega)
    generalize hs : x % r = s at *
    have hs2 : s < ((2 ^ k : Nat) : Int) := by
     rw [Nat.pow_succ] at hlt
     omega
    obtain ⟨h, ⟨h1, h2, h3, h4⟩, h5, h6⟩ := ih r s hrp hfr (by omega) (fitle hfr (by omega) (by omega)) hs2
    have hxd : h ∣ x := by rw [← dx]; exact Int.dvd_add (Int.dvd_mul_of_dvd_left h2) h3
    have hgd : h ∣ g := by rw [← dg]; exact Int.dvd_add (Int.dvd_mul_of_dvd_left hxd) h2
    refine ⟨h, ⟨h1, hgd, hxd, fun e eg ex => ?_⟩, Int.le_of_dvd hg hgd, ?_⟩
    ·have er : e ∣ r := by
      have : r = g - x * (g / x) := by omega
      rw [this]; exact Int.dvd_sub eg (Int.dvd_mul_of_dvd_left ex)
     have es : e ∣ s := by
      have : s = x - r * (x / r) := by omega
      rw [this]; exact Int.dvd_sub ex (Int.dvd_mul_of_dvd_left er)
     exact h4 e er es
    ·rw [show 2 * (k + 1) + 1 = (2 * k + 1 + 1) + 1 by omega]
     exact dm n1 (dm n2 h6)
theorem Q9 (cc : LA_ × Nat × LA_ × Nat × Nat × Nat × Int × Int × Int × Int × Int × Int × Int × Int × Int × Int × Int × Int × Int × Int × Int × Int × Int × Int × Int × Int × Int × Int × Int × Int × Int)
  {g x : Int} (hg : 0 < g) (hfg : fit g) (h0 : 0 ≤ x) (hx : fit x) : ∃ h, Nw g x h ∧ h ≤ g ∧ gp cc (wcs [g], wcs [x]) = some (wcs [h]) := by
 have hlt : ∀ k, k = 255 → x < ((2 ^ (k + 1 + k) : Nat) : Int) := by
  rintro k hk
  rw [Nat.pow_add, Nat.pow_succ, hk]
  unfold fit at hx
  omega
 obtain ⟨h, h1, h2, h3⟩ := Tt cc _ g x hg hfg h0 hx (hlt 255 rfl)
 exact ⟨h, h1, h2, jc (by unfold se; decide) h3⟩
abbrev Nx (n : Pt) (d : Int) : LA_ × Nat × LA_ × Nat × Nat × Int × Int × Int × Int × Int × Int × Int × Int × Int × Int × Int × Int × Int × Int × Int × Int × Int × Int × Int × Int × Int × Int × Int × Int :=
 (wcs [d], 1, p24 n, 1, 1, aa n.1 0, aa n.1 1, aa n.1 2, aa n.1 3, aa n.1 4, aa n.1 5, aa n.1 6, aa n.1 7, aa n.2.1 0, aa n.2.1 1, aa n.2.1 2, aa n.2.1 3, aa n.2.1 4, aa n.2.1 5, aa n.2.1 6, aa n.2.1 7, aa n.2.2 0, aa n.2.2 1, aa n.2.2 2, aa n.2.2 3, aa n.2.2 4, aa n.2.2 5, aa n.2.2 6, aa n.2.2 7)
abbrev Ny (n : Pt) (d i : Int) : LA_ × Nat × LA_ × Nat × Nat × Nat × Int × Int × Int × Int × Int × Int × Int × Int × Int × Int × Int × Int × Int × Int × Int × Int × Int × Int × Int × Int × Int × Int × Int × Int × Int :=
 (wcs [d], 1, p24 n, 1, 1, 1, aa n.1 0, aa n.1 1, aa n.1 2, aa n.1 3, aa n.1 4, aa n.1 5, aa n.1 6, aa n.1 7, aa n.2.1 0, aa n.2.1 1, aa n.2.1 2, aa n.2.1 3, aa n.2.1 4, aa n.2.1 5, aa n.2.1 6, aa n.2.1 7, aa n.2.2 0, aa n.2.2 1, aa n.2.2 2, aa n.2.2 3, aa n.2.2 4, aa n.2.2 5, aa n.2.2 6, aa n.2.2 7, i)
theorem Nz {n : Pt} {d g c i j : Int} {V : LA_ × Int} (hg : 0 < g) (hfg : fit g) (hc : Sm 240 c)
  (e : iH (Nx n d) V = Option.bind (NA c) fun r => cond (decide (r < 0)) (Option.bind (gc c) fun r1 => Option.bind (gp (Ny n d i) (wcs [g], wcs [r1])) fun e => some (.inl (e, j)))
   (Option.bind (gp (Ny n d i) (wcs [g], wcs [c])) fun e => some (.inl (e, j)))) : ∃ h, Nw g c h ∧ h ≤ g ∧ iH (Nx n d) V = some (.inl (wcs [h], j)) := by
 have hf : fit c := Sm.fit (by decide)
 have hf' : fit (-c) := Sm.fit (by decide)
 rw [e, Qd hf, Option.bind_some]
 by_cases h : c < 0
 ·have : decide (sgn c < 0) = true := by simp [sgn, h]
  rw [this, cond_true, OW (by decide), Option.bind_some]
  obtain ⟨q, h1, h2, h3⟩ := Q9 (Ny n d i) hg hfg (x := -c) (by omega) hf'
  rw [h3]
  refine ⟨q, ⟨h1.1, h1.2.1, (Int.dvd_neg).1 h1.2.2.1, fun e a b => h1.2.2.2 e a ((Int.dvd_neg).2 b)⟩, h2, rfl⟩
 ·have : decide (sgn c < 0) = false := by
   unfold sgn
   rw [decide_eq_false h, cond_false]
   by_cases h0 : c = 0
   ·rw [decide_eq_true h0]; rfl
   ·rw [decide_eq_false h0]; rfl
  rw [this, cond_false]
  obtain ⟨q, h1, h2, h3⟩ := Q9 (Ny n d i) hg hfg (x := c) (by omega) hf
  rw [h3]
  exact ⟨q, h1, h2, rfl⟩
theorem T6 {n : Pt} {d : Int} (hn : PtB 240 n) (hd : 0 < d) (hfd : fit d) : ∃ g, (0 < g ∧ g ∣ d ∧ g ∣ n.1 ∧ g ∣ n.2.1 ∧ g ∣ n.2.2 ∧ ∀ e, e ∣ d → e ∣ n.1 → e ∣ n.2.1 → e ∣ n.2.2 → e ∣ g) ∧ g ≤ d ∧ nu (Nx n d) (wcs [d], 0) = some (wcs [g]) := by
 have fl : ∀ {a : Int}, 0 < a → a ≤ d → fit a := by intro a h1 h2; unfold fit at *; omega
 obtain ⟨g1, a1, b1, c1⟩ := Nz (n := n) (d := d) (g := d) (c := n.1) (i := 0) (j := 1) (V := (wcs [d], 0)) hd hfd ⟨hn.h.1⟩ (by kernel_rfl)
 obtain ⟨g2, a2, b2, c2⟩ := Nz (n := n) (d := d) (g := g1) (c := n.2.1) (i := 1) (j := 2) (V := (wcs [g1], 1)) a1.1 (fl a1.1 b1) ⟨hn.h.2.1⟩ (by kernel_rfl)
 obtain ⟨g3, a3, b3, c3⟩ := Nz (n := n) (d := d) (g := g2) (c := n.2.2) (i := 2) (j := 3) (V := (wcs [g2], 2)) a2.1 (fl a2.1 (by omega)) ⟨hn.h.2.2⟩ (by kernel_rfl)
 have fin : iH (Nx n d) (wcs [g3], 3) = some (.inr (wcs [g3])) := by kernel_rfl
 refine ⟨g3, ⟨a3.1, ?_, ?_, ?_, a3.2.2.1, fun e h1 h2 h3 h4 => a3.2.2.2 e (a2.2.2.2 e (a1.2.2.2 e h1 h2) h3) h4⟩, by omega, ?_⟩
 ·exact Int.dvd_trans a3.2.1 (Int.dvd_trans a2.2.1 a1.2.1)
 ·exact Int.dvd_trans a3.2.1 (Int.dvd_trans a2.2.1 a1.2.2.1)
 ·exact Int.dvd_trans a3.2.1 a2.2.2.1
 ·exact jc (n := 4) (by unfold se; decide) (dm c1 (dm c2 (dm c3 (fB 0 fin))))
theorem Ut {a g : Int} (ha : fit a) (hg : fit g) (h0 : g ≠ 0) (hd : fit (a.fdiv g)) : oK a g = some (a.fdiv g) := by
 have q : gU (aa a 0) (aa a 1) (aa a 2) (aa a 3) (aa a 4) (aa a 5) (aa a 6) (aa a 7) (aa g 0) (aa g 1) (aa g 2) (aa g 3) (aa g 4) (aa g 5) (aa g 6) (aa g 7) = some (t8 (a.fdiv g)) := by
  unfold gU
  rw [show uI (aa a 0) (aa a 1) (aa a 2) (aa a 3) (aa a 4) (aa a 5) (aa a 6) (aa a 7) (aa g 0) (aa g 1) (aa g 2) (aa g 3) (aa g 4) (aa g 5) (aa g 6) (aa g 7) = some (a.fdiv g, a.fmod g) from Mv ha hg h0 hd]
  rfl
 unfold oK bI
 rw [q]
 simp only [t8, Option.bind_some, bz, az]
 rw [aG hd]
structure Prim (n : Pt) (d : Int) (N : Pt) (D : Int) : Prop where
 ex : ∃ g, 0 < g ∧ n = (g * N.1, g * N.2.1, g * N.2.2) ∧ d = g * D
 one : ∀ e, e ∣ N.1 → e ∣ N.2.1 → e ∣ N.2.2 → e ∣ D → e ∣ 1
theorem T7 {w : List Int} {l : List Pt} {d : Int} (hlen : w.length = l.length) (hok : bf l = true) (hw : ∀ z ∈ w, sm 190 z) (h4 : l.length ≤ 4) (hd : 0 < d) (hfd : sm 190 d) :
  ∃ N D, Prim (bg w l) d N D ∧ tO (pcs l) l.length (wcs w) w.length d = some (N.1, N.2.1, N.2.2, D) := by
 have hL := Lu hlen hok hw h4 (wcs [d]) l.length 0 (0, 0, 0) 0 (by omega) (by omega) ⟨⟨mV, mV, mV⟩⟩
 rw [List.drop_zero, List.drop_zero, Lt _ _ _ hlen] at hL
 simp only [Int.zero_add] at hL
 have hL3 : oJ (wcs w, w.length, wcs [d], 1, 1, pcs l, l.length, ((l.length : Nat) : Int)) (p24 (0, 0, 0), 0) = some (p24 (bg w l)) := jc (by unfold se; omega) hL
 have hn : PtB 240 (bg w l) := by
  have key : ∀ (w : List Int) (l : List Pt) (k : Nat), w.length = l.length → bf l = true → (∀ z ∈ w, sm 190 z) → l.length ≤ k → PtB (218 + k) (bg w l) := by
   intro w
   induction w with
   | nil => intro l k _ _ _ _; cases l <;> exact ⟨⟨mV, mV, mV⟩⟩
   | cons x w ih =>
    intro l k hl ho hw hk
    cases l with
    | nil => simp at hl
    | cons p l =>
     simp only [aP] at ho
     cases k with
     | zero => simp at hk
     | succ k =>
      have h1 := ih l k (by simpa using hl) ho.2 (fun z hz => hw z (by simp [hz])) (by simpa using hk)
      have hp := PtB.of ho.1
      have hx := hw x (by simp)
      have q : ∀ {u v : Int}, sm 28 u → sm (218 + k) v → sm (218 + (k + 1)) (x * u + v) := fun {u v} hu hv => kT (aV (cK hx hu) (Nat.le_add_right 218 k)) hv
      exact ⟨⟨q hp.h.1 h1.h.1, q hp.h.2.1 h1.h.2.1, q hp.h.2.2 h1.h.2.2⟩⟩
  have h := key w l l.length hlen hok hw (Nat.le_refl _)
  exact ⟨⟨aV h.h.1 (by omega), aV h.h.2.1 (by omega), aV h.h.2.2 (by omega)⟩⟩
 generalize bg w l = n at *
 obtain ⟨g, ⟨g0, g1, g2, g3, g4, g5⟩, g6, hL13⟩ := T6 hn hd (be hfd (by decide))
 have fg : fit g := be (a := 190) (by unfold sm at *; omega) (by decide)
 have dv : ∀ {a : Int}, sm 240 a → g ∣ a → ∃ q, a = g * q ∧ oK a g = some q := by
  rintro a ha ⟨q, rfl⟩
  have e : (g * q).fdiv g = q := by rw [Int.mul_comm]; exact Int.mul_fdiv_cancel _ (by omega)
  have fq : fit q := by
   refine be (a := 240) ?_ (by decide)
   unfold sm at *
   rcases Int.le_total 0 q with h | h
   ·have : 1 * q ≤ g * q := Int.mul_le_mul_of_nonneg_right (by omega) h
    omega
   ·have : g * q ≤ 1 * q := Int.mul_le_mul_of_nonpos_right (by omega) h
    omega
  exact ⟨q, rfl, by have := Ut (be ha (by decide)) fg (by omega) (by rw [e]; exact fq); rwa [e] at this⟩
 obtain ⟨x, x1, x2⟩ := dv hn.h.1 g2
 obtain ⟨y, y1, y2⟩ := dv hn.h.2.1 g3
 obtain ⟨z, z1, z2⟩ := dv hn.h.2.2 g4
 obtain ⟨D, d1, d2⟩ := dv (aV hfd (by decide)) g1
 refine ⟨(x, y, z), D, ⟨⟨g, g0, by rw [← x1, ← y1, ← z1], d1⟩, fun e h1 h2 h3 h4 => ?_⟩, ?_⟩
 ·obtain ⟨q, hq⟩ := g5 (g * e) (by rw [d1]; exact Int.mul_dvd_mul_left g h4) (by rw [x1]; exact Int.mul_dvd_mul_left g h1) (by rw [y1]; exact Int.mul_dvd_mul_left g h2) (by rw [z1]; exact Int.mul_dvd_mul_left g h3)
  refine ⟨q, Int.eq_of_mul_eq_mul_left (show g ≠ 0 by omega) ?_⟩
  rw [Int.mul_one, ← Int.mul_assoc]
  exact hq
 have sq : ∀ {a q : Int}, sm 240 a → a = g * q → fit q := by
  intro a q ha e
  refine be (a := 240) ?_ (by decide)
  subst e
  unfold sm at *
  rcases Int.le_total 0 q with h | h
  ·have : 1 * q ≤ g * q := Int.mul_le_mul_of_nonneg_right (by omega) h
   omega
  ·have : g * q ≤ 1 * q := Int.mul_le_mul_of_nonpos_right (by omega) h
   omega
 have key : tO (pcs l) l.length (wcs w) w.length d = Option.bind (oJ (wcs w, w.length, wcs [d], 1, 1, pcs l, l.length, ((l.length : Nat) : Int)) (p24 (0, 0, 0), 0)) fun e1 => Option.bind (du (pcs l) l.length (wcs w) w.length (aa d 0) (aa d 1) (aa d 2) (aa d 3) (aa d 4) (aa d 5) (aa d 6) (aa d 7)) some := by
  rw [hL3, Option.bind_some]
  show du _ _ _ _ _ _ _ _ _ _ _ _ = _
  cases du (pcs l) l.length (wcs w) w.length (aa d 0) (aa d 1) (aa d 2) (aa d 3) (aa d 4) (aa d 5) (aa d 6) (aa d 7) <;> rfl
 have F : kQ (pcs l) l.length (wcs w) w.length (aa d 0) (aa d 1) (aa d 2) (aa d 3) (aa d 4) (aa d 5) (aa d 6) (aa d 7) = some (aa x 0, aa x 1, aa x 2, aa x 3, aa x 4, aa x 5, aa x 6, aa x 7, aa y 0, aa y 1, aa y 2, aa y 3, aa y 4, aa y 5, aa y 6, aa y 7, aa z 0, aa z 1, aa z 2, aa z 3, aa z 4, aa z 5, aa z 6, aa z 7, aa D 0, aa D 1, aa D 2, aa D 3, aa D 4, aa D 5, aa D 6, aa D 7) := by
  have z24 : (([.int .u64 0, .int .u64 0, .int .u64 0, .int .u64 0, .int .u64 0, .int .u64 0, .int .u64 0, .int .u64 0, .int .u64 0, .int .u64 0, .int .u64 0, .int .u64 0, .int .u64 0, .int .u64 0, .int .u64 0, .int .u64 0, .int .u64 0, .int .u64 0, .int .u64 0, .int .u64 0, .int .u64 0, .int .u64 0, .int .u64 0, .int .u64 0] : LA_)) = p24 (0, 0, 0) := by simp only [wcs, fc]
  unfold kQ
  unfold v8 aX
  rw [z24]
  rw [show ([.int .u64 (aa d 0), .int .u64 (aa d 1), .int .u64 (aa d 2), .int .u64 (aa d 3), .int .u64 (aa d 4), .int .u64 (aa d 5), .int .u64 (aa d 6), .int .u64 (aa d 7)] : LA_) = wcs [d] from rfl, hL3, Option.bind_some]
  have r24 : aq UE (p24 n) 0 = true := rfl
  have r0 : aq k8 (p24 n) 0 = true := rfl
  have r8 : aq k8 (p24 n) 8 = true := rfl
  have r16 : aq k8 (p24 n) 16 = true := rfl
  have rg : (aq k8 (wcs [g]) 0 && Nat.beq (List.length (wcs [g])) 8) = true := rfl
  have hL13' : nu (wcs [d], 1, p24 n, 1, 1, ac (p24 n) 0, ac (p24 n) 1, ac (p24 n) 2, ac (p24 n) 3, ac (p24 n) 4, ac (p24 n) 5, ac (p24 n) 6, ac (p24 n) 7, ac (p24 n) 8, ac (p24 n) 9, ac (p24 n) 10, ac (p24 n) 11, ac (p24 n) 12, ac (p24 n) 13, ac (p24 n) 14, ac (p24 n) 15, ac (p24 n) 16, ac (p24 n) 17, ac (p24 n) 18, ac (p24 n) 19, ac (p24 n) 20, ac (p24 n) 21, ac (p24 n) 22, ac (p24 n) 23) (wcs [d], 0) = some (wcs [g]) := hL13
  rw [r24, az, hL13', Option.bind_some, r0, az, rg, az]
  rw [show bI (ac (p24 n) 0) (ac (p24 n) 1) (ac (p24 n) 2) (ac (p24 n) 3) (ac (p24 n) 4) (ac (p24 n) 5) (ac (p24 n) 6) (ac (p24 n) 7) (ac (wcs [g]) 0) (ac (wcs [g]) 1) (ac (wcs [g]) 2) (ac (wcs [g]) 3) (ac (wcs [g]) 4) (ac (wcs [g]) 5) (ac (wcs [g]) 6) (ac (wcs [g]) 7) = some x from x2, Option.bind_some, r8, az, az]
  rw [show bI (ac (p24 n) 8) (ac (p24 n) 9) (ac (p24 n) 10) (ac (p24 n) 11) (ac (p24 n) 12) (ac (p24 n) 13) (ac (p24 n) 14) (ac (p24 n) 15) (ac (wcs [g]) 0) (ac (wcs [g]) 1) (ac (wcs [g]) 2) (ac (wcs [g]) 3) (ac (wcs [g]) 4) (ac (wcs [g]) 5) (ac (wcs [g]) 6) (ac (wcs [g]) 7) = some y from y2, Option.bind_some, r16, az, az]
  rw [show bI (ac (p24 n) 16) (ac (p24 n) 17) (ac (p24 n) 18) (ac (p24 n) 19) (ac (p24 n) 20) (ac (p24 n) 21) (ac (p24 n) 22) (ac (p24 n) 23) (ac (wcs [g]) 0) (ac (wcs [g]) 1) (ac (wcs [g]) 2) (ac (wcs [g]) 3) (ac (wcs [g]) 4) (ac (wcs [g]) 5) (ac (wcs [g]) 6) (ac (wcs [g]) 7) = some z from z2, Option.bind_some, az]
  rw [show bI (aa d 0) (aa d 1) (aa d 2) (aa d 3) (aa d 4) (aa d 5) (aa d 6) (aa d 7) (ac (wcs [g]) 0) (ac (wcs [g]) 1) (ac (wcs [g]) 2) (ac (wcs [g]) 3) (ac (wcs [g]) 4) (ac (wcs [g]) 5) (ac (wcs [g]) 6) (ac (wcs [g]) 7) = some D from d2, Option.bind_some]
 show du _ _ _ _ _ _ _ _ _ _ _ _ = _
 unfold du
 rw [F]
 simp only [Option.bind_some, bz, Bool.and_self, az]
 rw [aG (sq hn.h.1 x1), aG (sq hn.h.2.1 y1), aG (sq hn.h.2.2 z1), aG (sq (aV hfd (by decide)) d1)]
def Bw : CH := (CH.add 39 Cd (CH.add 22 rS CH.none))
theorem xN : aE Try.prog Bw := (CH.aj Ce (CH.aj pZ CH.aB))
def gS (a0 a1 a2 a3 a4 a5 a6 a7 a8 a9 a10 a11 a12 a13 a14 a15 a16 a17 a18 a19 a20 a21 a22 a23 : Int) : Option (Int × Int × Int × Int × Int × Int × Int × Int) :=
 (Option.bind (jp a0 a1 a2 a3 a4 a5 a6 a7 a0 a1 a2 a3 a4 a5 a6 a7) fun r1 => (Option.bind (jp a8 a9 a10 a11 a12 a13 a14 a15 a8 a9 a10 a11 a12 a13 a14 a15) fun r2 => (Option.bind (xO r1 r2) fun r3 => (Option.bind (jp a16 a17 a18 a19 a20 a21 a22 a23 a16 a17 a18 a19 a20 a21 a22 a23) fun r4 => (Option.bind (xO r3 r4) fun r5 => (some ((aa r5 0), (aa r5 1), (aa r5 2), (aa r5 3), (aa r5 4), (aa r5 5), (aa r5 6), (aa r5 7))))))))
def cS : FD where
 X := Int × Int × Int × Int × Int × Int × Int × Int
 k := 0
 pre := []
 F := fun s => []
 M := .agg (rl (.int .u64) 8 [])
 B := []
 toL := fun x => [.I x.1, .I x.2.1, .I x.2.2.1, .I x.2.2.2.1, .I x.s4.1, .I x.s4.2.1, .I x.s4.2.2.1, .I x.s4.2.2.2]
 ofL := fun ls => match ls with
  | [.I x0, .I x1, .I x2, .I x3, .I x4, .I x5, .I x6, .I x7] => some (x0, x1, x2, x3, x4, x5, x6, x7)
  | _ => none
 au := fun ls x h => by
  split at h
  ·cases h; rfl
  ·cases h
theorem zW (a0 a1 a2 a3 a4 a5 a6 a7 a8 a9 a10 a11 a12 a13 a14 a15 a16 a17 a18 a19 a20 a21 a22 a23 : Int) (x : Int × Int × Int × Int × Int × Int × Int × Int) (h : gS a0 a1 a2 a3 a4 a5 a6 a7 a8 a9 a10 a11 a12 a13 a14 a15 a16 a17 a18 a19 a20 a21 a22 a23 = some x) : bc Try.prog 23 0 [.agg (v8 a0 a1 a2 a3 a4 a5 a6 a7 (v8 a8 a9 a10 a11 a12 a13 a14 a15 (v8 a16 a17 a18 a19 a20 a21 a22 a23 [])))] [] cS x :=
 FD.semA cS xN Try.func23 (fuel := 60) (by kernel_rfl) (by kernel_rfl)
  (by kernel_rfl) (Eq.trans (by kernel_rfl) h)
def ej (a0 a1 a2 a3 a4 a5 a6 a7 a8 a9 a10 a11 a12 a13 a14 a15 a16 a17 a18 a19 a20 a21 a22 a23 : Int) : Option (Int) := Option.bind (gS a0 a1 a2 a3 a4 a5 a6 a7 a8 a9 a10 a11 a12 a13 a14 a15 a16 a17 a18 a19 a20 a21 a22 a23) fun (x0, x1, x2, x3, x4, x5, x6, x7) => af (ok8 x0 x1 x2 x3 x4 x5 x6 x7) (some (num x0 x1 x2 x3 x4 x5 x6 x7))
def lR : FD := ⟨Int, cS.k, cS.pre, cS.F, cS.M, cS.B, fun y => cS.toL ((aa y 0), (aa y 1), (aa y 2), (aa y 3), (aa y 4), (aa y 5), (aa y 6), (aa y 7)), fun _ => none, fun _ _ h => by cases h⟩
theorem Bx (a0 a1 a2 a3 a4 a5 a6 a7 a8 a9 a10 a11 a12 a13 a14 a15 a16 a17 a18 a19 a20 a21 a22 a23 : Int) {y : Int} (h : ej a0 a1 a2 a3 a4 a5 a6 a7 a8 a9 a10 a11 a12 a13 a14 a15 a16 a17 a18 a19 a20 a21 a22 a23 = some y) : gS a0 a1 a2 a3 a4 a5 a6 a7 a8 a9 a10 a11 a12 a13 a14 a15 a16 a17 a18 a19 a20 a21 a22 a23 = some ((aa y 0), (aa y 1), (aa y 2), (aa y 3), (aa y 4), (aa y 5), (aa y 6), (aa y 7)) := by
 unfold ej at h
 obtain ⟨⟨x0, x1, x2, x3, x4, x5, x6, x7⟩, h1, h2⟩ := bE_ h
 obtain ⟨h3, h4⟩ := aH h2
 skip
 simp only [Option.some.injEq] at h4
 subst h4
 have o0 := h3
 have q0 := aQ o0
 rw [h1]
 simp only [q0]
theorem zX (a0 a1 a2 a3 a4 a5 a6 a7 a8 a9 a10 a11 a12 a13 a14 a15 a16 a17 a18 a19 a20 a21 a22 a23 y : Int) (h : ej a0 a1 a2 a3 a4 a5 a6 a7 a8 a9 a10 a11 a12 a13 a14 a15 a16 a17 a18 a19 a20 a21 a22 a23 = some y) : bc Try.prog 23 0 [.agg (v8 a0 a1 a2 a3 a4 a5 a6 a7 (v8 a8 a9 a10 a11 a12 a13 a14 a15 (v8 a16 a17 a18 a19 a20 a21 a22 a23 [])))] [] lR y := zW a0 a1 a2 a3 a4 a5 a6 a7 a8 a9 a10 a11 a12 a13 a14 a15 a16 a17 a18 a19 a20 a21 a22 a23 _ (Bx a0 a1 a2 a3 a4 a5 a6 a7 a8 a9 a10 a11 a12 a13 a14 a15 a16 a17 a18 a19 a20 a21 a22 a23 h)
def oH : HK where
 call := fun args σ k => match args with
  | [.agg [.int .u64 a0, .int .u64 a1, .int .u64 a2, .int .u64 a3, .int .u64 a4, .int .u64 a5, .int .u64 a6, .int .u64 a7, .int .u64 a8, .int .u64 a9, .int .u64 a10, .int .u64 a11, .int .u64 a12, .int .u64 a13, .int .u64 a14, .int .u64 a15, .int .u64 a16, .int .u64 a17, .int .u64 a18, .int .u64 a19, .int .u64 a20, .int .u64 a21, .int .u64 a22, .int .u64 a23]] => Option.bind (ej a0 a1 a2 a3 a4 a5 a6 a7 a8 a9 a10 a11 a12 a13 a14 a15 a16 a17 a18 a19 a20 a21 a22 a23) fun y => aA σ 0 (lR.val y) (lR.aL y) k
  | _ => none
 nat := fun args σ k => by
  repeat' split
  all_goals simp only [aw, ai, Option.bind_assoc, Option.bind_none, aA, Option.bind_some]
 pure := true
 pok := fun _ args σ r σ' h => by
  split at h
  ·exact bp h (fun y => rfl) (fun y f => rfl)
  ·cases h
theorem Bv : aW Try.prog 23 oH := by
 intro args σ r σ' h
 simp only [oH] at h
 split at h
 ·rename_i a0 a1 a2 a3 a4 a5 a6 a7 a8 a9 a10 a11 a12 a13 a14 a15 a16 a17 a18 a19 a20 a21 a22 a23
  obtain ⟨y, hy, h⟩ := bE_ h
  exact lifted (xs := []) (ls := []) (cargs := [.agg (v8 a0 a1 a2 a3 a4 a5 a6 a7 (v8 a8 a9 a10 a11 a12 a13 a14 a15 (v8 a16 a17 a18 a19 a20 a21 a22 a23 [])))]) (bv.of trivial) rfl (zX a0 a1 a2 a3 a4 a5 a6 a7 a8 a9 a10 a11 a12 a13 a14 a15 a16 a17 a18 a19 a20 a21 a22 a23 y hy) rfl rfl rfl rfl h
 ·cases h
def Ee : CH := (CH.add 23 oH (CH.add 22 rS (CH.add 21 J0 (CH.add 20 zD CH.none))))
theorem zU : aE Try.prog Ee := (CH.aj Bv (CH.aj pZ (CH.aj Kk (CH.aj Ez CH.aB))))
def eo (a0 a1 a2 a3 a4 a5 a6 a7 a8 a9 a10 a11 a12 a13 a14 a15 a16 a17 a18 a19 a20 a21 a22 a23 a24 a25 a26 a27 a28 a29 a30 a31 : Int) (cs32 : LA_) (n33 : Nat) (a34 a35 a36 : Int) : Option (Bool) :=
 (Option.bind (mC a0 a1 a2 a3 a4 a5 a6 a7 a8 a9 a10 a11 a12 a13 a14 a15 a16 a17 a18 a19 a20 a21 a22 a23 a34 a35 a36) fun r1 => (Option.bind (jp (aa r1 0) (aa r1 1) (aa r1 2) (aa r1 3) (aa r1 4) (aa r1 5) (aa r1 6) (aa r1 7) a24 a25 a26 a27 a28 a29 a30 a31) fun r2 => (Option.bind (ej a0 a1 a2 a3 a4 a5 a6 a7 a8 a9 a10 a11 a12 a13 a14 a15 a16 a17 a18 a19 a20 a21 a22 a23) fun r3 => (Option.bind (Ps r2 r3) fun r4 => (cond (decide (r4 < 0)) (some true) (some false))))))
def ko : FD where
 X := Bool
 k := 1
 pre := []
 F := fun s => [0]
 M := .bool
 B := []
 toL := fun x => [.B x]
 ofL := fun ls => match ls with
  | [.B x0] => some x0
  | _ => none
 au := fun ls x h => by
  split at h
  ·cases h; rfl
  ·cases h
theorem Cb (a0 a1 a2 a3 a4 a5 a6 a7 a8 a9 a10 a11 a12 a13 a14 a15 a16 a17 a18 a19 a20 a21 a22 a23 a24 a25 a26 a27 a28 a29 a30 a31 : Int) (cs32 : LA_) (n33 : Nat) (a34 a35 a36 : Int) (x : Bool) (h : eo a0 a1 a2 a3 a4 a5 a6 a7 a8 a9 a10 a11 a12 a13 a14 a15 a16 a17 a18 a19 a20 a21 a22 a23 a24 a25 a26 a27 a28 a29 a30 a31 cs32 n33 a34 a35 a36 = some x) : bc Try.prog 10 1 [.agg (v8 a0 a1 a2 a3 a4 a5 a6 a7 (v8 a8 a9 a10 a11 a12 a13 a14 a15 (v8 a16 a17 a18 a19 a20 a21 a22 a23 (v8 a24 a25 a26 a27 a28 a29 a30 a31 [.vec 0])))), .agg [.int .i64 a34, .int .i64 a35, .int .i64 a36]] [.vec cs32 n33 1 false] ko x :=
 FD.semA ko zU Try.func10 (fuel := 60) (by kernel_rfl) (by kernel_rfl)
  (by kernel_rfl) (Eq.trans (by kernel_rfl) h)
def mA (z0 z8 z16 z24 : Int) (cs32 : LA_) (n33 : Nat) (a34 a35 a36 : Int) : Option (Bool) := eo (aa z0 0) (aa z0 1) (aa z0 2) (aa z0 3) (aa z0 4) (aa z0 5) (aa z0 6) (aa z0 7) (aa z8 0) (aa z8 1) (aa z8 2) (aa z8 3) (aa z8 4) (aa z8 5) (aa z8 6) (aa z8 7) (aa z16 0) (aa z16 1) (aa z16 2) (aa z16 3) (aa z16 4) (aa z16 5) (aa z16 6) (aa z16 7) (aa z24 0) (aa z24 1) (aa z24 2) (aa z24 3) (aa z24 4) (aa z24 5) (aa z24 6) (aa z24 7) cs32 n33 a34 a35 a36
def jz : HK where
 call := fun args σ k => match args with
  | [.agg (.int .u64 a0 :: .int .u64 a1 :: .int .u64 a2 :: .int .u64 a3 :: .int .u64 a4 :: .int .u64 a5 :: .int .u64 a6 :: .int .u64 a7 :: .int .u64 a8 :: .int .u64 a9 :: .int .u64 a10 :: .int .u64 a11 :: .int .u64 a12 :: .int .u64 a13 :: .int .u64 a14 :: .int .u64 a15 :: .int .u64 a16 :: .int .u64 a17 :: .int .u64 a18 :: .int .u64 a19 :: .int .u64 a20 :: .int .u64 a21 :: .int .u64 a22 :: .int .u64 a23 :: .int .u64 a24 :: .int .u64 a25 :: .int .u64 a26 :: .int .u64 a27 :: .int .u64 a28 :: .int .u64 a29 :: .int .u64 a30 :: .int .u64 a31 :: x0 :: []), .agg [.int .i64 a34, .int .i64 a35, .int .i64 a36]] => cM σ 1 x0 fun cs32 n33 => Option.bind (eo a0 a1 a2 a3 a4 a5 a6 a7 a8 a9 a10 a11 a12 a13 a14 a15 a16 a17 a18 a19 a20 a21 a22 a23 a24 a25 a26 a27 a28 a29 a30 a31 cs32 n33 a34 a35 a36) fun y => aA σ 1 (ko.val y) (ko.aL y) k
  | _ => none
 nat := fun args σ k => by
  repeat' split
  all_goals simp only [aw, ai, Option.bind_assoc, Option.bind_none, aA, Option.bind_some]
 pure := false
 pok := fun h => by cases h
theorem nj : aW Try.prog 10 jz := by
 intro args σ r σ' h
 simp only [jz] at h
 split at h
 ·rename_i a0 a1 a2 a3 a4 a5 a6 a7 a8 a9 a10 a11 a12 a13 a14 a15 a16 a17 a18 a19 a20 a21 a22 a23 a24 a25 a26 a27 a28 a29 a30 a31 x0 a34 a35 a36
  obtain ⟨cs32, n33, he0, hf0, h⟩ := bA h
  obtain ⟨y, hy, h⟩ := bE_ h
  exact lifted (xs := [x0]) (ls := [.vec cs32 n33 1 false]) (cargs := [.agg (v8 a0 a1 a2 a3 a4 a5 a6 a7 (v8 a8 a9 a10 a11 a12 a13 a14 a15 (v8 a16 a17 a18 a19 a20 a21 a22 a23 (v8 a24 a25 a26 a27 a28 a29 a30 a31 [.vec 0])))), .agg [.int .i64 a34, .int .i64 a35, .int .i64 a36]]) (bv.of ⟨⟨rfl, he0, hf0, by decide⟩, trivial⟩) rfl (Cb a0 a1 a2 a3 a4 a5 a6 a7 a8 a9 a10 a11 a12 a13 a14 a15 a16 a17 a18 a19 a20 a21 a22 a23 a24 a25 a26 a27 a28 a29 a30 a31 cs32 n33 a34 a35 a36 y hy) rfl rfl rfl rfl h
 ·cases h
abbrev cX := (I8 (I8 (I8 (I8 (LA_ × Nat × Int)))))
abbrev oG := (I8 (I8 (I8 (I8 Bool))))
abbrev cY := LA_ × Nat × LA_ × Nat × LA_ × Nat × LA_ × Nat × Int
def gA : CH := (CH.add 45 tM (CH.add 44 ns (CH.add 10 jz (CH.add 28 B5 CH.none))))
theorem ie : aE Try.prog gA := (CH.aj Ff (CH.aj zS (CH.aj nj (CH.aj B6 CH.aB))))
def cH {R : Type} (cc : cY) (v : Int) (kn : (Int) → Option R) (ke : ((Unit) ⊕ (Unit)) → Option R) : Option R :=
 (cond (decide (v < cc.2.2.2.2.2.2.2.2)) (af (decide (0 ≤ v) && decide (v < ((cc.2.2.2.2.2.1 : Nat) : Int))) (af (aq fW cc.2.2.2.2.1 (Int.toNat v * 8)) (Option.bind (pU (ac cc.2.2.2.2.1 ((Int.toNat v * 8) + 0)) (ac cc.2.2.2.2.1 ((Int.toNat v * 8) + 1)) (ac cc.2.2.2.2.1 ((Int.toNat v * 8) + 2)) (ac cc.2.2.2.2.1 ((Int.toNat v * 8) + 3)) (ac cc.2.2.2.2.1 ((Int.toNat v * 8) + 4)) (ac cc.2.2.2.2.1 ((Int.toNat v * 8) + 5)) (ac cc.2.2.2.2.1 ((Int.toNat v * 8) + 6)) (ac cc.2.2.2.2.1 ((Int.toNat v * 8) + 7))) fun r2 => (cond (decide (r2 ≤ 0)) (ke (.inl ())) (kn (IntKind.wrap .i64 (v + 1))))))) (ke (.inr ())))
def ep (cc : cY) (v : Int) : Option ((Int) ⊕ ((Unit) ⊕ (Unit))) := cH cc v (fun v => some (Sum.inl v)) fun e => some (Sum.inr e)
def km (cc : cY) (v : Int) : Option ((Unit) ⊕ (Unit)) := dA (ep cc) v
def wy (cc : cY) (v : Int) : List ah := [.I cc.s8, .I v, .C cc.1, .N cc.2.1, .C cc.2.2.1, .N cc.2.2.2.1, .C cc.s4.1, .N cc.s4.2.1, .C cc.s4.2.2.1, .N cc.s4.2.2.2.1]
def mW (ls : List ah) : Option ((cY) × (Int)) := match ls with
 | [.I x0, .I x1, .C x2, .N x3, .C x4, .N x5, .C x6, .N x7, .C x8, .N x9] => some ((x2, x3, x4, x5, x6, x7, x8, x9, x0), x1)
 | _ => none
def mX (e : (Unit) ⊕ (Unit)) : an := ((Sum.elim (fun e => .ret) (fun e => .exit 0)) e)
def mY (cc : cY) (e : (Unit) ⊕ (Unit)) : List ah := ((Sum.elim (fun e => []) (fun e => [.C cc.1, .N cc.2.1, .C cc.2.2.1, .N cc.2.2.2.1, .C cc.s4.1, .N cc.s4.2.1, .C cc.s4.2.2.1, .N cc.s4.2.2.2.1])) e)
def gQ (cc : cY) (e : (Unit) ⊕ (Unit)) : List ah := ((Sum.elim (fun e => []) (fun e => [.C cc.1, .N cc.2.1, .C cc.2.2.1, .N cc.2.2.2.1, .C cc.s4.1, .N cc.s4.2.1, .C cc.s4.2.2.1, .N cc.s4.2.2.2.1])) e)
def ig (o : an) (ls : List ah) : Option (((Unit) ⊕ (Unit)) × List ah) := match o with
 | .ret => (match ls with
  | [] => some ((.inl ()), [])
  | _ => none)
 | .exit 0 => (match ls with
  | [.C x0, .N x1, .C x2, .N x3, .C x4, .N x5, .C x6, .N x7] => some ((.inr ()), [.C x0, .N x1, .C x2, .N x3, .C x4, .N x5, .C x6, .N x7])
  | _ => none)
 | _ => none
theorem tN : ∀ o ls e cl cc, ig o ls = some (e, cl) → cl = gQ cc e → ls = mY cc e ∧ mX e = o ∧ o ≠ .normal ∧ ∀ v, o = .pan v → sc 0 v = true := by
 intro o ls e cl cc h hc
 unfold ig at h
 split at h
 ·split at h
  ·cases h
   exact ⟨rfl, rfl, by simp, by intro v hv; cases hv <;> rfl⟩
  ·cases h
 ·split at h
  ·cases h
   simp only [gQ, Sum.elim_inl, Sum.elim_inr, List.cons.injEq, ah.N.injEq, ah.C.injEq, and_true] at hc
   obtain ⟨rfl, rfl, rfl, rfl, rfl, rfl, rfl, rfl⟩ := hc
   exact ⟨rfl, rfl, by simp, by intro v hv; cases hv <;> rfl⟩
  ·cases h
 ·cases h
def xM (o : an) : ExS := match o with
 | .ret => ⟨3, (none :: none :: none :: none :: some (.ptr 2 0) :: some (.pR false) :: (rl none 39 [])), [(2, .cells (rl (.ga .u64 0) 32 [.aO]) true none)], fun s => [0, 1, nameAt s 4 []], [], []⟩
 | .exit 0 => ⟨5, (some (.vec 0) :: some (.vec 1) :: none :: none :: some (.ptr 2 0) :: none :: some (.vec 3) :: some (.ptr 4 0) :: (rl none 37 [])), [(0, .vec 3 false), (1, .vec 3 false), (2, .cells (rl (.ga .u64 0) 32 [.aO]) true none), (3, .vec 8 true), (4, .vec 8 true)], fun s => [0, 1, nameAt s 4 [], nameAt s 6 [], nameAt s 7 []], [], []⟩
 | _ => ⟨0, [], [], fun _ => [], [], []⟩
theorem wz {R : Type} (cc : cY) (v : Int) (kn : (Int) → Option R) (ke : ((Unit) ⊕ (Unit)) → Option R) : cH cc v kn ke = (cH cc v (fun v => some (Sum.inl v)) fun e => some (Sum.inr e)).bind (Sum.elim kn ke) := by
 simp only [cH, bK, ai, Option.bind_assoc, cb, bF, Option.bind_some, Option.bind_none, Sum.elim_inl, Sum.elim_inr]
def pe : LD where
 CC := cY
 V := Int
 E := (Unit) ⊕ (Unit)
 n := 2
 K := 5
 M := (some (.vec 0) :: some (.vec 1) :: none :: none :: some (.ptr 2 0) :: none :: some (.vec 3) :: some (.ptr 4 0) :: (rl none 10 (some (.vec 3) :: some (.int .i64) :: some (.int .i64) :: (rl none 24 []))))
 B := [(0, .vec 3 false), (1, .vec 3 false), (2, .cells (rl (.ga .u64 0) 32 [.aO]) true none), (3, .vec 8 true), (4, .vec 8 true)]
 D := []
 pre := []
 F := fun s => [0, 1, nameAt s 4 [], nameAt s 6 [], nameAt s 7 []]
 toL := wy
 ofL := mW
 au := fun ls c v h => by
  unfold mW at h
  split at h
  ·cases h; rfl
  ·cases h
 ck := cH
 nat := wz
 sh := xM
 out := mX
 toE := mY
 fp := gQ
 ofE := ig
 da := tN
 post := fun cc e k => ((Sum.elim (fun e => k (.ret) (bd 3 (none :: none :: none :: none :: some (.ptr 2 0) :: some (.bool false) :: (rl none 39 [])) [(2, .cells (rl (.int .u64 0) 32 [.aO]) true none)] [])) (fun e => k (.exit 0) (bd 5 (some (.vec 0) :: some (.vec 1) :: none :: none :: some (.ptr 2 0) :: none :: some (.vec 3) :: some (.ptr 4 0) :: (rl none 37 [])) [(0, .vec cc.1 cc.2.1 3 false), (1, .vec cc.2.2.1 cc.2.2.2.1 3 false), (2, .cells (rl (.int .u64 0) 32 [.aO]) true none), (3, .vec cc.s4.1 cc.s4.2.1 8 true), (4, .vec cc.s4.2.2.1 cc.s4.2.2.2.1 8 true)] []))) e)
 cd := fun cc e k => by rcases e with e | e <;> rfl
theorem wA : cF Try.prog 2 pe.la (aK Try.f26 0) :=
 LD.ok (ch := gA) (A := bt) aJ ie mixed (fuel := 60) ⟨by kernel_rfl, fun e => by (rcases e with e | e <;> kernel_rfl), fun cc v => by kernel_rfl, aI (l := []) (by kernel_rfl) trivial⟩
def cw {R : Type} (cc : cX) (v : Int) (kn : (Int) → Option R) (ke : ((Unit) ⊕ (Unit)) → Option R) : Option R :=
 (cond (decide (v < cc.2.2.2.2.2.2.2.2.2.2.2.2.2.2.2.2.2.2.2.2.2.2.2.2.2.2.2.2.2.2.2.2.2.2)) (af (decide (0 ≤ v) && decide (v < ((cc.2.2.2.2.2.2.2.2.2.2.2.2.2.2.2.2.2.2.2.2.2.2.2.2.2.2.2.2.2.2.2.2.2.1 : Nat) : Int))) (af (aq lC cc.2.2.2.2.2.2.2.2.2.2.2.2.2.2.2.2.2.2.2.2.2.2.2.2.2.2.2.2.2.2.2.2.1 (Int.toNat v * 3)) (Option.bind (eo cc.1 cc.2.1 cc.2.2.1 cc.2.2.2.1 cc.2.2.2.2.1 cc.2.2.2.2.2.1 cc.2.2.2.2.2.2.1 cc.2.2.2.2.2.2.2.1 cc.2.2.2.2.2.2.2.2.1 cc.2.2.2.2.2.2.2.2.2.1 cc.2.2.2.2.2.2.2.2.2.2.1 cc.2.2.2.2.2.2.2.2.2.2.2.1 cc.2.2.2.2.2.2.2.2.2.2.2.2.1 cc.2.2.2.2.2.2.2.2.2.2.2.2.2.1 cc.2.2.2.2.2.2.2.2.2.2.2.2.2.2.1 cc.2.2.2.2.2.2.2.2.2.2.2.2.2.2.2.1 cc.2.2.2.2.2.2.2.2.2.2.2.2.2.2.2.2.1 cc.2.2.2.2.2.2.2.2.2.2.2.2.2.2.2.2.2.1 cc.2.2.2.2.2.2.2.2.2.2.2.2.2.2.2.2.2.2.1 cc.2.2.2.2.2.2.2.2.2.2.2.2.2.2.2.2.2.2.2.1 cc.2.2.2.2.2.2.2.2.2.2.2.2.2.2.2.2.2.2.2.2.1 cc.2.2.2.2.2.2.2.2.2.2.2.2.2.2.2.2.2.2.2.2.2.1 cc.2.2.2.2.2.2.2.2.2.2.2.2.2.2.2.2.2.2.2.2.2.2.1 cc.2.2.2.2.2.2.2.2.2.2.2.2.2.2.2.2.2.2.2.2.2.2.2.1 cc.2.2.2.2.2.2.2.2.2.2.2.2.2.2.2.2.2.2.2.2.2.2.2.2.1 cc.2.2.2.2.2.2.2.2.2.2.2.2.2.2.2.2.2.2.2.2.2.2.2.2.2.1 cc.2.2.2.2.2.2.2.2.2.2.2.2.2.2.2.2.2.2.2.2.2.2.2.2.2.2.1 cc.2.2.2.2.2.2.2.2.2.2.2.2.2.2.2.2.2.2.2.2.2.2.2.2.2.2.2.1 cc.2.2.2.2.2.2.2.2.2.2.2.2.2.2.2.2.2.2.2.2.2.2.2.2.2.2.2.2.1 cc.2.2.2.2.2.2.2.2.2.2.2.2.2.2.2.2.2.2.2.2.2.2.2.2.2.2.2.2.2.1 cc.2.2.2.2.2.2.2.2.2.2.2.2.2.2.2.2.2.2.2.2.2.2.2.2.2.2.2.2.2.2.1 cc.2.2.2.2.2.2.2.2.2.2.2.2.2.2.2.2.2.2.2.2.2.2.2.2.2.2.2.2.2.2.2.1 ([] : LA_) 0 (ac cc.2.2.2.2.2.2.2.2.2.2.2.2.2.2.2.2.2.2.2.2.2.2.2.2.2.2.2.2.2.2.2.2.1 ((Int.toNat v * 3) + 0)) (ac cc.2.2.2.2.2.2.2.2.2.2.2.2.2.2.2.2.2.2.2.2.2.2.2.2.2.2.2.2.2.2.2.2.1 ((Int.toNat v * 3) + 1)) (ac cc.2.2.2.2.2.2.2.2.2.2.2.2.2.2.2.2.2.2.2.2.2.2.2.2.2.2.2.2.2.2.2.2.1 ((Int.toNat v * 3) + 2))) fun r5 => (cond r5 (ke (.inl ())) (kn (IntKind.wrap .i64 (v + 1))))))) (ke (.inr ())))
def dV (cc : cX) (v : Int) : Option ((Int) ⊕ ((Unit) ⊕ (Unit))) := cw cc v (fun v => some (Sum.inl v)) fun e => some (Sum.inr e)
def pg (cc : cX) (v : Int) : Option ((Unit) ⊕ (Unit)) := dA (dV cc) v
def vM (cc : cX) (v : Int) : List ah := [.I cc.s16.s16.2.2, .I v, .I cc.1, .I cc.2.1, .I cc.2.2.1, .I cc.2.2.2.1, .I cc.s4.1, .I cc.s4.2.1, .I cc.s4.2.2.1, .I cc.s4.2.2.2.1, .I cc.s8.1, .I cc.s8.2.1, .I cc.s8.2.2.1, .I cc.s8.2.2.2.1, .I cc.s8.s4.1, .I cc.s8.s4.2.1, .I cc.s8.s4.2.2.1, .I cc.s8.s4.2.2.2.1, .I cc.s16.1, .I cc.s16.2.1, .I cc.s16.2.2.1, .I cc.s16.2.2.2.1, .I cc.s16.s4.1, .I cc.s16.s4.2.1, .I cc.s16.s4.2.2.1, .I cc.s16.s4.2.2.2.1, .I cc.s16.s8.1, .I cc.s16.s8.2.1, .I cc.s16.s8.2.2.1, .I cc.s16.s8.2.2.2.1, .I cc.s16.s8.s4.1, .I cc.s16.s8.s4.2.1, .I cc.s16.s8.s4.2.2.1, .I cc.s16.s8.s4.2.2.2.1, .C cc.s16.s16.1, .N cc.s16.s16.2.1]
def lO (ls : List ah) : Option ((cX) × (Int)) := match ls with
 | (.I x0 :: .I x1 :: .I x2 :: .I x3 :: .I x4 :: .I x5 :: .I x6 :: .I x7 :: .I x8 :: .I x9 :: .I x10 :: .I x11 :: .I x12 :: .I x13 :: .I x14 :: .I x15 :: .I x16 :: .I x17 :: .I x18 :: .I x19 :: .I x20 :: .I x21 :: .I x22 :: .I x23 :: .I x24 :: .I x25 :: .I x26 :: .I x27 :: .I x28 :: .I x29 :: .I x30 :: .I x31 :: .I x32 :: .I x33 :: .C x34 :: .N x35 :: []) => some ((x2, x3, x4, x5, x6, x7, x8, x9, x10, x11, x12, x13, x14, x15, x16, x17, x18, x19, x20, x21, x22, x23, x24, x25, x26, x27, x28, x29, x30, x31, x32, x33, x34, x35, x0), x1)
 | _ => none
def lP (e : (Unit) ⊕ (Unit)) : an := ((Sum.elim (fun e => .ret) (fun e => .exit 2)) e)
def lQ (cc : cX) (e : (Unit) ⊕ (Unit)) : List ah := ((Sum.elim (fun e => []) (fun e => [.I cc.1, .I cc.2.1, .I cc.2.2.1, .I cc.2.2.2.1, .I cc.s4.1, .I cc.s4.2.1, .I cc.s4.2.2.1, .I cc.s4.2.2.2.1, .I cc.s8.1, .I cc.s8.2.1, .I cc.s8.2.2.1, .I cc.s8.2.2.2.1, .I cc.s8.s4.1, .I cc.s8.s4.2.1, .I cc.s8.s4.2.2.1, .I cc.s8.s4.2.2.2.1, .I cc.s16.1, .I cc.s16.2.1, .I cc.s16.2.2.1, .I cc.s16.2.2.2.1, .I cc.s16.s4.1, .I cc.s16.s4.2.1, .I cc.s16.s4.2.2.1, .I cc.s16.s4.2.2.2.1, .I cc.s16.s8.1, .I cc.s16.s8.2.1, .I cc.s16.s8.2.2.1, .I cc.s16.s8.2.2.2.1, .I cc.s16.s8.s4.1, .I cc.s16.s8.s4.2.1, .I cc.s16.s8.s4.2.2.1, .I cc.s16.s8.s4.2.2.2.1])) e)
def gB (cc : cX) (e : (Unit) ⊕ (Unit)) : List ah := ((Sum.elim (fun e => []) (fun e => [.I cc.1, .I cc.2.1, .I cc.2.2.1, .I cc.2.2.2.1, .I cc.s4.1, .I cc.s4.2.1, .I cc.s4.2.2.1, .I cc.s4.2.2.2.1, .I cc.s8.1, .I cc.s8.2.1, .I cc.s8.2.2.1, .I cc.s8.2.2.2.1, .I cc.s8.s4.1, .I cc.s8.s4.2.1, .I cc.s8.s4.2.2.1, .I cc.s8.s4.2.2.2.1, .I cc.s16.1, .I cc.s16.2.1, .I cc.s16.2.2.1, .I cc.s16.2.2.2.1, .I cc.s16.s4.1, .I cc.s16.s4.2.1, .I cc.s16.s4.2.2.1, .I cc.s16.s4.2.2.2.1, .I cc.s16.s8.1, .I cc.s16.s8.2.1, .I cc.s16.s8.2.2.1, .I cc.s16.s8.2.2.2.1, .I cc.s16.s8.s4.1, .I cc.s16.s8.s4.2.1, .I cc.s16.s8.s4.2.2.1, .I cc.s16.s8.s4.2.2.2.1])) e)
def gR (o : an) (ls : List ah) : Option (((Unit) ⊕ (Unit)) × List ah) := match o with
 | .ret => (match ls with
  | [] => some ((.inl ()), [])
  | _ => none)
 | .exit 2 => (match ls with
  | [.I x0, .I x1, .I x2, .I x3, .I x4, .I x5, .I x6, .I x7, .I x8, .I x9, .I x10, .I x11, .I x12, .I x13, .I x14, .I x15, .I x16, .I x17, .I x18, .I x19, .I x20, .I x21, .I x22, .I x23, .I x24, .I x25, .I x26, .I x27, .I x28, .I x29, .I x30, .I x31] => some ((.inr ()), [.I x0, .I x1, .I x2, .I x3, .I x4, .I x5, .I x6, .I x7, .I x8, .I x9, .I x10, .I x11, .I x12, .I x13, .I x14, .I x15, .I x16, .I x17, .I x18, .I x19, .I x20, .I x21, .I x22, .I x23, .I x24, .I x25, .I x26, .I x27, .I x28, .I x29, .I x30, .I x31])
  | _ => none)
 | _ => none
theorem sT : ∀ o ls e cl cc, gR o ls = some (e, cl) → cl = gB cc e → ls = lQ cc e ∧ lP e = o ∧ o ≠ .normal ∧ ∀ v, o = .pan v → sc 0 v = true := by
 intro o ls e cl cc h hc
 unfold gR at h
 split at h
 ·split at h
  ·cases h
   exact ⟨rfl, rfl, by simp, by intro v hv; cases hv <;> rfl⟩
  ·cases h
 ·split at h
  ·cases h
   simp only [gB, Sum.elim_inl, Sum.elim_inr, List.cons.injEq, ah.I.injEq, and_true] at hc
   obtain ⟨rfl, rfl, rfl, rfl, rfl, rfl, rfl, rfl, rfl, rfl, rfl, rfl, rfl, rfl, rfl, rfl, rfl, rfl, rfl, rfl, rfl, rfl, rfl, rfl, rfl, rfl, rfl, rfl, rfl, rfl, rfl, rfl⟩ := hc
   exact ⟨rfl, rfl, by simp, by intro v hv; cases hv <;> rfl⟩
  ·cases h
 ·cases h
def wB (o : an) : ExS := match o with
 | .ret => ⟨3, (none :: none :: none :: none :: some (.ptr 2 0) :: some (.pR false) :: (rl none 39 [])), [(2, .cells (rl (.ga .u64 0) 32 [.aO]) true none)], fun s => [0, 1, nameAt s 4 []], [], []⟩
 | .exit 2 => ⟨4, (none :: none :: none :: none :: some (.ptr 2 0) :: (rl none 5 (some (.ptr 3 0) :: (rl none 34 [])))), [(2, .cells (rl (.ga .u64 0) 32 [.aO]) true none), (3, .cells (rl (.int .u64) 32 [.aO]) true none)], fun s => [0, 1, nameAt s 4 [], nameAt s 10 []], [], []⟩
 | _ => ⟨0, [], [], fun _ => [], [], []⟩
theorem vN {R : Type} (cc : cX) (v : Int) (kn : (Int) → Option R) (ke : ((Unit) ⊕ (Unit)) → Option R) : cw cc v kn ke = (cw cc v (fun v => some (Sum.inl v)) fun e => some (Sum.inr e)).bind (Sum.elim kn ke) := by
 simp only [cw, bK, ai, Option.bind_assoc, cb, bF, Option.bind_some, Option.bind_none, Sum.elim_inl, Sum.elim_inr]
def nL : LD where
 CC := cX
 V := Int
 E := (Unit) ⊕ (Unit)
 n := 2
 K := 4
 M := (none :: none :: none :: none :: some (.ptr 2 0) :: (rl none 5 (some (.ptr 3 0) :: (rl none 22 (some (.vec 0) :: some (.int .i64) :: some (.int .i64) :: (rl none 9 []))))))
 B := [(2, .cells (rl (.ga .u64 0) 32 [.aO]) true none), (3, .cells (rl (.int .u64) 32 [.aO]) true none), (0, .vec 3 false)]
 D := []
 pre := []
 F := fun s => [0, 1, nameAt s 4 [], nameAt s 10 []]
 toL := vM
 ofL := lO
 au := fun ls c v h => by
  unfold lO at h
  split at h
  ·cases h; rfl
  ·cases h
 ck := cw
 nat := vN
 sh := wB
 out := lP
 toE := lQ
 fp := gB
 ofE := gR
 da := sT
 post := fun cc e k => ((Sum.elim (fun e => k (.ret) (bd 3 (none :: none :: none :: none :: some (.ptr 2 0) :: some (.bool false) :: (rl none 39 [])) [(2, .cells (rl (.int .u64 0) 32 [.aO]) true none)] [])) (fun e => k (.exit 2) (bd 4 (none :: none :: none :: none :: some (.ptr 2 0) :: (rl none 5 (some (.ptr 3 0) :: (rl none 34 [])))) [(2, .cells (rl (.int .u64 0) 32 [.aO]) true none), (3, .cells (v8 cc.1 cc.2.1 cc.2.2.1 cc.2.2.2.1 cc.s4.1 cc.s4.2.1 cc.s4.2.2.1 cc.s4.2.2.2.1 (v8 cc.s8.1 cc.s8.2.1 cc.s8.2.2.1 cc.s8.2.2.2.1 cc.s8.s4.1 cc.s8.s4.2.1 cc.s8.s4.2.2.1 cc.s8.s4.2.2.2.1 (v8 cc.s16.1 cc.s16.2.1 cc.s16.2.2.1 cc.s16.2.2.2.1 cc.s16.s4.1 cc.s16.s4.2.1 cc.s16.s4.2.2.1 cc.s16.s4.2.2.2.1 (v8 cc.s16.s8.1 cc.s16.s8.2.1 cc.s16.s8.2.2.1 cc.s16.s8.2.2.2.1 cc.s16.s8.s4.1 cc.s16.s8.s4.2.1 cc.s16.s8.s4.2.2.1 cc.s16.s8.s4.2.2.2.1 [.aO])))) true none)] []))) e)
 cd := fun cc e k => by rcases e with e | e <;> rfl
theorem vO : cF Try.prog 2 nL.la (aK Try.f26 1) :=
 LD.ok (ch := gA) (A := bt) aJ ie mixed (fuel := 60) ⟨by kernel_rfl, fun e => by (rcases e with e | e <;> kernel_rfl), fun cc v => by kernel_rfl, aI (l := []) (by kernel_rfl) trivial⟩
def dI (cs0 : LA_) (n1 : Nat) (cs2 : LA_) (n3 : Nat) : Option (oG) :=
 (Option.bind (dj cs2 n3) fun r1 => (Option.bind (km (cs0, n1, cs2, n3, r1.2.1, r1.2.2, ((v8 (aa r1.1 0) (aa r1.1 1) (aa r1.1 2) (aa r1.1 3) (aa r1.1 4) (aa r1.1 5) (aa r1.1 6) (aa r1.1 7) []) : LA_), 1, ((r1.2.2 : Nat) : Int)) 0) (Sum.elim (fun e2 => (some (0, 0, 0, 0, 0, 0, 0, 0, 0, 0, 0, 0, 0, 0, 0, 0, 0, 0, 0, 0, 0, 0, 0, 0, 0, 0, 0, 0, 0, 0, 0, 0, false))) (fun e2 => (Option.bind (tO cs2 n3 r1.2.1 r1.2.2 r1.1) fun r3 => (Option.bind (pg (aX r3.1 (aX r3.2.1 (aX r3.2.2.1 (aX r3.2.2.2 (cs0, n1, ((n1 : Nat) : Int)))))) 0) (Sum.elim (fun e4 => (some (0, 0, 0, 0, 0, 0, 0, 0, 0, 0, 0, 0, 0, 0, 0, 0, 0, 0, 0, 0, 0, 0, 0, 0, 0, 0, 0, 0, 0, 0, 0, 0, false))) (fun e4 => (some (aX r3.1 (aX r3.2.1 (aX r3.2.2.1 (aX r3.2.2.2 true)))))))))))))
def cC : FD where
 X := oG
 k := 2
 pre := []
 F := fun s => [0, 1]
 M := .tup [.agg (rl (.int .u64) 32 [.aO]), .bool]
 B := []
 toL := fun x => [.I x.1, .I x.2.1, .I x.2.2.1, .I x.2.2.2.1, .I x.s4.1, .I x.s4.2.1, .I x.s4.2.2.1, .I x.s4.2.2.2.1, .I x.s8.1, .I x.s8.2.1, .I x.s8.2.2.1, .I x.s8.2.2.2.1, .I x.s8.s4.1, .I x.s8.s4.2.1, .I x.s8.s4.2.2.1, .I x.s8.s4.2.2.2.1, .I x.s16.1, .I x.s16.2.1, .I x.s16.2.2.1, .I x.s16.2.2.2.1, .I x.s16.s4.1, .I x.s16.s4.2.1, .I x.s16.s4.2.2.1, .I x.s16.s4.2.2.2.1, .I x.s16.s8.1, .I x.s16.s8.2.1, .I x.s16.s8.2.2.1, .I x.s16.s8.2.2.2.1, .I x.s16.s8.s4.1, .I x.s16.s8.s4.2.1, .I x.s16.s8.s4.2.2.1, .I x.s16.s8.s4.2.2.2.1, .B x.s16.s16]
 ofL := fun ls => match ls with
  | (.I x0 :: .I x1 :: .I x2 :: .I x3 :: .I x4 :: .I x5 :: .I x6 :: .I x7 :: .I x8 :: .I x9 :: .I x10 :: .I x11 :: .I x12 :: .I x13 :: .I x14 :: .I x15 :: .I x16 :: .I x17 :: .I x18 :: .I x19 :: .I x20 :: .I x21 :: .I x22 :: .I x23 :: .I x24 :: .I x25 :: .I x26 :: .I x27 :: .I x28 :: .I x29 :: .I x30 :: .I x31 :: .B x32 :: []) => some (x0, x1, x2, x3, x4, x5, x6, x7, x8, x9, x10, x11, x12, x13, x14, x15, x16, x17, x18, x19, x20, x21, x22, x23, x24, x25, x26, x27, x28, x29, x30, x31, x32)
  | _ => none
 au := fun ls x h => by
  split at h
  ·cases h; rfl
  ·cases h
theorem yH (cs0 : LA_) (n1 : Nat) (cs2 : LA_) (n3 : Nat) (x : oG) (h : dI cs0 n1 cs2 n3 = some x) : bc Try.prog 26 2 [.vec 0, .vec 1] [.vec cs0 n1 3 false, .vec cs2 n3 3 false] cC x :=
 FD.sem (ch := gA) (A := eF [(3, pe.la), (10, nL.la)]) (fn := Try.f26) (c := bq Try.f26) (fuel := 60) aJ ie mixed bG cC Try.func26 (by kernel_rfl) (aI (l := [aK Try.f26 0, aK Try.f26 1]) (by kernel_rfl) ⟨bX (by kernel_rfl) wA, bX (by kernel_rfl) vO, trivial⟩)
  (by kernel_rfl) (Eq.trans (by kernel_rfl) h)
def ao (cs0 : LA_) (n1 : Nat) (cs2 : LA_) (n3 : Nat) : Option (Int × Int × Int × Int × Bool) := Option.bind (dI cs0 n1 cs2 n3) fun (x0, x1, x2, x3, x4, x5, x6, x7, x8, x9, x10, x11, x12, x13, x14, x15, x16, x17, x18, x19, x20, x21, x22, x23, x24, x25, x26, x27, x28, x29, x30, x31, x32) => af (ok8 x0 x1 x2 x3 x4 x5 x6 x7 && ok8 x8 x9 x10 x11 x12 x13 x14 x15 && ok8 x16 x17 x18 x19 x20 x21 x22 x23 && ok8 x24 x25 x26 x27 x28 x29 x30 x31) (some ((num x0 x1 x2 x3 x4 x5 x6 x7), (num x8 x9 x10 x11 x12 x13 x14 x15), (num x16 x17 x18 x19 x20 x21 x22 x23), (num x24 x25 x26 x27 x28 x29 x30 x31), x32))
def ld : FD := ⟨Int × Int × Int × Int × Bool, cC.k, cC.pre, cC.F, cC.M, cC.B, fun y => cC.toL (aX y.1 (aX y.2.1 (aX y.2.2.1 (aX y.2.2.2.1 y.s4)))), fun _ => none, fun _ _ h => by cases h⟩
theorem zT (cs0 : LA_) (n1 : Nat) (cs2 : LA_) (n3 : Nat) {y : Int × Int × Int × Int × Bool} (h : ao cs0 n1 cs2 n3 = some y) : dI cs0 n1 cs2 n3 = some (aX y.1 (aX y.2.1 (aX y.2.2.1 (aX y.2.2.2.1 y.s4)))) := by
 unfold ao at h
 obtain ⟨⟨x0, x1, x2, x3, x4, x5, x6, x7, x8, x9, x10, x11, x12, x13, x14, x15, x16, x17, x18, x19, x20, x21, x22, x23, x24, x25, x26, x27, x28, x29, x30, x31, x32⟩, h1, h2⟩ := bE_ h
 obtain ⟨h3, h4⟩ := aH h2
 simp only [Bool.and_eq_true, and_assoc] at h3
 simp only [Option.some.injEq] at h4
 subst h4
 obtain ⟨o0, o1, o2, o3⟩ := h3
 have q0 := aQ o0
 have q1 := aQ o1
 have q2 := aQ o2
 have q3 := aQ o3
 rw [h1]
 simp only [aX, q0, q1, q2, q3]
theorem yI (cs0 : LA_) (n1 : Nat) (cs2 : LA_) (n3 : Nat) (y : Int × Int × Int × Int × Bool) (h : ao cs0 n1 cs2 n3 = some y) : bc Try.prog 26 2 [.vec 0, .vec 1] [.vec cs0 n1 3 false, .vec cs2 n3 3 false] ld y := yH cs0 n1 cs2 n3 _ (zT cs0 n1 cs2 n3 h)
def eU : HK where
 call := fun args σ k => match args with
  | [x0, x1] => cM σ 3 x0 fun cs0 n1 => cM σ 3 x1 fun cs2 n3 => Option.bind (ao cs0 n1 cs2 n3) fun y => aA σ 2 (ld.val y) (ld.aL y) k
  | _ => none
 nat := fun args σ k => by
  repeat' split
  all_goals simp only [aw, ai, Option.bind_assoc, Option.bind_none, aA, Option.bind_some]
 pure := false
 pok := fun h => by cases h
theorem gy : aW Try.prog 26 eU := by
 intro args σ r σ' h
 simp only [eU] at h
 split at h
 ·rename_i x0 x1
  obtain ⟨cs0, n1, he0, hf0, h⟩ := bA h
  obtain ⟨cs2, n3, he1, hf1, h⟩ := bA h
  obtain ⟨y, hy, h⟩ := bE_ h
  exact lifted (xs := [x0, x1]) (ls := [.vec cs0 n1 3 false, .vec cs2 n3 3 false]) (cargs := [.vec 0, .vec 1]) (bv.of ⟨⟨rfl, he0, hf0, by decide⟩, ⟨rfl, he1, hf1, by decide⟩, trivial⟩) rfl (yI cs0 n1 cs2 n3 y hy) rfl rfl rfl rfl h
 ·cases h
def f8 (N : Pt) (D : Int) (p : Pt) : Bool := decide (ae N p * D < ae N N)
theorem Qe {x y z : Int} [Sm 240 x] [Sm 240 y] [Sm 240 z] : ej (aa x 0) (aa x 1) (aa x 2) (aa x 3) (aa x 4) (aa x 5) (aa x 6) (aa x 7) (aa y 0) (aa y 1) (aa y 2) (aa y 3) (aa y 4) (aa y 5) (aa y 6) (aa y 7) (aa z 0) (aa z 1) (aa z 2) (aa z 3) (aa z 4) (aa z 5) (aa z 6) (aa z 7) = some (x * x + y * y + z * z) := by
 have q : gS (aa x 0) (aa x 1) (aa x 2) (aa x 3) (aa x 4) (aa x 5) (aa x 6) (aa x 7) (aa y 0) (aa y 1) (aa y 2) (aa y 3) (aa y 4) (aa y 5) (aa y 6) (aa y 7) (aa z 0) (aa z 1) (aa z 2) (aa z 3) (aa z 4) (aa z 5) (aa z 6) (aa z 7) = some (t8 (x * x + y * y + z * z)) := by
  unfold gS
  rw [zi (by decide) (by decide) (by decide), Option.bind_some, zi (by decide) (by decide) (by decide), Option.bind_some, Hx (by decide) (by decide) (by decide), Option.bind_some,
   zi (by decide) (by decide) (by decide), Option.bind_some, Hx (by decide) (by decide) (by decide), Option.bind_some]
  rfl
 unfold ej
 rw [q]
 simp only [t8, Option.bind_some, bz, az]
 rw [aG (Sm.fit (by decide))]
theorem Lv {N p : Pt} {D : Int} (hN : PtB 240 N) (hD : sm 190 D) (hp : bP p = true) (cs : LA_) (n : Nat) : mA N.1 N.2.1 N.2.2 D cs n p.1 p.2.1 p.2.2 = some (f8 N D p) := by
 have hq := PtB.of hp
 haveI n1 : Sm 240 N.1 := ⟨hN.h.1⟩
 haveI n2 : Sm 240 N.2.1 := ⟨hN.h.2.1⟩
 haveI n3 : Sm 240 N.2.2 := ⟨hN.h.2.2⟩
 haveI p1 : Sm 28 p.1 := ⟨hq.h.1⟩
 haveI p2 : Sm 28 p.2.1 := ⟨hq.h.2.1⟩
 haveI p3 : Sm 28 p.2.2 := ⟨hq.h.2.2⟩
 haveI d1 : Sm 190 D := ⟨hD⟩
 have a : mC (aa N.1 0) (aa N.1 1) (aa N.1 2) (aa N.1 3) (aa N.1 4) (aa N.1 5) (aa N.1 6) (aa N.1 7) (aa N.2.1 0) (aa N.2.1 1) (aa N.2.1 2) (aa N.2.1 3) (aa N.2.1 4) (aa N.2.1 5) (aa N.2.1 6) (aa N.2.1 7) (aa N.2.2 0) (aa N.2.2 1) (aa N.2.2 2) (aa N.2.2 3) (aa N.2.2 4) (aa N.2.2 5) (aa N.2.2 6) (aa N.2.2 7) p.1 p.2.1 p.2.2 = some (ae N p) :=
  Jv (Sm.fit (by decide)) (Sm.fit (by decide)) (Sm.fit (by decide)) (p1.rng (by decide)) (p2.rng (by decide)) (p3.rng (by decide)) (Sm.fit (by decide)) (Sm.fit (by decide)) (Sm.fit (by decide)) (Sm.fit (by decide)) (Sm.fit (by decide))
 haveI s1 : Sm 270 (ae N p) := inferInstance
 unfold mA eo
 rw [a, Option.bind_some, zi (by decide) (by decide) (by decide), Option.bind_some, Qe, Option.bind_some, Mw (Sm.fit (by decide)) (Sm.fit (by decide)), Option.bind_some]
 unfold f8
 have e : N.1 * N.1 + N.2.1 * N.2.1 + N.2.2 * N.2.2 = ae N N := rfl
 rw [e]
 by_cases h : ae N p * D < ae N N
 ·rw [decide_eq_true h]
  have : decide (sgn (ae N p * D - ae N N) < 0) = true := by
   have : ae N p * D - ae N N < 0 := by omega
   simp [sgn, this]
  rw [this]; rfl
 ·rw [decide_eq_false h]
  have : decide (sgn (ae N p * D - ae N N) < 0) = false := by
   have h1 : ¬ ae N p * D - ae N N < 0 := by omega
   unfold sgn
   rw [decide_eq_false h1, cond_false]
   by_cases h0 : ae N p * D - ae N N = 0
   ·rw [decide_eq_true h0]; rfl
   ·rw [decide_eq_false h0]; rfl
  rw [this]; rfl
theorem Tu {w : List Int} (hw : ∀ z ∈ w, sm 190 z) (h4 : w.length ≤ 4) (a1 : LA_) (a2 : Nat) (a3 : LA_) (a4 : Nat) (D : LA_) :
  km (a1, a2, a3, a4, wcs w, w.length, D, 1, ((w.length : Nat) : Int)) 0 = some (cond (w.all fun z => decide (0 < z)) (.inr ()) (.inl ())) := by
 have key : ∀ (n i : Nat), w.length - i = n → i ≤ w.length → iter (ep (a1, a2, a3, a4, wcs w, w.length, D, 1, ((w.length : Nat) : Int))) (n + 1) (i : Int) = some (cond ((w.drop i).all fun z => decide (0 < z)) (.inr ()) (.inl ())) := by
  intro n
  induction n with
  | zero =>
   intro i hn hi
   have he : i = w.length := by omega
   subst he
   refine fB 0 ?_
   rw [List.drop_length]
   simp only [ep, cH, decide_eq_false (show ¬ ((w.length : Int) < ((w.length : Nat) : Int)) by omega), cond_false]
   rfl
  | succ n ih =>
   intro i hn hi
   have h : i < w.length := by omega
   have hdw : w.drop i = w.getD i 0 :: w.drop (i + 1) := by
    rw [List.drop_eq_getElem_cons h]; simp [List.getD_eq_getElem?_getD, List.getElem?_eq_getElem h]
   have wr : IntKind.wrap .i64 ((i : Int) + 1) = ((i + 1 : Nat) : Int) := by rw [cf (by omega)]; omega
   have hz : fit (w.getD i 0) := be (a := 190) (by
    rw [List.getD_eq_getElem?_getD, List.getElem?_eq_getElem h]
    exact hw _ (List.getElem_mem h)) (by decide)
   have g := fun j hj => wg (j := j) h hj
   have step : ep (a1, a2, a3, a4, wcs w, w.length, D, 1, ((w.length : Nat) : Int)) (i : Int) = cond (decide (sgn (w.getD i 0) ≤ 0)) (some (.inr (.inl ()))) (some (.inl ((i + 1 : Nat) : Int))) := by
    simp only [ep, cH, decLt h, fD, cond_true, Bool.and_self, az, gH, wro h, g 0 (by decide), g 1 (by decide), g 2 (by decide), g 3 (by decide), g 4 (by decide), g 5 (by decide), g 6 (by decide), g 7 (by decide), wr, Mx hz, Option.bind_some]
   rw [hdw, List.all_cons]
   by_cases h0 : 0 < w.getD i 0
   ·have : decide (sgn (w.getD i 0) ≤ 0) = false := by
     unfold sgn
     rw [decide_eq_false (show ¬ w.getD i 0 < 0 by omega), decide_eq_false (show ¬ w.getD i 0 = 0 by omega)]; rfl
    rw [this] at step
    rw [decide_eq_true h0, Bool.true_and]
    exact dm step (ih (i + 1) (by omega) (by omega))
   ·have : decide (sgn (w.getD i 0) ≤ 0) = true := by
     unfold sgn
     by_cases h1 : w.getD i 0 < 0
     ·rw [decide_eq_true h1]; rfl
     ·rw [decide_eq_false h1, decide_eq_true (show w.getD i 0 = 0 by omega)]; rfl
    rw [this] at step
    rw [decide_eq_false h0, Bool.false_and]
    exact fB _ step
 have := key w.length 0 (by omega) (by omega)
 rw [List.drop_zero] at this
 exact jc (by unfold se; omega) this
theorem Tv {N : Pt} {D : Int} {l : List Pt} (hN : PtB 240 N) (hD : sm 190 D) (hok : bf l = true) (hl : l.length < 1000000000) :
  pg (aa N.1 0, aa N.1 1, aa N.1 2, aa N.1 3, aa N.1 4, aa N.1 5, aa N.1 6, aa N.1 7, aa N.2.1 0, aa N.2.1 1, aa N.2.1 2, aa N.2.1 3, aa N.2.1 4, aa N.2.1 5, aa N.2.1 6, aa N.2.1 7, aa N.2.2 0, aa N.2.2 1, aa N.2.2 2, aa N.2.2 3, aa N.2.2 4, aa N.2.2 5, aa N.2.2 6, aa N.2.2 7, aa D 0, aa D 1, aa D 2, aa D 3, aa D 4, aa D 5, aa D 6, aa D 7, pcs l, l.length, ((l.length : Nat) : Int)) 0 = some (cond (l.all fun p => !f8 N D p) (.inr ()) (.inl ())) := by
 have key : ∀ (n i : Nat), l.length - i = n → i ≤ l.length → iter (dV (aa N.1 0, aa N.1 1, aa N.1 2, aa N.1 3, aa N.1 4, aa N.1 5, aa N.1 6, aa N.1 7, aa N.2.1 0, aa N.2.1 1, aa N.2.1 2, aa N.2.1 3, aa N.2.1 4, aa N.2.1 5, aa N.2.1 6, aa N.2.1 7, aa N.2.2 0, aa N.2.2 1, aa N.2.2 2, aa N.2.2 3, aa N.2.2 4, aa N.2.2 5, aa N.2.2 6, aa N.2.2 7, aa D 0, aa D 1, aa D 2, aa D 3, aa D 4, aa D 5, aa D 6, aa D 7, pcs l, l.length, ((l.length : Nat) : Int))) (n + 1) (i : Int) = some (cond ((l.drop i).all fun p => !f8 N D p) (.inr ()) (.inl ())) := by
  intro n
  induction n with
  | zero =>
   intro i hn hi
   have he : i = l.length := by omega
   subst he
   refine fB 0 ?_
   rw [List.drop_length]
   simp only [dV, cw, decide_eq_false (show ¬ ((l.length : Int) < ((l.length : Nat) : Int)) by omega), cond_false]
   rfl
  | succ n ih =>
   intro i hn hi
   have h : i < l.length := by omega
   have hd : l.drop i = pat l i :: l.drop (i + 1) := by
    rw [List.drop_eq_getElem_cons h]; simp [pat, List.getD_eq_getElem?_getD, List.getElem?_eq_getElem h]
   have wr : IntKind.wrap .i64 ((i : Int) + 1) = ((i + 1 : Nat) : Int) := by rw [cf (by omega)]; omega
   have hp : eo (aa N.1 0) (aa N.1 1) (aa N.1 2) (aa N.1 3) (aa N.1 4) (aa N.1 5) (aa N.1 6) (aa N.1 7) (aa N.2.1 0) (aa N.2.1 1) (aa N.2.1 2) (aa N.2.1 3) (aa N.2.1 4) (aa N.2.1 5) (aa N.2.1 6) (aa N.2.1 7) (aa N.2.2 0) (aa N.2.2 1) (aa N.2.2 2) (aa N.2.2 3) (aa N.2.2 4) (aa N.2.2 5) (aa N.2.2 6) (aa N.2.2 7) (aa D 0) (aa D 1) (aa D 2) (aa D 3) (aa D 4) (aa D 5) (aa D 6) (aa D 7) [] 0 (pat l i).1 (pat l i).2.1 (pat l i).2.2 = some (f8 N D (pat l i)) := Lv hN hD (fC hok h) [] 0
   have step : dV (aa N.1 0, aa N.1 1, aa N.1 2, aa N.1 3, aa N.1 4, aa N.1 5, aa N.1 6, aa N.1 7, aa N.2.1 0, aa N.2.1 1, aa N.2.1 2, aa N.2.1 3, aa N.2.1 4, aa N.2.1 5, aa N.2.1 6, aa N.2.1 7, aa N.2.2 0, aa N.2.2 1, aa N.2.2 2, aa N.2.2 3, aa N.2.2 4, aa N.2.2 5, aa N.2.2 6, aa N.2.2 7, aa D 0, aa D 1, aa D 2, aa D 3, aa D 4, aa D 5, aa D 6, aa D 7, pcs l, l.length, ((l.length : Nat) : Int)) (i : Int) = cond (f8 N D (pat l i)) (some (.inr (.inl ()))) (some (.inl ((i + 1 : Nat) : Int))) := by
    simp only [dV, cw, decLt h, fD, cond_true, Bool.and_self, az, gH, pro h, pg0 h, pg1 h, pg2 h, wr, hp, Option.bind_some]
   rw [hd, List.all_cons]
   cases hb : f8 N D (pat l i) with
   | true =>
    rw [hb] at step
    exact fB _ step
   | false =>
    rw [hb] at step
    exact dm step (ih (i + 1) (by omega) (by omega))
 have := key l.length 0 (by omega) (by omega)
 rw [List.drop_zero] at this
 exact jc (by unfold se; omega) this
def Dz (l S : List Pt) : Prop := (∀ x ∈ (wts S).1, 0 < x) ∧ sg l S
theorem Prim.Lw {n N p : Pt} {d D s : Int} (h : Prim n d N D) (hd : 0 < d) (hs : ae n n = d * s) : f8 N D p = true ↔ ae p n < s := by
 obtain ⟨⟨g, g0, rfl, rfl⟩, _⟩ := h
 have hD : 0 < D := by
  rcases Int.lt_or_le 0 D with q | q
  ·exact q
  ·have := Int.mul_nonpos_of_nonneg_of_nonpos (Int.le_of_lt g0) q
   omega
 have e1 : ae (g * N.1, g * N.2.1, g * N.2.2) (g * N.1, g * N.2.1, g * N.2.2) = g * g * ae N N := by simp only [ae]; grind
 have e2 : ae p (g * N.1, g * N.2.1, g * N.2.2) = g * ae N p := by simp only [ae]; grind
 rw [e1] at hs
 have e3 : g * ae N N = D * s := by
  have : g * (g * ae N N) = g * (D * s) := by grind
  exact Int.eq_of_mul_eq_mul_left (by omega) this
 rw [e2]
 unfold f8
 rw [decide_eq_true_eq]
 constructor
 ·intro q
  have q1 := Int.mul_lt_mul_of_pos_left q g0
  have q2 : D * (g * ae N p) < D * s := by
   have : g * (ae N p * D) = D * (g * ae N p) := by grind
   omega
  exact Int.lt_of_mul_lt_mul_left q2 (Int.le_of_lt hD)
 ·intro q
  have q1 := Int.mul_lt_mul_of_pos_left q hD
  have q2 : g * (ae N p * D) < g * ae N N := by
   have : D * (g * ae N p) = g * (ae N p * D) := by grind
   omega
  exact Int.lt_of_mul_lt_mul_left q2 (Int.le_of_lt g0)
theorem Prim.sm {n N : Pt} {d D : Int} (h : Prim n d N D) (hn : PtB 240 n) (hd : sm 190 d) : PtB 240 N ∧ sm 190 D := by
 obtain ⟨⟨g, g0, rfl, rfl⟩, _⟩ := h
 have q : ∀ {k : Nat} {z : Int}, Go.Ev.sm k (g * z) → Go.Ev.sm k z := by
  intro k z ha
  unfold Go.Ev.sm at *
  rcases Int.le_total 0 z with h | h
  ·have : 1 * z ≤ g * z := Int.mul_le_mul_of_nonneg_right (by omega) h
   have := Int.natCast_nonneg (2 ^ k)
   omega
  ·have : g * z ≤ 1 * z := Int.mul_le_mul_of_nonpos_right (by omega) h
   have := Int.natCast_nonneg (2 ^ k)
   omega
 exact ⟨⟨⟨q hn.h.1, q hn.h.2.1, q hn.h.2.2⟩⟩, q hd⟩
theorem My : ∀ (w : List Int) (l : List Pt), w.length = l.length → bf l = true → (∀ z ∈ w, sm 190 z) → PtB (218 + l.length) (bg w l)
 | [], [], _, _, _ => ⟨⟨mV, mV, mV⟩⟩
 | x :: w, p :: l, hl, ho, hw => by
  simp only [aP] at ho
  have h1 := My w l (by simpa using hl) ho.2 (fun z hz => hw z (by simp [hz]))
  have hp := PtB.of ho.1
  have hx := hw x (by simp)
  have q : ∀ {u v : Int}, sm 28 u → sm (218 + l.length) v → sm (218 + (l.length + 1)) (x * u + v) := fun {u v} hu hv => kT (aV (cK hx hu) (Nat.le_add_right 218 _)) hv
  exact ⟨⟨q hp.h.1 h1.h.1, q hp.h.2.1 h1.h.2.1, q hp.h.2.2 h1.h.2.2⟩⟩
 | [], _ :: _, h, _, _ => by simp at h
 | _ :: _, [], h, _, _ => by simp at h
theorem OY {l S : List Pt} (hok : bf l = true) (hl : l.length < 1000000000) (hS : bf S = true) (hi : ind S) :
  ∃ (b : Bool) (N : Pt) (D : Int), ao (pcs l) l.length (pcs S) S.length = some (cond b (N.1, N.2.1, N.2.2, D, true) (0, 0, 0, 0, false)) ∧ (b = true ↔ Dz l S) ∧ (b = true → Prim (bu S) (wts S).2 N D ∧ PtB 240 N ∧ sm 190 D) := by
 obtain ⟨h1, h4⟩ := DA hi
 obtain ⟨f1, f2⟩ := Mu hS h1 h4
 obtain ⟨s1, s2⟩ := FS S h1 h4
 have hd := pz hi
 have hw := OX hS h1 h4
 have hL3 := Tu f2 (by omega) (pcs l) l.length (pcs S) S.length (wcs [(wts S).2])
 have zero : ∀ x, ao (pcs l) l.length (pcs S) S.length = Option.bind (some x) some → True := fun _ _ => trivial
 have fin0 : dI (pcs l) l.length (pcs S) S.length = some (0, 0, 0, 0, 0, 0, 0, 0, 0, 0, 0, 0, 0, 0, 0, 0, 0, 0, 0, 0, 0, 0, 0, 0, 0, 0, 0, 0, 0, 0, 0, 0, false) → ao (pcs l) l.length (pcs S) S.length = some (0, 0, 0, 0, false) := by
  intro e
  unfold ao
  rw [e]
  rfl
 have hL3' : km (pcs l, l.length, pcs S, S.length, wcs (wts S).1, S.length, ([.int .u64 (aa (wts S).2 0), .int .u64 (aa (wts S).2 1), .int .u64 (aa (wts S).2 2), .int .u64 (aa (wts S).2 3), .int .u64 (aa (wts S).2 4), .int .u64 (aa (wts S).2 5), .int .u64 (aa (wts S).2 6), .int .u64 (aa (wts S).2 7)] : LA_), 1, ((S.length : Nat) : Int)) 0 = some (cond ((wts S).1.all fun z => decide (0 < z)) (.inr ()) (.inl ())) := by
  rw [s2] at hL3
  exact hL3
 cases hpos : (wts S).1.all fun z => decide (0 < z) with
 | false =>
  refine ⟨false, (0, 0, 0), 0, fin0 ?_, ⟨fun h => (by cases h), fun h => ?_⟩, fun h => (by cases h)⟩
  ·unfold dI
   unfold v8 aX
   rw [hw, Option.bind_some]
   simp only
   rw [hL3', hpos]
   rfl
  ·exfalso
   have : ((wts S).1.all fun z => decide (0 < z)) = true := List.all_eq_true.2 fun z hz => by simpa using h.1 z hz
   rw [hpos] at this
   cases this
 | true =>
  have hp : ∀ x ∈ (wts S).1, 0 < x := fun x hx => by simpa using List.all_eq_true.1 hpos x hx
  obtain ⟨N, D, hP, hZ⟩ := T7 s2 hS f2 h4 hd f1
  have hn : PtB 240 (bu S) := by
   have h := My (wts S).1 S s2 hS f2
   exact ⟨⟨aV h.h.1 (by omega), aV h.h.2.1 (by omega), aV h.h.2.2 (by omega)⟩⟩
  obtain ⟨hN, hD⟩ := hP.sm hn f1
  have hL10 := Tv hN hD hok hl
  have hst := Nst.of hi hp
  have hpast : ∀ p, f8 N D p = true ↔ ae p (bu S) < ae (S.headD (0, 0, 0)) (bu S) := fun p => hP.Lw hd hst.sq
  have hall : (l.all fun p => !f8 N D p) = true ↔ sg l S := by
   rw [List.all_eq_true]
   constructor
   ·intro h p hpl
    have := h p hpl
    rw [Bool.not_eq_true'] at this
    rcases Int.lt_or_le (ae p (bu S)) (ae (S.headD (0, 0, 0)) (bu S)) with q | q
    ·rw [(hpast p).2 q] at this; cases this
    ·exact q
   ·intro h p hpl
    cases hb : f8 N D p with
    | false => rfl
    | true => have := (hpast p).1 hb; have := h p hpl; omega
  have F : dI (pcs l) l.length (pcs S) S.length = (Sum.elim (fun _ => some (0, 0, 0, 0, 0, 0, 0, 0, 0, 0, 0, 0, 0, 0, 0, 0, 0, 0, 0, 0, 0, 0, 0, 0, 0, 0, 0, 0, 0, 0, 0, 0, false)) (fun _ => some (aa N.1 0, aa N.1 1, aa N.1 2, aa N.1 3, aa N.1 4, aa N.1 5, aa N.1 6, aa N.1 7, aa N.2.1 0, aa N.2.1 1, aa N.2.1 2, aa N.2.1 3, aa N.2.1 4, aa N.2.1 5, aa N.2.1 6, aa N.2.1 7, aa N.2.2 0, aa N.2.2 1, aa N.2.2 2, aa N.2.2 3, aa N.2.2 4, aa N.2.2 5, aa N.2.2 6, aa N.2.2 7, aa D 0, aa D 1, aa D 2, aa D 3, aa D 4, aa D 5, aa D 6, aa D 7, true)) (cond (l.all fun p => !f8 N D p) (Sum.inr () : Unit ⊕ Unit) (.inl ()))) := by
   unfold dI
   unfold v8 aX
   rw [hw, Option.bind_some]
   simp only
   rw [hL3', hpos]
   simp only [cond_true, Option.bind_some, Sum.elim_inr]
   rw [s2] at hZ
   rw [hZ, Option.bind_some]
   simp only
   rw [hL10, Option.bind_some]
  cases hb : l.all fun p => !f8 N D p with
  | false =>
   rw [hb] at F hall
   refine ⟨false, (0, 0, 0), 0, fin0 F, ⟨fun h => (by cases h), fun h => ?_⟩, fun h => (by cases h)⟩
   have := hall.2 h.2
   cases this
  | true =>
   rw [hb] at F hall
   refine ⟨true, N, D, ?_, ⟨fun _ => ⟨hp, hall.1 rfl⟩, fun _ => rfl⟩, fun _ => ⟨hP, hN, hD⟩⟩
   unfold ao
   rw [F]
   simp only [cond_true, Sum.elim_inr, Option.bind_some, bz, Bool.and_self, az]
   rw [aG (be hN.h.1 (by decide)), aG (be hN.h.2.1 (by decide)), aG (be hN.h.2.2 (by decide)), aG (be hD (by decide))]
abbrev rO := (I8 (I8 (I8 (I8 (Int × LA_ × Nat)))))
def pV : CH := (CH.add 26 eU (CH.add 11 gb CH.none))
def rr : CH := vm Try.prog jm [25, 43, 64, 82] 600 pV 5
theorem wu : aE Try.prog pV := (CH.aj gy (CH.aj gP CH.aB))
theorem xI : aE Try.prog rr := iF aJ mixed bG wu 5
def kh (u0 u1 u2 : Int) : Option (rO) :=
 (Option.bind (ay ([.int .i64 u0, .int .i64 u1, .int .i64 u2] : LA_) 1) fun r1 => (cond (r1.2 != 0) (some (0, 0, 0, 0, 0, 0, 0, 0, 0, 0, 0, 0, 0, 0, 0, 0, 0, 0, 0, 0, 0, 0, 0, 0, 0, 0, 0, 0, 0, 0, 0, 0, r1.2, ([] : LA_), 0)) (Option.bind (Option.bind (ay ([.int .i64 u0, .int .i64 u1, .int .i64 u2] : LA_) 1) fun r2 => (cond (r2.1 != 0) (some (true, fun _ => 0)) (Option.bind (ao ([.int .i64 u0, .int .i64 u1, .int .i64 u2] : LA_) 1 ([.int .i64 u0, .int .i64 u1, .int .i64 u2] : LA_) 1) fun r3 => (cond r3.2.2.2.2 (some (false, fun i => ac (li8 r3.1 (li8 r3.2.1 (li8 r3.2.2.1 (li8 r3.2.2.2.1 [.vec 8])))) i)) (some (true, fun _ => 0)))))) fun q4 => (cond q4.1 (some (0, 0, 0, 0, 0, 0, 0, 0, 0, 0, 0, 0, 0, 0, 0, 0, 0, 0, 0, 0, 0, 0, 0, 0, 0, 0, 0, 0, 0, 0, 0, 0, 2, ([] : LA_), 0)) (some (fP q4.2 (0, ([.int .i64 0] : LA_), 1)))))))
def lN : FD where
 X := rO
 k := 1
 pre := [(33000002, 1)]
 F := fun s => [0, nameAt s 0 [.c 0, .c 32]]
 M := .tup [.agg (rl (.int .u64) 32 [.vec 1]), .int .i64]
 B := [.vec 1 true]
 toL := fun x => [.I x.1, .I x.2.1, .I x.2.2.1, .I x.2.2.2.1, .I x.s4.1, .I x.s4.2.1, .I x.s4.2.2.1, .I x.s4.2.2.2.1, .I x.s8.1, .I x.s8.2.1, .I x.s8.2.2.1, .I x.s8.2.2.2.1, .I x.s8.s4.1, .I x.s8.s4.2.1, .I x.s8.s4.2.2.1, .I x.s8.s4.2.2.2.1, .I x.s16.1, .I x.s16.2.1, .I x.s16.2.2.1, .I x.s16.2.2.2.1, .I x.s16.s4.1, .I x.s16.s4.2.1, .I x.s16.s4.2.2.1, .I x.s16.s4.2.2.2.1, .I x.s16.s8.1, .I x.s16.s8.2.1, .I x.s16.s8.2.2.1, .I x.s16.s8.2.2.2.1, .I x.s16.s8.s4.1, .I x.s16.s8.s4.2.1, .I x.s16.s8.s4.2.2.1, .I x.s16.s8.s4.2.2.2.1, .I x.s16.s16.1, .C x.s16.s16.2.1, .N x.s16.s16.2.2]
 ofL := fun ls => match ls with
  | (.I x0 :: .I x1 :: .I x2 :: .I x3 :: .I x4 :: .I x5 :: .I x6 :: .I x7 :: .I x8 :: .I x9 :: .I x10 :: .I x11 :: .I x12 :: .I x13 :: .I x14 :: .I x15 :: .I x16 :: .I x17 :: .I x18 :: .I x19 :: .I x20 :: .I x21 :: .I x22 :: .I x23 :: .I x24 :: .I x25 :: .I x26 :: .I x27 :: .I x28 :: .I x29 :: .I x30 :: .I x31 :: .I x32 :: .C x33 :: .N x34 :: []) => some (x0, x1, x2, x3, x4, x5, x6, x7, x8, x9, x10, x11, x12, x13, x14, x15, x16, x17, x18, x19, x20, x21, x22, x23, x24, x25, x26, x27, x28, x29, x30, x31, x32, x33, x34)
  | _ => none
 au := fun ls x h => by
  split at h
  ·cases h; rfl
  ·cases h
theorem zO (u0 u1 u2 : Int) (x : rO) (h : kh u0 u1 u2 = some x) : bc Try.prog 12 1 [.vec 0] [.vec [.int .i64 u0, .int .i64 u1, .int .i64 u2] 1 3 false] lN x :=
 FD.MT (il := fun _ => false) (ro := 2) (m := 32) (ch := rr) (fn := Try.f12) (c := bq Try.f12) (fuel := 600) aJ xI mixed bG lN Try.func12 (by kernel_rfl)
  (by kernel_rfl) (Eq.trans (by kernel_rfl) h)
abbrev rP := (I8 (I8 (I8 (I8 (Int × LA_ × Nat)))))
def pW : CH := (CH.add 26 eU (CH.add 11 gb CH.none))
def rt : CH := vm Try.prog jm [25, 43, 64, 82] 600 pW 5
theorem wv : aE Try.prog pW := (CH.aj gy (CH.aj gP CH.aB))
theorem xJ : aE Try.prog rt := iF aJ mixed bG wv 5
def ki (u0 u1 u2 u3 u4 u5 : Int) : Option (rP) :=
 (Option.bind (ay ([.int .i64 u0, .int .i64 u1, .int .i64 u2, .int .i64 u3, .int .i64 u4, .int .i64 u5] : LA_) 2) fun r1 => (cond (r1.2 != 0) (some (0, 0, 0, 0, 0, 0, 0, 0, 0, 0, 0, 0, 0, 0, 0, 0, 0, 0, 0, 0, 0, 0, 0, 0, 0, 0, 0, 0, 0, 0, 0, 0, r1.2, ([] : LA_), 0)) (Option.bind (Option.bind (ay ([.int .i64 u0, .int .i64 u1, .int .i64 u2] : LA_) 1) fun r2 => (cond (r2.1 != 0) (some (true, fun _ => 0)) (Option.bind (ao ([.int .i64 u0, .int .i64 u1, .int .i64 u2, .int .i64 u3, .int .i64 u4, .int .i64 u5] : LA_) 2 ([.int .i64 u0, .int .i64 u1, .int .i64 u2] : LA_) 1) fun r3 => (cond r3.2.2.2.2 (some (false, fun i => ac (li8 r3.1 (li8 r3.2.1 (li8 r3.2.2.1 (li8 r3.2.2.2.1 [.vec 8])))) i)) (some (true, fun _ => 0)))))) fun q4 => (cond q4.1 (Option.bind (Option.bind (ay ([.int .i64 u3, .int .i64 u4, .int .i64 u5] : LA_) 1) fun r5 => (cond (r5.1 != 0) (some (true, fun _ => 0)) (Option.bind (ao ([.int .i64 u0, .int .i64 u1, .int .i64 u2, .int .i64 u3, .int .i64 u4, .int .i64 u5] : LA_) 2 ([.int .i64 u3, .int .i64 u4, .int .i64 u5] : LA_) 1) fun r6 => (cond r6.2.2.2.2 (some (false, fun i => ac (li8 r6.1 (li8 r6.2.1 (li8 r6.2.2.1 (li8 r6.2.2.2.1 [.vec 12])))) i)) (some (true, fun _ => 0)))))) fun q7 => (cond q7.1 (Option.bind (Option.bind (ay ([.int .i64 u0, .int .i64 u1, .int .i64 u2, .int .i64 u3, .int .i64 u4, .int .i64 u5] : LA_) 2) fun r8 => (cond (r8.1 != 1) (some (true, fun _ => 0)) (Option.bind (ao ([.int .i64 u0, .int .i64 u1, .int .i64 u2, .int .i64 u3, .int .i64 u4, .int .i64 u5] : LA_) 2 ([.int .i64 u0, .int .i64 u1, .int .i64 u2, .int .i64 u3, .int .i64 u4, .int .i64 u5] : LA_) 2) fun r9 => (cond r9.2.2.2.2 (some (false, fun i => ac (li8 r9.1 (li8 r9.2.1 (li8 r9.2.2.1 (li8 r9.2.2.2.1 [.vec 18])))) i)) (some (true, fun _ => 0)))))) fun q10 => (cond q10.1 (some (0, 0, 0, 0, 0, 0, 0, 0, 0, 0, 0, 0, 0, 0, 0, 0, 0, 0, 0, 0, 0, 0, 0, 0, 0, 0, 0, 0, 0, 0, 0, 0, 2, ([] : LA_), 0)) (some (fP q10.2 (0, ([.int .i64 0, .int .i64 1] : LA_), 2))))) (some (fP q7.2 (0, ([.int .i64 1] : LA_), 1))))) (some (fP q4.2 (0, ([.int .i64 0] : LA_), 1)))))))
def sQ : FD where
 X := rP
 k := 1
 pre := [(33000002, 1)]
 F := fun s => [0, nameAt s 0 [.c 0, .c 32]]
 M := .tup [.agg (rl (.int .u64) 32 [.vec 1]), .int .i64]
 B := [.vec 1 true]
 toL := fun x => [.I x.1, .I x.2.1, .I x.2.2.1, .I x.2.2.2.1, .I x.s4.1, .I x.s4.2.1, .I x.s4.2.2.1, .I x.s4.2.2.2.1, .I x.s8.1, .I x.s8.2.1, .I x.s8.2.2.1, .I x.s8.2.2.2.1, .I x.s8.s4.1, .I x.s8.s4.2.1, .I x.s8.s4.2.2.1, .I x.s8.s4.2.2.2.1, .I x.s16.1, .I x.s16.2.1, .I x.s16.2.2.1, .I x.s16.2.2.2.1, .I x.s16.s4.1, .I x.s16.s4.2.1, .I x.s16.s4.2.2.1, .I x.s16.s4.2.2.2.1, .I x.s16.s8.1, .I x.s16.s8.2.1, .I x.s16.s8.2.2.1, .I x.s16.s8.2.2.2.1, .I x.s16.s8.s4.1, .I x.s16.s8.s4.2.1, .I x.s16.s8.s4.2.2.1, .I x.s16.s8.s4.2.2.2.1, .I x.s16.s16.1, .C x.s16.s16.2.1, .N x.s16.s16.2.2]
 ofL := fun ls => match ls with
  | (.I x0 :: .I x1 :: .I x2 :: .I x3 :: .I x4 :: .I x5 :: .I x6 :: .I x7 :: .I x8 :: .I x9 :: .I x10 :: .I x11 :: .I x12 :: .I x13 :: .I x14 :: .I x15 :: .I x16 :: .I x17 :: .I x18 :: .I x19 :: .I x20 :: .I x21 :: .I x22 :: .I x23 :: .I x24 :: .I x25 :: .I x26 :: .I x27 :: .I x28 :: .I x29 :: .I x30 :: .I x31 :: .I x32 :: .C x33 :: .N x34 :: []) => some (x0, x1, x2, x3, x4, x5, x6, x7, x8, x9, x10, x11, x12, x13, x14, x15, x16, x17, x18, x19, x20, x21, x22, x23, x24, x25, x26, x27, x28, x29, x30, x31, x32, x33, x34)
  | _ => none
 au := fun ls x h => by
  split at h
  ·cases h; rfl
  ·cases h
theorem zP (u0 u1 u2 u3 u4 u5 : Int) (x : rP) (h : ki u0 u1 u2 u3 u4 u5 = some x) : bc Try.prog 12 1 [.vec 0] [.vec [.int .i64 u0, .int .i64 u1, .int .i64 u2, .int .i64 u3, .int .i64 u4, .int .i64 u5] 2 3 false] sQ x :=
 FD.MT (il := fun _ => false) (ro := 2) (m := 32) (ch := rt) (fn := Try.f12) (c := bq Try.f12) (fuel := 600) aJ xJ mixed bG sQ Try.func12 (by kernel_rfl)
  (by kernel_rfl) (Eq.trans (by kernel_rfl) h)
abbrev rQ := (I8 (I8 (I8 (I8 (Int × LA_ × Nat)))))
def pX : CH := (CH.add 26 eU (CH.add 11 gb CH.none))
def ru : CH := vm Try.prog jm [25, 43, 64, 82] 600 pX 5
theorem ww : aE Try.prog pX := (CH.aj gy (CH.aj gP CH.aB))
theorem xK : aE Try.prog ru := iF aJ mixed bG ww 5
def kj (u0 u1 u2 u3 u4 u5 u6 u7 u8 : Int) : Option (rQ) :=
 (Option.bind (ay ([.int .i64 u0, .int .i64 u1, .int .i64 u2, .int .i64 u3, .int .i64 u4, .int .i64 u5, .int .i64 u6, .int .i64 u7, .int .i64 u8] : LA_) 3) fun r1 => (cond (r1.2 != 0) (some (0, 0, 0, 0, 0, 0, 0, 0, 0, 0, 0, 0, 0, 0, 0, 0, 0, 0, 0, 0, 0, 0, 0, 0, 0, 0, 0, 0, 0, 0, 0, 0, r1.2, ([] : LA_), 0)) (Option.bind (Option.bind (ay ([.int .i64 u0, .int .i64 u1, .int .i64 u2] : LA_) 1) fun r2 => (cond (r2.1 != 0) (some (true, fun _ => 0)) (Option.bind (ao ([.int .i64 u0, .int .i64 u1, .int .i64 u2, .int .i64 u3, .int .i64 u4, .int .i64 u5, .int .i64 u6, .int .i64 u7, .int .i64 u8] : LA_) 3 ([.int .i64 u0, .int .i64 u1, .int .i64 u2] : LA_) 1) fun r3 => (cond r3.2.2.2.2 (some (false, fun i => ac (li8 r3.1 (li8 r3.2.1 (li8 r3.2.2.1 (li8 r3.2.2.2.1 [.vec 8])))) i)) (some (true, fun _ => 0)))))) fun q4 => (cond q4.1 (Option.bind (Option.bind (ay ([.int .i64 u3, .int .i64 u4, .int .i64 u5] : LA_) 1) fun r5 => (cond (r5.1 != 0) (some (true, fun _ => 0)) (Option.bind (ao ([.int .i64 u0, .int .i64 u1, .int .i64 u2, .int .i64 u3, .int .i64 u4, .int .i64 u5, .int .i64 u6, .int .i64 u7, .int .i64 u8] : LA_) 3 ([.int .i64 u3, .int .i64 u4, .int .i64 u5] : LA_) 1) fun r6 => (cond r6.2.2.2.2 (some (false, fun i => ac (li8 r6.1 (li8 r6.2.1 (li8 r6.2.2.1 (li8 r6.2.2.2.1 [.vec 12])))) i)) (some (true, fun _ => 0)))))) fun q7 => (cond q7.1 (Option.bind (Option.bind (ay ([.int .i64 u6, .int .i64 u7, .int .i64 u8] : LA_) 1) fun r8 => (cond (r8.1 != 0) (some (true, fun _ => 0)) (Option.bind (ao ([.int .i64 u0, .int .i64 u1, .int .i64 u2, .int .i64 u3, .int .i64 u4, .int .i64 u5, .int .i64 u6, .int .i64 u7, .int .i64 u8] : LA_) 3 ([.int .i64 u6, .int .i64 u7, .int .i64 u8] : LA_) 1) fun r9 => (cond r9.2.2.2.2 (some (false, fun i => ac (li8 r9.1 (li8 r9.2.1 (li8 r9.2.2.1 (li8 r9.2.2.2.1 [.vec 16])))) i)) (some (true, fun _ => 0)))))) fun q10 => (cond q10.1 (Option.bind (Option.bind (ay ([.int .i64 u0, .int .i64 u1, .int .i64 u2, .int .i64 u3, .int .i64 u4, .int .i64 u5] : LA_) 2) fun r11 => (cond (r11.1 != 1) (some (true, fun _ => 0)) (Option.bind (ao ([.int .i64 u0, .int .i64 u1, .int .i64 u2, .int .i64 u3, .int .i64 u4, .int .i64 u5, .int .i64 u6, .int .i64 u7, .int .i64 u8] : LA_) 3 ([.int .i64 u0, .int .i64 u1, .int .i64 u2, .int .i64 u3, .int .i64 u4, .int .i64 u5] : LA_) 2) fun r12 => (cond r12.2.2.2.2 (some (false, fun i => ac (li8 r12.1 (li8 r12.2.1 (li8 r12.2.2.1 (li8 r12.2.2.2.1 [.vec 22])))) i)) (some (true, fun _ => 0)))))) fun q13 => (cond q13.1 (Option.bind (Option.bind (ay ([.int .i64 u0, .int .i64 u1, .int .i64 u2, .int .i64 u6, .int .i64 u7, .int .i64 u8] : LA_) 2) fun r14 => (cond (r14.1 != 1) (some (true, fun _ => 0)) (Option.bind (ao ([.int .i64 u0, .int .i64 u1, .int .i64 u2, .int .i64 u3, .int .i64 u4, .int .i64 u5, .int .i64 u6, .int .i64 u7, .int .i64 u8] : LA_) 3 ([.int .i64 u0, .int .i64 u1, .int .i64 u2, .int .i64 u6, .int .i64 u7, .int .i64 u8] : LA_) 2) fun r15 => (cond r15.2.2.2.2 (some (false, fun i => ac (li8 r15.1 (li8 r15.2.1 (li8 r15.2.2.1 (li8 r15.2.2.2.1 [.vec 28])))) i)) (some (true, fun _ => 0)))))) fun q16 => (cond q16.1 (Option.bind (Option.bind (ay ([.int .i64 u3, .int .i64 u4, .int .i64 u5, .int .i64 u6, .int .i64 u7, .int .i64 u8] : LA_) 2) fun r17 => (cond (r17.1 != 1) (some (true, fun _ => 0)) (Option.bind (ao ([.int .i64 u0, .int .i64 u1, .int .i64 u2, .int .i64 u3, .int .i64 u4, .int .i64 u5, .int .i64 u6, .int .i64 u7, .int .i64 u8] : LA_) 3 ([.int .i64 u3, .int .i64 u4, .int .i64 u5, .int .i64 u6, .int .i64 u7, .int .i64 u8] : LA_) 2) fun r18 => (cond r18.2.2.2.2 (some (false, fun i => ac (li8 r18.1 (li8 r18.2.1 (li8 r18.2.2.1 (li8 r18.2.2.2.1 [.vec 34])))) i)) (some (true, fun _ => 0)))))) fun q19 => (cond q19.1 (Option.bind (Option.bind (ay ([.int .i64 u0, .int .i64 u1, .int .i64 u2, .int .i64 u3, .int .i64 u4, .int .i64 u5, .int .i64 u6, .int .i64 u7, .int .i64 u8] : LA_) 3) fun r20 => (cond (r20.1 != 2) (some (true, fun _ => 0)) (Option.bind (ao ([.int .i64 u0, .int .i64 u1, .int .i64 u2, .int .i64 u3, .int .i64 u4, .int .i64 u5, .int .i64 u6, .int .i64 u7, .int .i64 u8] : LA_) 3 ([.int .i64 u0, .int .i64 u1, .int .i64 u2, .int .i64 u3, .int .i64 u4, .int .i64 u5, .int .i64 u6, .int .i64 u7, .int .i64 u8] : LA_) 3) fun r21 => (cond r21.2.2.2.2 (some (false, fun i => ac (li8 r21.1 (li8 r21.2.1 (li8 r21.2.2.1 (li8 r21.2.2.2.1 [.vec 42])))) i)) (some (true, fun _ => 0)))))) fun q22 => (cond q22.1 (some (0, 0, 0, 0, 0, 0, 0, 0, 0, 0, 0, 0, 0, 0, 0, 0, 0, 0, 0, 0, 0, 0, 0, 0, 0, 0, 0, 0, 0, 0, 0, 0, 2, ([] : LA_), 0)) (some (fP q22.2 (0, ([.int .i64 0, .int .i64 1, .int .i64 2] : LA_), 3))))) (some (fP q19.2 (0, ([.int .i64 1, .int .i64 2] : LA_), 2))))) (some (fP q16.2 (0, ([.int .i64 0, .int .i64 2] : LA_), 2))))) (some (fP q13.2 (0, ([.int .i64 0, .int .i64 1] : LA_), 2))))) (some (fP q10.2 (0, ([.int .i64 2] : LA_), 1))))) (some (fP q7.2 (0, ([.int .i64 1] : LA_), 1))))) (some (fP q4.2 (0, ([.int .i64 0] : LA_), 1)))))))
def sR : FD where
 X := rQ
 k := 1
 pre := [(33000002, 1)]
 F := fun s => [0, nameAt s 0 [.c 0, .c 32]]
 M := .tup [.agg (rl (.int .u64) 32 [.vec 1]), .int .i64]
 B := [.vec 1 true]
 toL := fun x => [.I x.1, .I x.2.1, .I x.2.2.1, .I x.2.2.2.1, .I x.s4.1, .I x.s4.2.1, .I x.s4.2.2.1, .I x.s4.2.2.2.1, .I x.s8.1, .I x.s8.2.1, .I x.s8.2.2.1, .I x.s8.2.2.2.1, .I x.s8.s4.1, .I x.s8.s4.2.1, .I x.s8.s4.2.2.1, .I x.s8.s4.2.2.2.1, .I x.s16.1, .I x.s16.2.1, .I x.s16.2.2.1, .I x.s16.2.2.2.1, .I x.s16.s4.1, .I x.s16.s4.2.1, .I x.s16.s4.2.2.1, .I x.s16.s4.2.2.2.1, .I x.s16.s8.1, .I x.s16.s8.2.1, .I x.s16.s8.2.2.1, .I x.s16.s8.2.2.2.1, .I x.s16.s8.s4.1, .I x.s16.s8.s4.2.1, .I x.s16.s8.s4.2.2.1, .I x.s16.s8.s4.2.2.2.1, .I x.s16.s16.1, .C x.s16.s16.2.1, .N x.s16.s16.2.2]
 ofL := fun ls => match ls with
  | (.I x0 :: .I x1 :: .I x2 :: .I x3 :: .I x4 :: .I x5 :: .I x6 :: .I x7 :: .I x8 :: .I x9 :: .I x10 :: .I x11 :: .I x12 :: .I x13 :: .I x14 :: .I x15 :: .I x16 :: .I x17 :: .I x18 :: .I x19 :: .I x20 :: .I x21 :: .I x22 :: .I x23 :: .I x24 :: .I x25 :: .I x26 :: .I x27 :: .I x28 :: .I x29 :: .I x30 :: .I x31 :: .I x32 :: .C x33 :: .N x34 :: []) => some (x0, x1, x2, x3, x4, x5, x6, x7, x8, x9, x10, x11, x12, x13, x14, x15, x16, x17, x18, x19, x20, x21, x22, x23, x24, x25, x26, x27, x28, x29, x30, x31, x32, x33, x34)
  | _ => none
 au := fun ls x h => by
  split at h
  ·cases h; rfl
  ·cases h
theorem zQ (u0 u1 u2 u3 u4 u5 u6 u7 u8 : Int) (x : rQ) (h : kj u0 u1 u2 u3 u4 u5 u6 u7 u8 = some x) : bc Try.prog 12 1 [.vec 0] [.vec [.int .i64 u0, .int .i64 u1, .int .i64 u2, .int .i64 u3, .int .i64 u4, .int .i64 u5, .int .i64 u6, .int .i64 u7, .int .i64 u8] 3 3 false] sR x :=
 FD.MT (il := fun _ => false) (ro := 2) (m := 32) (ch := ru) (fn := Try.f12) (c := bq Try.f12) (fuel := 600) aJ xK mixed bG sR Try.func12 (by kernel_rfl)
  (by kernel_rfl) (Eq.trans (by kernel_rfl) h)
abbrev rR := (I8 (I8 (I8 (I8 (Int × LA_ × Nat)))))
def pY : CH := (CH.add 26 eU (CH.add 11 gb CH.none))
def rv : CH := vm Try.prog jm [25, 43, 64, 82] 600 pY 5
theorem wx : aE Try.prog pY := (CH.aj gy (CH.aj gP CH.aB))
theorem xL : aE Try.prog rv := iF aJ mixed bG wx 5
def kl (u0 u1 u2 u3 u4 u5 u6 u7 u8 u9 u10 u11 : Int) : Option (rR) :=
 (Option.bind (ay ([.int .i64 u0, .int .i64 u1, .int .i64 u2, .int .i64 u3, .int .i64 u4, .int .i64 u5, .int .i64 u6, .int .i64 u7, .int .i64 u8, .int .i64 u9, .int .i64 u10, .int .i64 u11] : LA_) 4) fun r1 => (cond (r1.2 != 0) (some (0, 0, 0, 0, 0, 0, 0, 0, 0, 0, 0, 0, 0, 0, 0, 0, 0, 0, 0, 0, 0, 0, 0, 0, 0, 0, 0, 0, 0, 0, 0, 0, r1.2, ([] : LA_), 0)) (Option.bind (Option.bind (ay ([.int .i64 u0, .int .i64 u1, .int .i64 u2] : LA_) 1) fun r2 => (cond (r2.1 != 0) (some (true, fun _ => 0)) (Option.bind (ao ([.int .i64 u0, .int .i64 u1, .int .i64 u2, .int .i64 u3, .int .i64 u4, .int .i64 u5, .int .i64 u6, .int .i64 u7, .int .i64 u8, .int .i64 u9, .int .i64 u10, .int .i64 u11] : LA_) 4 ([.int .i64 u0, .int .i64 u1, .int .i64 u2] : LA_) 1) fun r3 => (cond r3.2.2.2.2 (some (false, fun i => ac (li8 r3.1 (li8 r3.2.1 (li8 r3.2.2.1 (li8 r3.2.2.2.1 [.vec 8])))) i)) (some (true, fun _ => 0)))))) fun q4 => (cond q4.1 (Option.bind (Option.bind (ay ([.int .i64 u3, .int .i64 u4, .int .i64 u5] : LA_) 1) fun r5 => (cond (r5.1 != 0) (some (true, fun _ => 0)) (Option.bind (ao ([.int .i64 u0, .int .i64 u1, .int .i64 u2, .int .i64 u3, .int .i64 u4, .int .i64 u5, .int .i64 u6, .int .i64 u7, .int .i64 u8, .int .i64 u9, .int .i64 u10, .int .i64 u11] : LA_) 4 ([.int .i64 u3, .int .i64 u4, .int .i64 u5] : LA_) 1) fun r6 => (cond r6.2.2.2.2 (some (false, fun i => ac (li8 r6.1 (li8 r6.2.1 (li8 r6.2.2.1 (li8 r6.2.2.2.1 [.vec 12])))) i)) (some (true, fun _ => 0)))))) fun q7 => (cond q7.1 (Option.bind (Option.bind (ay ([.int .i64 u6, .int .i64 u7, .int .i64 u8] : LA_) 1) fun r8 => (cond (r8.1 != 0) (some (true, fun _ => 0)) (Option.bind (ao ([.int .i64 u0, .int .i64 u1, .int .i64 u2, .int .i64 u3, .int .i64 u4, .int .i64 u5, .int .i64 u6, .int .i64 u7, .int .i64 u8, .int .i64 u9, .int .i64 u10, .int .i64 u11] : LA_) 4 ([.int .i64 u6, .int .i64 u7, .int .i64 u8] : LA_) 1) fun r9 => (cond r9.2.2.2.2 (some (false, fun i => ac (li8 r9.1 (li8 r9.2.1 (li8 r9.2.2.1 (li8 r9.2.2.2.1 [.vec 16])))) i)) (some (true, fun _ => 0)))))) fun q10 => (cond q10.1 (Option.bind (Option.bind (ay ([.int .i64 u9, .int .i64 u10, .int .i64 u11] : LA_) 1) fun r11 => (cond (r11.1 != 0) (some (true, fun _ => 0)) (Option.bind (ao ([.int .i64 u0, .int .i64 u1, .int .i64 u2, .int .i64 u3, .int .i64 u4, .int .i64 u5, .int .i64 u6, .int .i64 u7, .int .i64 u8, .int .i64 u9, .int .i64 u10, .int .i64 u11] : LA_) 4 ([.int .i64 u9, .int .i64 u10, .int .i64 u11] : LA_) 1) fun r12 => (cond r12.2.2.2.2 (some (false, fun i => ac (li8 r12.1 (li8 r12.2.1 (li8 r12.2.2.1 (li8 r12.2.2.2.1 [.vec 20])))) i)) (some (true, fun _ => 0)))))) fun q13 => (cond q13.1 (Option.bind (Option.bind (ay ([.int .i64 u0, .int .i64 u1, .int .i64 u2, .int .i64 u3, .int .i64 u4, .int .i64 u5] : LA_) 2) fun r14 => (cond (r14.1 != 1) (some (true, fun _ => 0)) (Option.bind (ao ([.int .i64 u0, .int .i64 u1, .int .i64 u2, .int .i64 u3, .int .i64 u4, .int .i64 u5, .int .i64 u6, .int .i64 u7, .int .i64 u8, .int .i64 u9, .int .i64 u10, .int .i64 u11] : LA_) 4 ([.int .i64 u0, .int .i64 u1, .int .i64 u2, .int .i64 u3, .int .i64 u4, .int .i64 u5] : LA_) 2) fun r15 => (cond r15.2.2.2.2 (some (false, fun i => ac (li8 r15.1 (li8 r15.2.1 (li8 r15.2.2.1 (li8 r15.2.2.2.1 [.vec 26])))) i)) (some (true, fun _ => 0)))))) fun q16 => (cond q16.1 (Option.bind (Option.bind (ay ([.int .i64 u0, .int .i64 u1, .int .i64 u2, .int .i64 u6, .int .i64 u7, .int .i64 u8] : LA_) 2) fun r17 => (cond (r17.1 != 1) (some (true, fun _ => 0)) (Option.bind (ao ([.int .i64 u0, .int .i64 u1, .int .i64 u2, .int .i64 u3, .int .i64 u4, .int .i64 u5, .int .i64 u6, .int .i64 u7, .int .i64 u8, .int .i64 u9, .int .i64 u10, .int .i64 u11] : LA_) 4 ([.int .i64 u0, .int .i64 u1, .int .i64 u2, .int .i64 u6, .int .i64 u7, .int .i64 u8] : LA_) 2) fun r18 => (cond r18.2.2.2.2 (some (false, fun i => ac (li8 r18.1 (li8 r18.2.1 (li8 r18.2.2.1 (li8 r18.2.2.2.1 [.vec 32])))) i)) (some (true, fun _ => 0)))))) fun q19 => (cond q19.1 (Option.bind (Option.bind (ay ([.int .i64 u0, .int .i64 u1, .int .i64 u2, .int .i64 u9, .int .i64 u10, .int .i64 u11] : LA_) 2) fun r20 => (cond (r20.1 != 1) (some (true, fun _ => 0)) (Option.bind (ao ([.int .i64 u0, .int .i64 u1, .int .i64 u2, .int .i64 u3, .int .i64 u4, .int .i64 u5, .int .i64 u6, .int .i64 u7, .int .i64 u8, .int .i64 u9, .int .i64 u10, .int .i64 u11] : LA_) 4 ([.int .i64 u0, .int .i64 u1, .int .i64 u2, .int .i64 u9, .int .i64 u10, .int .i64 u11] : LA_) 2) fun r21 => (cond r21.2.2.2.2 (some (false, fun i => ac (li8 r21.1 (li8 r21.2.1 (li8 r21.2.2.1 (li8 r21.2.2.2.1 [.vec 38])))) i)) (some (true, fun _ => 0)))))) fun q22 => (cond q22.1 (Option.bind (Option.bind (ay ([.int .i64 u3, .int .i64 u4, .int .i64 u5, .int .i64 u6, .int .i64 u7, .int .i64 u8] : LA_) 2) fun r23 => (cond (r23.1 != 1) (some (true, fun _ => 0)) (Option.bind (ao ([.int .i64 u0, .int .i64 u1, .int .i64 u2, .int .i64 u3, .int .i64 u4, .int .i64 u5, .int .i64 u6, .int .i64 u7, .int .i64 u8, .int .i64 u9, .int .i64 u10, .int .i64 u11] : LA_) 4 ([.int .i64 u3, .int .i64 u4, .int .i64 u5, .int .i64 u6, .int .i64 u7, .int .i64 u8] : LA_) 2) fun r24 => (cond r24.2.2.2.2 (some (false, fun i => ac (li8 r24.1 (li8 r24.2.1 (li8 r24.2.2.1 (li8 r24.2.2.2.1 [.vec 44])))) i)) (some (true, fun _ => 0)))))) fun q25 => (cond q25.1 (Option.bind (Option.bind (ay ([.int .i64 u3, .int .i64 u4, .int .i64 u5, .int .i64 u9, .int .i64 u10, .int .i64 u11] : LA_) 2) fun r26 => (cond (r26.1 != 1) (some (true, fun _ => 0)) (Option.bind (ao ([.int .i64 u0, .int .i64 u1, .int .i64 u2, .int .i64 u3, .int .i64 u4, .int .i64 u5, .int .i64 u6, .int .i64 u7, .int .i64 u8, .int .i64 u9, .int .i64 u10, .int .i64 u11] : LA_) 4 ([.int .i64 u3, .int .i64 u4, .int .i64 u5, .int .i64 u9, .int .i64 u10, .int .i64 u11] : LA_) 2) fun r27 => (cond r27.2.2.2.2 (some (false, fun i => ac (li8 r27.1 (li8 r27.2.1 (li8 r27.2.2.1 (li8 r27.2.2.2.1 [.vec 50])))) i)) (some (true, fun _ => 0)))))) fun q28 => (cond q28.1 (Option.bind (Option.bind (ay ([.int .i64 u6, .int .i64 u7, .int .i64 u8, .int .i64 u9, .int .i64 u10, .int .i64 u11] : LA_) 2) fun r29 => (cond (r29.1 != 1) (some (true, fun _ => 0)) (Option.bind (ao ([.int .i64 u0, .int .i64 u1, .int .i64 u2, .int .i64 u3, .int .i64 u4, .int .i64 u5, .int .i64 u6, .int .i64 u7, .int .i64 u8, .int .i64 u9, .int .i64 u10, .int .i64 u11] : LA_) 4 ([.int .i64 u6, .int .i64 u7, .int .i64 u8, .int .i64 u9, .int .i64 u10, .int .i64 u11] : LA_) 2) fun r30 => (cond r30.2.2.2.2 (some (false, fun i => ac (li8 r30.1 (li8 r30.2.1 (li8 r30.2.2.1 (li8 r30.2.2.2.1 [.vec 56])))) i)) (some (true, fun _ => 0)))))) fun q31 => (cond q31.1 (Option.bind (Option.bind (ay ([.int .i64 u0, .int .i64 u1, .int .i64 u2, .int .i64 u3, .int .i64 u4, .int .i64 u5, .int .i64 u6, .int .i64 u7, .int .i64 u8] : LA_) 3) fun r32 => (cond (r32.1 != 2) (some (true, fun _ => 0)) (Option.bind (ao ([.int .i64 u0, .int .i64 u1, .int .i64 u2, .int .i64 u3, .int .i64 u4, .int .i64 u5, .int .i64 u6, .int .i64 u7, .int .i64 u8, .int .i64 u9, .int .i64 u10, .int .i64 u11] : LA_) 4 ([.int .i64 u0, .int .i64 u1, .int .i64 u2, .int .i64 u3, .int .i64 u4, .int .i64 u5, .int .i64 u6, .int .i64 u7, .int .i64 u8] : LA_) 3) fun r33 => (cond r33.2.2.2.2 (some (false, fun i => ac (li8 r33.1 (li8 r33.2.1 (li8 r33.2.2.1 (li8 r33.2.2.2.1 [.vec 64])))) i)) (some (true, fun _ => 0)))))) fun q34 => (cond q34.1 (Option.bind (Option.bind (ay ([.int .i64 u0, .int .i64 u1, .int .i64 u2, .int .i64 u3, .int .i64 u4, .int .i64 u5, .int .i64 u9, .int .i64 u10, .int .i64 u11] : LA_) 3) fun r35 => (cond (r35.1 != 2) (some (true, fun _ => 0)) (Option.bind (ao ([.int .i64 u0, .int .i64 u1, .int .i64 u2, .int .i64 u3, .int .i64 u4, .int .i64 u5, .int .i64 u6, .int .i64 u7, .int .i64 u8, .int .i64 u9, .int .i64 u10, .int .i64 u11] : LA_) 4 ([.int .i64 u0, .int .i64 u1, .int .i64 u2, .int .i64 u3, .int .i64 u4, .int .i64 u5, .int .i64 u9, .int .i64 u10, .int .i64 u11] : LA_) 3) fun r36 => (cond r36.2.2.2.2 (some (false, fun i => ac (li8 r36.1 (li8 r36.2.1 (li8 r36.2.2.1 (li8 r36.2.2.2.1 [.vec 72])))) i)) (some (true, fun _ => 0)))))) fun q37 => (cond q37.1 (Option.bind (Option.bind (ay ([.int .i64 u0, .int .i64 u1, .int .i64 u2, .int .i64 u6, .int .i64 u7, .int .i64 u8, .int .i64 u9, .int .i64 u10, .int .i64 u11] : LA_) 3) fun r38 => (cond (r38.1 != 2) (some (true, fun _ => 0)) (Option.bind (ao ([.int .i64 u0, .int .i64 u1, .int .i64 u2, .int .i64 u3, .int .i64 u4, .int .i64 u5, .int .i64 u6, .int .i64 u7, .int .i64 u8, .int .i64 u9, .int .i64 u10, .int .i64 u11] : LA_) 4 ([.int .i64 u0, .int .i64 u1, .int .i64 u2, .int .i64 u6, .int .i64 u7, .int .i64 u8, .int .i64 u9, .int .i64 u10, .int .i64 u11] : LA_) 3) fun r39 => (cond r39.2.2.2.2 (some (false, fun i => ac (li8 r39.1 (li8 r39.2.1 (li8 r39.2.2.1 (li8 r39.2.2.2.1 [.vec 80])))) i)) (some (true, fun _ => 0)))))) fun q40 => (cond q40.1 (Option.bind (Option.bind (ay ([.int .i64 u3, .int .i64 u4, .int .i64 u5, .int .i64 u6, .int .i64 u7, .int .i64 u8, .int .i64 u9, .int .i64 u10, .int .i64 u11] : LA_) 3) fun r41 => (cond (r41.1 != 2) (some (true, fun _ => 0)) (Option.bind (ao ([.int .i64 u0, .int .i64 u1, .int .i64 u2, .int .i64 u3, .int .i64 u4, .int .i64 u5, .int .i64 u6, .int .i64 u7, .int .i64 u8, .int .i64 u9, .int .i64 u10, .int .i64 u11] : LA_) 4 ([.int .i64 u3, .int .i64 u4, .int .i64 u5, .int .i64 u6, .int .i64 u7, .int .i64 u8, .int .i64 u9, .int .i64 u10, .int .i64 u11] : LA_) 3) fun r42 => (cond r42.2.2.2.2 (some (false, fun i => ac (li8 r42.1 (li8 r42.2.1 (li8 r42.2.2.1 (li8 r42.2.2.2.1 [.vec 88])))) i)) (some (true, fun _ => 0)))))) fun q43 => (cond q43.1 (Option.bind (Option.bind (ay ([.int .i64 u0, .int .i64 u1, .int .i64 u2, .int .i64 u3, .int .i64 u4, .int .i64 u5, .int .i64 u6, .int .i64 u7, .int .i64 u8, .int .i64 u9, .int .i64 u10, .int .i64 u11] : LA_) 4) fun r44 => (cond (r44.1 != 3) (some (true, fun _ => 0)) (Option.bind (ao ([.int .i64 u0, .int .i64 u1, .int .i64 u2, .int .i64 u3, .int .i64 u4, .int .i64 u5, .int .i64 u6, .int .i64 u7, .int .i64 u8, .int .i64 u9, .int .i64 u10, .int .i64 u11] : LA_) 4 ([.int .i64 u0, .int .i64 u1, .int .i64 u2, .int .i64 u3, .int .i64 u4, .int .i64 u5, .int .i64 u6, .int .i64 u7, .int .i64 u8, .int .i64 u9, .int .i64 u10, .int .i64 u11] : LA_) 4) fun r45 => (cond r45.2.2.2.2 (some (false, fun i => ac (li8 r45.1 (li8 r45.2.1 (li8 r45.2.2.1 (li8 r45.2.2.2.1 [.vec 98])))) i)) (some (true, fun _ => 0)))))) fun q46 => (cond q46.1 (some (0, 0, 0, 0, 0, 0, 0, 0, 0, 0, 0, 0, 0, 0, 0, 0, 0, 0, 0, 0, 0, 0, 0, 0, 0, 0, 0, 0, 0, 0, 0, 0, 2, ([] : LA_), 0)) (some (fP q46.2 (0, ([.int .i64 0, .int .i64 1, .int .i64 2, .int .i64 3] : LA_), 4))))) (some (fP q43.2 (0, ([.int .i64 1, .int .i64 2, .int .i64 3] : LA_), 3))))) (some (fP q40.2 (0, ([.int .i64 0, .int .i64 2, .int .i64 3] : LA_), 3))))) (some (fP q37.2 (0, ([.int .i64 0, .int .i64 1, .int .i64 3] : LA_), 3))))) (some (fP q34.2 (0, ([.int .i64 0, .int .i64 1, .int .i64 2] : LA_), 3))))) (some (fP q31.2 (0, ([.int .i64 2, .int .i64 3] : LA_), 2))))) (some (fP q28.2 (0, ([.int .i64 1, .int .i64 3] : LA_), 2))))) (some (fP q25.2 (0, ([.int .i64 1, .int .i64 2] : LA_), 2))))) (some (fP q22.2 (0, ([.int .i64 0, .int .i64 3] : LA_), 2))))) (some (fP q19.2 (0, ([.int .i64 0, .int .i64 2] : LA_), 2))))) (some (fP q16.2 (0, ([.int .i64 0, .int .i64 1] : LA_), 2))))) (some (fP q13.2 (0, ([.int .i64 3] : LA_), 1))))) (some (fP q10.2 (0, ([.int .i64 2] : LA_), 1))))) (some (fP q7.2 (0, ([.int .i64 1] : LA_), 1))))) (some (fP q4.2 (0, ([.int .i64 0] : LA_), 1)))))))
def sS : FD where
 X := rR
 k := 1
 pre := [(33000002, 1)]
 F := fun s => [0, nameAt s 0 [.c 0, .c 32]]
 M := .tup [.agg (rl (.int .u64) 32 [.vec 1]), .int .i64]
 B := [.vec 1 true]
 toL := fun x => [.I x.1, .I x.2.1, .I x.2.2.1, .I x.2.2.2.1, .I x.s4.1, .I x.s4.2.1, .I x.s4.2.2.1, .I x.s4.2.2.2.1, .I x.s8.1, .I x.s8.2.1, .I x.s8.2.2.1, .I x.s8.2.2.2.1, .I x.s8.s4.1, .I x.s8.s4.2.1, .I x.s8.s4.2.2.1, .I x.s8.s4.2.2.2.1, .I x.s16.1, .I x.s16.2.1, .I x.s16.2.2.1, .I x.s16.2.2.2.1, .I x.s16.s4.1, .I x.s16.s4.2.1, .I x.s16.s4.2.2.1, .I x.s16.s4.2.2.2.1, .I x.s16.s8.1, .I x.s16.s8.2.1, .I x.s16.s8.2.2.1, .I x.s16.s8.2.2.2.1, .I x.s16.s8.s4.1, .I x.s16.s8.s4.2.1, .I x.s16.s8.s4.2.2.1, .I x.s16.s8.s4.2.2.2.1, .I x.s16.s16.1, .C x.s16.s16.2.1, .N x.s16.s16.2.2]
 ofL := fun ls => match ls with
  | (.I x0 :: .I x1 :: .I x2 :: .I x3 :: .I x4 :: .I x5 :: .I x6 :: .I x7 :: .I x8 :: .I x9 :: .I x10 :: .I x11 :: .I x12 :: .I x13 :: .I x14 :: .I x15 :: .I x16 :: .I x17 :: .I x18 :: .I x19 :: .I x20 :: .I x21 :: .I x22 :: .I x23 :: .I x24 :: .I x25 :: .I x26 :: .I x27 :: .I x28 :: .I x29 :: .I x30 :: .I x31 :: .I x32 :: .C x33 :: .N x34 :: []) => some (x0, x1, x2, x3, x4, x5, x6, x7, x8, x9, x10, x11, x12, x13, x14, x15, x16, x17, x18, x19, x20, x21, x22, x23, x24, x25, x26, x27, x28, x29, x30, x31, x32, x33, x34)
  | _ => none
 au := fun ls x h => by
  split at h
  ·cases h; rfl
  ·cases h
theorem zR (u0 u1 u2 u3 u4 u5 u6 u7 u8 u9 u10 u11 : Int) (x : rR) (h : kl u0 u1 u2 u3 u4 u5 u6 u7 u8 u9 u10 u11 = some x) : bc Try.prog 12 1 [.vec 0] [.vec [.int .i64 u0, .int .i64 u1, .int .i64 u2, .int .i64 u3, .int .i64 u4, .int .i64 u5, .int .i64 u6, .int .i64 u7, .int .i64 u8, .int .i64 u9, .int .i64 u10, .int .i64 u11] 4 3 false] sS x :=
 FD.MT (il := fun _ => false) (ro := 2) (m := 32) (ch := rv) (fn := Try.f12) (c := bq Try.f12) (fuel := 600) aJ xL mixed bG sS Try.func12 (by kernel_rfl)
  (by kernel_rfl) (Eq.trans (by kernel_rfl) h)
abbrev A8 := (I8 (I8 (I8 (I8 (Int × LA_ × Nat)))))
abbrev n7 := Int × Int × Int × Int × Int × LA_ × Nat
def jE (cs0 : LA_) (n1 : Nat) : Option (A8) := match cs0, n1 with
 | [.int .i64 u0, .int .i64 u1, .int .i64 u2], 1 => kh u0 u1 u2
 | [.int .i64 u0, .int .i64 u1, .int .i64 u2, .int .i64 u3, .int .i64 u4, .int .i64 u5], 2 => ki u0 u1 u2 u3 u4 u5
 | [.int .i64 u0, .int .i64 u1, .int .i64 u2, .int .i64 u3, .int .i64 u4, .int .i64 u5, .int .i64 u6, .int .i64 u7, .int .i64 u8], 3 => kj u0 u1 u2 u3 u4 u5 u6 u7 u8
 | [.int .i64 u0, .int .i64 u1, .int .i64 u2, .int .i64 u3, .int .i64 u4, .int .i64 u5, .int .i64 u6, .int .i64 u7, .int .i64 u8, .int .i64 u9, .int .i64 u10, .int .i64 u11], 4 => kl u0 u1 u2 u3 u4 u5 u6 u7 u8 u9 u10 u11
 | _, _ => none
def ei : FD := lN
theorem B9 (cs0 : LA_) (n1 : Nat) (x : A8) (h : jE cs0 n1 = some x) : bc Try.prog 12 1 [.vec 0] [.vec cs0 n1 3 false] ei x := by
 unfold jE at h
 split at h
 ·exact zO _ _ _ x h
 ·exact zP _ _ _ _ _ _ x h
 ·exact zQ _ _ _ _ _ _ _ _ _ x h
 ·exact zR _ _ _ _ _ _ _ _ _ _ _ _ x h
 ·cases h
def dc (cs0 : LA_) (n1 : Nat) : Option (n7) := Option.bind (jE cs0 n1) fun (x0, x1, x2, x3, x4, x5, x6, x7, x8, x9, x10, x11, x12, x13, x14, x15, x16, x17, x18, x19, x20, x21, x22, x23, x24, x25, x26, x27, x28, x29, x30, x31, x32, x33, x34) => af (ok8 x0 x1 x2 x3 x4 x5 x6 x7 && ok8 x8 x9 x10 x11 x12 x13 x14 x15 && ok8 x16 x17 x18 x19 x20 x21 x22 x23 && ok8 x24 x25 x26 x27 x28 x29 x30 x31) (some ((num x0 x1 x2 x3 x4 x5 x6 x7), (num x8 x9 x10 x11 x12 x13 x14 x15), (num x16 x17 x18 x19 x20 x21 x22 x23), (num x24 x25 x26 x27 x28 x29 x30 x31), x32, x33, x34))
def oF : FD := ⟨n7, ei.k, ei.pre, ei.F, ei.M, ei.B, fun y => ei.toL (aX y.1 (aX y.2.1 (aX y.2.2.1 (aX y.2.2.2.1 (y.s4.1, y.s4.2.1, y.s4.2.2))))), fun _ => none, fun _ _ h => by cases h⟩
theorem Ed (cs0 : LA_) (n1 : Nat) {y : n7} (h : dc cs0 n1 = some y) : jE cs0 n1 = some (aX y.1 (aX y.2.1 (aX y.2.2.1 (aX y.2.2.2.1 (y.s4.1, y.s4.2.1, y.s4.2.2))))) := by
 unfold dc at h
 obtain ⟨⟨x0, x1, x2, x3, x4, x5, x6, x7, x8, x9, x10, x11, x12, x13, x14, x15, x16, x17, x18, x19, x20, x21, x22, x23, x24, x25, x26, x27, x28, x29, x30, x31, x32, x33, x34⟩, h1, h2⟩ := bE_ h
 obtain ⟨h3, h4⟩ := aH h2
 simp only [Bool.and_eq_true, and_assoc] at h3
 simp only [Option.some.injEq] at h4
 subst h4
 obtain ⟨o0, o1, o2, o3⟩ := h3
 have q0 := aQ o0
 have q1 := aQ o1
 have q2 := aQ o2
 have q3 := aQ o3
 rw [h1]
 simp only [aX, q0, q1, q2, q3]
theorem Ca (cs0 : LA_) (n1 : Nat) (y : n7) (h : dc cs0 n1 = some y) : bc Try.prog 12 1 [.vec 0] [.vec cs0 n1 3 false] oF y := B9 cs0 n1 _ (Ed cs0 n1 h)
def jy : HK where
 call := fun args σ k => match args with
  | [x0] => cM σ 3 x0 fun cs0 n1 => Option.bind (dc cs0 n1) fun y => aA σ 1 (oF.val y) (oF.aL y) k
  | _ => none
 nat := fun args σ k => by
  repeat' split
  all_goals simp only [aw, ai, Option.bind_assoc, Option.bind_none, aA, Option.bind_some]
 pure := false
 pok := fun h => by cases h
theorem ni : aW Try.prog 12 jy := by
 intro args σ r σ' h
 simp only [jy] at h
 split at h
 ·rename_i x0
  obtain ⟨cs0, n1, he0, hf0, h⟩ := bA h
  obtain ⟨y, hy, h⟩ := bE_ h
  exact lifted (xs := [x0]) (ls := [.vec cs0 n1 3 false]) (cargs := [.vec 0]) (bv.of ⟨⟨rfl, he0, hf0, by decide⟩, trivial⟩) rfl (Ca cs0 n1 y hy) rfl rfl rfl rfl h
 ·cases h
end Go.Ev
