import Derived.Test.YtbmjabafceihgaaGreatKak
set_option linter.unusedVariables false
set_option linter.unusedSimpArgs false
set_option maxRecDepth 100000
noncomputable section
namespace Go.Ev
open Go.Proofs
theorem AM {a b : Nat} {x y : Int} [Sm a x] [Sm b y] (h1 : a ≤ 510) (h2 : b ≤ 510) (h : a + b ≤ 510) : jP (aa x 0) (aa x 1) (aa x 2) (aa x 3) (aa x 4) (aa x 5) (aa x 6) (aa x 7) (aa y 0) (aa y 1) (aa y 2) (aa y 3) (aa y 4) (aa y 5) (aa y 6) (aa y 7) = some (x * y) := P2 h1 h2 h
theorem S6 {a b : Nat} {x y : Int} [Sm a x] [Sm b y] (h1 : a ≤ 510) (h2 : b ≤ 510) (h : max a b + 1 ≤ 510) : pn (aa x 0) (aa x 1) (aa x 2) (aa x 3) (aa x 4) (aa x 5) (aa x 6) (aa x 7) (aa y 0) (aa y 1) (aa y 2) (aa y 3) (aa y 4) (aa y 5) (aa y 6) (aa y 7) = some (x + y) := IP h1 h2 h
abbrev k8 : List TK := [.int .u64, .int .u64, .int .u64, .int .u64, .int .u64, .int .u64, .int .u64, .int .u64]
theorem My : ∀ (l : List Int) (i j : Nat), i < l.length → j < 8 → (wcs l)[i * 8 + j]? = some (.int .u64 (aa (l.getD i 0) j))
 | [], i, j, h, _ => by simp at h
 | z :: l, 0, j, _, hj => by
  rcases j with _ | _ | _ | _ | _ | _ | _ | _ | j
  all_goals first | rfl | omega
 | z :: l, i + 1, j, h, hj => by
  have ih := My l i j (by simpa using h) hj
  rw [show (i + 1) * 8 + j = i * 8 + j + 8 by omega]
  simp only [List.getD_cons_succ]
  exact ih
theorem wg {l : List Int} {i j : Nat} (h : i < l.length) (hj : j < 8) : ac (wcs l) (i * 8 + j) = aa (l.getD i 0) j := by
 unfold ac; rw [My l i j h hj]
theorem wro {l : List Int} {i : Nat} (h : i < l.length) : an k8 (wcs l) (i * 8) = true := by
 have g := fun j hj => My l i j h hj
 have g0 := g 0 (by decide)
 rw [Nat.add_zero] at g0
 simp only [an, g0, g 1 (by decide), g 2 (by decide), g 3 (by decide), g 4 (by decide), g 5 (by decide), g 6 (by decide), g 7 (by decide), Nat.add_assoc, Nat.reduceAdd, isK, decide_true, Bool.and_self]
def IQ : List Int → List Pt → Pt → Pt
 | w :: ws, p :: ps, a => IQ ws ps (a.1 + w * p.1, a.2.1 + w * p.2.1, a.2.2 + w * p.2.2)
 | _, _, a => a
theorem Mz : ∀ (w : List Int) (l : List Pt) (a : Pt), w.length = l.length → IQ w l a = (a.1 + (bA w l).1, a.2.1 + (bA w l).2.1, a.2.2 + (bA w l).2.2)
 | [], [], a, _ => by simp [IQ, bA]
 | x :: w, p :: l, a, h => by
  rw [IQ, Mz w l _ (by simpa using h)]
  simp only [bA, Prod.mk.injEq]
  grind
 | [], _ :: _, _, h => by simp at h
 | _ :: _, [], _, h => by simp at h
abbrev p24 (p : Pt) : LA_ := wcs [p.1, p.2.1, p.2.2]
theorem MA {w : List Int} {l : List Pt} (hlen : w.length = l.length) (hok : aD l = true) (hw : ∀ z ∈ w, sm 190 z) (h4 : l.length ≤ 4) (D : LA_) : ∀ (n i : Nat) (a : Pt) (k : Nat), l.length - i = n → i ≤ l.length → PtB (230 + i) a →
  iter (gO (wcs w, w.length, D, 1, 1, pcs l, l.length, ((l.length : Nat) : Int))) (n + 1) (p24 a, (i : Int)) = some (p24 (IQ (w.drop i) (l.drop i) a))
 | 0, i, a, k, hn, hi, ha => by
  have he : i = l.length := by omega
  subst he
  refine cB 0 ?_
  rw [List.drop_length, ← hlen, List.drop_length, hlen]
  simp only [gO, d9, decide_eq_false (show ¬ ((l.length : Int) < ((l.length : Nat) : Int)) by omega), cond_false]
  rfl
 | n + 1, i, a, k, hn, hi, ha => by
  have h : i < l.length := by omega
  have hwi : i < w.length := by omega
  have hd : l.drop i = pat l i :: l.drop (i + 1) := by
   rw [List.drop_eq_getElem_cons h]; simp [pat, List.getD_eq_getElem?_getD, List.getElem?_eq_getElem h]
  have hdw : w.drop i = w.getD i 0 :: w.drop (i + 1) := by
   rw [List.drop_eq_getElem_cons hwi]; simp [List.getD_eq_getElem?_getD, List.getElem?_eq_getElem hwi]
  have wr : IntKind.wrap .i64 ((i : Int) + 1) = ((i + 1 : Nat) : Int) := by rw [bV (by omega)]; omega
  have hp := PtB.of (eh hok h)
  haveI : Sm 190 (w.getD i 0) := ⟨by
   rw [List.getD_eq_getElem?_getD, List.getElem?_eq_getElem hwi]
   exact hw _ (List.getElem_mem hwi)⟩
  haveI p1 : Sm 28 (pat l i).1 := ⟨hp.h.1⟩
  haveI p2 : Sm 28 (pat l i).2.1 := ⟨hp.h.2.1⟩
  haveI p3 : Sm 28 (pat l i).2.2 := ⟨hp.h.2.2⟩
  have hi3 : 230 + i ≤ 233 := by omega
  haveI a1 : Sm 233 a.1 := ⟨aW ha.h.1 hi3⟩
  haveI a2 : Sm 233 a.2.1 := ⟨aW ha.h.2.1 hi3⟩
  haveI a3 : Sm 233 a.2.2 := ⟨aW ha.h.2.2 hi3⟩
  have o1 : cOf (pat l i).1 = some (pat l i).1 := E4 (p1.rng (by decide))
  have o2 : cOf (pat l i).2.1 = some (pat l i).2.1 := E4 (p2.rng (by decide))
  have o3 : cOf (pat l i).2.2 = some (pat l i).2.2 := E4 (p3.rng (by decide))
  have key : gO (wcs w, w.length, D, 1, 1, pcs l, l.length, ((l.length : Nat) : Int)) (p24 a, (i : Int)) =
    some (.inl (p24 (a.1 + w.getD i 0 * (pat l i).1, a.2.1 + w.getD i 0 * (pat l i).2.1, a.2.2 + w.getD i 0 * (pat l i).2.2), ((i + 1 : Nat) : Int))) := by
   have dw : decide ((i : Int) < ((w.length : Nat) : Int)) = true := decLt hwi
   have w0 : ac (wcs w) (i * 8 + 0) = aa (w.getD i 0) 0 := wg hwi (by decide)
   have w1 : ac (wcs w) (i * 8 + 1) = aa (w.getD i 0) 1 := wg hwi (by decide)
   have w2 : ac (wcs w) (i * 8 + 2) = aa (w.getD i 0) 2 := wg hwi (by decide)
   have w3 : ac (wcs w) (i * 8 + 3) = aa (w.getD i 0) 3 := wg hwi (by decide)
   have w4 : ac (wcs w) (i * 8 + 4) = aa (w.getD i 0) 4 := wg hwi (by decide)
   have w5 : ac (wcs w) (i * 8 + 5) = aa (w.getD i 0) 5 := wg hwi (by decide)
   have w6 : ac (wcs w) (i * 8 + 6) = aa (w.getD i 0) 6 := wg hwi (by decide)
   have w7 : ac (wcs w) (i * 8 + 7) = aa (w.getD i 0) 7 := wg hwi (by decide)
   have s0 : ∀ x y z r : Int, spliced (wcs [x, y, z]) 0 [.int .u64 (aa r 0), .int .u64 (aa r 1), .int .u64 (aa r 2), .int .u64 (aa r 3), .int .u64 (aa r 4), .int .u64 (aa r 5), .int .u64 (aa r 6), .int .u64 (aa r 7)] = wcs [r, y, z] := fun _ _ _ _ => rfl
   have s8 : ∀ x y z r : Int, spliced (wcs [x, y, z]) 8 [.int .u64 (aa r 0), .int .u64 (aa r 1), .int .u64 (aa r 2), .int .u64 (aa r 3), .int .u64 (aa r 4), .int .u64 (aa r 5), .int .u64 (aa r 6), .int .u64 (aa r 7)] = wcs [x, r, z] := fun _ _ _ _ => rfl
   have s16 : ∀ x y z r : Int, spliced (wcs [x, y, z]) 16 [.int .u64 (aa r 0), .int .u64 (aa r 1), .int .u64 (aa r 2), .int .u64 (aa r 3), .int .u64 (aa r 4), .int .u64 (aa r 5), .int .u64 (aa r 6), .int .u64 (aa r 7)] = wcs [x, y, r] := fun _ _ _ _ => rfl
   have l24 : ∀ x y z : Int, List.length (wcs [x, y, z]) = 24 := fun _ _ _ => rfl
   have r0 : ∀ x y z : Int, an k8 (wcs [x, y, z]) 0 = true := fun x y z => wro (l := [x, y, z]) (i := 0) (by simp)
   have r8 : ∀ x y z : Int, an k8 (wcs [x, y, z]) 8 = true := fun x y z => wro (l := [x, y, z]) (i := 1) (by simp)
   have r16 : ∀ x y z : Int, an k8 (wcs [x, y, z]) 16 = true := fun x y z => wro (l := [x, y, z]) (i := 2) (by simp)
   have G0 : ∀ x y z : Int, ac (wcs [x, y, z]) 0 = aa x 0 := fun _ _ _ => rfl
   have G1 : ∀ x y z : Int, ac (wcs [x, y, z]) 1 = aa x 1 := fun _ _ _ => rfl
   have G2 : ∀ x y z : Int, ac (wcs [x, y, z]) 2 = aa x 2 := fun _ _ _ => rfl
   have G3 : ∀ x y z : Int, ac (wcs [x, y, z]) 3 = aa x 3 := fun _ _ _ => rfl
   have G4 : ∀ x y z : Int, ac (wcs [x, y, z]) 4 = aa x 4 := fun _ _ _ => rfl
   have G5 : ∀ x y z : Int, ac (wcs [x, y, z]) 5 = aa x 5 := fun _ _ _ => rfl
   have G6 : ∀ x y z : Int, ac (wcs [x, y, z]) 6 = aa x 6 := fun _ _ _ => rfl
   have G7 : ∀ x y z : Int, ac (wcs [x, y, z]) 7 = aa x 7 := fun _ _ _ => rfl
   have G8 : ∀ x y z : Int, ac (wcs [x, y, z]) 8 = aa y 0 := fun _ _ _ => rfl
   have G9 : ∀ x y z : Int, ac (wcs [x, y, z]) 9 = aa y 1 := fun _ _ _ => rfl
   have G10 : ∀ x y z : Int, ac (wcs [x, y, z]) 10 = aa y 2 := fun _ _ _ => rfl
   have G11 : ∀ x y z : Int, ac (wcs [x, y, z]) 11 = aa y 3 := fun _ _ _ => rfl
   have G12 : ∀ x y z : Int, ac (wcs [x, y, z]) 12 = aa y 4 := fun _ _ _ => rfl
   have G13 : ∀ x y z : Int, ac (wcs [x, y, z]) 13 = aa y 5 := fun _ _ _ => rfl
   have G14 : ∀ x y z : Int, ac (wcs [x, y, z]) 14 = aa y 6 := fun _ _ _ => rfl
   have G15 : ∀ x y z : Int, ac (wcs [x, y, z]) 15 = aa y 7 := fun _ _ _ => rfl
   have G16 : ∀ x y z : Int, ac (wcs [x, y, z]) 16 = aa z 0 := fun _ _ _ => rfl
   have G17 : ∀ x y z : Int, ac (wcs [x, y, z]) 17 = aa z 1 := fun _ _ _ => rfl
   have G18 : ∀ x y z : Int, ac (wcs [x, y, z]) 18 = aa z 2 := fun _ _ _ => rfl
   have G19 : ∀ x y z : Int, ac (wcs [x, y, z]) 19 = aa z 3 := fun _ _ _ => rfl
   have G20 : ∀ x y z : Int, ac (wcs [x, y, z]) 20 = aa z 4 := fun _ _ _ => rfl
   have G21 : ∀ x y z : Int, ac (wcs [x, y, z]) 21 = aa z 5 := fun _ _ _ => rfl
   have G22 : ∀ x y z : Int, ac (wcs [x, y, z]) 22 = aa z 6 := fun _ _ _ => rfl
   have G23 : ∀ x y z : Int, ac (wcs [x, y, z]) 23 = aa z 7 := fun _ _ _ => rfl
   have d8 : decide (0 + 8 ≤ 24) = true := rfl
   have d16 : decide (8 + 8 ≤ 24) = true := rfl
   have d24 : decide (16 + 8 ≤ 24) = true := rfl
   have wro' := wro hwi
   simp (disch := decide) only [gO, d9, decLt h, fk, dw, cond_true, Bool.and_self, aA, fZ, pro h, pg0 h, pg1 h, pg2 h, o1, o2, o3, Option.bind_some, wr, w0, w1, w2, w3, w4, w5, w6, w7, wro',
    s0, s8, s16, l24, r0, r8, r16, d8, d16, d24, AM, S6, G0, G1, G2, G3, G4, G5, G6, G7, G8, G9, G10, G11, G12, G13, G14, G15, G16, G17, G18, G19, G20, G21, G22, G23]
  refine bN key ?_
  have ha' : PtB (230 + (i + 1)) (a.1 + w.getD i 0 * (pat l i).1, a.2.1 + w.getD i 0 * (pat l i).2.1, a.2.2 + w.getD i 0 * (pat l i).2.2) := by
   have q : ∀ {x y : Int}, sm (230 + i) x → sm 28 y → sm (230 + (i + 1)) (x + w.getD i 0 * y) := by
    intro x y hx hy
    exact lJ hx (aW (cT (Sm.h (z := w.getD i 0)) hy) (Nat.le_trans (show 190 + 28 ≤ 230 by decide) (Nat.le_add_right _ _)))
   exact ⟨q ha.h.1 hp.h.1, q ha.h.2.1 hp.h.2.1, q ha.h.2.2 hp.h.2.2⟩
  have ih := MA hlen hok hw h4 D n (i + 1) _ k (by omega) (by omega) ha'
  rw [ih, hd, hdw]
  rfl
def OR (g x h : Int) : Prop := 0 < h ∧ h ∣ g ∧ h ∣ x ∧ ∀ e, e ∣ g → e ∣ x → e ∣ h
theorem Un {x : Int} (hx : fit x) : (aa x 0 == 0 && (aa x 1 == 0 && (aa x 2 == 0 && (aa x 3 == 0 && (aa x 4 == 0 && (aa x 5 == 0 && (aa x 6 == 0 && (aa x 7 == 0 && true)))))))) = decide (x = 0) := by
 have h := JT hx zN
 simp only [f0] at h
 exact h
theorem Uo (cc : LA_ × Nat × LA_ × Nat × Nat × Nat × Int × Int × Int × Int × Int × Int × Int × Int × Int × Int × Int × Int × Int × Int × Int × Int × Int × Int × Int × Int × Int × Int × Int × Int × Int) :
  ∀ (k : Nat) (g x : Int), 0 < g → fit g → 0 ≤ x → fit x → x < ((2 ^ k : Nat) : Int) → ∃ h, OR g x h ∧ h ≤ g ∧ iter (eN cc) (2 * k + 1) (wcs [g], wcs [x]) = some (wcs [h]) := by
 have ends : ∀ (g : Int) (n : Nat), iter (eN cc) (n + 1) (wcs [g], wcs [0]) = some (wcs [g]) := by
  intro g n
  refine cB n ?_
  have r0 : an k8 (wcs [0]) 0 = true := wro (l := [0]) (i := 0) (by simp)
  have e0 : (!((ac (wcs [(0 : Int)]) 0) == 0 && ((ac (wcs [(0 : Int)]) 1) == 0 && ((ac (wcs [(0 : Int)]) 2) == 0 && ((ac (wcs [(0 : Int)]) 3) == 0 && ((ac (wcs [(0 : Int)]) 4) == 0 && ((ac (wcs [(0 : Int)]) 5) == 0 && ((ac (wcs [(0 : Int)]) 6) == 0 && ((ac (wcs [(0 : Int)]) 7) == 0 && true))))))))) = false := by
   have := Un zN
   rw [decide_eq_true rfl] at this
   exact congrArg (fun b => !b) this
  simp only [eN, dH, r0, aA, e0, cond_false]
 have next : ∀ {g x : Int}, fit g → fit x → x ≠ 0 → fit (g.fdiv x) → eN cc (wcs [g], wcs [x]) = some (.inl (wcs [x], wcs [g.fmod x])) := by
  intro g x hg hx h0 hd
  have r0 : ∀ z : Int, an k8 (wcs [z]) 0 = true := fun z => wro (l := [z]) (i := 0) (by simp)
  have e0 : (!((ac (wcs [x]) 0) == 0 && ((ac (wcs [x]) 1) == 0 && ((ac (wcs [x]) 2) == 0 && ((ac (wcs [x]) 3) == 0 && ((ac (wcs [x]) 4) == 0 && ((ac (wcs [x]) 5) == 0 && ((ac (wcs [x]) 6) == 0 && ((ac (wcs [x]) 7) == 0 && true))))))))) = true := by
   have := Un hx
   rw [decide_eq_false h0] at this
   exact congrArg (fun b => !b) this
  have q : v4 (ac (wcs [g]) 0) (ac (wcs [g]) 1) (ac (wcs [g]) 2) (ac (wcs [g]) 3) (ac (wcs [g]) 4) (ac (wcs [g]) 5) (ac (wcs [g]) 6) (ac (wcs [g]) 7) (ac (wcs [x]) 0) (ac (wcs [x]) 1) (ac (wcs [x]) 2) (ac (wcs [x]) 3) (ac (wcs [x]) 4) (ac (wcs [x]) 5) (ac (wcs [x]) 6) (ac (wcs [x]) 7) = some (g.fdiv x, g.fmod x) := NE hg hx h0 hd
  have l8 : ∀ z : Int, decide (0 + 8 ≤ List.length (wcs [z])) = true := fun _ => rfl
  simp only [eN, dH, r0, aA, e0, cond_true, q, Option.bind_some, l8]
  rfl
 have fitle : ∀ {a b : Int}, fit b → 0 ≤ a → a ≤ b → fit a := by
  intro a b hb h0 h1
  unfold fit at *
  omega
 have fdiv_fit : ∀ {g x : Int}, fit g → 0 < g → 0 < x → fit (g.fdiv x) := by
  intro g x hg h1 h2
  have e : g.fdiv x = g / x := Int.fdiv_eq_ediv_of_nonneg _ (by omega)
  rw [e]
  exact fitle hg (Int.ediv_nonneg (by omega) (by omega)) (Int.ediv_le_self _ (by omega))
 have fm : ∀ {g x : Int}, 0 < x → g.fmod x = g % x := fun {g x} h => Int.fmod_eq_emod_of_nonneg _ (by omega)
 intro k
 induction k with
 | zero =>
  intro g x hg hfg h0 hx hlt
  obtain rfl : x = 0 := by simp at hlt; omega
  exact ⟨g, ⟨hg, Int.dvd_refl _, Int.dvd_zero _, fun e h _ => h⟩, Int.le_refl _, ends g 0⟩
 | succ k ih =>
  intro g x hg hfg h0 hx hlt
  by_cases hx0 : x = 0
  ·subst hx0
   exact ⟨g, ⟨hg, Int.dvd_refl _, Int.dvd_zero _, fun e h _ => h⟩, Int.le_refl _, ends g _⟩
  ·have hxp : 0 < x := by omega
   have n1 := next hfg hx hx0 (fdiv_fit hfg hg hxp)
   rw [fm hxp] at n1
   have r1 := Int.emod_nonneg g hx0
   have r2 := Int.emod_lt_of_pos g hxp
   have dg : x * (g / x) + g % x = g := Int.mul_ediv_add_emod g x
   have hle : x ≤ g ∨ g < x := by omega
   generalize hr : g % x = r at *
   by_cases hr0 : r = 0
   ·subst hr0
    refine ⟨x, ⟨hxp, Int.dvd_of_emod_eq_zero hr, Int.dvd_refl _, fun e _ h => h⟩, ?_, ?_⟩
    ·rcases hle with h | h
     ·exact h
     ·exfalso
      have : g % x = g := Int.emod_eq_of_lt (by omega) h
      omega
    ·rw [show 2 * (k + 1) + 1 = (2 * k + 1 + 1) + 1 by omega]
     exact bN n1 (ends x _)
   ·have hrp : 0 < r := by omega
    have hfr := fitle hx (by omega) (Int.le_of_lt r2)
    have n2 := next hx hfr (by omega) (fdiv_fit hx hxp hrp)
    rw [fm hrp] at n2
    have s1 := Int.emod_nonneg x (show r ≠ 0 by omega)
    have s2 := Int.emod_lt_of_pos x hrp
    have dx : r * (x / r) + x % r = x := Int.mul_ediv_add_emod x r
    have q1 : 1 ≤ x / r := (Int.le_ediv_iff_mul_le hrp).2 (by omega)
    have q2 : r * 1 ≤ r * (x / r) := Int.mul_le_mul_of_nonneg_left q1 (by omega)
    generalize hs : x % r = s at *
    have hs2 : s < ((2 ^ k : Nat) : Int) := by
     rw [Nat.pow_succ] at hlt
     omega
    obtain ⟨h, ⟨h1, h2, h3, h4⟩, h5, h6⟩ := ih r s hrp hfr (by omega) (fitle hfr (by omega) (by omega)) hs2
    have hxd : h ∣ x := by rw [← dx]; exact Int.dvd_add (Int.dvd_mul_of_dvd_left h2) h3
    have hgd : h ∣ g := by rw [← dg]; exact Int.dvd_add (Int.dvd_mul_of_dvd_left hxd) h2
    refine ⟨h, ⟨h1, hgd, hxd, fun e eg ex => ?_⟩, Int.le_of_dvd hg hgd, ?_⟩
    ·have er : e ∣ r := by
      have : r = g - x * (g / x) := by omega
      rw [this]; exact Int.dvd_sub eg (Int.dvd_mul_of_dvd_left ex)
     have es : e ∣ s := by
      have : s = x - r * (x / r) := by omega
      rw [this]; exact Int.dvd_sub ex (Int.dvd_mul_of_dvd_left er)
     exact h4 e er es
    ·rw [show 2 * (k + 1) + 1 = (2 * k + 1 + 1) + 1 by omega]
     exact bN n1 (bN n2 h6)
theorem Sf (cc : LA_ × Nat × LA_ × Nat × Nat × Nat × Int × Int × Int × Int × Int × Int × Int × Int × Int × Int × Int × Int × Int × Int × Int × Int × Int × Int × Int × Int × Int × Int × Int × Int × Int)
  {g x : Int} (hg : 0 < g) (hfg : fit g) (h0 : 0 ≤ x) (hx : fit x) : ∃ h, OR g x h ∧ h ≤ g ∧ gP cc (wcs [g], wcs [x]) = some (wcs [h]) := by
 have hlt : ∀ k, k = 255 → x < ((2 ^ (k + 1 + k) : Nat) : Int) := by
  rintro k hk
  rw [Nat.pow_add, Nat.pow_succ, hk]
  unfold fit at hx
  omega
 obtain ⟨h, h1, h2, h3⟩ := Uo cc _ g x hg hfg h0 hx (hlt 255 rfl)
 exact ⟨h, h1, h2, dI (by unfold me; decide) h3⟩
abbrev OS (n : Pt) (d : Int) : LA_ × Nat × LA_ × Nat × Nat × Int × Int × Int × Int × Int × Int × Int × Int × Int × Int × Int × Int × Int × Int × Int × Int × Int × Int × Int × Int × Int × Int × Int × Int :=
 (wcs [d], 1, p24 n, 1, 1, aa n.1 0, aa n.1 1, aa n.1 2, aa n.1 3, aa n.1 4, aa n.1 5, aa n.1 6, aa n.1 7, aa n.2.1 0, aa n.2.1 1, aa n.2.1 2, aa n.2.1 3, aa n.2.1 4, aa n.2.1 5, aa n.2.1 6, aa n.2.1 7, aa n.2.2 0, aa n.2.2 1, aa n.2.2 2, aa n.2.2 3, aa n.2.2 4, aa n.2.2 5, aa n.2.2 6, aa n.2.2 7)
abbrev OT (n : Pt) (d i : Int) : LA_ × Nat × LA_ × Nat × Nat × Nat × Int × Int × Int × Int × Int × Int × Int × Int × Int × Int × Int × Int × Int × Int × Int × Int × Int × Int × Int × Int × Int × Int × Int × Int × Int :=
 (wcs [d], 1, p24 n, 1, 1, 1, aa n.1 0, aa n.1 1, aa n.1 2, aa n.1 3, aa n.1 4, aa n.1 5, aa n.1 6, aa n.1 7, aa n.2.1 0, aa n.2.1 1, aa n.2.1 2, aa n.2.1 3, aa n.2.1 4, aa n.2.1 5, aa n.2.1 6, aa n.2.1 7, aa n.2.2 0, aa n.2.2 1, aa n.2.2 2, aa n.2.2 3, aa n.2.2 4, aa n.2.2 5, aa n.2.2 6, aa n.2.2 7, i)
theorem OU {n : Pt} {d g c i j : Int} {V : LA_ × Int} (hg : 0 < g) (hfg : fit g) (hc : Sm 240 c)
  (e : jp (OS n d) V = Option.bind (OV c) fun r => cond (decide (r < 0)) (Option.bind (gI c) fun r1 => Option.bind (gP (OT n d i) (wcs [g], wcs [r1])) fun e => some (.inl (e, j)))
   (Option.bind (gP (OT n d i) (wcs [g], wcs [c])) fun e => some (.inl (e, j)))) : ∃ h, OR g c h ∧ h ≤ g ∧ jp (OS n d) V = some (.inl (wcs [h], j)) := by
 have hf : fit c := Sm.fit (by decide)
 have hf' : fit (-c) := Sm.fit (by decide)
 rw [e, Rh hf, Option.bind_some]
 by_cases h : c < 0
 ·have : decide (sgn c < 0) = true := by simp [sgn, h]
  rw [this, cond_true, P3 (by decide), Option.bind_some]
  obtain ⟨q, h1, h2, h3⟩ := Sf (OT n d i) hg hfg (x := -c) (by omega) hf'
  rw [h3]
  refine ⟨q, ⟨h1.1, h1.2.1, (Int.dvd_neg).1 h1.2.2.1, fun e a b => h1.2.2.2 e a ((Int.dvd_neg).2 b)⟩, h2, rfl⟩
 ·have : decide (sgn c < 0) = false := by
   unfold sgn
   rw [decide_eq_false h, cond_false]
   by_cases h0 : c = 0
   ·rw [decide_eq_true h0]; rfl
   ·rw [decide_eq_false h0]; rfl
  rw [this, cond_false]
  obtain ⟨q, h1, h2, h3⟩ := Sf (OT n d i) hg hfg (x := c) (by omega) hf
  rw [h3]
  exact ⟨q, h1, h2, rfl⟩
theorem U3 {n : Pt} {d : Int} (hn : PtB 240 n) (hd : 0 < d) (hfd : fit d) : ∃ g, (0 < g ∧ g ∣ d ∧ g ∣ n.1 ∧ g ∣ n.2.1 ∧ g ∣ n.2.2 ∧ ∀ e, e ∣ d → e ∣ n.1 → e ∣ n.2.1 → e ∣ n.2.2 → e ∣ g) ∧ g ≤ d ∧ oH (OS n d) (wcs [d], 0) = some (wcs [g]) := by
 have fl : ∀ {a : Int}, 0 < a → a ≤ d → fit a := by intro a h1 h2; unfold fit at *; omega
 obtain ⟨g1, a1, b1, c1⟩ := OU (n := n) (d := d) (g := d) (c := n.1) (i := 0) (j := 1) (V := (wcs [d], 0)) hd hfd ⟨hn.h.1⟩ (by kernel_rfl)
 obtain ⟨g2, a2, b2, c2⟩ := OU (n := n) (d := d) (g := g1) (c := n.2.1) (i := 1) (j := 2) (V := (wcs [g1], 1)) a1.1 (fl a1.1 b1) ⟨hn.h.2.1⟩ (by kernel_rfl)
 obtain ⟨g3, a3, b3, c3⟩ := OU (n := n) (d := d) (g := g2) (c := n.2.2) (i := 2) (j := 3) (V := (wcs [g2], 2)) a2.1 (fl a2.1 (by omega)) ⟨hn.h.2.2⟩ (by kernel_rfl)
 have fin : jp (OS n d) (wcs [g3], 3) = some (.inr (wcs [g3])) := by kernel_rfl
 refine ⟨g3, ⟨a3.1, ?_, ?_, ?_, a3.2.2.1, fun e h1 h2 h3 h4 => a3.2.2.2 e (a2.2.2.2 e (a1.2.2.2 e h1 h2) h3) h4⟩, by omega, ?_⟩
 ·exact Int.dvd_trans a3.2.1 (Int.dvd_trans a2.2.1 a1.2.1)
 ·exact Int.dvd_trans a3.2.1 (Int.dvd_trans a2.2.1 a1.2.2.1)
 ·exact Int.dvd_trans a3.2.1 a2.2.2.1
 ·exact dI (n := 4) (by unfold me; decide) (bN c1 (bN c2 (bN c3 (cB 0 fin))))
theorem Vq {a g : Int} (ha : fit a) (hg : fit g) (h0 : g ≠ 0) (hd : fit (a.fdiv g)) : pM a g = some (a.fdiv g) := by
 have q : iA (aa a 0) (aa a 1) (aa a 2) (aa a 3) (aa a 4) (aa a 5) (aa a 6) (aa a 7) (aa g 0) (aa g 1) (aa g 2) (aa g 3) (aa g 4) (aa g 5) (aa g 6) (aa g 7) = some (t8 (a.fdiv g)) := by
  unfold iA
  rw [show v4 (aa a 0) (aa a 1) (aa a 2) (aa a 3) (aa a 4) (aa a 5) (aa a 6) (aa a 7) (aa g 0) (aa g 1) (aa g 2) (aa g 3) (aa g 4) (aa g 5) (aa g 6) (aa g 7) = some (a.fdiv g, a.fmod g) from NE ha hg h0 hd]
  rfl
 unfold pM bH
 rw [q]
 simp only [t8, Option.bind_some, bv, aA]
 rw [aG hd]
structure Prim (n : Pt) (d : Int) (N : Pt) (D : Int) : Prop where
 ex : ∃ g, 0 < g ∧ n = (g * N.1, g * N.2.1, g * N.2.2) ∧ d = g * D
 one : ∀ e, e ∣ N.1 → e ∣ N.2.1 → e ∣ N.2.2 → e ∣ D → e ∣ 1
theorem U4 {w : List Int} {l : List Pt} {d : Int} (hlen : w.length = l.length) (hok : aD l = true) (hw : ∀ z ∈ w, sm 190 z) (h4 : l.length ≤ 4) (hd : 0 < d) (hfd : sm 190 d) :
  ∃ N D, Prim (bA w l) d N D ∧ uT (pcs l) l.length (wcs w) w.length d = some (N.1, N.2.1, N.2.2, D) := by
 have hL := MA hlen hok hw h4 (wcs [d]) l.length 0 (0, 0, 0) 0 (by omega) (by omega) ⟨⟨nY, nY, nY⟩⟩
 rw [List.drop_zero, List.drop_zero, Mz _ _ _ hlen] at hL
 simp only [Int.zero_add] at hL
 have hL3 : pL (wcs w, w.length, wcs [d], 1, 1, pcs l, l.length, ((l.length : Nat) : Int)) (p24 (0, 0, 0), 0) = some (p24 (bA w l)) := dI (by unfold me; omega) hL
 have hn : PtB 240 (bA w l) := by
  have key : ∀ (w : List Int) (l : List Pt) (k : Nat), w.length = l.length → aD l = true → (∀ z ∈ w, sm 190 z) → l.length ≤ k → PtB (218 + k) (bA w l) := by
   intro w
   induction w with
   | nil => intro l k _ _ _ _; cases l <;> exact ⟨⟨nY, nY, nY⟩⟩
   | cons x w ih =>
    intro l k hl ho hw hk
    cases l with
    | nil => simp at hl
    | cons p l =>
     simp only [aQ] at ho
     cases k with
     | zero => simp at hk
     | succ k =>
      have h1 := ih l k (by simpa using hl) ho.2 (fun z hz => hw z (by simp [hz])) (by simpa using hk)
      have hp := PtB.of ho.1
      have hx := hw x (by simp)
      have q : ∀ {u v : Int}, sm 28 u → sm (218 + k) v → sm (218 + (k + 1)) (x * u + v) := fun {u v} hu hv => lJ (aW (cT hx hu) (Nat.le_add_right 218 k)) hv
      exact ⟨⟨q hp.h.1 h1.h.1, q hp.h.2.1 h1.h.2.1, q hp.h.2.2 h1.h.2.2⟩⟩
  have h := key w l l.length hlen hok hw (Nat.le_refl _)
  exact ⟨⟨aW h.h.1 (by omega), aW h.h.2.1 (by omega), aW h.h.2.2 (by omega)⟩⟩
 generalize bA w l = n at *
 obtain ⟨g, ⟨g0, g1, g2, g3, g4, g5⟩, g6, hL13⟩ := U3 hn hd (aY hfd (by decide))
 have fg : fit g := aY (a := 190) (by unfold sm at *; omega) (by decide)
 have dv : ∀ {a : Int}, sm 240 a → g ∣ a → ∃ q, a = g * q ∧ pM a g = some q := by
  rintro a ha ⟨q, rfl⟩
  have e : (g * q).fdiv g = q := by rw [Int.mul_comm]; exact Int.mul_fdiv_cancel _ (by omega)
  have fq : fit q := by
   refine aY (a := 240) ?_ (by decide)
   unfold sm at *
   rcases Int.le_total 0 q with h | h
   ·have : 1 * q ≤ g * q := Int.mul_le_mul_of_nonneg_right (by omega) h
    omega
   ·have : g * q ≤ 1 * q := Int.mul_le_mul_of_nonpos_right (by omega) h
    omega
  exact ⟨q, rfl, by have := Vq (aY ha (by decide)) fg (by omega) (by rw [e]; exact fq); rwa [e] at this⟩
 obtain ⟨x, x1, x2⟩ := dv hn.h.1 g2
 obtain ⟨y, y1, y2⟩ := dv hn.h.2.1 g3
 obtain ⟨z, z1, z2⟩ := dv hn.h.2.2 g4
 obtain ⟨D, d1, d2⟩ := dv (aW hfd (by decide)) g1
 refine ⟨(x, y, z), D, ⟨⟨g, g0, by rw [← x1, ← y1, ← z1], d1⟩, fun e h1 h2 h3 h4 => ?_⟩, ?_⟩
 ·obtain ⟨q, hq⟩ := g5 (g * e) (by rw [d1]; exact Int.mul_dvd_mul_left g h4) (by rw [x1]; exact Int.mul_dvd_mul_left g h1) (by rw [y1]; exact Int.mul_dvd_mul_left g h2) (by rw [z1]; exact Int.mul_dvd_mul_left g h3)
  refine ⟨q, Int.eq_of_mul_eq_mul_left (show g ≠ 0 by omega) ?_⟩
  rw [Int.mul_one, ← Int.mul_assoc]
  exact hq
 have sq : ∀ {a q : Int}, sm 240 a → a = g * q → fit q := by
  intro a q ha e
  refine aY (a := 240) ?_ (by decide)
  subst e
  unfold sm at *
  rcases Int.le_total 0 q with h | h
  ·have : 1 * q ≤ g * q := Int.mul_le_mul_of_nonneg_right (by omega) h
   omega
  ·have : g * q ≤ 1 * q := Int.mul_le_mul_of_nonpos_right (by omega) h
   omega
 have key : uT (pcs l) l.length (wcs w) w.length d = Option.bind (pL (wcs w, w.length, wcs [d], 1, 1, pcs l, l.length, ((l.length : Nat) : Int)) (p24 (0, 0, 0), 0)) fun e1 => Option.bind (dJ (pcs l) l.length (wcs w) w.length (aa d 0) (aa d 1) (aa d 2) (aa d 3) (aa d 4) (aa d 5) (aa d 6) (aa d 7)) some := by
  rw [hL3, Option.bind_some]
  show dJ _ _ _ _ _ _ _ _ _ _ _ _ = _
  cases dJ (pcs l) l.length (wcs w) w.length (aa d 0) (aa d 1) (aa d 2) (aa d 3) (aa d 4) (aa d 5) (aa d 6) (aa d 7) <;> rfl
 have F : lG (pcs l) l.length (wcs w) w.length (aa d 0) (aa d 1) (aa d 2) (aa d 3) (aa d 4) (aa d 5) (aa d 6) (aa d 7) = some (aa x 0, aa x 1, aa x 2, aa x 3, aa x 4, aa x 5, aa x 6, aa x 7, aa y 0, aa y 1, aa y 2, aa y 3, aa y 4, aa y 5, aa y 6, aa y 7, aa z 0, aa z 1, aa z 2, aa z 3, aa z 4, aa z 5, aa z 6, aa z 7, aa D 0, aa D 1, aa D 2, aa D 3, aa D 4, aa D 5, aa D 6, aa D 7) := by
  have z24 : (([.int .u64 0, .int .u64 0, .int .u64 0, .int .u64 0, .int .u64 0, .int .u64 0, .int .u64 0, .int .u64 0, .int .u64 0, .int .u64 0, .int .u64 0, .int .u64 0, .int .u64 0, .int .u64 0, .int .u64 0, .int .u64 0, .int .u64 0, .int .u64 0, .int .u64 0, .int .u64 0, .int .u64 0, .int .u64 0, .int .u64 0, .int .u64 0] : LA_)) = p24 (0, 0, 0) := by simp only [wcs, f0]
  unfold lG
  unfold v8 aZ
  rw [z24]
  rw [show ([.int .u64 (aa d 0), .int .u64 (aa d 1), .int .u64 (aa d 2), .int .u64 (aa d 3), .int .u64 (aa d 4), .int .u64 (aa d 5), .int .u64 (aa d 6), .int .u64 (aa d 7)] : LA_) = wcs [d] from rfl, hL3, Option.bind_some]
  have r24 : an VB (p24 n) 0 = true := rfl
  have r0 : an k8 (p24 n) 0 = true := rfl
  have r8 : an k8 (p24 n) 8 = true := rfl
  have r16 : an k8 (p24 n) 16 = true := rfl
  have rg : (an k8 (wcs [g]) 0 && Nat.beq (List.length (wcs [g])) 8) = true := rfl
  have hL13' : oH (wcs [d], 1, p24 n, 1, 1, ac (p24 n) 0, ac (p24 n) 1, ac (p24 n) 2, ac (p24 n) 3, ac (p24 n) 4, ac (p24 n) 5, ac (p24 n) 6, ac (p24 n) 7, ac (p24 n) 8, ac (p24 n) 9, ac (p24 n) 10, ac (p24 n) 11, ac (p24 n) 12, ac (p24 n) 13, ac (p24 n) 14, ac (p24 n) 15, ac (p24 n) 16, ac (p24 n) 17, ac (p24 n) 18, ac (p24 n) 19, ac (p24 n) 20, ac (p24 n) 21, ac (p24 n) 22, ac (p24 n) 23) (wcs [d], 0) = some (wcs [g]) := hL13
  rw [r24, aA, hL13', Option.bind_some, r0, aA, rg, aA]
  rw [show bH (ac (p24 n) 0) (ac (p24 n) 1) (ac (p24 n) 2) (ac (p24 n) 3) (ac (p24 n) 4) (ac (p24 n) 5) (ac (p24 n) 6) (ac (p24 n) 7) (ac (wcs [g]) 0) (ac (wcs [g]) 1) (ac (wcs [g]) 2) (ac (wcs [g]) 3) (ac (wcs [g]) 4) (ac (wcs [g]) 5) (ac (wcs [g]) 6) (ac (wcs [g]) 7) = some x from x2, Option.bind_some, r8, aA, aA]
  rw [show bH (ac (p24 n) 8) (ac (p24 n) 9) (ac (p24 n) 10) (ac (p24 n) 11) (ac (p24 n) 12) (ac (p24 n) 13) (ac (p24 n) 14) (ac (p24 n) 15) (ac (wcs [g]) 0) (ac (wcs [g]) 1) (ac (wcs [g]) 2) (ac (wcs [g]) 3) (ac (wcs [g]) 4) (ac (wcs [g]) 5) (ac (wcs [g]) 6) (ac (wcs [g]) 7) = some y from y2, Option.bind_some, r16, aA, aA]
  rw [show bH (ac (p24 n) 16) (ac (p24 n) 17) (ac (p24 n) 18) (ac (p24 n) 19) (ac (p24 n) 20) (ac (p24 n) 21) (ac (p24 n) 22) (ac (p24 n) 23) (ac (wcs [g]) 0) (ac (wcs [g]) 1) (ac (wcs [g]) 2) (ac (wcs [g]) 3) (ac (wcs [g]) 4) (ac (wcs [g]) 5) (ac (wcs [g]) 6) (ac (wcs [g]) 7) = some z from z2, Option.bind_some, aA]
  rw [show bH (aa d 0) (aa d 1) (aa d 2) (aa d 3) (aa d 4) (aa d 5) (aa d 6) (aa d 7) (ac (wcs [g]) 0) (ac (wcs [g]) 1) (ac (wcs [g]) 2) (ac (wcs [g]) 3) (ac (wcs [g]) 4) (ac (wcs [g]) 5) (ac (wcs [g]) 6) (ac (wcs [g]) 7) = some D from d2, Option.bind_some]
 show dJ _ _ _ _ _ _ _ _ _ _ _ _ = _
 unfold dJ
 rw [F]
 simp only [Option.bind_some, bv, Bool.and_self, aA]
 rw [aG (sq hn.h.1 x1), aG (sq hn.h.2.1 y1), aG (sq hn.h.2.2 z1), aG (sq (aW hfd (by decide)) d1)]
def CU : CH := (CH.add 78 Dz (CH.add 66 tb CH.none))
theorem zw : aE Tryz.prog CU := (CH.aj DA (CH.aj ra CH.aC))
def iy (a0 a1 a2 a3 a4 a5 a6 a7 a8 a9 a10 a11 a12 a13 a14 a15 a16 a17 a18 a19 a20 a21 a22 a23 : Int) : Option (Int × Int × Int × Int × Int × Int × Int × Int) :=
 (Option.bind (jP a0 a1 a2 a3 a4 a5 a6 a7 a0 a1 a2 a3 a4 a5 a6 a7) fun r1 => (Option.bind (jP a8 a9 a10 a11 a12 a13 a14 a15 a8 a9 a10 a11 a12 a13 a14 a15) fun r2 => (Option.bind (zx r1 r2) fun r3 => (Option.bind (jP a16 a17 a18 a19 a20 a21 a22 a23 a16 a17 a18 a19 a20 a21 a22 a23) fun r4 => (Option.bind (zx r3 r4) fun r5 => (some ((aa r5 0), (aa r5 1), (aa r5 2), (aa r5 3), (aa r5 4), (aa r5 5), (aa r5 6), (aa r5 7))))))))
def cW : FD where
 X := Int × Int × Int × Int × Int × Int × Int × Int
 k := 0
 pre := []
 F := fun s => []
 M := .agg (rl (.int .u64) 8 [])
 B := []
 toL := fun x => [.I x.1, .I x.2.1, .I x.2.2.1, .I x.2.2.2.1, .I x.s4.1, .I x.s4.2.1, .I x.s4.2.2.1, .I x.s4.2.2.2]
 ofL := fun ls => match ls with
  | [.I x0, .I x1, .I x2, .I x3, .I x4, .I x5, .I x6, .I x7] => some (x0, x1, x2, x3, x4, x5, x6, x7)
  | _ => none
 au := fun ls x h => by
  split at h
  ·cases h; rfl
  ·cases h
theorem Bk (a0 a1 a2 a3 a4 a5 a6 a7 a8 a9 a10 a11 a12 a13 a14 a15 a16 a17 a18 a19 a20 a21 a22 a23 : Int) (x : Int × Int × Int × Int × Int × Int × Int × Int) (h : iy a0 a1 a2 a3 a4 a5 a6 a7 a8 a9 a10 a11 a12 a13 a14 a15 a16 a17 a18 a19 a20 a21 a22 a23 = some x) : aX Tryz.prog 67 0 [.agg (v8 a0 a1 a2 a3 a4 a5 a6 a7 (v8 a8 a9 a10 a11 a12 a13 a14 a15 (v8 a16 a17 a18 a19 a20 a21 a22 a23 [])))] [] cW x :=
 FD.semA cW zw Tryz.func67 (fuel := 60) (by kernel_rfl) (by kernel_rfl)
  (by kernel_rfl) (Eq.trans (by kernel_rfl) h)
def eJ (a0 a1 a2 a3 a4 a5 a6 a7 a8 a9 a10 a11 a12 a13 a14 a15 a16 a17 a18 a19 a20 a21 a22 a23 : Int) : Option (Int) := Option.bind (iy a0 a1 a2 a3 a4 a5 a6 a7 a8 a9 a10 a11 a12 a13 a14 a15 a16 a17 a18 a19 a20 a21 a22 a23) fun (x0, x1, x2, x3, x4, x5, x6, x7) => ag (ok8 x0 x1 x2 x3 x4 x5 x6 x7) (some (num x0 x1 x2 x3 x4 x5 x6 x7))
def mU : FD := ⟨Int, cW.k, cW.pre, cW.F, cW.M, cW.B, fun y => cW.toL ((aa y 0), (aa y 1), (aa y 2), (aa y 3), (aa y 4), (aa y 5), (aa y 6), (aa y 7)), fun _ => none, fun _ _ h => by cases h⟩
theorem CV (a0 a1 a2 a3 a4 a5 a6 a7 a8 a9 a10 a11 a12 a13 a14 a15 a16 a17 a18 a19 a20 a21 a22 a23 : Int) {y : Int} (h : eJ a0 a1 a2 a3 a4 a5 a6 a7 a8 a9 a10 a11 a12 a13 a14 a15 a16 a17 a18 a19 a20 a21 a22 a23 = some y) : iy a0 a1 a2 a3 a4 a5 a6 a7 a8 a9 a10 a11 a12 a13 a14 a15 a16 a17 a18 a19 a20 a21 a22 a23 = some ((aa y 0), (aa y 1), (aa y 2), (aa y 3), (aa y 4), (aa y 5), (aa y 6), (aa y 7)) := by
 unfold eJ at h
 obtain ⟨⟨x0, x1, x2, x3, x4, x5, x6, x7⟩, h1, h2⟩ := bE_ h
 obtain ⟨h3, h4⟩ := aM h2
 skip
 simp only [Option.some.injEq] at h4
 subst h4
 have o0 := h3
 have q0 := aR o0
 rw [h1]
 simp only [q0]
theorem Bl (a0 a1 a2 a3 a4 a5 a6 a7 a8 a9 a10 a11 a12 a13 a14 a15 a16 a17 a18 a19 a20 a21 a22 a23 y : Int) (h : eJ a0 a1 a2 a3 a4 a5 a6 a7 a8 a9 a10 a11 a12 a13 a14 a15 a16 a17 a18 a19 a20 a21 a22 a23 = some y) : aX Tryz.prog 67 0 [.agg (v8 a0 a1 a2 a3 a4 a5 a6 a7 (v8 a8 a9 a10 a11 a12 a13 a14 a15 (v8 a16 a17 a18 a19 a20 a21 a22 a23 [])))] [] mU y := Bk a0 a1 a2 a3 a4 a5 a6 a7 a8 a9 a10 a11 a12 a13 a14 a15 a16 a17 a18 a19 a20 a21 a22 a23 _ (CV a0 a1 a2 a3 a4 a5 a6 a7 a8 a9 a10 a11 a12 a13 a14 a15 a16 a17 a18 a19 a20 a21 a22 a23 h)
def pJ : HK where
 call := fun args σ k => match args with
  | [.agg [.int .u64 a0, .int .u64 a1, .int .u64 a2, .int .u64 a3, .int .u64 a4, .int .u64 a5, .int .u64 a6, .int .u64 a7, .int .u64 a8, .int .u64 a9, .int .u64 a10, .int .u64 a11, .int .u64 a12, .int .u64 a13, .int .u64 a14, .int .u64 a15, .int .u64 a16, .int .u64 a17, .int .u64 a18, .int .u64 a19, .int .u64 a20, .int .u64 a21, .int .u64 a22, .int .u64 a23]] => Option.bind (eJ a0 a1 a2 a3 a4 a5 a6 a7 a8 a9 a10 a11 a12 a13 a14 a15 a16 a17 a18 a19 a20 a21 a22 a23) fun y => az σ 0 (mU.val y) (mU.aN y) k
  | _ => none
 nat := fun args σ k => by
  repeat' split
  all_goals simp only [aw, ax, Option.bind_assoc, Option.bind_none, az, Option.bind_some]
 pure := true
 pok := fun _ args σ r σ' h => by
  split at h
  ·exact bm h (fun y => rfl) (fun y f => rfl)
  ·cases h
theorem CT : aT Tryz.prog 67 pJ := by
 intro args σ r σ' h
 simp only [pJ] at h
 split at h
 ·rename_i a0 a1 a2 a3 a4 a5 a6 a7 a8 a9 a10 a11 a12 a13 a14 a15 a16 a17 a18 a19 a20 a21 a22 a23
  obtain ⟨y, hy, h⟩ := bE_ h
  exact lifted (xs := []) (ls := []) (cargs := [.agg (v8 a0 a1 a2 a3 a4 a5 a6 a7 (v8 a8 a9 a10 a11 a12 a13 a14 a15 (v8 a16 a17 a18 a19 a20 a21 a22 a23 [])))]) (bt.of trivial) rfl (Bl a0 a1 a2 a3 a4 a5 a6 a7 a8 a9 a10 a11 a12 a13 a14 a15 a16 a17 a18 a19 a20 a21 a22 a23 y hy) rfl rfl rfl rfl h
 ·cases h
def FA : CH := (CH.add 67 pJ (CH.add 66 tb (CH.add 47 K0 (CH.add 46 A1 CH.none))))
theorem Bi : aE Tryz.prog FA := (CH.aj CT (CH.aj ra (CH.aj Lm (CH.aj FU CH.aC))))
def ik (a0 a1 a2 a3 a4 a5 a6 a7 a8 a9 a10 a11 a12 a13 a14 a15 a16 a17 a18 a19 a20 a21 a22 a23 a24 a25 a26 a27 a28 a29 a30 a31 : Int) (cs32 : LA_) (n33 : Nat) (a34 a35 a36 : Int) : Option (Bool) :=
 (Option.bind (nF a0 a1 a2 a3 a4 a5 a6 a7 a8 a9 a10 a11 a12 a13 a14 a15 a16 a17 a18 a19 a20 a21 a22 a23 a34 a35 a36) fun r1 => (Option.bind (jP (aa r1 0) (aa r1 1) (aa r1 2) (aa r1 3) (aa r1 4) (aa r1 5) (aa r1 6) (aa r1 7) a24 a25 a26 a27 a28 a29 a30 a31) fun r2 => (Option.bind (eJ a0 a1 a2 a3 a4 a5 a6 a7 a8 a9 a10 a11 a12 a13 a14 a15 a16 a17 a18 a19 a20 a21 a22 a23) fun r3 => (Option.bind (QB r2 r3) fun r4 => (cond (decide (r4 < 0)) (some true) (some false))))))
def kV : FD where
 X := Bool
 k := 1
 pre := []
 F := fun s => [0]
 M := .bool
 B := []
 toL := fun x => [.B x]
 ofL := fun ls => match ls with
  | [.B x0] => some x0
  | _ => none
 au := fun ls x h => by
  split at h
  ·cases h; rfl
  ·cases h
theorem Dx (a0 a1 a2 a3 a4 a5 a6 a7 a8 a9 a10 a11 a12 a13 a14 a15 a16 a17 a18 a19 a20 a21 a22 a23 a24 a25 a26 a27 a28 a29 a30 a31 : Int) (cs32 : LA_) (n33 : Nat) (a34 a35 a36 : Int) (x : Bool) (h : ik a0 a1 a2 a3 a4 a5 a6 a7 a8 a9 a10 a11 a12 a13 a14 a15 a16 a17 a18 a19 a20 a21 a22 a23 a24 a25 a26 a27 a28 a29 a30 a31 cs32 n33 a34 a35 a36 = some x) : aX Tryz.prog 49 1 [.agg (v8 a0 a1 a2 a3 a4 a5 a6 a7 (v8 a8 a9 a10 a11 a12 a13 a14 a15 (v8 a16 a17 a18 a19 a20 a21 a22 a23 (v8 a24 a25 a26 a27 a28 a29 a30 a31 [.vec 0])))), .agg [.int .i64 a34, .int .i64 a35, .int .i64 a36]] [.vec cs32 n33 1 false] kV x :=
 FD.semA kV Bi Tryz.func49 (fuel := 60) (by kernel_rfl) (by kernel_rfl)
  (by kernel_rfl) (Eq.trans (by kernel_rfl) h)
def sT (z0 z8 z16 z24 : Int) (cs32 : LA_) (n33 : Nat) (a34 a35 a36 : Int) : Option (Bool) := ik (aa z0 0) (aa z0 1) (aa z0 2) (aa z0 3) (aa z0 4) (aa z0 5) (aa z0 6) (aa z0 7) (aa z8 0) (aa z8 1) (aa z8 2) (aa z8 3) (aa z8 4) (aa z8 5) (aa z8 6) (aa z8 7) (aa z16 0) (aa z16 1) (aa z16 2) (aa z16 3) (aa z16 4) (aa z16 5) (aa z16 6) (aa z16 7) (aa z24 0) (aa z24 1) (aa z24 2) (aa z24 3) (aa z24 4) (aa z24 5) (aa z24 6) (aa z24 7) cs32 n33 a34 a35 a36
def nD : HK where
 call := fun args σ k => match args with
  | [.agg (.int .u64 a0 :: .int .u64 a1 :: .int .u64 a2 :: .int .u64 a3 :: .int .u64 a4 :: .int .u64 a5 :: .int .u64 a6 :: .int .u64 a7 :: .int .u64 a8 :: .int .u64 a9 :: .int .u64 a10 :: .int .u64 a11 :: .int .u64 a12 :: .int .u64 a13 :: .int .u64 a14 :: .int .u64 a15 :: .int .u64 a16 :: .int .u64 a17 :: .int .u64 a18 :: .int .u64 a19 :: .int .u64 a20 :: .int .u64 a21 :: .int .u64 a22 :: .int .u64 a23 :: .int .u64 a24 :: .int .u64 a25 :: .int .u64 a26 :: .int .u64 a27 :: .int .u64 a28 :: .int .u64 a29 :: .int .u64 a30 :: .int .u64 a31 :: x0 :: []), .agg [.int .i64 a34, .int .i64 a35, .int .i64 a36]] => cr σ 1 x0 fun cs32 n33 => Option.bind (ik a0 a1 a2 a3 a4 a5 a6 a7 a8 a9 a10 a11 a12 a13 a14 a15 a16 a17 a18 a19 a20 a21 a22 a23 a24 a25 a26 a27 a28 a29 a30 a31 cs32 n33 a34 a35 a36) fun y => az σ 1 (kV.val y) (kV.aN y) k
  | _ => none
 nat := fun args σ k => by
  repeat' split
  all_goals simp only [aw, ax, Option.bind_assoc, Option.bind_none, az, Option.bind_some]
 pure := false
 pok := fun h => by cases h
theorem vt : aT Tryz.prog 49 nD := by
 intro args σ r σ' h
 simp only [nD] at h
 split at h
 ·rename_i a0 a1 a2 a3 a4 a5 a6 a7 a8 a9 a10 a11 a12 a13 a14 a15 a16 a17 a18 a19 a20 a21 a22 a23 a24 a25 a26 a27 a28 a29 a30 a31 x0 a34 a35 a36
  obtain ⟨cs32, n33, he0, hf0, h⟩ := bf h
  obtain ⟨y, hy, h⟩ := bE_ h
  exact lifted (xs := [x0]) (ls := [.vec cs32 n33 1 false]) (cargs := [.agg (v8 a0 a1 a2 a3 a4 a5 a6 a7 (v8 a8 a9 a10 a11 a12 a13 a14 a15 (v8 a16 a17 a18 a19 a20 a21 a22 a23 (v8 a24 a25 a26 a27 a28 a29 a30 a31 [.vec 0])))), .agg [.int .i64 a34, .int .i64 a35, .int .i64 a36]]) (bt.of ⟨⟨rfl, he0, hf0, by decide⟩, trivial⟩) rfl (Dx a0 a1 a2 a3 a4 a5 a6 a7 a8 a9 a10 a11 a12 a13 a14 a15 a16 a17 a18 a19 a20 a21 a22 a23 a24 a25 a26 a27 a28 a29 a30 a31 cs32 n33 a34 a35 a36 y hy) rfl rfl rfl rfl h
 ·cases h
abbrev c9 := (I8 (I8 (I8 (I8 (LA_ × Nat × Int)))))
abbrev pI := (I8 (I8 (I8 (I8 Bool))))
abbrev da := LA_ × Nat × LA_ × Nat × LA_ × Nat × LA_ × Nat × Int
def g9 : CH := (CH.add 57 uR (CH.add 55 oG (CH.add 49 nD (CH.add 56 Dr CH.none))))
theorem iU : aE Tryz.prog g9 := (CH.aj GG (CH.aj Bg (CH.aj vt (CH.aj Ds CH.aC))))
def cQ {R : Type} (cc : da) (v : Int) (kn : (Int) → Option R) (ke : ((Unit) ⊕ (Unit)) → Option R) : Option R :=
 (cond (decide (v < cc.2.2.2.2.2.2.2.2)) (ag (decide (0 ≤ v) && decide (v < ((cc.2.2.2.2.2.1 : Nat) : Int))) (ag (an di cc.2.2.2.2.1 (Int.toNat v * 8)) (Option.bind (qW (ac cc.2.2.2.2.1 ((Int.toNat v * 8) + 0)) (ac cc.2.2.2.2.1 ((Int.toNat v * 8) + 1)) (ac cc.2.2.2.2.1 ((Int.toNat v * 8) + 2)) (ac cc.2.2.2.2.1 ((Int.toNat v * 8) + 3)) (ac cc.2.2.2.2.1 ((Int.toNat v * 8) + 4)) (ac cc.2.2.2.2.1 ((Int.toNat v * 8) + 5)) (ac cc.2.2.2.2.1 ((Int.toNat v * 8) + 6)) (ac cc.2.2.2.2.1 ((Int.toNat v * 8) + 7))) fun r2 => (cond (decide (r2 ≤ 0)) (ke (.inl ())) (kn (IntKind.wrap .i64 (v + 1))))))) (ke (.inr ())))
def eL (cc : da) (v : Int) : Option ((Int) ⊕ ((Unit) ⊕ (Unit))) := cQ cc v (fun v => some (Sum.inl v)) fun e => some (Sum.inr e)
def kU (cc : da) (v : Int) : Option ((Unit) ⊕ (Unit)) := dA (eL cc) v
def yc (cc : da) (v : Int) : List ai := [.I cc.s8, .I v, .C cc.1, .N cc.2.1, .C cc.2.2.1, .N cc.2.2.2.1, .C cc.s4.1, .N cc.s4.2.1, .C cc.s4.2.2.1, .N cc.s4.2.2.2.1]
def oc (ls : List ai) : Option ((da) × (Int)) := match ls with
 | [.I x0, .I x1, .C x2, .N x3, .C x4, .N x5, .C x6, .N x7, .C x8, .N x9] => some ((x2, x3, x4, x5, x6, x7, x8, x9, x0), x1)
 | _ => none
def od (e : (Unit) ⊕ (Unit)) : am := ((Sum.elim (fun e => .ret) (fun e => .exit 0)) e)
def oe (cc : da) (e : (Unit) ⊕ (Unit)) : List ai := ((Sum.elim (fun e => []) (fun e => [.C cc.1, .N cc.2.1, .C cc.2.2.1, .N cc.2.2.2.1, .C cc.s4.1, .N cc.s4.2.1, .C cc.s4.2.2.1, .N cc.s4.2.2.2.1])) e)
def iw (cc : da) (e : (Unit) ⊕ (Unit)) : List ai := ((Sum.elim (fun e => []) (fun e => [.C cc.1, .N cc.2.1, .C cc.2.2.1, .N cc.2.2.2.1, .C cc.s4.1, .N cc.s4.2.1, .C cc.s4.2.2.1, .N cc.s4.2.2.2.1])) e)
def iV (o : am) (ls : List ai) : Option (((Unit) ⊕ (Unit)) × List ai) := match o with
 | .ret => (match ls with
  | [] => some ((.inl ()), [])
  | _ => none)
 | .exit 0 => (match ls with
  | [.C x0, .N x1, .C x2, .N x3, .C x4, .N x5, .C x6, .N x7] => some ((.inr ()), [.C x0, .N x1, .C x2, .N x3, .C x4, .N x5, .C x6, .N x7])
  | _ => none)
 | _ => none
theorem uS : ∀ o ls e cl cc, iV o ls = some (e, cl) → cl = iw cc e → ls = oe cc e ∧ od e = o ∧ o ≠ .normal ∧ ∀ v, o = .pan v → sc 0 v = true := by
 intro o ls e cl cc h hc
 unfold iV at h
 split at h
 ·split at h
  ·cases h
   exact ⟨rfl, rfl, by simp, by intro v hv; cases hv <;> rfl⟩
  ·cases h
 ·split at h
  ·cases h
   simp only [iw, Sum.elim_inl, Sum.elim_inr, List.cons.injEq, ai.N.injEq, ai.C.injEq, and_true] at hc
   obtain ⟨rfl, rfl, rfl, rfl, rfl, rfl, rfl, rfl⟩ := hc
   exact ⟨rfl, rfl, by simp, by intro v hv; cases hv <;> rfl⟩
  ·cases h
 ·cases h
def zv (o : am) : ExS := match o with
 | .ret => ⟨3, (none :: none :: none :: none :: some (.ptr 2 0) :: some (.qS false) :: (rl none 39 [])), [(2, .cells (rl (.fG .u64 0) 32 [.aO]) true none)], fun s => [0, 1, nameAt s 4 []], [], []⟩
 | .exit 0 => ⟨5, (some (.vec 0) :: some (.vec 1) :: none :: none :: some (.ptr 2 0) :: none :: some (.vec 3) :: some (.ptr 4 0) :: (rl none 37 [])), [(0, .vec 3 false), (1, .vec 3 false), (2, .cells (rl (.fG .u64 0) 32 [.aO]) true none), (3, .vec 8 true), (4, .vec 8 true)], fun s => [0, 1, nameAt s 4 [], nameAt s 6 [], nameAt s 7 []], [], []⟩
 | _ => ⟨0, [], [], fun _ => [], [], []⟩
theorem yd {R : Type} (cc : da) (v : Int) (kn : (Int) → Option R) (ke : ((Unit) ⊕ (Unit)) → Option R) : cQ cc v kn ke = (cQ cc v (fun v => some (Sum.inl v)) fun e => some (Sum.inr e)).bind (Sum.elim kn ke) := by
 simp only [cQ, bF, ax, Option.bind_assoc, bY, bB, Option.bind_some, Option.bind_none, Sum.elim_inl, Sum.elim_inr]
def qb : LD where
 CC := da
 V := Int
 E := (Unit) ⊕ (Unit)
 n := 2
 K := 5
 M := (some (.vec 0) :: some (.vec 1) :: none :: none :: some (.ptr 2 0) :: none :: some (.vec 3) :: some (.ptr 4 0) :: (rl none 10 (some (.vec 3) :: some (.int .i64) :: some (.int .i64) :: (rl none 24 []))))
 B := [(0, .vec 3 false), (1, .vec 3 false), (2, .cells (rl (.fG .u64 0) 32 [.aO]) true none), (3, .vec 8 true), (4, .vec 8 true)]
 D := []
 pre := []
 F := fun s => [0, 1, nameAt s 4 [], nameAt s 6 [], nameAt s 7 []]
 toL := yc
 ofL := oc
 au := fun ls c v h => by
  unfold oc at h
  split at h
  ·cases h; rfl
  ·cases h
 cj := cQ
 nat := yd
 sh := zv
 out := od
 toE := oe
 eV := iw
 ofE := iV
 cO := uS
 post := fun cc e k => ((Sum.elim (fun e => k (.ret) (aV 3 (none :: none :: none :: none :: some (.ptr 2 0) :: some (.bool false) :: (rl none 39 [])) [(2, .cells (rl (.int .u64 0) 32 [.aO]) true none)] [])) (fun e => k (.exit 0) (aV 5 (some (.vec 0) :: some (.vec 1) :: none :: none :: some (.ptr 2 0) :: none :: some (.vec 3) :: some (.ptr 4 0) :: (rl none 37 [])) [(0, .vec cc.1 cc.2.1 3 false), (1, .vec cc.2.2.1 cc.2.2.2.1 3 false), (2, .cells (rl (.int .u64 0) 32 [.aO]) true none), (3, .vec cc.s4.1 cc.s4.2.1 8 true), (4, .vec cc.s4.2.2.1 cc.s4.2.2.2.1 8 true)] []))) e)
 cd := fun cc e k => by rcases e with e | e <;> rfl
theorem ye : cG Tryz.prog 2 qb.la (aK Tryz.f37 0) :=
 LD.ok (ch := g9) (A := bu) aL iU mixed (fuel := 60) ⟨by kernel_rfl, fun e => by (rcases e with e | e <;> kernel_rfl), fun cc v => by kernel_rfl, aJ (l := []) (by kernel_rfl) trivial⟩
def cH {R : Type} (cc : c9) (v : Int) (kn : (Int) → Option R) (ke : ((Unit) ⊕ (Unit)) → Option R) : Option R :=
 (cond (decide (v < cc.2.2.2.2.2.2.2.2.2.2.2.2.2.2.2.2.2.2.2.2.2.2.2.2.2.2.2.2.2.2.2.2.2.2)) (ag (decide (0 ≤ v) && decide (v < ((cc.2.2.2.2.2.2.2.2.2.2.2.2.2.2.2.2.2.2.2.2.2.2.2.2.2.2.2.2.2.2.2.2.2.1 : Nat) : Int))) (ag (an ln cc.2.2.2.2.2.2.2.2.2.2.2.2.2.2.2.2.2.2.2.2.2.2.2.2.2.2.2.2.2.2.2.2.1 (Int.toNat v * 3)) (Option.bind (ik cc.1 cc.2.1 cc.2.2.1 cc.2.2.2.1 cc.2.2.2.2.1 cc.2.2.2.2.2.1 cc.2.2.2.2.2.2.1 cc.2.2.2.2.2.2.2.1 cc.2.2.2.2.2.2.2.2.1 cc.2.2.2.2.2.2.2.2.2.1 cc.2.2.2.2.2.2.2.2.2.2.1 cc.2.2.2.2.2.2.2.2.2.2.2.1 cc.2.2.2.2.2.2.2.2.2.2.2.2.1 cc.2.2.2.2.2.2.2.2.2.2.2.2.2.1 cc.2.2.2.2.2.2.2.2.2.2.2.2.2.2.1 cc.2.2.2.2.2.2.2.2.2.2.2.2.2.2.2.1 cc.2.2.2.2.2.2.2.2.2.2.2.2.2.2.2.2.1 cc.2.2.2.2.2.2.2.2.2.2.2.2.2.2.2.2.2.1 cc.2.2.2.2.2.2.2.2.2.2.2.2.2.2.2.2.2.2.1 cc.2.2.2.2.2.2.2.2.2.2.2.2.2.2.2.2.2.2.2.1 cc.2.2.2.2.2.2.2.2.2.2.2.2.2.2.2.2.2.2.2.2.1 cc.2.2.2.2.2.2.2.2.2.2.2.2.2.2.2.2.2.2.2.2.2.1 cc.2.2.2.2.2.2.2.2.2.2.2.2.2.2.2.2.2.2.2.2.2.2.1 cc.2.2.2.2.2.2.2.2.2.2.2.2.2.2.2.2.2.2.2.2.2.2.2.1 cc.2.2.2.2.2.2.2.2.2.2.2.2.2.2.2.2.2.2.2.2.2.2.2.2.1 cc.2.2.2.2.2.2.2.2.2.2.2.2.2.2.2.2.2.2.2.2.2.2.2.2.2.1 cc.2.2.2.2.2.2.2.2.2.2.2.2.2.2.2.2.2.2.2.2.2.2.2.2.2.2.1 cc.2.2.2.2.2.2.2.2.2.2.2.2.2.2.2.2.2.2.2.2.2.2.2.2.2.2.2.1 cc.2.2.2.2.2.2.2.2.2.2.2.2.2.2.2.2.2.2.2.2.2.2.2.2.2.2.2.2.1 cc.2.2.2.2.2.2.2.2.2.2.2.2.2.2.2.2.2.2.2.2.2.2.2.2.2.2.2.2.2.1 cc.2.2.2.2.2.2.2.2.2.2.2.2.2.2.2.2.2.2.2.2.2.2.2.2.2.2.2.2.2.2.1 cc.2.2.2.2.2.2.2.2.2.2.2.2.2.2.2.2.2.2.2.2.2.2.2.2.2.2.2.2.2.2.2.1 ([] : LA_) 0 (ac cc.2.2.2.2.2.2.2.2.2.2.2.2.2.2.2.2.2.2.2.2.2.2.2.2.2.2.2.2.2.2.2.2.1 ((Int.toNat v * 3) + 0)) (ac cc.2.2.2.2.2.2.2.2.2.2.2.2.2.2.2.2.2.2.2.2.2.2.2.2.2.2.2.2.2.2.2.2.1 ((Int.toNat v * 3) + 1)) (ac cc.2.2.2.2.2.2.2.2.2.2.2.2.2.2.2.2.2.2.2.2.2.2.2.2.2.2.2.2.2.2.2.2.1 ((Int.toNat v * 3) + 2))) fun r5 => (cond r5 (ke (.inl ())) (kn (IntKind.wrap .i64 (v + 1))))))) (ke (.inr ())))
def ez (cc : c9) (v : Int) : Option ((Int) ⊕ ((Unit) ⊕ (Unit))) := cH cc v (fun v => some (Sum.inl v)) fun e => some (Sum.inr e)
def qc (cc : c9) (v : Int) : Option ((Unit) ⊕ (Unit)) := dA (ez cc) v
def xc (cc : c9) (v : Int) : List ai := [.I cc.s16.s16.2.2, .I v, .I cc.1, .I cc.2.1, .I cc.2.2.1, .I cc.2.2.2.1, .I cc.s4.1, .I cc.s4.2.1, .I cc.s4.2.2.1, .I cc.s4.2.2.2.1, .I cc.s8.1, .I cc.s8.2.1, .I cc.s8.2.2.1, .I cc.s8.2.2.2.1, .I cc.s8.s4.1, .I cc.s8.s4.2.1, .I cc.s8.s4.2.2.1, .I cc.s8.s4.2.2.2.1, .I cc.s16.1, .I cc.s16.2.1, .I cc.s16.2.2.1, .I cc.s16.2.2.2.1, .I cc.s16.s4.1, .I cc.s16.s4.2.1, .I cc.s16.s4.2.2.1, .I cc.s16.s4.2.2.2.1, .I cc.s16.s8.1, .I cc.s16.s8.2.1, .I cc.s16.s8.2.2.1, .I cc.s16.s8.2.2.2.1, .I cc.s16.s8.s4.1, .I cc.s16.s8.s4.2.1, .I cc.s16.s8.s4.2.2.1, .I cc.s16.s8.s4.2.2.2.1, .C cc.s16.s16.1, .N cc.s16.s16.2.1]
def mR (ls : List ai) : Option ((c9) × (Int)) := match ls with
 | (.I x0 :: .I x1 :: .I x2 :: .I x3 :: .I x4 :: .I x5 :: .I x6 :: .I x7 :: .I x8 :: .I x9 :: .I x10 :: .I x11 :: .I x12 :: .I x13 :: .I x14 :: .I x15 :: .I x16 :: .I x17 :: .I x18 :: .I x19 :: .I x20 :: .I x21 :: .I x22 :: .I x23 :: .I x24 :: .I x25 :: .I x26 :: .I x27 :: .I x28 :: .I x29 :: .I x30 :: .I x31 :: .I x32 :: .I x33 :: .C x34 :: .N x35 :: []) => some ((x2, x3, x4, x5, x6, x7, x8, x9, x10, x11, x12, x13, x14, x15, x16, x17, x18, x19, x20, x21, x22, x23, x24, x25, x26, x27, x28, x29, x30, x31, x32, x33, x34, x35, x0), x1)
 | _ => none
def mS (e : (Unit) ⊕ (Unit)) : am := ((Sum.elim (fun e => .ret) (fun e => .exit 2)) e)
def mT (cc : c9) (e : (Unit) ⊕ (Unit)) : List ai := ((Sum.elim (fun e => []) (fun e => [.I cc.1, .I cc.2.1, .I cc.2.2.1, .I cc.2.2.2.1, .I cc.s4.1, .I cc.s4.2.1, .I cc.s4.2.2.1, .I cc.s4.2.2.2.1, .I cc.s8.1, .I cc.s8.2.1, .I cc.s8.2.2.1, .I cc.s8.2.2.2.1, .I cc.s8.s4.1, .I cc.s8.s4.2.1, .I cc.s8.s4.2.2.1, .I cc.s8.s4.2.2.2.1, .I cc.s16.1, .I cc.s16.2.1, .I cc.s16.2.2.1, .I cc.s16.2.2.2.1, .I cc.s16.s4.1, .I cc.s16.s4.2.1, .I cc.s16.s4.2.2.1, .I cc.s16.s4.2.2.2.1, .I cc.s16.s8.1, .I cc.s16.s8.2.1, .I cc.s16.s8.2.2.1, .I cc.s16.s8.2.2.2.1, .I cc.s16.s8.s4.1, .I cc.s16.s8.s4.2.1, .I cc.s16.s8.s4.2.2.1, .I cc.s16.s8.s4.2.2.2.1])) e)
def hF (cc : c9) (e : (Unit) ⊕ (Unit)) : List ai := ((Sum.elim (fun e => []) (fun e => [.I cc.1, .I cc.2.1, .I cc.2.2.1, .I cc.2.2.2.1, .I cc.s4.1, .I cc.s4.2.1, .I cc.s4.2.2.1, .I cc.s4.2.2.2.1, .I cc.s8.1, .I cc.s8.2.1, .I cc.s8.2.2.1, .I cc.s8.2.2.2.1, .I cc.s8.s4.1, .I cc.s8.s4.2.1, .I cc.s8.s4.2.2.1, .I cc.s8.s4.2.2.2.1, .I cc.s16.1, .I cc.s16.2.1, .I cc.s16.2.2.1, .I cc.s16.2.2.2.1, .I cc.s16.s4.1, .I cc.s16.s4.2.1, .I cc.s16.s4.2.2.1, .I cc.s16.s4.2.2.2.1, .I cc.s16.s8.1, .I cc.s16.s8.2.1, .I cc.s16.s8.2.2.1, .I cc.s16.s8.2.2.2.1, .I cc.s16.s8.s4.1, .I cc.s16.s8.s4.2.1, .I cc.s16.s8.s4.2.2.1, .I cc.s16.s8.s4.2.2.2.1])) e)
def ix (o : am) (ls : List ai) : Option (((Unit) ⊕ (Unit)) × List ai) := match o with
 | .ret => (match ls with
  | [] => some ((.inl ()), [])
  | _ => none)
 | .exit 2 => (match ls with
  | [.I x0, .I x1, .I x2, .I x3, .I x4, .I x5, .I x6, .I x7, .I x8, .I x9, .I x10, .I x11, .I x12, .I x13, .I x14, .I x15, .I x16, .I x17, .I x18, .I x19, .I x20, .I x21, .I x22, .I x23, .I x24, .I x25, .I x26, .I x27, .I x28, .I x29, .I x30, .I x31] => some ((.inr ()), [.I x0, .I x1, .I x2, .I x3, .I x4, .I x5, .I x6, .I x7, .I x8, .I x9, .I x10, .I x11, .I x12, .I x13, .I x14, .I x15, .I x16, .I x17, .I x18, .I x19, .I x20, .I x21, .I x22, .I x23, .I x24, .I x25, .I x26, .I x27, .I x28, .I x29, .I x30, .I x31])
  | _ => none)
 | _ => none
theorem tY : ∀ o ls e cl cc, ix o ls = some (e, cl) → cl = hF cc e → ls = mT cc e ∧ mS e = o ∧ o ≠ .normal ∧ ∀ v, o = .pan v → sc 0 v = true := by
 intro o ls e cl cc h hc
 unfold ix at h
 split at h
 ·split at h
  ·cases h
   exact ⟨rfl, rfl, by simp, by intro v hv; cases hv <;> rfl⟩
  ·cases h
 ·split at h
  ·cases h
   simp only [hF, Sum.elim_inl, Sum.elim_inr, List.cons.injEq, ai.I.injEq, and_true] at hc
   obtain ⟨rfl, rfl, rfl, rfl, rfl, rfl, rfl, rfl, rfl, rfl, rfl, rfl, rfl, rfl, rfl, rfl, rfl, rfl, rfl, rfl, rfl, rfl, rfl, rfl, rfl, rfl, rfl, rfl, rfl, rfl, rfl, rfl⟩ := hc
   exact ⟨rfl, rfl, by simp, by intro v hv; cases hv <;> rfl⟩
  ·cases h
 ·cases h
def yf (o : am) : ExS := match o with
 | .ret => ⟨3, (none :: none :: none :: none :: some (.ptr 2 0) :: some (.qS false) :: (rl none 39 [])), [(2, .cells (rl (.fG .u64 0) 32 [.aO]) true none)], fun s => [0, 1, nameAt s 4 []], [], []⟩
 | .exit 2 => ⟨4, (none :: none :: none :: none :: some (.ptr 2 0) :: (rl none 5 (some (.ptr 3 0) :: (rl none 34 [])))), [(2, .cells (rl (.fG .u64 0) 32 [.aO]) true none), (3, .cells (rl (.int .u64) 32 [.aO]) true none)], fun s => [0, 1, nameAt s 4 [], nameAt s 10 []], [], []⟩
 | _ => ⟨0, [], [], fun _ => [], [], []⟩
theorem xd {R : Type} (cc : c9) (v : Int) (kn : (Int) → Option R) (ke : ((Unit) ⊕ (Unit)) → Option R) : cH cc v kn ke = (cH cc v (fun v => some (Sum.inl v)) fun e => some (Sum.inr e)).bind (Sum.elim kn ke) := by
 simp only [cH, bF, ax, Option.bind_assoc, bY, bB, Option.bind_some, Option.bind_none, Sum.elim_inl, Sum.elim_inr]
def oV : LD where
 CC := c9
 V := Int
 E := (Unit) ⊕ (Unit)
 n := 2
 K := 4
 M := (none :: none :: none :: none :: some (.ptr 2 0) :: (rl none 5 (some (.ptr 3 0) :: (rl none 22 (some (.vec 0) :: some (.int .i64) :: some (.int .i64) :: (rl none 9 []))))))
 B := [(2, .cells (rl (.fG .u64 0) 32 [.aO]) true none), (3, .cells (rl (.int .u64) 32 [.aO]) true none), (0, .vec 3 false)]
 D := []
 pre := []
 F := fun s => [0, 1, nameAt s 4 [], nameAt s 10 []]
 toL := xc
 ofL := mR
 au := fun ls c v h => by
  unfold mR at h
  split at h
  ·cases h; rfl
  ·cases h
 cj := cH
 nat := xd
 sh := yf
 out := mS
 toE := mT
 eV := hF
 ofE := ix
 cO := tY
 post := fun cc e k => ((Sum.elim (fun e => k (.ret) (aV 3 (none :: none :: none :: none :: some (.ptr 2 0) :: some (.bool false) :: (rl none 39 [])) [(2, .cells (rl (.int .u64 0) 32 [.aO]) true none)] [])) (fun e => k (.exit 2) (aV 4 (none :: none :: none :: none :: some (.ptr 2 0) :: (rl none 5 (some (.ptr 3 0) :: (rl none 34 [])))) [(2, .cells (rl (.int .u64 0) 32 [.aO]) true none), (3, .cells (v8 cc.1 cc.2.1 cc.2.2.1 cc.2.2.2.1 cc.s4.1 cc.s4.2.1 cc.s4.2.2.1 cc.s4.2.2.2.1 (v8 cc.s8.1 cc.s8.2.1 cc.s8.2.2.1 cc.s8.2.2.2.1 cc.s8.s4.1 cc.s8.s4.2.1 cc.s8.s4.2.2.1 cc.s8.s4.2.2.2.1 (v8 cc.s16.1 cc.s16.2.1 cc.s16.2.2.1 cc.s16.2.2.2.1 cc.s16.s4.1 cc.s16.s4.2.1 cc.s16.s4.2.2.1 cc.s16.s4.2.2.2.1 (v8 cc.s16.s8.1 cc.s16.s8.2.1 cc.s16.s8.2.2.1 cc.s16.s8.2.2.2.1 cc.s16.s8.s4.1 cc.s16.s8.s4.2.1 cc.s16.s8.s4.2.2.1 cc.s16.s8.s4.2.2.2.1 [.aO])))) true none)] []))) e)
 cd := fun cc e k => by rcases e with e | e <;> rfl
theorem xe : cG Tryz.prog 2 oV.la (aK Tryz.f37 1) :=
 LD.ok (ch := g9) (A := bu) aL iU mixed (fuel := 60) ⟨by kernel_rfl, fun e => by (rcases e with e | e <;> kernel_rfl), fun cc v => by kernel_rfl, aJ (l := []) (by kernel_rfl) trivial⟩
def dZ (cs0 : LA_) (n1 : Nat) (cs2 : LA_) (n3 : Nat) : Option (pI) :=
 (Option.bind (dr cs2 n3) fun r1 => (Option.bind (kU (cs0, n1, cs2, n3, r1.2.1, r1.2.2, ((v8 (aa r1.1 0) (aa r1.1 1) (aa r1.1 2) (aa r1.1 3) (aa r1.1 4) (aa r1.1 5) (aa r1.1 6) (aa r1.1 7) []) : LA_), 1, ((r1.2.2 : Nat) : Int)) 0) (Sum.elim (fun e2 => (some (0, 0, 0, 0, 0, 0, 0, 0, 0, 0, 0, 0, 0, 0, 0, 0, 0, 0, 0, 0, 0, 0, 0, 0, 0, 0, 0, 0, 0, 0, 0, 0, false))) (fun e2 => (Option.bind (uT cs2 n3 r1.2.1 r1.2.2 r1.1) fun r3 => (Option.bind (qc (aZ r3.1 (aZ r3.2.1 (aZ r3.2.2.1 (aZ r3.2.2.2 (cs0, n1, ((n1 : Nat) : Int)))))) 0) (Sum.elim (fun e4 => (some (0, 0, 0, 0, 0, 0, 0, 0, 0, 0, 0, 0, 0, 0, 0, 0, 0, 0, 0, 0, 0, 0, 0, 0, 0, 0, 0, 0, 0, 0, 0, 0, false))) (fun e4 => (some (aZ r3.1 (aZ r3.2.1 (aZ r3.2.2.1 (aZ r3.2.2.2 true)))))))))))))
def cL : FD where
 X := pI
 k := 2
 pre := []
 F := fun s => [0, 1]
 M := .tup [.agg (rl (.int .u64) 32 [.aO]), .bool]
 B := []
 toL := fun x => [.I x.1, .I x.2.1, .I x.2.2.1, .I x.2.2.2.1, .I x.s4.1, .I x.s4.2.1, .I x.s4.2.2.1, .I x.s4.2.2.2.1, .I x.s8.1, .I x.s8.2.1, .I x.s8.2.2.1, .I x.s8.2.2.2.1, .I x.s8.s4.1, .I x.s8.s4.2.1, .I x.s8.s4.2.2.1, .I x.s8.s4.2.2.2.1, .I x.s16.1, .I x.s16.2.1, .I x.s16.2.2.1, .I x.s16.2.2.2.1, .I x.s16.s4.1, .I x.s16.s4.2.1, .I x.s16.s4.2.2.1, .I x.s16.s4.2.2.2.1, .I x.s16.s8.1, .I x.s16.s8.2.1, .I x.s16.s8.2.2.1, .I x.s16.s8.2.2.2.1, .I x.s16.s8.s4.1, .I x.s16.s8.s4.2.1, .I x.s16.s8.s4.2.2.1, .I x.s16.s8.s4.2.2.2.1, .B x.s16.s16]
 ofL := fun ls => match ls with
  | (.I x0 :: .I x1 :: .I x2 :: .I x3 :: .I x4 :: .I x5 :: .I x6 :: .I x7 :: .I x8 :: .I x9 :: .I x10 :: .I x11 :: .I x12 :: .I x13 :: .I x14 :: .I x15 :: .I x16 :: .I x17 :: .I x18 :: .I x19 :: .I x20 :: .I x21 :: .I x22 :: .I x23 :: .I x24 :: .I x25 :: .I x26 :: .I x27 :: .I x28 :: .I x29 :: .I x30 :: .I x31 :: .B x32 :: []) => some (x0, x1, x2, x3, x4, x5, x6, x7, x8, x9, x10, x11, x12, x13, x14, x15, x16, x17, x18, x19, x20, x21, x22, x23, x24, x25, x26, x27, x28, x29, x30, x31, x32)
  | _ => none
 au := fun ls x h => by
  split at h
  ·cases h; rfl
  ·cases h
theorem Ai (cs0 : LA_) (n1 : Nat) (cs2 : LA_) (n3 : Nat) (x : pI) (h : dZ cs0 n1 cs2 n3 = some x) : aX Tryz.prog 37 2 [.vec 0, .vec 1] [.vec cs0 n1 3 false, .vec cs2 n3 3 false] cL x :=
 FD.sem (ch := g9) (A := dW [(3, qb.la), (10, oV.la)]) (fn := Tryz.f37) (c := bq Tryz.f37) (fuel := 60) aL iU mixed bE cL Tryz.func37 (by kernel_rfl) (aJ (l := [aK Tryz.f37 0, aK Tryz.f37 1]) (by kernel_rfl) ⟨bR (by kernel_rfl) ye, bR (by kernel_rfl) xe, trivial⟩)
  (by kernel_rfl) (Eq.trans (by kernel_rfl) h)
def ar (cs0 : LA_) (n1 : Nat) (cs2 : LA_) (n3 : Nat) : Option (Int × Int × Int × Int × Bool) := Option.bind (dZ cs0 n1 cs2 n3) fun (x0, x1, x2, x3, x4, x5, x6, x7, x8, x9, x10, x11, x12, x13, x14, x15, x16, x17, x18, x19, x20, x21, x22, x23, x24, x25, x26, x27, x28, x29, x30, x31, x32) => ag (ok8 x0 x1 x2 x3 x4 x5 x6 x7 && ok8 x8 x9 x10 x11 x12 x13 x14 x15 && ok8 x16 x17 x18 x19 x20 x21 x22 x23 && ok8 x24 x25 x26 x27 x28 x29 x30 x31) (some ((num x0 x1 x2 x3 x4 x5 x6 x7), (num x8 x9 x10 x11 x12 x13 x14 x15), (num x16 x17 x18 x19 x20 x21 x22 x23), (num x24 x25 x26 x27 x28 x29 x30 x31), x32))
def lZ : FD := ⟨Int × Int × Int × Int × Bool, cL.k, cL.pre, cL.F, cL.M, cL.B, fun y => cL.toL (aZ y.1 (aZ y.2.1 (aZ y.2.2.1 (aZ y.2.2.2.1 y.s4)))), fun _ => none, fun _ _ h => by cases h⟩
theorem Bh (cs0 : LA_) (n1 : Nat) (cs2 : LA_) (n3 : Nat) {y : Int × Int × Int × Int × Bool} (h : ar cs0 n1 cs2 n3 = some y) : dZ cs0 n1 cs2 n3 = some (aZ y.1 (aZ y.2.1 (aZ y.2.2.1 (aZ y.2.2.2.1 y.s4)))) := by
 unfold ar at h
 obtain ⟨⟨x0, x1, x2, x3, x4, x5, x6, x7, x8, x9, x10, x11, x12, x13, x14, x15, x16, x17, x18, x19, x20, x21, x22, x23, x24, x25, x26, x27, x28, x29, x30, x31, x32⟩, h1, h2⟩ := bE_ h
 obtain ⟨h3, h4⟩ := aM h2
 simp only [Bool.and_eq_true, and_assoc] at h3
 simp only [Option.some.injEq] at h4
 subst h4
 obtain ⟨o0, o1, o2, o3⟩ := h3
 have q0 := aR o0
 have q1 := aR o1
 have q2 := aR o2
 have q3 := aR o3
 rw [h1]
 simp only [aZ, q0, q1, q2, q3]
theorem Aj (cs0 : LA_) (n1 : Nat) (cs2 : LA_) (n3 : Nat) (y : Int × Int × Int × Int × Bool) (h : ar cs0 n1 cs2 n3 = some y) : aX Tryz.prog 37 2 [.vec 0, .vec 1] [.vec cs0 n1 3 false, .vec cs2 n3 3 false] lZ y := Ai cs0 n1 cs2 n3 _ (Bh cs0 n1 cs2 n3 h)
def ft : HK where
 call := fun args σ k => match args with
  | [x0, x1] => cr σ 3 x0 fun cs0 n1 => cr σ 3 x1 fun cs2 n3 => Option.bind (ar cs0 n1 cs2 n3) fun y => az σ 2 (lZ.val y) (lZ.aN y) k
  | _ => none
 nat := fun args σ k => by
  repeat' split
  all_goals simp only [aw, ax, Option.bind_assoc, Option.bind_none, az, Option.bind_some]
 pure := false
 pok := fun h => by cases h
theorem gZ : aT Tryz.prog 37 ft := by
 intro args σ r σ' h
 simp only [ft] at h
 split at h
 ·rename_i x0 x1
  obtain ⟨cs0, n1, he0, hf0, h⟩ := bf h
  obtain ⟨cs2, n3, he1, hf1, h⟩ := bf h
  obtain ⟨y, hy, h⟩ := bE_ h
  exact lifted (xs := [x0, x1]) (ls := [.vec cs0 n1 3 false, .vec cs2 n3 3 false]) (cargs := [.vec 0, .vec 1]) (bt.of ⟨⟨rfl, he0, hf0, by decide⟩, ⟨rfl, he1, hf1, by decide⟩, trivial⟩) rfl (Aj cs0 n1 cs2 n3 y hy) rfl rfl rfl rfl h
 ·cases h
def jV (N : Pt) (D : Int) (p : Pt) : Bool := decide (ae N p * D < ae N N)
theorem Ri {x y z : Int} [Sm 240 x] [Sm 240 y] [Sm 240 z] : eJ (aa x 0) (aa x 1) (aa x 2) (aa x 3) (aa x 4) (aa x 5) (aa x 6) (aa x 7) (aa y 0) (aa y 1) (aa y 2) (aa y 3) (aa y 4) (aa y 5) (aa y 6) (aa y 7) (aa z 0) (aa z 1) (aa z 2) (aa z 3) (aa z 4) (aa z 5) (aa z 6) (aa z 7) = some (x * x + y * y + z * z) := by
 have q : iy (aa x 0) (aa x 1) (aa x 2) (aa x 3) (aa x 4) (aa x 5) (aa x 6) (aa x 7) (aa y 0) (aa y 1) (aa y 2) (aa y 3) (aa y 4) (aa y 5) (aa y 6) (aa y 7) (aa z 0) (aa z 1) (aa z 2) (aa z 3) (aa z 4) (aa z 5) (aa z 6) (aa z 7) = some (t8 (x * x + y * y + z * z)) := by
  unfold iy
  rw [AM (by decide) (by decide) (by decide), Option.bind_some, AM (by decide) (by decide) (by decide), Option.bind_some, IP (by decide) (by decide) (by decide), Option.bind_some,
   AM (by decide) (by decide) (by decide), Option.bind_some, IP (by decide) (by decide) (by decide), Option.bind_some]
  rfl
 unfold eJ
 rw [q]
 simp only [t8, Option.bind_some, bv, aA]
 rw [aG (Sm.fit (by decide))]
theorem P5 {N p : Pt} {D : Int} (hN : PtB 240 N) (hD : sm 190 D) (hp : bP p = true) (cs : LA_) (n : Nat) : sT N.1 N.2.1 N.2.2 D cs n p.1 p.2.1 p.2.2 = some (jV N D p) := by
 have hq := PtB.of hp
 haveI n1 : Sm 240 N.1 := ⟨hN.h.1⟩
 haveI n2 : Sm 240 N.2.1 := ⟨hN.h.2.1⟩
 haveI n3 : Sm 240 N.2.2 := ⟨hN.h.2.2⟩
 haveI p1 : Sm 28 p.1 := ⟨hq.h.1⟩
 haveI p2 : Sm 28 p.2.1 := ⟨hq.h.2.1⟩
 haveI p3 : Sm 28 p.2.2 := ⟨hq.h.2.2⟩
 haveI d1 : Sm 190 D := ⟨hD⟩
 have a : nF (aa N.1 0) (aa N.1 1) (aa N.1 2) (aa N.1 3) (aa N.1 4) (aa N.1 5) (aa N.1 6) (aa N.1 7) (aa N.2.1 0) (aa N.2.1 1) (aa N.2.1 2) (aa N.2.1 3) (aa N.2.1 4) (aa N.2.1 5) (aa N.2.1 6) (aa N.2.1 7) (aa N.2.2 0) (aa N.2.2 1) (aa N.2.2 2) (aa N.2.2 3) (aa N.2.2 4) (aa N.2.2 5) (aa N.2.2 6) (aa N.2.2 7) p.1 p.2.1 p.2.2 = some (ae N p) :=
  Kx (Sm.fit (by decide)) (Sm.fit (by decide)) (Sm.fit (by decide)) (p1.rng (by decide)) (p2.rng (by decide)) (p3.rng (by decide)) (Sm.fit (by decide)) (Sm.fit (by decide)) (Sm.fit (by decide)) (Sm.fit (by decide)) (Sm.fit (by decide))
 haveI s1 : Sm 270 (ae N p) := inferInstance
 unfold sT ik
 rw [a, Option.bind_some, AM (by decide) (by decide) (by decide), Option.bind_some, Ri, Option.bind_some, NF (Sm.fit (by decide)) (Sm.fit (by decide)), Option.bind_some]
 unfold jV
 have e : N.1 * N.1 + N.2.1 * N.2.1 + N.2.2 * N.2.2 = ae N N := rfl
 rw [e]
 by_cases h : ae N p * D < ae N N
 ·rw [decide_eq_true h]
  have : decide (sgn (ae N p * D - ae N N) < 0) = true := by
   have : ae N p * D - ae N N < 0 := by omega
   simp [sgn, this]
  rw [this]; rfl
 ·rw [decide_eq_false h]
  have : decide (sgn (ae N p * D - ae N N) < 0) = false := by
   have h1 : ¬ ae N p * D - ae N N < 0 := by omega
   unfold sgn
   rw [decide_eq_false h1, cond_false]
   by_cases h0 : ae N p * D - ae N N = 0
   ·rw [decide_eq_true h0]; rfl
   ·rw [decide_eq_false h0]; rfl
  rw [this]; rfl
theorem Up {w : List Int} (hw : ∀ z ∈ w, sm 190 z) (h4 : w.length ≤ 4) (a1 : LA_) (a2 : Nat) (a3 : LA_) (a4 : Nat) (D : LA_) :
  kU (a1, a2, a3, a4, wcs w, w.length, D, 1, ((w.length : Nat) : Int)) 0 = some (cond (w.all fun z => decide (0 < z)) (.inr ()) (.inl ())) := by
 have key : ∀ (n i : Nat), w.length - i = n → i ≤ w.length → iter (eL (a1, a2, a3, a4, wcs w, w.length, D, 1, ((w.length : Nat) : Int))) (n + 1) (i : Int) = some (cond ((w.drop i).all fun z => decide (0 < z)) (.inr ()) (.inl ())) := by
  intro n
  induction n with
  | zero =>
   intro i hn hi
   have he : i = w.length := by omega
   subst he
   refine cB 0 ?_
   rw [List.drop_length]
   simp only [eL, cQ, decide_eq_false (show ¬ ((w.length : Int) < ((w.length : Nat) : Int)) by omega), cond_false]
   rfl
  | succ n ih =>
   intro i hn hi
   have h : i < w.length := by omega
   have hdw : w.drop i = w.getD i 0 :: w.drop (i + 1) := by
    rw [List.drop_eq_getElem_cons h]; simp [List.getD_eq_getElem?_getD, List.getElem?_eq_getElem h]
   have wr : IntKind.wrap .i64 ((i : Int) + 1) = ((i + 1 : Nat) : Int) := by rw [bV (by omega)]; omega
   have hz : fit (w.getD i 0) := aY (a := 190) (by
    rw [List.getD_eq_getElem?_getD, List.getElem?_eq_getElem h]
    exact hw _ (List.getElem_mem h)) (by decide)
   have g := fun j hj => wg (j := j) h hj
   have step : eL (a1, a2, a3, a4, wcs w, w.length, D, 1, ((w.length : Nat) : Int)) (i : Int) = cond (decide (sgn (w.getD i 0) ≤ 0)) (some (.inr (.inl ()))) (some (.inl ((i + 1 : Nat) : Int))) := by
    simp only [eL, cQ, decLt h, fk, cond_true, Bool.and_self, aA, fZ, wro h, g 0 (by decide), g 1 (by decide), g 2 (by decide), g 3 (by decide), g 4 (by decide), g 5 (by decide), g 6 (by decide), g 7 (by decide), wr, NG hz, Option.bind_some]
   rw [hdw, List.all_cons]
   by_cases h0 : 0 < w.getD i 0
   ·have : decide (sgn (w.getD i 0) ≤ 0) = false := by
     unfold sgn
     rw [decide_eq_false (show ¬ w.getD i 0 < 0 by omega), decide_eq_false (show ¬ w.getD i 0 = 0 by omega)]; rfl
    rw [this] at step
    rw [decide_eq_true h0, Bool.true_and]
    exact bN step (ih (i + 1) (by omega) (by omega))
   ·have : decide (sgn (w.getD i 0) ≤ 0) = true := by
     unfold sgn
     by_cases h1 : w.getD i 0 < 0
     ·rw [decide_eq_true h1]; rfl
     ·rw [decide_eq_false h1, decide_eq_true (show w.getD i 0 = 0 by omega)]; rfl
    rw [this] at step
    rw [decide_eq_false h0, Bool.false_and]
    exact cB _ step
 have := key w.length 0 (by omega) (by omega)
 rw [List.drop_zero] at this
 exact dI (by unfold me; omega) this
theorem Uq {N : Pt} {D : Int} {l : List Pt} (hN : PtB 240 N) (hD : sm 190 D) (hok : aD l = true) (hl : l.length < 1000000000) :
  qc (aa N.1 0, aa N.1 1, aa N.1 2, aa N.1 3, aa N.1 4, aa N.1 5, aa N.1 6, aa N.1 7, aa N.2.1 0, aa N.2.1 1, aa N.2.1 2, aa N.2.1 3, aa N.2.1 4, aa N.2.1 5, aa N.2.1 6, aa N.2.1 7, aa N.2.2 0, aa N.2.2 1, aa N.2.2 2, aa N.2.2 3, aa N.2.2 4, aa N.2.2 5, aa N.2.2 6, aa N.2.2 7, aa D 0, aa D 1, aa D 2, aa D 3, aa D 4, aa D 5, aa D 6, aa D 7, pcs l, l.length, ((l.length : Nat) : Int)) 0 = some (cond (l.all fun p => !jV N D p) (.inr ()) (.inl ())) := by
 have key : ∀ (n i : Nat), l.length - i = n → i ≤ l.length → iter (ez (aa N.1 0, aa N.1 1, aa N.1 2, aa N.1 3, aa N.1 4, aa N.1 5, aa N.1 6, aa N.1 7, aa N.2.1 0, aa N.2.1 1, aa N.2.1 2, aa N.2.1 3, aa N.2.1 4, aa N.2.1 5, aa N.2.1 6, aa N.2.1 7, aa N.2.2 0, aa N.2.2 1, aa N.2.2 2, aa N.2.2 3, aa N.2.2 4, aa N.2.2 5, aa N.2.2 6, aa N.2.2 7, aa D 0, aa D 1, aa D 2, aa D 3, aa D 4, aa D 5, aa D 6, aa D 7, pcs l, l.length, ((l.length : Nat) : Int))) (n + 1) (i : Int) = some (cond ((l.drop i).all fun p => !jV N D p) (.inr ()) (.inl ())) := by
  intro n
  induction n with
  | zero =>
   intro i hn hi
   have he : i = l.length := by omega
   subst he
   refine cB 0 ?_
   rw [List.drop_length]
   simp only [ez, cH, decide_eq_false (show ¬ ((l.length : Int) < ((l.length : Nat) : Int)) by omega), cond_false]
   rfl
  | succ n ih =>
   intro i hn hi
   have h : i < l.length := by omega
   have hd : l.drop i = pat l i :: l.drop (i + 1) := by
    rw [List.drop_eq_getElem_cons h]; simp [pat, List.getD_eq_getElem?_getD, List.getElem?_eq_getElem h]
   have wr : IntKind.wrap .i64 ((i : Int) + 1) = ((i + 1 : Nat) : Int) := by rw [bV (by omega)]; omega
   have hp : ik (aa N.1 0) (aa N.1 1) (aa N.1 2) (aa N.1 3) (aa N.1 4) (aa N.1 5) (aa N.1 6) (aa N.1 7) (aa N.2.1 0) (aa N.2.1 1) (aa N.2.1 2) (aa N.2.1 3) (aa N.2.1 4) (aa N.2.1 5) (aa N.2.1 6) (aa N.2.1 7) (aa N.2.2 0) (aa N.2.2 1) (aa N.2.2 2) (aa N.2.2 3) (aa N.2.2 4) (aa N.2.2 5) (aa N.2.2 6) (aa N.2.2 7) (aa D 0) (aa D 1) (aa D 2) (aa D 3) (aa D 4) (aa D 5) (aa D 6) (aa D 7) [] 0 (pat l i).1 (pat l i).2.1 (pat l i).2.2 = some (jV N D (pat l i)) := P5 hN hD (eh hok h) [] 0
   have step : ez (aa N.1 0, aa N.1 1, aa N.1 2, aa N.1 3, aa N.1 4, aa N.1 5, aa N.1 6, aa N.1 7, aa N.2.1 0, aa N.2.1 1, aa N.2.1 2, aa N.2.1 3, aa N.2.1 4, aa N.2.1 5, aa N.2.1 6, aa N.2.1 7, aa N.2.2 0, aa N.2.2 1, aa N.2.2 2, aa N.2.2 3, aa N.2.2 4, aa N.2.2 5, aa N.2.2 6, aa N.2.2 7, aa D 0, aa D 1, aa D 2, aa D 3, aa D 4, aa D 5, aa D 6, aa D 7, pcs l, l.length, ((l.length : Nat) : Int)) (i : Int) = cond (jV N D (pat l i)) (some (.inr (.inl ()))) (some (.inl ((i + 1 : Nat) : Int))) := by
    simp only [ez, cH, decLt h, fk, cond_true, Bool.and_self, aA, fZ, pro h, pg0 h, pg1 h, pg2 h, wr, hp, Option.bind_some]
   rw [hd, List.all_cons]
   cases hb : jV N D (pat l i) with
   | true =>
    rw [hb] at step
    exact cB _ step
   | false =>
    rw [hb] at step
    exact bN step (ih (i + 1) (by omega) (by omega))
 have := key l.length 0 (by omega) (by omega)
 rw [List.drop_zero] at this
 exact dI (by unfold me; omega) this
def IR (l S : List Pt) : Prop := (∀ x ∈ (wts S).1, 0 < x) ∧ tu l S
theorem Prim.Ur {n N p : Pt} {d D s : Int} (h : Prim n d N D) (hd : 0 < d) (hs : ae n n = d * s) : jV N D p = true ↔ ae p n < s := by
 obtain ⟨⟨g, g0, rfl, rfl⟩, _⟩ := h
 have hD : 0 < D := by
  rcases Int.lt_or_le 0 D with q | q
  ·exact q
  ·have := Int.mul_nonpos_of_nonneg_of_nonpos (Int.le_of_lt g0) q
   omega
 have e1 : ae (g * N.1, g * N.2.1, g * N.2.2) (g * N.1, g * N.2.1, g * N.2.2) = g * g * ae N N := by simp only [ae]; grind
 have e2 : ae p (g * N.1, g * N.2.1, g * N.2.2) = g * ae N p := by simp only [ae]; grind
 rw [e1] at hs
 have e3 : g * ae N N = D * s := by
  have : g * (g * ae N N) = g * (D * s) := by grind
  exact Int.eq_of_mul_eq_mul_left (by omega) this
 rw [e2]
 unfold jV
 rw [decide_eq_true_eq]
 constructor
 ·intro q
  have q1 := Int.mul_lt_mul_of_pos_left q g0
  have q2 : D * (g * ae N p) < D * s := by
   have : g * (ae N p * D) = D * (g * ae N p) := by grind
   omega
  exact Int.lt_of_mul_lt_mul_left q2 (Int.le_of_lt hD)
 ·intro q
  have q1 := Int.mul_lt_mul_of_pos_left q hD
  have q2 : g * (ae N p * D) < g * ae N N := by
   have : D * (g * ae N p) = g * (ae N p * D) := by grind
   omega
  exact Int.lt_of_mul_lt_mul_left q2 (Int.le_of_lt g0)
theorem Prim.sm {n N : Pt} {d D : Int} (h : Prim n d N D) (hn : PtB 240 n) (hd : sm 190 d) : PtB 240 N ∧ sm 190 D := by
 obtain ⟨⟨g, g0, rfl, rfl⟩, _⟩ := h
 have q : ∀ {k : Nat} {z : Int}, Go.Ev.sm k (g * z) → Go.Ev.sm k z := by
  intro k z ha
  unfold Go.Ev.sm at *
  rcases Int.le_total 0 z with h | h
  ·have : 1 * z ≤ g * z := Int.mul_le_mul_of_nonneg_right (by omega) h
   have := Int.natCast_nonneg (2 ^ k)
   omega
  ·have : g * z ≤ 1 * z := Int.mul_le_mul_of_nonpos_right (by omega) h
   have := Int.natCast_nonneg (2 ^ k)
   omega
 exact ⟨⟨⟨q hn.h.1, q hn.h.2.1, q hn.h.2.2⟩⟩, q hd⟩
theorem NH : ∀ (w : List Int) (l : List Pt), w.length = l.length → aD l = true → (∀ z ∈ w, sm 190 z) → PtB (218 + l.length) (bA w l)
 | [], [], _, _, _ => ⟨⟨nY, nY, nY⟩⟩
 | x :: w, p :: l, hl, ho, hw => by
  simp only [aQ] at ho
  have h1 := NH w l (by simpa using hl) ho.2 (fun z hz => hw z (by simp [hz]))
  have hp := PtB.of ho.1
  have hx := hw x (by simp)
  have q : ∀ {u v : Int}, sm 28 u → sm (218 + l.length) v → sm (218 + (l.length + 1)) (x * u + v) := fun {u v} hu hv => lJ (aW (cT hx hu) (Nat.le_add_right 218 _)) hv
  exact ⟨⟨q hp.h.1 h1.h.1, q hp.h.2.1 h1.h.2.1, q hp.h.2.2 h1.h.2.2⟩⟩
 | [], _ :: _, h, _, _ => by simp at h
 | _ :: _, [], h, _, _ => by simp at h
theorem P6 {l S : List Pt} (hok : aD l = true) (hl : l.length < 1000000000) (hS : aD S = true) (hi : ind S) :
  ∃ (b : Bool) (N : Pt) (D : Int), ar (pcs l) l.length (pcs S) S.length = some (cond b (N.1, N.2.1, N.2.2, D, true) (0, 0, 0, 0, false)) ∧ (b = true ↔ IR l S) ∧ (b = true → Prim (bG S) (wts S).2 N D ∧ PtB 240 N ∧ sm 190 D) := by
 obtain ⟨h1, h4⟩ := E5 hi
 obtain ⟨f1, f2⟩ := ND hS h1 h4
 obtain ⟨s1, s2⟩ := Ht S h1 h4
 have hd := qu hi
 have hw := P4 hS h1 h4
 have hL3 := Up f2 (by omega) (pcs l) l.length (pcs S) S.length (wcs [(wts S).2])
 have zero : ∀ x, ar (pcs l) l.length (pcs S) S.length = Option.bind (some x) some → True := fun _ _ => trivial
 have fin0 : dZ (pcs l) l.length (pcs S) S.length = some (0, 0, 0, 0, 0, 0, 0, 0, 0, 0, 0, 0, 0, 0, 0, 0, 0, 0, 0, 0, 0, 0, 0, 0, 0, 0, 0, 0, 0, 0, 0, 0, false) → ar (pcs l) l.length (pcs S) S.length = some (0, 0, 0, 0, false) := by
  intro e
  unfold ar
  rw [e]
  rfl
 have hL3' : kU (pcs l, l.length, pcs S, S.length, wcs (wts S).1, S.length, ([.int .u64 (aa (wts S).2 0), .int .u64 (aa (wts S).2 1), .int .u64 (aa (wts S).2 2), .int .u64 (aa (wts S).2 3), .int .u64 (aa (wts S).2 4), .int .u64 (aa (wts S).2 5), .int .u64 (aa (wts S).2 6), .int .u64 (aa (wts S).2 7)] : LA_), 1, ((S.length : Nat) : Int)) 0 = some (cond ((wts S).1.all fun z => decide (0 < z)) (.inr ()) (.inl ())) := by
  rw [s2] at hL3
  exact hL3
 cases hpos : (wts S).1.all fun z => decide (0 < z) with
 | false =>
  refine ⟨false, (0, 0, 0), 0, fin0 ?_, ⟨fun h => (by cases h), fun h => ?_⟩, fun h => (by cases h)⟩
  ·unfold dZ
   unfold v8 aZ
   rw [hw, Option.bind_some]
   simp only
   rw [hL3', hpos]
   rfl
  ·exfalso
   have : ((wts S).1.all fun z => decide (0 < z)) = true := List.all_eq_true.2 fun z hz => by simpa using h.1 z hz
   rw [hpos] at this
   cases this
 | true =>
  have hp : ∀ x ∈ (wts S).1, 0 < x := fun x hx => by simpa using List.all_eq_true.1 hpos x hx
  obtain ⟨N, D, hP, hZ⟩ := U4 s2 hS f2 h4 hd f1
  have hn : PtB 240 (bG S) := by
   have h := NH (wts S).1 S s2 hS f2
   exact ⟨⟨aW h.h.1 (by omega), aW h.h.2.1 (by omega), aW h.h.2.2 (by omega)⟩⟩
  obtain ⟨hN, hD⟩ := hP.sm hn f1
  have hL10 := Uq hN hD hok hl
  have hst := Nst.of hi hp
  have hpast : ∀ p, jV N D p = true ↔ ae p (bG S) < ae (S.headD (0, 0, 0)) (bG S) := fun p => hP.Ur hd hst.sq
  have hall : (l.all fun p => !jV N D p) = true ↔ tu l S := by
   rw [List.all_eq_true]
   constructor
   ·intro h p hpl
    have := h p hpl
    rw [Bool.not_eq_true'] at this
    rcases Int.lt_or_le (ae p (bG S)) (ae (S.headD (0, 0, 0)) (bG S)) with q | q
    ·rw [(hpast p).2 q] at this; cases this
    ·exact q
   ·intro h p hpl
    cases hb : jV N D p with
    | false => rfl
    | true => have := (hpast p).1 hb; have := h p hpl; omega
  have F : dZ (pcs l) l.length (pcs S) S.length = (Sum.elim (fun _ => some (0, 0, 0, 0, 0, 0, 0, 0, 0, 0, 0, 0, 0, 0, 0, 0, 0, 0, 0, 0, 0, 0, 0, 0, 0, 0, 0, 0, 0, 0, 0, 0, false)) (fun _ => some (aa N.1 0, aa N.1 1, aa N.1 2, aa N.1 3, aa N.1 4, aa N.1 5, aa N.1 6, aa N.1 7, aa N.2.1 0, aa N.2.1 1, aa N.2.1 2, aa N.2.1 3, aa N.2.1 4, aa N.2.1 5, aa N.2.1 6, aa N.2.1 7, aa N.2.2 0, aa N.2.2 1, aa N.2.2 2, aa N.2.2 3, aa N.2.2 4, aa N.2.2 5, aa N.2.2 6, aa N.2.2 7, aa D 0, aa D 1, aa D 2, aa D 3, aa D 4, aa D 5, aa D 6, aa D 7, true)) (cond (l.all fun p => !jV N D p) (Sum.inr () : Unit ⊕ Unit) (.inl ()))) := by
   unfold dZ
   unfold v8 aZ
   rw [hw, Option.bind_some]
   simp only
   rw [hL3', hpos]
   simp only [cond_true, Option.bind_some, Sum.elim_inr]
   rw [s2] at hZ
   rw [hZ, Option.bind_some]
   simp only
   rw [hL10, Option.bind_some]
  cases hb : l.all fun p => !jV N D p with
  | false =>
   rw [hb] at F hall
   refine ⟨false, (0, 0, 0), 0, fin0 F, ⟨fun h => (by cases h), fun h => ?_⟩, fun h => (by cases h)⟩
   have := hall.2 h.2
   cases this
  | true =>
   rw [hb] at F hall
   refine ⟨true, N, D, ?_, ⟨fun _ => ⟨hp, hall.1 rfl⟩, fun _ => rfl⟩, fun _ => ⟨hP, hN, hD⟩⟩
   unfold ar
   rw [F]
   simp only [cond_true, Sum.elim_inr, Option.bind_some, bv, Bool.and_self, aA]
   rw [aG (aY hN.h.1 (by decide)), aG (aY hN.h.2.1 (by decide)), aG (aY hN.h.2.2 (by decide)), aG (aY hD (by decide))]
abbrev s6 := (I8 (I8 (I8 (I8 (Int × LA_ × Nat)))))
def qX : CH := (CH.add 37 ft (CH.add 35 iX CH.none))
def sC : CH := wB Tryz.prog jM [36, 54, 72, 103] 600 qX 5
theorem xY : aE Tryz.prog qX := (CH.aj gZ (CH.aj kN CH.aC))
theorem zq : aE Tryz.prog sC := jn aL mixed bE xY 5
def kQ (u0 u1 u2 : Int) : Option (s6) :=
 (Option.bind (aB ([.int .i64 u0, .int .i64 u1, .int .i64 u2] : LA_) 1) fun r1 => (cond (r1.2 != 0) (some (0, 0, 0, 0, 0, 0, 0, 0, 0, 0, 0, 0, 0, 0, 0, 0, 0, 0, 0, 0, 0, 0, 0, 0, 0, 0, 0, 0, 0, 0, 0, 0, r1.2, ([] : LA_), 0)) (Option.bind (Option.bind (aB ([.int .i64 u0, .int .i64 u1, .int .i64 u2] : LA_) 1) fun r2 => (cond (r2.1 != 0) (some (true, fun _ => 0)) (Option.bind (ar ([.int .i64 u0, .int .i64 u1, .int .i64 u2] : LA_) 1 ([.int .i64 u0, .int .i64 u1, .int .i64 u2] : LA_) 1) fun r3 => (cond r3.2.2.2.2 (some (false, fun i => ac (li8 r3.1 (li8 r3.2.1 (li8 r3.2.2.1 (li8 r3.2.2.2.1 [.vec 8])))) i)) (some (true, fun _ => 0)))))) fun q4 => (cond q4.1 (some (0, 0, 0, 0, 0, 0, 0, 0, 0, 0, 0, 0, 0, 0, 0, 0, 0, 0, 0, 0, 0, 0, 0, 0, 0, 0, 0, 0, 0, 0, 0, 0, 2, ([] : LA_), 0)) (some (gf q4.2 (0, ([.int .i64 0] : LA_), 1)))))))
def mQ : FD where
 X := s6
 k := 1
 pre := [(33000002, 1)]
 F := fun s => [0, nameAt s 0 [.c 0, .c 32]]
 M := .tup [.agg (rl (.int .u64) 32 [.vec 1]), .int .i64]
 B := [.vec 1 true]
 toL := fun x => [.I x.1, .I x.2.1, .I x.2.2.1, .I x.2.2.2.1, .I x.s4.1, .I x.s4.2.1, .I x.s4.2.2.1, .I x.s4.2.2.2.1, .I x.s8.1, .I x.s8.2.1, .I x.s8.2.2.1, .I x.s8.2.2.2.1, .I x.s8.s4.1, .I x.s8.s4.2.1, .I x.s8.s4.2.2.1, .I x.s8.s4.2.2.2.1, .I x.s16.1, .I x.s16.2.1, .I x.s16.2.2.1, .I x.s16.2.2.2.1, .I x.s16.s4.1, .I x.s16.s4.2.1, .I x.s16.s4.2.2.1, .I x.s16.s4.2.2.2.1, .I x.s16.s8.1, .I x.s16.s8.2.1, .I x.s16.s8.2.2.1, .I x.s16.s8.2.2.2.1, .I x.s16.s8.s4.1, .I x.s16.s8.s4.2.1, .I x.s16.s8.s4.2.2.1, .I x.s16.s8.s4.2.2.2.1, .I x.s16.s16.1, .C x.s16.s16.2.1, .N x.s16.s16.2.2]
 ofL := fun ls => match ls with
  | (.I x0 :: .I x1 :: .I x2 :: .I x3 :: .I x4 :: .I x5 :: .I x6 :: .I x7 :: .I x8 :: .I x9 :: .I x10 :: .I x11 :: .I x12 :: .I x13 :: .I x14 :: .I x15 :: .I x16 :: .I x17 :: .I x18 :: .I x19 :: .I x20 :: .I x21 :: .I x22 :: .I x23 :: .I x24 :: .I x25 :: .I x26 :: .I x27 :: .I x28 :: .I x29 :: .I x30 :: .I x31 :: .I x32 :: .C x33 :: .N x34 :: []) => some (x0, x1, x2, x3, x4, x5, x6, x7, x8, x9, x10, x11, x12, x13, x14, x15, x16, x17, x18, x19, x20, x21, x22, x23, x24, x25, x26, x27, x28, x29, x30, x31, x32, x33, x34)
  | _ => none
 au := fun ls x h => by
  split at h
  ·cases h; rfl
  ·cases h
theorem Bc (u0 u1 u2 : Int) (x : s6) (h : kQ u0 u1 u2 = some x) : aX Tryz.prog 25 1 [.vec 0] [.vec [.int .i64 u0, .int .i64 u1, .int .i64 u2] 1 3 false] mQ x :=
 FD.Od (il := fun _ => false) (ro := 2) (m := 32) (ch := sC) (fn := Tryz.f25) (c := bq Tryz.f25) (fuel := 600) aL zq mixed bE mQ Tryz.func25 (by kernel_rfl)
  (by kernel_rfl) (Eq.trans (by kernel_rfl) h)
abbrev s7 := (I8 (I8 (I8 (I8 (Int × LA_ × Nat)))))
def qY : CH := (CH.add 37 ft (CH.add 35 iX CH.none))
def sE : CH := wB Tryz.prog jM [36, 54, 72, 103] 600 qY 5
theorem xZ : aE Tryz.prog qY := (CH.aj gZ (CH.aj kN CH.aC))
theorem zs : aE Tryz.prog sE := jn aL mixed bE xZ 5
def kR (u0 u1 u2 u3 u4 u5 : Int) : Option (s7) :=
 (Option.bind (aB ([.int .i64 u0, .int .i64 u1, .int .i64 u2, .int .i64 u3, .int .i64 u4, .int .i64 u5] : LA_) 2) fun r1 => (cond (r1.2 != 0) (some (0, 0, 0, 0, 0, 0, 0, 0, 0, 0, 0, 0, 0, 0, 0, 0, 0, 0, 0, 0, 0, 0, 0, 0, 0, 0, 0, 0, 0, 0, 0, 0, r1.2, ([] : LA_), 0)) (Option.bind (Option.bind (aB ([.int .i64 u0, .int .i64 u1, .int .i64 u2] : LA_) 1) fun r2 => (cond (r2.1 != 0) (some (true, fun _ => 0)) (Option.bind (ar ([.int .i64 u0, .int .i64 u1, .int .i64 u2, .int .i64 u3, .int .i64 u4, .int .i64 u5] : LA_) 2 ([.int .i64 u0, .int .i64 u1, .int .i64 u2] : LA_) 1) fun r3 => (cond r3.2.2.2.2 (some (false, fun i => ac (li8 r3.1 (li8 r3.2.1 (li8 r3.2.2.1 (li8 r3.2.2.2.1 [.vec 8])))) i)) (some (true, fun _ => 0)))))) fun q4 => (cond q4.1 (Option.bind (Option.bind (aB ([.int .i64 u3, .int .i64 u4, .int .i64 u5] : LA_) 1) fun r5 => (cond (r5.1 != 0) (some (true, fun _ => 0)) (Option.bind (ar ([.int .i64 u0, .int .i64 u1, .int .i64 u2, .int .i64 u3, .int .i64 u4, .int .i64 u5] : LA_) 2 ([.int .i64 u3, .int .i64 u4, .int .i64 u5] : LA_) 1) fun r6 => (cond r6.2.2.2.2 (some (false, fun i => ac (li8 r6.1 (li8 r6.2.1 (li8 r6.2.2.1 (li8 r6.2.2.2.1 [.vec 12])))) i)) (some (true, fun _ => 0)))))) fun q7 => (cond q7.1 (Option.bind (Option.bind (aB ([.int .i64 u0, .int .i64 u1, .int .i64 u2, .int .i64 u3, .int .i64 u4, .int .i64 u5] : LA_) 2) fun r8 => (cond (r8.1 != 1) (some (true, fun _ => 0)) (Option.bind (ar ([.int .i64 u0, .int .i64 u1, .int .i64 u2, .int .i64 u3, .int .i64 u4, .int .i64 u5] : LA_) 2 ([.int .i64 u0, .int .i64 u1, .int .i64 u2, .int .i64 u3, .int .i64 u4, .int .i64 u5] : LA_) 2) fun r9 => (cond r9.2.2.2.2 (some (false, fun i => ac (li8 r9.1 (li8 r9.2.1 (li8 r9.2.2.1 (li8 r9.2.2.2.1 [.vec 18])))) i)) (some (true, fun _ => 0)))))) fun q10 => (cond q10.1 (some (0, 0, 0, 0, 0, 0, 0, 0, 0, 0, 0, 0, 0, 0, 0, 0, 0, 0, 0, 0, 0, 0, 0, 0, 0, 0, 0, 0, 0, 0, 0, 0, 2, ([] : LA_), 0)) (some (gf q10.2 (0, ([.int .i64 0, .int .i64 1] : LA_), 2))))) (some (gf q7.2 (0, ([.int .i64 1] : LA_), 1))))) (some (gf q4.2 (0, ([.int .i64 0] : LA_), 1)))))))
def tV : FD where
 X := s7
 k := 1
 pre := [(33000002, 1)]
 F := fun s => [0, nameAt s 0 [.c 0, .c 32]]
 M := .tup [.agg (rl (.int .u64) 32 [.vec 1]), .int .i64]
 B := [.vec 1 true]
 toL := fun x => [.I x.1, .I x.2.1, .I x.2.2.1, .I x.2.2.2.1, .I x.s4.1, .I x.s4.2.1, .I x.s4.2.2.1, .I x.s4.2.2.2.1, .I x.s8.1, .I x.s8.2.1, .I x.s8.2.2.1, .I x.s8.2.2.2.1, .I x.s8.s4.1, .I x.s8.s4.2.1, .I x.s8.s4.2.2.1, .I x.s8.s4.2.2.2.1, .I x.s16.1, .I x.s16.2.1, .I x.s16.2.2.1, .I x.s16.2.2.2.1, .I x.s16.s4.1, .I x.s16.s4.2.1, .I x.s16.s4.2.2.1, .I x.s16.s4.2.2.2.1, .I x.s16.s8.1, .I x.s16.s8.2.1, .I x.s16.s8.2.2.1, .I x.s16.s8.2.2.2.1, .I x.s16.s8.s4.1, .I x.s16.s8.s4.2.1, .I x.s16.s8.s4.2.2.1, .I x.s16.s8.s4.2.2.2.1, .I x.s16.s16.1, .C x.s16.s16.2.1, .N x.s16.s16.2.2]
 ofL := fun ls => match ls with
  | (.I x0 :: .I x1 :: .I x2 :: .I x3 :: .I x4 :: .I x5 :: .I x6 :: .I x7 :: .I x8 :: .I x9 :: .I x10 :: .I x11 :: .I x12 :: .I x13 :: .I x14 :: .I x15 :: .I x16 :: .I x17 :: .I x18 :: .I x19 :: .I x20 :: .I x21 :: .I x22 :: .I x23 :: .I x24 :: .I x25 :: .I x26 :: .I x27 :: .I x28 :: .I x29 :: .I x30 :: .I x31 :: .I x32 :: .C x33 :: .N x34 :: []) => some (x0, x1, x2, x3, x4, x5, x6, x7, x8, x9, x10, x11, x12, x13, x14, x15, x16, x17, x18, x19, x20, x21, x22, x23, x24, x25, x26, x27, x28, x29, x30, x31, x32, x33, x34)
  | _ => none
 au := fun ls x h => by
  split at h
  ·cases h; rfl
  ·cases h
theorem Bd (u0 u1 u2 u3 u4 u5 : Int) (x : s7) (h : kR u0 u1 u2 u3 u4 u5 = some x) : aX Tryz.prog 25 1 [.vec 0] [.vec [.int .i64 u0, .int .i64 u1, .int .i64 u2, .int .i64 u3, .int .i64 u4, .int .i64 u5] 2 3 false] tV x :=
 FD.Od (il := fun _ => false) (ro := 2) (m := 32) (ch := sE) (fn := Tryz.f25) (c := bq Tryz.f25) (fuel := 600) aL zs mixed bE tV Tryz.func25 (by kernel_rfl)
  (by kernel_rfl) (Eq.trans (by kernel_rfl) h)
abbrev s9 := (I8 (I8 (I8 (I8 (Int × LA_ × Nat)))))
def qZ : CH := (CH.add 37 ft (CH.add 35 iX CH.none))
def sF : CH := wB Tryz.prog jM [36, 54, 72, 103] 600 qZ 5
theorem ya : aE Tryz.prog qZ := (CH.aj gZ (CH.aj kN CH.aC))
theorem zt : aE Tryz.prog sF := jn aL mixed bE ya 5
def kS (u0 u1 u2 u3 u4 u5 u6 u7 u8 : Int) : Option (s9) :=
 (Option.bind (aB ([.int .i64 u0, .int .i64 u1, .int .i64 u2, .int .i64 u3, .int .i64 u4, .int .i64 u5, .int .i64 u6, .int .i64 u7, .int .i64 u8] : LA_) 3) fun r1 => (cond (r1.2 != 0) (some (0, 0, 0, 0, 0, 0, 0, 0, 0, 0, 0, 0, 0, 0, 0, 0, 0, 0, 0, 0, 0, 0, 0, 0, 0, 0, 0, 0, 0, 0, 0, 0, r1.2, ([] : LA_), 0)) (Option.bind (Option.bind (aB ([.int .i64 u0, .int .i64 u1, .int .i64 u2] : LA_) 1) fun r2 => (cond (r2.1 != 0) (some (true, fun _ => 0)) (Option.bind (ar ([.int .i64 u0, .int .i64 u1, .int .i64 u2, .int .i64 u3, .int .i64 u4, .int .i64 u5, .int .i64 u6, .int .i64 u7, .int .i64 u8] : LA_) 3 ([.int .i64 u0, .int .i64 u1, .int .i64 u2] : LA_) 1) fun r3 => (cond r3.2.2.2.2 (some (false, fun i => ac (li8 r3.1 (li8 r3.2.1 (li8 r3.2.2.1 (li8 r3.2.2.2.1 [.vec 8])))) i)) (some (true, fun _ => 0)))))) fun q4 => (cond q4.1 (Option.bind (Option.bind (aB ([.int .i64 u3, .int .i64 u4, .int .i64 u5] : LA_) 1) fun r5 => (cond (r5.1 != 0) (some (true, fun _ => 0)) (Option.bind (ar ([.int .i64 u0, .int .i64 u1, .int .i64 u2, .int .i64 u3, .int .i64 u4, .int .i64 u5, .int .i64 u6, .int .i64 u7, .int .i64 u8] : LA_) 3 ([.int .i64 u3, .int .i64 u4, .int .i64 u5] : LA_) 1) fun r6 => (cond r6.2.2.2.2 (some (false, fun i => ac (li8 r6.1 (li8 r6.2.1 (li8 r6.2.2.1 (li8 r6.2.2.2.1 [.vec 12])))) i)) (some (true, fun _ => 0)))))) fun q7 => (cond q7.1 (Option.bind (Option.bind (aB ([.int .i64 u6, .int .i64 u7, .int .i64 u8] : LA_) 1) fun r8 => (cond (r8.1 != 0) (some (true, fun _ => 0)) (Option.bind (ar ([.int .i64 u0, .int .i64 u1, .int .i64 u2, .int .i64 u3, .int .i64 u4, .int .i64 u5, .int .i64 u6, .int .i64 u7, .int .i64 u8] : LA_) 3 ([.int .i64 u6, .int .i64 u7, .int .i64 u8] : LA_) 1) fun r9 => (cond r9.2.2.2.2 (some (false, fun i => ac (li8 r9.1 (li8 r9.2.1 (li8 r9.2.2.1 (li8 r9.2.2.2.1 [.vec 16])))) i)) (some (true, fun _ => 0)))))) fun q10 => (cond q10.1 (Option.bind (Option.bind (aB ([.int .i64 u0, .int .i64 u1, .int .i64 u2, .int .i64 u3, .int .i64 u4, .int .i64 u5] : LA_) 2) fun r11 => (cond (r11.1 != 1) (some (true, fun _ => 0)) (Option.bind (ar ([.int .i64 u0, .int .i64 u1, .int .i64 u2, .int .i64 u3, .int .i64 u4, .int .i64 u5, .int .i64 u6, .int .i64 u7, .int .i64 u8] : LA_) 3 ([.int .i64 u0, .int .i64 u1, .int .i64 u2, .int .i64 u3, .int .i64 u4, .int .i64 u5] : LA_) 2) fun r12 => (cond r12.2.2.2.2 (some (false, fun i => ac (li8 r12.1 (li8 r12.2.1 (li8 r12.2.2.1 (li8 r12.2.2.2.1 [.vec 22])))) i)) (some (true, fun _ => 0)))))) fun q13 => (cond q13.1 (Option.bind (Option.bind (aB ([.int .i64 u0, .int .i64 u1, .int .i64 u2, .int .i64 u6, .int .i64 u7, .int .i64 u8] : LA_) 2) fun r14 => (cond (r14.1 != 1) (some (true, fun _ => 0)) (Option.bind (ar ([.int .i64 u0, .int .i64 u1, .int .i64 u2, .int .i64 u3, .int .i64 u4, .int .i64 u5, .int .i64 u6, .int .i64 u7, .int .i64 u8] : LA_) 3 ([.int .i64 u0, .int .i64 u1, .int .i64 u2, .int .i64 u6, .int .i64 u7, .int .i64 u8] : LA_) 2) fun r15 => (cond r15.2.2.2.2 (some (false, fun i => ac (li8 r15.1 (li8 r15.2.1 (li8 r15.2.2.1 (li8 r15.2.2.2.1 [.vec 28])))) i)) (some (true, fun _ => 0)))))) fun q16 => (cond q16.1 (Option.bind (Option.bind (aB ([.int .i64 u3, .int .i64 u4, .int .i64 u5, .int .i64 u6, .int .i64 u7, .int .i64 u8] : LA_) 2) fun r17 => (cond (r17.1 != 1) (some (true, fun _ => 0)) (Option.bind (ar ([.int .i64 u0, .int .i64 u1, .int .i64 u2, .int .i64 u3, .int .i64 u4, .int .i64 u5, .int .i64 u6, .int .i64 u7, .int .i64 u8] : LA_) 3 ([.int .i64 u3, .int .i64 u4, .int .i64 u5, .int .i64 u6, .int .i64 u7, .int .i64 u8] : LA_) 2) fun r18 => (cond r18.2.2.2.2 (some (false, fun i => ac (li8 r18.1 (li8 r18.2.1 (li8 r18.2.2.1 (li8 r18.2.2.2.1 [.vec 34])))) i)) (some (true, fun _ => 0)))))) fun q19 => (cond q19.1 (Option.bind (Option.bind (aB ([.int .i64 u0, .int .i64 u1, .int .i64 u2, .int .i64 u3, .int .i64 u4, .int .i64 u5, .int .i64 u6, .int .i64 u7, .int .i64 u8] : LA_) 3) fun r20 => (cond (r20.1 != 2) (some (true, fun _ => 0)) (Option.bind (ar ([.int .i64 u0, .int .i64 u1, .int .i64 u2, .int .i64 u3, .int .i64 u4, .int .i64 u5, .int .i64 u6, .int .i64 u7, .int .i64 u8] : LA_) 3 ([.int .i64 u0, .int .i64 u1, .int .i64 u2, .int .i64 u3, .int .i64 u4, .int .i64 u5, .int .i64 u6, .int .i64 u7, .int .i64 u8] : LA_) 3) fun r21 => (cond r21.2.2.2.2 (some (false, fun i => ac (li8 r21.1 (li8 r21.2.1 (li8 r21.2.2.1 (li8 r21.2.2.2.1 [.vec 42])))) i)) (some (true, fun _ => 0)))))) fun q22 => (cond q22.1 (some (0, 0, 0, 0, 0, 0, 0, 0, 0, 0, 0, 0, 0, 0, 0, 0, 0, 0, 0, 0, 0, 0, 0, 0, 0, 0, 0, 0, 0, 0, 0, 0, 2, ([] : LA_), 0)) (some (gf q22.2 (0, ([.int .i64 0, .int .i64 1, .int .i64 2] : LA_), 3))))) (some (gf q19.2 (0, ([.int .i64 1, .int .i64 2] : LA_), 2))))) (some (gf q16.2 (0, ([.int .i64 0, .int .i64 2] : LA_), 2))))) (some (gf q13.2 (0, ([.int .i64 0, .int .i64 1] : LA_), 2))))) (some (gf q10.2 (0, ([.int .i64 2] : LA_), 1))))) (some (gf q7.2 (0, ([.int .i64 1] : LA_), 1))))) (some (gf q4.2 (0, ([.int .i64 0] : LA_), 1)))))))
def tW : FD where
 X := s9
 k := 1
 pre := [(33000002, 1)]
 F := fun s => [0, nameAt s 0 [.c 0, .c 32]]
 M := .tup [.agg (rl (.int .u64) 32 [.vec 1]), .int .i64]
 B := [.vec 1 true]
 toL := fun x => [.I x.1, .I x.2.1, .I x.2.2.1, .I x.2.2.2.1, .I x.s4.1, .I x.s4.2.1, .I x.s4.2.2.1, .I x.s4.2.2.2.1, .I x.s8.1, .I x.s8.2.1, .I x.s8.2.2.1, .I x.s8.2.2.2.1, .I x.s8.s4.1, .I x.s8.s4.2.1, .I x.s8.s4.2.2.1, .I x.s8.s4.2.2.2.1, .I x.s16.1, .I x.s16.2.1, .I x.s16.2.2.1, .I x.s16.2.2.2.1, .I x.s16.s4.1, .I x.s16.s4.2.1, .I x.s16.s4.2.2.1, .I x.s16.s4.2.2.2.1, .I x.s16.s8.1, .I x.s16.s8.2.1, .I x.s16.s8.2.2.1, .I x.s16.s8.2.2.2.1, .I x.s16.s8.s4.1, .I x.s16.s8.s4.2.1, .I x.s16.s8.s4.2.2.1, .I x.s16.s8.s4.2.2.2.1, .I x.s16.s16.1, .C x.s16.s16.2.1, .N x.s16.s16.2.2]
 ofL := fun ls => match ls with
  | (.I x0 :: .I x1 :: .I x2 :: .I x3 :: .I x4 :: .I x5 :: .I x6 :: .I x7 :: .I x8 :: .I x9 :: .I x10 :: .I x11 :: .I x12 :: .I x13 :: .I x14 :: .I x15 :: .I x16 :: .I x17 :: .I x18 :: .I x19 :: .I x20 :: .I x21 :: .I x22 :: .I x23 :: .I x24 :: .I x25 :: .I x26 :: .I x27 :: .I x28 :: .I x29 :: .I x30 :: .I x31 :: .I x32 :: .C x33 :: .N x34 :: []) => some (x0, x1, x2, x3, x4, x5, x6, x7, x8, x9, x10, x11, x12, x13, x14, x15, x16, x17, x18, x19, x20, x21, x22, x23, x24, x25, x26, x27, x28, x29, x30, x31, x32, x33, x34)
  | _ => none
 au := fun ls x h => by
  split at h
  ·cases h; rfl
  ·cases h
theorem Be (u0 u1 u2 u3 u4 u5 u6 u7 u8 : Int) (x : s9) (h : kS u0 u1 u2 u3 u4 u5 u6 u7 u8 = some x) : aX Tryz.prog 25 1 [.vec 0] [.vec [.int .i64 u0, .int .i64 u1, .int .i64 u2, .int .i64 u3, .int .i64 u4, .int .i64 u5, .int .i64 u6, .int .i64 u7, .int .i64 u8] 3 3 false] tW x :=
 FD.Od (il := fun _ => false) (ro := 2) (m := 32) (ch := sF) (fn := Tryz.f25) (c := bq Tryz.f25) (fuel := 600) aL zt mixed bE tW Tryz.func25 (by kernel_rfl)
  (by kernel_rfl) (Eq.trans (by kernel_rfl) h)
abbrev ta := (I8 (I8 (I8 (I8 (Int × LA_ × Nat)))))
def q9 : CH := (CH.add 37 ft (CH.add 35 iX CH.none))
def sG : CH := wB Tryz.prog jM [36, 54, 72, 103] 600 q9 5
theorem yb : aE Tryz.prog q9 := (CH.aj gZ (CH.aj kN CH.aC))
theorem zu : aE Tryz.prog sG := jn aL mixed bE yb 5
def kT (u0 u1 u2 u3 u4 u5 u6 u7 u8 u9 u10 u11 : Int) : Option (ta) :=
 (Option.bind (aB ([.int .i64 u0, .int .i64 u1, .int .i64 u2, .int .i64 u3, .int .i64 u4, .int .i64 u5, .int .i64 u6, .int .i64 u7, .int .i64 u8, .int .i64 u9, .int .i64 u10, .int .i64 u11] : LA_) 4) fun r1 => (cond (r1.2 != 0) (some (0, 0, 0, 0, 0, 0, 0, 0, 0, 0, 0, 0, 0, 0, 0, 0, 0, 0, 0, 0, 0, 0, 0, 0, 0, 0, 0, 0, 0, 0, 0, 0, r1.2, ([] : LA_), 0)) (Option.bind (Option.bind (aB ([.int .i64 u0, .int .i64 u1, .int .i64 u2] : LA_) 1) fun r2 => (cond (r2.1 != 0) (some (true, fun _ => 0)) (Option.bind (ar ([.int .i64 u0, .int .i64 u1, .int .i64 u2, .int .i64 u3, .int .i64 u4, .int .i64 u5, .int .i64 u6, .int .i64 u7, .int .i64 u8, .int .i64 u9, .int .i64 u10, .int .i64 u11] : LA_) 4 ([.int .i64 u0, .int .i64 u1, .int .i64 u2] : LA_) 1) fun r3 => (cond r3.2.2.2.2 (some (false, fun i => ac (li8 r3.1 (li8 r3.2.1 (li8 r3.2.2.1 (li8 r3.2.2.2.1 [.vec 8])))) i)) (some (true, fun _ => 0)))))) fun q4 => (cond q4.1 (Option.bind (Option.bind (aB ([.int .i64 u3, .int .i64 u4, .int .i64 u5] : LA_) 1) fun r5 => (cond (r5.1 != 0) (some (true, fun _ => 0)) (Option.bind (ar ([.int .i64 u0, .int .i64 u1, .int .i64 u2, .int .i64 u3, .int .i64 u4, .int .i64 u5, .int .i64 u6, .int .i64 u7, .int .i64 u8, .int .i64 u9, .int .i64 u10, .int .i64 u11] : LA_) 4 ([.int .i64 u3, .int .i64 u4, .int .i64 u5] : LA_) 1) fun r6 => (cond r6.2.2.2.2 (some (false, fun i => ac (li8 r6.1 (li8 r6.2.1 (li8 r6.2.2.1 (li8 r6.2.2.2.1 [.vec 12])))) i)) (some (true, fun _ => 0)))))) fun q7 => (cond q7.1 (Option.bind (Option.bind (aB ([.int .i64 u6, .int .i64 u7, .int .i64 u8] : LA_) 1) fun r8 => (cond (r8.1 != 0) (some (true, fun _ => 0)) (Option.bind (ar ([.int .i64 u0, .int .i64 u1, .int .i64 u2, .int .i64 u3, .int .i64 u4, .int .i64 u5, .int .i64 u6, .int .i64 u7, .int .i64 u8, .int .i64 u9, .int .i64 u10, .int .i64 u11] : LA_) 4 ([.int .i64 u6, .int .i64 u7, .int .i64 u8] : LA_) 1) fun r9 => (cond r9.2.2.2.2 (some (false, fun i => ac (li8 r9.1 (li8 r9.2.1 (li8 r9.2.2.1 (li8 r9.2.2.2.1 [.vec 16])))) i)) (some (true, fun _ => 0)))))) fun q10 => (cond q10.1 (Option.bind (Option.bind (aB ([.int .i64 u9, .int .i64 u10, .int .i64 u11] : LA_) 1) fun r11 => (cond (r11.1 != 0) (some (true, fun _ => 0)) (Option.bind (ar ([.int .i64 u0, .int .i64 u1, .int .i64 u2, .int .i64 u3, .int .i64 u4, .int .i64 u5, .int .i64 u6, .int .i64 u7, .int .i64 u8, .int .i64 u9, .int .i64 u10, .int .i64 u11] : LA_) 4 ([.int .i64 u9, .int .i64 u10, .int .i64 u11] : LA_) 1) fun r12 => (cond r12.2.2.2.2 (some (false, fun i => ac (li8 r12.1 (li8 r12.2.1 (li8 r12.2.2.1 (li8 r12.2.2.2.1 [.vec 20])))) i)) (some (true, fun _ => 0)))))) fun q13 => (cond q13.1 (Option.bind (Option.bind (aB ([.int .i64 u0, .int .i64 u1, .int .i64 u2, .int .i64 u3, .int .i64 u4, .int .i64 u5] : LA_) 2) fun r14 => (cond (r14.1 != 1) (some (true, fun _ => 0)) (Option.bind (ar ([.int .i64 u0, .int .i64 u1, .int .i64 u2, .int .i64 u3, .int .i64 u4, .int .i64 u5, .int .i64 u6, .int .i64 u7, .int .i64 u8, .int .i64 u9, .int .i64 u10, .int .i64 u11] : LA_) 4 ([.int .i64 u0, .int .i64 u1, .int .i64 u2, .int .i64 u3, .int .i64 u4, .int .i64 u5] : LA_) 2) fun r15 => (cond r15.2.2.2.2 (some (false, fun i => ac (li8 r15.1 (li8 r15.2.1 (li8 r15.2.2.1 (li8 r15.2.2.2.1 [.vec 26])))) i)) (some (true, fun _ => 0)))))) fun q16 => (cond q16.1 (Option.bind (Option.bind (aB ([.int .i64 u0, .int .i64 u1, .int .i64 u2, .int .i64 u6, .int .i64 u7, .int .i64 u8] : LA_) 2) fun r17 => (cond (r17.1 != 1) (some (true, fun _ => 0)) (Option.bind (ar ([.int .i64 u0, .int .i64 u1, .int .i64 u2, .int .i64 u3, .int .i64 u4, .int .i64 u5, .int .i64 u6, .int .i64 u7, .int .i64 u8, .int .i64 u9, .int .i64 u10, .int .i64 u11] : LA_) 4 ([.int .i64 u0, .int .i64 u1, .int .i64 u2, .int .i64 u6, .int .i64 u7, .int .i64 u8] : LA_) 2) fun r18 => (cond r18.2.2.2.2 (some (false, fun i => ac (li8 r18.1 (li8 r18.2.1 (li8 r18.2.2.1 (li8 r18.2.2.2.1 [.vec 32])))) i)) (some (true, fun _ => 0)))))) fun q19 => (cond q19.1 (Option.bind (Option.bind (aB ([.int .i64 u0, .int .i64 u1, .int .i64 u2, .int .i64 u9, .int .i64 u10, .int .i64 u11] : LA_) 2) fun r20 => (cond (r20.1 != 1) (some (true, fun _ => 0)) (Option.bind (ar ([.int .i64 u0, .int .i64 u1, .int .i64 u2, .int .i64 u3, .int .i64 u4, .int .i64 u5, .int .i64 u6, .int .i64 u7, .int .i64 u8, .int .i64 u9, .int .i64 u10, .int .i64 u11] : LA_) 4 ([.int .i64 u0, .int .i64 u1, .int .i64 u2, .int .i64 u9, .int .i64 u10, .int .i64 u11] : LA_) 2) fun r21 => (cond r21.2.2.2.2 (some (false, fun i => ac (li8 r21.1 (li8 r21.2.1 (li8 r21.2.2.1 (li8 r21.2.2.2.1 [.vec 38])))) i)) (some (true, fun _ => 0)))))) fun q22 => (cond q22.1 (Option.bind (Option.bind (aB ([.int .i64 u3, .int .i64 u4, .int .i64 u5, .int .i64 u6, .int .i64 u7, .int .i64 u8] : LA_) 2) fun r23 => (cond (r23.1 != 1) (some (true, fun _ => 0)) (Option.bind (ar ([.int .i64 u0, .int .i64 u1, .int .i64 u2, .int .i64 u3, .int .i64 u4, .int .i64 u5, .int .i64 u6, .int .i64 u7, .int .i64 u8, .int .i64 u9, .int .i64 u10, .int .i64 u11] : LA_) 4 ([.int .i64 u3, .int .i64 u4, .int .i64 u5, .int .i64 u6, .int .i64 u7, .int .i64 u8] : LA_) 2) fun r24 => (cond r24.2.2.2.2 (some (false, fun i => ac (li8 r24.1 (li8 r24.2.1 (li8 r24.2.2.1 (li8 r24.2.2.2.1 [.vec 44])))) i)) (some (true, fun _ => 0)))))) fun q25 => (cond q25.1 (Option.bind (Option.bind (aB ([.int .i64 u3, .int .i64 u4, .int .i64 u5, .int .i64 u9, .int .i64 u10, .int .i64 u11] : LA_) 2) fun r26 => (cond (r26.1 != 1) (some (true, fun _ => 0)) (Option.bind (ar ([.int .i64 u0, .int .i64 u1, .int .i64 u2, .int .i64 u3, .int .i64 u4, .int .i64 u5, .int .i64 u6, .int .i64 u7, .int .i64 u8, .int .i64 u9, .int .i64 u10, .int .i64 u11] : LA_) 4 ([.int .i64 u3, .int .i64 u4, .int .i64 u5, .int .i64 u9, .int .i64 u10, .int .i64 u11] : LA_) 2) fun r27 => (cond r27.2.2.2.2 (some (false, fun i => ac (li8 r27.1 (li8 r27.2.1 (li8 r27.2.2.1 (li8 r27.2.2.2.1 [.vec 50])))) i)) (some (true, fun _ => 0)))))) fun q28 => (cond q28.1 (Option.bind (Option.bind (aB ([.int .i64 u6, .int .i64 u7, .int .i64 u8, .int .i64 u9, .int .i64 u10, .int .i64 u11] : LA_) 2) fun r29 => (cond (r29.1 != 1) (some (true, fun _ => 0)) (Option.bind (ar ([.int .i64 u0, .int .i64 u1, .int .i64 u2, .int .i64 u3, .int .i64 u4, .int .i64 u5, .int .i64 u6, .int .i64 u7, .int .i64 u8, .int .i64 u9, .int .i64 u10, .int .i64 u11] : LA_) 4 ([.int .i64 u6, .int .i64 u7, .int .i64 u8, .int .i64 u9, .int .i64 u10, .int .i64 u11] : LA_) 2) fun r30 => (cond r30.2.2.2.2 (some (false, fun i => ac (li8 r30.1 (li8 r30.2.1 (li8 r30.2.2.1 (li8 r30.2.2.2.1 [.vec 56])))) i)) (some (true, fun _ => 0)))))) fun q31 => (cond q31.1 (Option.bind (Option.bind (aB ([.int .i64 u0, .int .i64 u1, .int .i64 u2, .int .i64 u3, .int .i64 u4, .int .i64 u5, .int .i64 u6, .int .i64 u7, .int .i64 u8] : LA_) 3) fun r32 => (cond (r32.1 != 2) (some (true, fun _ => 0)) (Option.bind (ar ([.int .i64 u0, .int .i64 u1, .int .i64 u2, .int .i64 u3, .int .i64 u4, .int .i64 u5, .int .i64 u6, .int .i64 u7, .int .i64 u8, .int .i64 u9, .int .i64 u10, .int .i64 u11] : LA_) 4 ([.int .i64 u0, .int .i64 u1, .int .i64 u2, .int .i64 u3, .int .i64 u4, .int .i64 u5, .int .i64 u6, .int .i64 u7, .int .i64 u8] : LA_) 3) fun r33 => (cond r33.2.2.2.2 (some (false, fun i => ac (li8 r33.1 (li8 r33.2.1 (li8 r33.2.2.1 (li8 r33.2.2.2.1 [.vec 64])))) i)) (some (true, fun _ => 0)))))) fun q34 => (cond q34.1 (Option.bind (Option.bind (aB ([.int .i64 u0, .int .i64 u1, .int .i64 u2, .int .i64 u3, .int .i64 u4, .int .i64 u5, .int .i64 u9, .int .i64 u10, .int .i64 u11] : LA_) 3) fun r35 => (cond (r35.1 != 2) (some (true, fun _ => 0)) (Option.bind (ar ([.int .i64 u0, .int .i64 u1, .int .i64 u2, .int .i64 u3, .int .i64 u4, .int .i64 u5, .int .i64 u6, .int .i64 u7, .int .i64 u8, .int .i64 u9, .int .i64 u10, .int .i64 u11] : LA_) 4 ([.int .i64 u0, .int .i64 u1, .int .i64 u2, .int .i64 u3, .int .i64 u4, .int .i64 u5, .int .i64 u9, .int .i64 u10, .int .i64 u11] : LA_) 3) fun r36 => (cond r36.2.2.2.2 (some (false, fun i => ac (li8 r36.1 (li8 r36.2.1 (li8 r36.2.2.1 (li8 r36.2.2.2.1 [.vec 72])))) i)) (some (true, fun _ => 0)))))) fun q37 => (cond q37.1 (Option.bind (Option.bind (aB ([.int .i64 u0, .int .i64 u1, .int .i64 u2, .int .i64 u6, .int .i64 u7, .int .i64 u8, .int .i64 u9, .int .i64 u10, .int .i64 u11] : LA_) 3) fun r38 => (cond (r38.1 != 2) (some (true, fun _ => 0)) (Option.bind (ar ([.int .i64 u0, .int .i64 u1, .int .i64 u2, .int .i64 u3, .int .i64 u4, .int .i64 u5, .int .i64 u6, .int .i64 u7, .int .i64 u8, .int .i64 u9, .int .i64 u10, .int .i64 u11] : LA_) 4 ([.int .i64 u0, .int .i64 u1, .int .i64 u2, .int .i64 u6, .int .i64 u7, .int .i64 u8, .int .i64 u9, .int .i64 u10, .int .i64 u11] : LA_) 3) fun r39 => (cond r39.2.2.2.2 (some (false, fun i => ac (li8 r39.1 (li8 r39.2.1 (li8 r39.2.2.1 (li8 r39.2.2.2.1 [.vec 80])))) i)) (some (true, fun _ => 0)))))) fun q40 => (cond q40.1 (Option.bind (Option.bind (aB ([.int .i64 u3, .int .i64 u4, .int .i64 u5, .int .i64 u6, .int .i64 u7, .int .i64 u8, .int .i64 u9, .int .i64 u10, .int .i64 u11] : LA_) 3) fun r41 => (cond (r41.1 != 2) (some (true, fun _ => 0)) (Option.bind (ar ([.int .i64 u0, .int .i64 u1, .int .i64 u2, .int .i64 u3, .int .i64 u4, .int .i64 u5, .int .i64 u6, .int .i64 u7, .int .i64 u8, .int .i64 u9, .int .i64 u10, .int .i64 u11] : LA_) 4 ([.int .i64 u3, .int .i64 u4, .int .i64 u5, .int .i64 u6, .int .i64 u7, .int .i64 u8, .int .i64 u9, .int .i64 u10, .int .i64 u11] : LA_) 3) fun r42 => (cond r42.2.2.2.2 (some (false, fun i => ac (li8 r42.1 (li8 r42.2.1 (li8 r42.2.2.1 (li8 r42.2.2.2.1 [.vec 88])))) i)) (some (true, fun _ => 0)))))) fun q43 => (cond q43.1 (Option.bind (Option.bind (aB ([.int .i64 u0, .int .i64 u1, .int .i64 u2, .int .i64 u3, .int .i64 u4, .int .i64 u5, .int .i64 u6, .int .i64 u7, .int .i64 u8, .int .i64 u9, .int .i64 u10, .int .i64 u11] : LA_) 4) fun r44 => (cond (r44.1 != 3) (some (true, fun _ => 0)) (Option.bind (ar ([.int .i64 u0, .int .i64 u1, .int .i64 u2, .int .i64 u3, .int .i64 u4, .int .i64 u5, .int .i64 u6, .int .i64 u7, .int .i64 u8, .int .i64 u9, .int .i64 u10, .int .i64 u11] : LA_) 4 ([.int .i64 u0, .int .i64 u1, .int .i64 u2, .int .i64 u3, .int .i64 u4, .int .i64 u5, .int .i64 u6, .int .i64 u7, .int .i64 u8, .int .i64 u9, .int .i64 u10, .int .i64 u11] : LA_) 4) fun r45 => (cond r45.2.2.2.2 (some (false, fun i => ac (li8 r45.1 (li8 r45.2.1 (li8 r45.2.2.1 (li8 r45.2.2.2.1 [.vec 98])))) i)) (some (true, fun _ => 0)))))) fun q46 => (cond q46.1 (some (0, 0, 0, 0, 0, 0, 0, 0, 0, 0, 0, 0, 0, 0, 0, 0, 0, 0, 0, 0, 0, 0, 0, 0, 0, 0, 0, 0, 0, 0, 0, 0, 2, ([] : LA_), 0)) (some (gf q46.2 (0, ([.int .i64 0, .int .i64 1, .int .i64 2, .int .i64 3] : LA_), 4))))) (some (gf q43.2 (0, ([.int .i64 1, .int .i64 2, .int .i64 3] : LA_), 3))))) (some (gf q40.2 (0, ([.int .i64 0, .int .i64 2, .int .i64 3] : LA_), 3))))) (some (gf q37.2 (0, ([.int .i64 0, .int .i64 1, .int .i64 3] : LA_), 3))))) (some (gf q34.2 (0, ([.int .i64 0, .int .i64 1, .int .i64 2] : LA_), 3))))) (some (gf q31.2 (0, ([.int .i64 2, .int .i64 3] : LA_), 2))))) (some (gf q28.2 (0, ([.int .i64 1, .int .i64 3] : LA_), 2))))) (some (gf q25.2 (0, ([.int .i64 1, .int .i64 2] : LA_), 2))))) (some (gf q22.2 (0, ([.int .i64 0, .int .i64 3] : LA_), 2))))) (some (gf q19.2 (0, ([.int .i64 0, .int .i64 2] : LA_), 2))))) (some (gf q16.2 (0, ([.int .i64 0, .int .i64 1] : LA_), 2))))) (some (gf q13.2 (0, ([.int .i64 3] : LA_), 1))))) (some (gf q10.2 (0, ([.int .i64 2] : LA_), 1))))) (some (gf q7.2 (0, ([.int .i64 1] : LA_), 1))))) (some (gf q4.2 (0, ([.int .i64 0] : LA_), 1)))))))
def tX : FD where
 X := ta
 k := 1
 pre := [(33000002, 1)]
 F := fun s => [0, nameAt s 0 [.c 0, .c 32]]
 M := .tup [.agg (rl (.int .u64) 32 [.vec 1]), .int .i64]
 B := [.vec 1 true]
 toL := fun x => [.I x.1, .I x.2.1, .I x.2.2.1, .I x.2.2.2.1, .I x.s4.1, .I x.s4.2.1, .I x.s4.2.2.1, .I x.s4.2.2.2.1, .I x.s8.1, .I x.s8.2.1, .I x.s8.2.2.1, .I x.s8.2.2.2.1, .I x.s8.s4.1, .I x.s8.s4.2.1, .I x.s8.s4.2.2.1, .I x.s8.s4.2.2.2.1, .I x.s16.1, .I x.s16.2.1, .I x.s16.2.2.1, .I x.s16.2.2.2.1, .I x.s16.s4.1, .I x.s16.s4.2.1, .I x.s16.s4.2.2.1, .I x.s16.s4.2.2.2.1, .I x.s16.s8.1, .I x.s16.s8.2.1, .I x.s16.s8.2.2.1, .I x.s16.s8.2.2.2.1, .I x.s16.s8.s4.1, .I x.s16.s8.s4.2.1, .I x.s16.s8.s4.2.2.1, .I x.s16.s8.s4.2.2.2.1, .I x.s16.s16.1, .C x.s16.s16.2.1, .N x.s16.s16.2.2]
 ofL := fun ls => match ls with
  | (.I x0 :: .I x1 :: .I x2 :: .I x3 :: .I x4 :: .I x5 :: .I x6 :: .I x7 :: .I x8 :: .I x9 :: .I x10 :: .I x11 :: .I x12 :: .I x13 :: .I x14 :: .I x15 :: .I x16 :: .I x17 :: .I x18 :: .I x19 :: .I x20 :: .I x21 :: .I x22 :: .I x23 :: .I x24 :: .I x25 :: .I x26 :: .I x27 :: .I x28 :: .I x29 :: .I x30 :: .I x31 :: .I x32 :: .C x33 :: .N x34 :: []) => some (x0, x1, x2, x3, x4, x5, x6, x7, x8, x9, x10, x11, x12, x13, x14, x15, x16, x17, x18, x19, x20, x21, x22, x23, x24, x25, x26, x27, x28, x29, x30, x31, x32, x33, x34)
  | _ => none
 au := fun ls x h => by
  split at h
  ·cases h; rfl
  ·cases h
theorem Bf (u0 u1 u2 u3 u4 u5 u6 u7 u8 u9 u10 u11 : Int) (x : ta) (h : kT u0 u1 u2 u3 u4 u5 u6 u7 u8 u9 u10 u11 = some x) : aX Tryz.prog 25 1 [.vec 0] [.vec [.int .i64 u0, .int .i64 u1, .int .i64 u2, .int .i64 u3, .int .i64 u4, .int .i64 u5, .int .i64 u6, .int .i64 u7, .int .i64 u8, .int .i64 u9, .int .i64 u10, .int .i64 u11] 4 3 false] tX x :=
 FD.Od (il := fun _ => false) (ro := 2) (m := 32) (ch := sG) (fn := Tryz.f25) (c := bq Tryz.f25) (fuel := 600) aL zu mixed bE tX Tryz.func25 (by kernel_rfl)
  (by kernel_rfl) (Eq.trans (by kernel_rfl) h)
abbrev Cu := (I8 (I8 (I8 (I8 (Int × LA_ × Nat)))))
abbrev pm := Int × Int × Int × Int × Int × LA_ × Nat
def kc (cs0 : LA_) (n1 : Nat) : Option (Cu) := match cs0, n1 with
 | [.int .i64 u0, .int .i64 u1, .int .i64 u2], 1 => kQ u0 u1 u2
 | [.int .i64 u0, .int .i64 u1, .int .i64 u2, .int .i64 u3, .int .i64 u4, .int .i64 u5], 2 => kR u0 u1 u2 u3 u4 u5
 | [.int .i64 u0, .int .i64 u1, .int .i64 u2, .int .i64 u3, .int .i64 u4, .int .i64 u5, .int .i64 u6, .int .i64 u7, .int .i64 u8], 3 => kS u0 u1 u2 u3 u4 u5 u6 u7 u8
 | [.int .i64 u0, .int .i64 u1, .int .i64 u2, .int .i64 u3, .int .i64 u4, .int .i64 u5, .int .i64 u6, .int .i64 u7, .int .i64 u8, .int .i64 u9, .int .i64 u10, .int .i64 u11], 4 => kT u0 u1 u2 u3 u4 u5 u6 u7 u8 u9 u10 u11
 | _, _ => none
def eI : FD := mQ
theorem Dv (cs0 : LA_) (n1 : Nat) (x : Cu) (h : kc cs0 n1 = some x) : aX Tryz.prog 25 1 [.vec 0] [.vec cs0 n1 3 false] eI x := by
 unfold kc at h
 split at h
 ·exact Bc _ _ _ x h
 ·exact Bd _ _ _ _ _ _ x h
 ·exact Be _ _ _ _ _ _ _ _ _ x h
 ·exact Bf _ _ _ _ _ _ _ _ _ _ _ _ x h
 ·cases h
def dM (cs0 : LA_) (n1 : Nat) : Option (pm) := Option.bind (kc cs0 n1) fun (x0, x1, x2, x3, x4, x5, x6, x7, x8, x9, x10, x11, x12, x13, x14, x15, x16, x17, x18, x19, x20, x21, x22, x23, x24, x25, x26, x27, x28, x29, x30, x31, x32, x33, x34) => ag (ok8 x0 x1 x2 x3 x4 x5 x6 x7 && ok8 x8 x9 x10 x11 x12 x13 x14 x15 && ok8 x16 x17 x18 x19 x20 x21 x22 x23 && ok8 x24 x25 x26 x27 x28 x29 x30 x31) (some ((num x0 x1 x2 x3 x4 x5 x6 x7), (num x8 x9 x10 x11 x12 x13 x14 x15), (num x16 x17 x18 x19 x20 x21 x22 x23), (num x24 x25 x26 x27 x28 x29 x30 x31), x32, x33, x34))
def pH : FD := ⟨pm, eI.k, eI.pre, eI.F, eI.M, eI.B, fun y => eI.toL (aZ y.1 (aZ y.2.1 (aZ y.2.2.1 (aZ y.2.2.2.1 (y.s4.1, y.s4.2.1, y.s4.2.2))))), fun _ => none, fun _ _ h => by cases h⟩
theorem Fz (cs0 : LA_) (n1 : Nat) {y : pm} (h : dM cs0 n1 = some y) : kc cs0 n1 = some (aZ y.1 (aZ y.2.1 (aZ y.2.2.1 (aZ y.2.2.2.1 (y.s4.1, y.s4.2.1, y.s4.2.2))))) := by
 unfold dM at h
 obtain ⟨⟨x0, x1, x2, x3, x4, x5, x6, x7, x8, x9, x10, x11, x12, x13, x14, x15, x16, x17, x18, x19, x20, x21, x22, x23, x24, x25, x26, x27, x28, x29, x30, x31, x32, x33, x34⟩, h1, h2⟩ := bE_ h
 obtain ⟨h3, h4⟩ := aM h2
 simp only [Bool.and_eq_true, and_assoc] at h3
 simp only [Option.some.injEq] at h4
 subst h4
 obtain ⟨o0, o1, o2, o3⟩ := h3
 have q0 := aR o0
 have q1 := aR o1
 have q2 := aR o2
 have q3 := aR o3
 rw [h1]
 simp only [aZ, q0, q1, q2, q3]
theorem Dw (cs0 : LA_) (n1 : Nat) (y : pm) (h : dM cs0 n1 = some y) : aX Tryz.prog 25 1 [.vec 0] [.vec cs0 n1 3 false] pH y := Dv cs0 n1 _ (Fz cs0 n1 h)
def nC : HK where
 call := fun args σ k => match args with
  | [x0] => cr σ 3 x0 fun cs0 n1 => Option.bind (dM cs0 n1) fun y => az σ 1 (pH.val y) (pH.aN y) k
  | _ => none
 nat := fun args σ k => by
  repeat' split
  all_goals simp only [aw, ax, Option.bind_assoc, Option.bind_none, az, Option.bind_some]
 pure := false
 pok := fun h => by cases h
theorem vr : aT Tryz.prog 25 nC := by
 intro args σ r σ' h
 simp only [nC] at h
 split at h
 ·rename_i x0
  obtain ⟨cs0, n1, he0, hf0, h⟩ := bf h
  obtain ⟨y, hy, h⟩ := bE_ h
  exact lifted (xs := [x0]) (ls := [.vec cs0 n1 3 false]) (cargs := [.vec 0]) (bt.of ⟨⟨rfl, he0, hf0, by decide⟩, trivial⟩) rfl (Dw cs0 n1 y hy) rfl rfl rfl rfl h
 ·cases h
end Go.Ev
