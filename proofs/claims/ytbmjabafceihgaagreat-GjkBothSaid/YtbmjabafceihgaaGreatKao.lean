import Derived.Test.YtbmjabafceihgaaGreatKan
import Derived.Deep.Slices
import Derived.WalkKit
import Derived.ProofKit
import Derived.OpenShut
import Derived.ChangeOld
import Derived.Below
import Derived.SizedLaws
set_option linter.unusedVariables false
set_option linter.unusedSimpArgs false
set_option maxRecDepth 100000
noncomputable section
namespace Go.Ev
open Go.Proofs
def qF (v p : Pt) : Pt := (p.1 + v.1, p.2.1 + v.2.1, p.2.2 + v.2.2)
def small (m : Int) (p : Pt) : Prop := (-m ≤ p.1 ∧ p.1 ≤ m) ∧ (-m ≤ p.2.1 ∧ p.2.1 ≤ m) ∧ (-m ≤ p.2.2 ∧ p.2.2 ≤ m)
theorem mx3 (a b c m : Int) : decide ((if c > (if b > a then b else a) then c else (if b > a then b else a)) > m) = !decide (a ≤ m ∧ b ≤ m ∧ c ≤ m) := by
 by_cases h : a ≤ m ∧ b ≤ m ∧ c ≤ m
 ·rw [Yn h, Ym (by repeat' split <;> omega)]; rfl
 ·rw [Ym h, Yn (by repeat' split <;> omega)]; rfl
theorem mn3 (a b c m : Int) : decide ((if c < (if b < a then b else a) then c else (if b < a then b else a)) < m) = !decide (m ≤ a ∧ m ≤ b ∧ m ≤ c) := by
 by_cases h : m ≤ a ∧ m ≤ b ∧ m ≤ c
 ·rw [Yn h, Ym (by repeat' split <;> omega)]; rfl
 ·rw [Ym h, Yn (by repeat' split <;> omega)]; rfl
theorem P1 {l : List Pt} (hl : l.length ≤ 60) {v : Pt} (hv : small 33554432 v) :
  ∃ b, dn (pcs l) l.length v.1 v.2.1 v.2.2 = some (cond b (true, pcs (l.map (qF v)), l.length) (false, [], 0)) ∧ (b = true → ∀ p ∈ l, small 67108864 p) := by
 have key : ∀ (k j : Nat), l.length - j = k → j ≤ l.length → (∀ p ∈ l.take j, small 67108864 p) →
   ∃ b, iter (cW (pcs l, l.length, v.1, v.2.1, v.2.2)) (k + 1) (pcs ((l.take j).map (qF v)), j, (j : Int)) = some (cond b (.inr (pcs (l.map (qF v)), l.length)) (.inl ())) ∧ (b = true → ∀ p ∈ l, small 67108864 p) := by
  intro k
  induction k with
  | zero =>
   intro j hn hj hs
   have he : j = l.length := by omega
   subst he
   rw [List.take_length] at hs ⊢
   refine ⟨true, cw 0 ?_, fun _ => hs⟩
   simp only [cW, bR, Ym (show ¬ ((l.length : Int) < ((l.length : Nat) : Int)) by omega), cond_false, cond_true]
  | succ k ih =>
   intro j hn hj hs
   have h : j < l.length := by omega
   have wr : IntKind.wrap .i64 ((j : Int) + 1) = ((j + 1 : Nat) : Int) := by rw [bM (by omega)]; omega
   have d2 : decide (2 * (j + 1) * 24 ≤ 2 ^ 48) = true := Yn (by omega)
   by_cases h1 : (pat l j).1 ≤ 67108864 ∧ (pat l j).2.1 ≤ 67108864 ∧ (pat l j).2.2 ≤ 67108864
   ·by_cases h2 : -67108864 ≤ (pat l j).1 ∧ -67108864 ≤ (pat l j).2.1 ∧ -67108864 ≤ (pat l j).2.2
    ·obtain ⟨⟨v1, v2⟩, ⟨v3, v4⟩, ⟨v5, v6⟩⟩ := hv
     have w1 : IntKind.wrap .i64 ((pat l j).1 + v.1) = (pat l j).1 + v.1 := bM (by omega)
     have w2 : IntKind.wrap .i64 ((pat l j).2.1 + v.2.1) = (pat l j).2.1 + v.2.1 := bM (by omega)
     have w3 : IntKind.wrap .i64 ((pat l j).2.2 + v.2.2) = (pat l j).2.2 + v.2.2 := bM (by omega)
     have hs' : ∀ p ∈ l.take (j + 1), small 67108864 p := by
      intro p hp
      rw [List.take_add_one, Yp h] at hp
      rcases YH.1 hp with q | q
      ·exact hs p q
      ·have e : p = pat l j := by simpa [pat, Yq, Yp h] using q
       rw [e]; exact ⟨⟨h2.1, h1.1⟩, ⟨h2.2.1, h1.2.1⟩, ⟨h2.2.2, h1.2.2⟩⟩
     obtain ⟨b, i1, i2⟩ := ih (j + 1) (by omega) (by omega) hs'
     refine ⟨b, bG ?_ i1, i2⟩
     simp only [cW, bR, decLt h, eQ, cond_true, Yl, az, fB, pro h, pg0 h, pg1 h, pg2 h, mx3, mn3, Yn h1, Yn h2, Bool.not_true, cond_false, d2, w1, w2, w3, wr, map_take h, Bv]
     rfl
    ·refine ⟨false, cw _ ?_, fun q => by cases q⟩
     simp only [cW, bR, decLt h, eQ, cond_true, Yl, az, fB, pro h, pg0 h, pg1 h, pg2 h, mx3, mn3, Yn h1, Ym h2, Bool.not_true, Bool.not_false, cond_false]
   ·refine ⟨false, cw _ ?_, fun q => by cases q⟩
    simp only [cW, bR, decLt h, eQ, cond_true, Yl, az, fB, pro h, pg0 h, pg1 h, pg2 h, mx3, Ym h1, Bool.not_false, cond_false]
 obtain ⟨b, h1, h2⟩ := key l.length 0 (by omega) (by omega) (by simp)
 refine ⟨b, ?_, h2⟩
 have hL : oG (pcs l, l.length, v.1, v.2.1, v.2.2) ([], 0, 0) = some (cond b (.inr (pcs (l.map (qF v)), l.length)) (.inl ())) := dt (by unfold kM; omega) h1
 unfold dn
 rw [hL]
 cases b <;> rfl
def le3 (p q : Pt) : Prop := p.1 ≤ q.1 ∧ p.2.1 ≤ q.2.1 ∧ p.2.2 ≤ q.2.2
def mn (p q : Pt) : Pt := (if q.1 < p.1 then q.1 else p.1, if q.2.1 < p.2.1 then q.2.1 else p.2.1, if q.2.2 < p.2.2 then q.2.2 else p.2.2)
def mx (p q : Pt) : Pt := (if q.1 > p.1 then q.1 else p.1, if q.2.1 > p.2.1 then q.2.1 else p.2.1, if q.2.2 > p.2.2 then q.2.2 else p.2.2)
theorem LB (p q : Pt) : ja p.1 p.2.1 p.2.2 q.1 q.2.1 q.2.2 = some ((mn p q).1, (mn p q).2.1, (mn p q).2.2) := rfl
theorem Sp (p q : Pt) : mS p.1 p.2.1 p.2.2 q.1 q.2.1 q.2.2 = some ((mx p q).1, (mx p q).2.1, (mx p q).2.2) := rfl
theorem Q0 (p q : Pt) : le3 (mn p q) p ∧ le3 (mn p q) q := by
 unfold le3 mn
 refine ⟨⟨?_, ?_, ?_⟩, ?_, ?_, ?_⟩ <;> simp only <;> split <;> omega
theorem Q1 (p q : Pt) : le3 p (mx p q) ∧ le3 q (mx p q) := by
 unfold le3 mx
 refine ⟨⟨?_, ?_, ?_⟩, ?_, ?_, ?_⟩ <;> simp only <;> split <;> omega
theorem UA {p q r : Pt} (h1 : le3 r p) (h2 : le3 r q) : le3 r (mn p q) := by
 obtain ⟨a, b, c⟩ := h1; obtain ⟨d, e, f⟩ := h2
 unfold le3 mn
 refine ⟨?_, ?_, ?_⟩ <;> simp only <;> split <;> omega
theorem XE {p q r : Pt} (h1 : le3 p r) (h2 : le3 q r) : le3 (mx p q) r := by
 obtain ⟨a, b, c⟩ := h1; obtain ⟨d, e, f⟩ := h2
 unfold le3 mx
 refine ⟨?_, ?_, ?_⟩ <;> simp only <;> split <;> omega
theorem le3.trans {p q r : Pt} (h1 : le3 p q) (h2 : le3 q r) : le3 p r := ⟨Int.le_trans h1.1 h2.1, Int.le_trans h1.2.1 h2.2.1, Int.le_trans h1.2.2 h2.2.2⟩
theorem le3.refl (p : Pt) : le3 p p := ⟨Int.le_refl _, Int.le_refl _, Int.le_refl _⟩
theorem UB {p q : Pt} (h1 : bP p = true) (h2 : bP q = true) : bP (mn p q) = true := by
 obtain ⟨a, b, c⟩ := gE.1 h1; obtain ⟨d, e, f⟩ := gE.1 h2
 refine gE.2 ⟨?_, ?_, ?_⟩ <;> unfold mn <;> simp only <;> split <;> assumption
theorem UC {p q : Pt} (h1 : bP p = true) (h2 : bP q = true) : bP (mx p q) = true := by
 obtain ⟨a, b, c⟩ := gE.1 h1; obtain ⟨d, e, f⟩ := gE.1 h2
 refine gE.2 ⟨?_, ?_, ?_⟩ <;> unfold mx <;> simp only <;> split <;> assumption
theorem I6 {lo hi : Pt} (h1 : bP lo = true) (h2 : bP hi = true) (h : le3 lo hi) : fG lo.1 lo.2.1 lo.2.2 hi.1 hi.2.1 hi.2.2 = some 0 := by
 have b1 : (bnd lo.1 && bnd lo.2.1 && bnd lo.2.2) = true := h1
 have b2 : (bnd hi.1 && bnd hi.2.1 && bnd hi.2.2) = true := h2
 have e : mn lo hi = lo := by
  obtain ⟨a, b, c⟩ := h
  unfold mn
  rw [if_neg (by omega), if_neg (by omega), if_neg (by omega)]
 unfold fG
 rw [xk, Ye, b1, cond_true, xk, Ye, b2, cond_true, LB, Ye, e]
 have z : ((0 : Int) != 0) = false := rfl
 simp only [z, cond_false, beq_self_eq_true, Yl, Bool.not_true]
def bcs (lo hi : Pt) : LA_ := [.int .i64 lo.1, .int .i64 lo.2.1, .int .i64 lo.2.2, .int .i64 hi.1, .int .i64 hi.2.1, .int .i64 hi.2.2]
theorem Sq {lo hi : Pt} (h1 : bP lo = true) (h2 : bP hi = true) (h : le3 lo hi) : f8 (bcs lo hi) 1 = some true := by
 have c := I6 h1 h2 h
 have s0 : gI (bcs lo hi, 1, 1) 0 = some (.inl 1) := by
  show Option.bind (fG lo.1 lo.2.1 lo.2.2 hi.1 hi.2.1 hi.2.2) _ = _
  rw [c]; rfl
 have s1 : gI (bcs lo hi, 1, 1) 1 = some (.inr (.inr ())) := rfl
 have L : tJ (bcs lo hi, 1, 1) 0 = some (.inr ()) := dt (n := 2) (by unfold kM; omega) (bG s0 (cw 0 s1))
 unfold f8
 rw [show (((1 : Nat) : Int)) = 1 from rfl, L]
 rfl
theorem W3 {lo hi lo' hi' : Pt} (h1 : bP lo = true) (h2 : bP hi = true) (h : le3 lo hi) (h1' : bP lo' = true) (h2' : bP hi' = true) (h' : le3 lo' hi') : f8 (bcs lo hi ++ bcs lo' hi') 2 = some true := by
 have c := I6 h1 h2 h
 have c' := I6 h1' h2' h'
 have s0 : gI (bcs lo hi ++ bcs lo' hi', 2, 2) 0 = some (.inl 1) := by
  show Option.bind (fG lo.1 lo.2.1 lo.2.2 hi.1 hi.2.1 hi.2.2) _ = _
  rw [c]; rfl
 have s1 : gI (bcs lo hi ++ bcs lo' hi', 2, 2) 1 = some (.inl 2) := by
  show Option.bind (fG lo'.1 lo'.2.1 lo'.2.2 hi'.1 hi'.2.1 hi'.2.2) _ = _
  rw [c']; rfl
 have s2 : gI (bcs lo hi ++ bcs lo' hi', 2, 2) 2 = some (.inr (.inr ())) := rfl
 have L : tJ (bcs lo hi ++ bcs lo' hi', 2, 2) 0 = some (.inr ()) := dt (n := 3) (by unfold kM; omega) (bG s0 (bG s1 (cw 0 s2)))
 unfold f8
 rw [show (((2 : Nat) : Int)) = 2 from rfl, L]
 rfl
theorem VE {lo hi lo' hi' : Pt} (h1 : bP lo = true) (h2 : bP hi = true) (h : le3 lo hi) (h1' : bP lo' = true) (h2' : bP hi' = true) (h' : le3 lo' hi') (k : le3 lo hi') (k' : le3 lo' hi) :
  kq lo.1 lo.2.1 lo.2.2 hi.1 hi.2.1 hi.2.2 lo'.1 lo'.2.1 lo'.2.2 hi'.1 hi'.2.1 hi'.2.2 = some true := by
 have m := W3 h1 h2 h h1' h2' h'
 have n := Sq (UC h1 h1') (UB h2 h2') (XE (UA h k) (UA k' h'))
 unfold kq
 simp only [bcs, List.cons_append, List.nil_append] at m n
 rw [m, Ye, cond_true, Sp, Ye, LB, Ye, n]
 rfl
theorem VF {lo hi : Pt} (h1 : bP lo = true) (h2 : bP hi = true) (h : le3 lo hi) : mR lo.1 lo.2.1 lo.2.2 hi.1 hi.2.1 hi.2.2 0 = some (lo.1, lo.2.1, lo.2.2, hi.1, hi.2.1, hi.2.2) := by
 have m := Sq h1 h2 h
 have g1 : ∀ x, bnd x = true → fb x 268435456 0 = some x := by
  intro x hx
  have := ep.1 hx
  have w : IntKind.wrap .i64 (x - 0) = x := by rw [bM (by omega)]; omega
  have w2 : IntKind.wrap .i64 (0 - 268435456) = -268435456 := rfl
  unfold fb
  rw [w, w2, if_neg (by omega)]
 have g2 : ∀ x, bnd x = true → fc x 268435456 0 = some x := by
  intro x hx
  have := ep.1 hx
  have w : IntKind.wrap .i64 (x + 0) = x := by rw [bM (by omega)]; omega
  unfold fc
  rw [w, if_neg (by omega)]
 obtain ⟨a, b, c⟩ := gE.1 h1
 obtain ⟨d, e, f⟩ := gE.1 h2
 have d1 : decide ((0 : Int) < 0) = false := rfl
 have d2 : decide ((0 : Int) > 268435456) = false := rfl
 unfold mR
 simp only [bcs] at m
 rw [m, Ye, cond_true, d1, cond_false, d2, cond_false]
 unfold gG gH
 simp only [g1 _ a, g1 _ b, g1 _ c, g2 _ d, g2 _ e, g2 _ f, Ye]
theorem UD {l : List Pt} (hok : aQ l = true) (h1 : 1 ≤ l.length) (hl : l.length ≤ 1000) :
  ∃ lo hi, jm (pcs l) l.length 0 = some (lo.1, lo.2.1, lo.2.2, hi.1, hi.2.1, hi.2.2, 0) ∧ bP lo = true ∧ bP hi = true ∧ le3 lo hi ∧ ∀ p ∈ l, le3 lo p ∧ le3 p hi := by
 have main : ∃ e, Df (0, pcs l, l.length, ((l.length : Nat) : Int)) ((pat l 0).1, (pat l 0).2.1, (pat l 0).2.2, (pat l 0).1, (pat l 0).2.1, (pat l 0).2.2, 0) = some e ∧
   ∃ lo hi : Pt, e = .inr (lo.1, lo.2.1, lo.2.2, hi.1, hi.2.1, hi.2.2) ∧ bP lo = true ∧ bP hi = true ∧ le3 lo hi ∧ ∀ p ∈ l, le3 lo p ∧ le3 p hi := by
  refine gF (step := nZ (0, pcs l, l.length, ((l.length : Nat) : Int))) (fun v => ∃ (i : Nat) (lo hi : Pt), v = (lo.1, lo.2.1, lo.2.2, hi.1, hi.2.1, hi.2.2, (i : Int)) ∧ i ≤ l.length ∧ bP lo = true ∧ bP hi = true ∧ le3 lo hi ∧ ∀ j, j < i → le3 lo (pat l j) ∧ le3 (pat l j) hi)
   (fun v => ((l.length : Int) - v.2.2.2.2.2.2).toNat) _ ?_ (Nat.lt_of_le_of_lt (show ((l.length : Int) - 0).toNat ≤ 1000000000 by omega) (by decide)) ⟨0, pat l 0, pat l 0, rfl, by omega, dO hok (by omega), dO hok (by omega), le3.refl _, fun j hj => absurd hj (by omega)⟩
  rintro v ⟨i, lo, hi, rfl, hi', b1, b2, hle, hall⟩
  by_cases h : i < l.length
  ·have wr : IntKind.wrap .i64 ((i : Int) + 1) = ((i + 1 : Nat) : Int) := by rw [bM (by omega)]; omega
   have hp := dO hok h
   have hb' : (bnd (pat l i).1 && bnd (pat l i).2.1 && bnd (pat l i).2.2) = true := hp
   have z : ((0 : Int) != 0) = false := rfl
   refine .inl ⟨((mn lo (pat l i)).1, (mn lo (pat l i)).2.1, (mn lo (pat l i)).2.2, (mx hi (pat l i)).1, (mx hi (pat l i)).2.1, (mx hi (pat l i)).2.2, ((i + 1 : Nat) : Int)), ?_, ⟨i + 1, mn lo (pat l i), mx hi (pat l i), rfl, by omega, UB b1 hp, UC b2 hp, ((Q0 _ _).1.trans hle).trans (Q1 _ _).1, fun j hj => ?_⟩, by simp only; omega⟩
   ·simp only [nZ, fT, decLt h, eQ, cond_true, Yl, az, fB, pro h, pg0 h, pg1 h, pg2 h, xk, hb', Ye, z, cond_false, LB, Sp, wr]
   ·rcases Nat.lt_or_ge j i with q | q
    ·exact ⟨(Q0 _ _).1.trans (hall j q).1, (hall j q).2.trans (Q1 _ _).1⟩
    ·obtain rfl : j = i := by omega
     exact ⟨(Q0 _ _).2, (Q1 _ _).2⟩
  ·have hi2 : i = l.length := by omega
   subst hi2
   refine .inr ⟨.inr (lo.1, lo.2.1, lo.2.2, hi.1, hi.2.1, hi.2.2), ?_, lo, hi, rfl, b1, b2, hle, fun p hp => ?_⟩
   ·simp only [nZ, fT, Ym (show ¬ ((l.length : Int) < ((l.length : Nat) : Int)) by omega), cond_false]
   ·obtain ⟨j, hj, rfl⟩ := List.getElem_of_mem hp
    have := hall j hj
    simpa [pat, Yq, Yp hj] using this
 obtain ⟨e, he, lo, hi, rfl, b1, b2, hle, hall⟩ := main
 refine ⟨lo, hi, ?_, b1, b2, hle, hall⟩
 have n0 : (((l.length : Nat) : Int) == 0) = false := beq_eq_false_iff_ne.2 (by omega)
 have d1 : decide ((0 : Int) < 0) = false := rfl
 have d2 : decide ((0 : Int) > 268435456) = false := rfl
 have d3 : decide ((0 : Int) < ((l.length : Nat) : Int)) = true := Yn (by omega)
 have d4 : decide ((0 : Int) ≤ 0) = true := rfl
 have d5 : decide ((0 : Nat) ≤ 0) = true := rfl
 have h0 : 0 < l.length := by omega
 have p0 : aw kR (pcs l) (Int.toNat 0 * 3) = true := pro (i := 0) h0
 have g0 : ac (pcs l) (Int.toNat 0 * 3 + 0) = (pat l 0).1 := pg0 (i := 0) h0
 have g1 : ac (pcs l) (Int.toNat 0 * 3 + 1) = (pat l 0).2.1 := pg1 (i := 0) h0
 have g2 : ac (pcs l) (Int.toNat 0 * 3 + 2) = (pat l 0).2.2 := pg2 (i := 0) h0
 unfold jm
 simp only [n0, cond_false, d1, d2, d3, d4, d5, Yl, az, p0, g0, g1, g2, he, Ye, YE, VF b1 b2 hle]
def iZ (p : Pt) : Pt := (-p.1, -p.2.1, -p.2.2)
theorem TL (p q : Pt) : iZ (ax p q) = ax q p := by simp only [iZ, ax, Yj]; omega
theorem VG (p q : Pt) : ae p (iZ q) = ae (iZ p) q := by simp only [ae, iZ]; grind
theorem vk {a b : List Pt} {r : Pt} : r ∈ bY a b ↔ ∃ p ∈ a, ∃ q ∈ b, ax p q = r := by
 unfold bY
 simp only [List.mem_flatMap, List.mem_map]
theorem P2 {a b : List Pt} {r : Pt} (h : r ∈ bY a b) : iZ r ∈ bY b a := by
 obtain ⟨p, hp, q, hq, rfl⟩ := vk.1 h
 rw [TL]
 exact vk.2 ⟨q, hq, p, hp, rfl⟩
theorem HF (v : Pt) (a b : List Pt) : bY (a.map (qF v)) (b.map (qF v)) = bY a b := by
 unfold bY
 rw [List.flatMap_map]
 refine congrArg (List.flatMap · a) (funext fun p => ?_)
 rw [List.map_map]
 refine List.map_congr_left fun q _ => ?_
 simp only [Function.comp, ax, qF, Yj]
 omega
theorem OT : ∀ (w : List Int) (T : List Pt), bu w (T.map iZ) = iZ (bu w T)
 | [], T => by cases T <;> simp [bu, iZ]
 | x :: w, [] => by simp [bu, iZ]
 | x :: w, p :: T => by
  simp only [List.map_cons, bu, OT w T, iZ, Yj]
  grind
theorem Nst.neg {T : List Pt} {w : List Int} {N : Pt} {d s : Int} (h : Nst T w N d s) : Nst (T.map iZ) w (iZ N) d s :=
 ⟨by rw [List.length_map]; exact h.len, by rw [OT, ← h.sum], h.div, h.pos, h.qE, fun p hp => by
  obtain ⟨q, hq, rfl⟩ := List.mem_map.1 hp
  have : ae (iZ q) (iZ N) = ae q N := by simp only [ae, iZ]; grind
  rw [this]; exact h.lev q hq⟩
theorem Prim.neg {n N : Pt} {d D : Int} (h : Prim n d N D) : Prim (iZ n) d (iZ N) D := by
 obtain ⟨g, g0, rfl, rfl⟩ := h.ex
 refine ⟨⟨g, g0, by simp only [iZ, Yj]; grind, rfl⟩, fun e h1 h2 h3 h4 => h.one e (Int.dvd_neg.1 h1) (Int.dvd_neg.1 h2) (Int.dvd_neg.1 h3) h4⟩
theorem Nr.opp {a b : List Pt} {o o' : List Nat} {N N' : Pt} {D D' : Int} (h : Nr (bY a b) o N D) (h' : Nr (bY b a) o' N' D') : N' = iZ N ∧ D' = D := by
 have z : Nst (pick (bY a b) o) (wts (pick (bY a b) o)).1 (bA (pick (bY a b) o)) (wts (pick (bY a b) o)).2 (lev (bY a b) o) := Nst.of h.own.v.1 h.own.v.2
 have z' : Nst (pick (bY b a) o') (wts (pick (bY b a) o')).1 (bA (pick (bY b a) o')) (wts (pick (bY b a) o')).2 (lev (bY b a) o') := Nst.of h'.own.v.1 h'.own.v.2
 have e := OS z z'.neg z.qE z'.qE (fun p hp => by
  rw [VG]
  exact h'.none _ (P2 (I5 h.own.b p hp))) (fun p hp => by
  obtain ⟨q, hq, rfl⟩ := List.mem_map.1 hp
  exact h.none _ (P2 (I5 h'.own.b q hq)))
 obtain ⟨e1, e2⟩ := h.FU.only h'.FU.neg z.qE z'.qE e
 refine ⟨?_, e2.symm⟩
 rw [e1]
 simp only [iZ, Int.neg_neg]
theorem Nr.zero {l : List Pt} {o : List Nat} {N : Pt} {D : Int} (h : Nr l o N D) (hz : ((0, 0, 0) : Pt) ∈ l) : N = (0, 0, 0) := by
 have z : Nst (pick l o) (wts (pick l o)).1 (bA (pick l o)) (wts (pick l o)).2 (lev l o) := Nst.of h.own.v.1 h.own.v.2
 have h1 := h.none _ hz
 have e0 : ae (0, 0, 0) (bA (pick l o)) = 0 := by simp [ae]
 rw [e0] at h1
 have h2 : lev l o ≤ 0 := h1
 have q := z.sq
 have h3 : (wts (pick l o)).2 * lev l o ≤ 0 := Int.mul_nonpos_of_nonneg_of_nonpos (Int.le_of_lt z.qE) h2
 have h4 : bA (pick l o) = (0, 0, 0) := vY (by omega)
 obtain ⟨g, g0, e1, _⟩ := h.FU.ex
 rw [h4] at e1
 simp only [Yj] at e1
 obtain ⟨a, b, c⟩ := N
 have f : ∀ {x : Int}, 0 = g * x → x = 0 := fun {x} hx => (Int.mul_eq_zero.1 hx.symm).resolve_left (by omega)
 simp only [Yj]
 exact ⟨f e1.1, f e1.2.1, f e1.2.2⟩
theorem Nr.meets {l : List Pt} {o : List Nat} {D : Int} (h : Nr l o (0, 0, 0) D) (v : Pt) : ¬ ∀ p ∈ l, 1 ≤ ae p v := by
 intro hv
 have z : Nst (pick l o) (wts (pick l o)).1 (bA (pick l o)) (wts (pick l o)).2 (lev l o) := Nst.of h.own.v.1 h.own.v.2
 have := pG v 1 _ _ z.len (fun x hx => Int.le_of_lt (z.pos x hx)) (fun p hp => hv p (I5 h.own.b p hp))
 rw [← z.sum, z.div] at this
 obtain ⟨g, g0, e1, _⟩ := h.FU.ex
 rw [e1] at this
 simp only [Int.mul_zero, ae, Int.zero_mul, Int.add_zero] at this
 have := z.qE
 omega
theorem VH {a b : List Pt} {i : Nat} (hi : i < a.length) (hb : b.length ≤ 1000) (m s : Bool) :
  lT (pcs a, a.length, pcs b, b.length, m, (i : Int)) (s, 0) = some (s || b.any fun q => decide (pat a i = q)) := by
 have key : ∀ (k j : Nat) (s : Bool), b.length - j = k → j ≤ b.length → iter (di (pcs a, a.length, pcs b, b.length, m, (i : Int))) (k + 1) (s, (j : Int)) = some (s || (b.drop j).any fun q => decide (pat a i = q)) := by
  intro k
  induction k with
  | zero =>
   intro j s hn hj
   have he : j = b.length := by omega
   subst he
   refine cw 0 ?_
   simp only [di, bQ, Ym (show ¬ ((b.length : Int) < ((b.length : Nat) : Int)) by omega), cond_false, List.drop_length, List.any_nil, Bool.or_false]
  | succ k ih =>
   intro j s hn hj
   have h : j < b.length := by omega
   have wr : IntKind.wrap .i64 ((j : Int) + 1) = ((j + 1 : Nat) : Int) := by rw [bM (by omega)]; omega
   have hd : b.drop j = pat b j :: b.drop (j + 1) := by
    rw [List.drop_eq_getElem_cons h]; simp [pat, Yq, Yp h]
   rw [hd, List.any_cons]
   cases s with
   | true =>
    refine bG (v' := (true, ((j + 1 : Nat) : Int))) ?_ ?_
    ·simp only [di, bQ, decLt h, cond_true, wr]
    ·rw [ih (j + 1) true (by omega) (by omega)]; rfl
   | false =>
    have he : ((pat a i).1 == (pat b j).1 && ((pat a i).2.1 == (pat b j).2.1 && ((pat a i).2.2 == (pat b j).2.2 && true))) = decide (pat a i = pat b j) := by
     rw [Bool.eq_iff_iff]
     simp only [Yi, beq_iff_eq, and_true, Yo]
     constructor
     ·rintro ⟨e1, e2, e3⟩; exact Prod.ext e1 (Prod.ext e2 e3)
     ·intro e; rw [e]; exact ⟨rfl, rfl, rfl⟩
    refine bG (v' := (decide (pat a i = pat b j), ((j + 1 : Nat) : Int))) ?_ ?_
    ·simp only [di, bQ, decLt h, decLt hi, eQ, cond_true, cond_false, Yl, az, fB, pro h, pg0 h, pg1 h, pg2 h, pro hi, pg0 hi, pg1 hi, pg2 hi, he, wr]
     cases decide (pat a i = pat b j) <;> rfl
    ·rw [ih (j + 1) _ (by omega) (by omega), Bool.false_or]
 have := key b.length 0 s (by omega) (by omega)
 rw [List.drop_zero] at this
 exact dt (by unfold kM; omega) this
theorem TM {a b : List Pt} (ha : a.length ≤ 1000) (hb : b.length ≤ 1000) (m : Bool) :
  gQ (pcs a, a.length, pcs b, b.length, m) (false, 0) = some (a.any fun p => b.any fun q => decide (p = q)) := by
 have key : ∀ (k j : Nat) (s : Bool), a.length - j = k → j ≤ a.length → iter (ej (pcs a, a.length, pcs b, b.length, m)) (k + 1) (s, (j : Int)) = some (s || (a.drop j).any fun p => b.any fun q => decide (p = q)) := by
  intro k
  induction k with
  | zero =>
   intro j s hn hj
   have he : j = a.length := by omega
   subst he
   refine cw 0 ?_
   simp only [ej, ce, Ym (show ¬ ((a.length : Int) < ((a.length : Nat) : Int)) by omega), cond_false, List.drop_length, List.any_nil, Bool.or_false]
  | succ k ih =>
   intro j s hn hj
   have h : j < a.length := by omega
   have wr : IntKind.wrap .i64 ((j : Int) + 1) = ((j + 1 : Nat) : Int) := by rw [bM (by omega)]; omega
   have hd : a.drop j = pat a j :: a.drop (j + 1) := by
    rw [List.drop_eq_getElem_cons h]; simp [pat, Yq, Yp h]
   rw [hd, List.any_cons]
   refine bG (v' := (s || b.any fun q => decide (pat a j = q), ((j + 1 : Nat) : Int))) ?_ ?_
   ·simp only [ej, ce, decLt h, cond_true, VH h hb, Ye, wr]
   ·rw [ih (j + 1) _ (by omega) (by omega), Bool.or_assoc]
 have := key a.length 0 false (by omega) (by omega)
 rw [List.drop_zero, Bool.false_or] at this
 exact dt (by unfold kM; omega) this
theorem XF {x y z : Int} (hx : fit x) (hy : fit y) (hz : fit z) : (aa x 0 == 0 && (aa x 1 == 0 && (aa x 2 == 0 && (aa x 3 == 0 && (aa x 4 == 0 && (aa x 5 == 0 && (aa x 6 == 0 && (aa x 7 == 0 && (aa y 0 == 0 && (aa y 1 == 0 && (aa y 2 == 0 && (aa y 3 == 0 && (aa y 4 == 0 && (aa y 5 == 0 && (aa y 6 == 0 && (aa y 7 == 0 && (aa z 0 == 0 && (aa z 1 == 0 && (aa z 2 == 0 && (aa z 3 == 0 && (aa z 4 == 0 && (aa z 5 == 0 && (aa z 6 == 0 && (aa z 7 == 0 && true)))))))))))))))))))))))) = decide (((x, y, z) : Pt) = (0, 0, 0)) := by
 have h1 := OO hx
 have h2 := OO hy
 have h3 := OO hz
 have e : decide (((x, y, z) : Pt) = (0, 0, 0)) = (decide (x = 0) && (decide (y = 0) && decide (z = 0))) := by
  rw [Bool.eq_iff_iff]
  simp only [Yo, Yi, Yj]
 rw [e, ← h1, ← h2, ← h3]
 simp only [Bool.and_assoc, Bool.and_true]
theorem Q2 {x : Int} (hx : fit x) (hn : fit (-x)) : dY x = some (-x) := by
 have e : 0 - x = -x := by omega
 have h := PR hx (by rw [e]; exact hn)
 unfold gw at h
 rw [e] at h
 unfold dY dm fN
 rw [h]
 simp only [Ye, bz, az]
 rw [aD hn]
theorem At {a b : List Pt} (ha : aQ a = true) (hb : aQ b = true) (la : a.length ≤ 256) (lb : b.length ≤ 256) (h : a.length = 0 ∨ b.length = 0) : lN a b = (2, []) := by
 have f : ∀ {l : List Pt}, aQ l = true → l.length ≤ 256 → dJ l = cond (((l.length : Nat) : Int) == 0) 2 0 := by
  intro l h1 h2
  unfold dJ
  rw [h1, cond_true, Ym (by omega), cond_false]
 have z : ∀ {l : List Pt}, l.length = 0 → (((l.length : Nat) : Int) == 0) = true := fun h => by rw [h]; rfl
 unfold lN
 rw [f ha la, f hb lb]
 rcases h with h | h
 ·rw [z h]
  cases (((b.length : Nat) : Int) == 0) <;> rfl
 ·rw [z h]
  cases (((a.length : Nat) : Int) == 0) <;> rfl
theorem C8 {a b : List Pt} (ha : aQ a = true) (hb : aQ b = true) (la : a.length ≤ 256) (lb : b.length ≤ 256) (ha1 : 1 ≤ a.length) (hb1 : 1 ≤ b.length) (hab : a.length * b.length ≤ 256) (hd : aQ (bY a b) = true) : lN a b = (0, bY a b) := by
 unfold lN
 rw [I7 ha ha1 la, I7 hb hb1 lb, Ym (by omega), hd]
 rfl
theorem TN {m : Int} (hm : m ≤ 268435456) {p : Pt} (h : small m p) : bP p = true := by
 obtain ⟨a, b, c⟩ := h
 exact gE.2 ⟨ep.2 (by omega), ep.2 (by omega), ep.2 (by omega)⟩
theorem C9 {m : Int} (hm : m ≤ 268435456) {l : List Pt} (h : ∀ p ∈ l, small m p) : aQ l = true := List.all_eq_true.2 fun p hp => TN hm (h p hp)
theorem TO (a b : List Pt) (n : Pt) : jJ (pcs a) a.length (pcs b) b.length n.1 n.2.1 n.2.2 = some true := by
 unfold jJ
 by_cases ha : a.length > 60
 ·rw [Yn (show ((a.length : Nat) : Int) > 60 by omega)]; rfl
 rw [Ym (show ¬ ((a.length : Nat) : Int) > 60 by omega), cond_false]
 by_cases hb : b.length > 60
 ·rw [Yn (show ((b.length : Nat) : Int) > 60 by omega)]; rfl
 rw [Ym (show ¬ ((b.length : Nat) : Int) > 60 by omega), cond_false]
 have hm : a.length * b.length ≤ 60 * 60 := Nat.mul_le_mul (by omega) (by omega)
 have em : ((a.length : Nat) : Int) * ((b.length : Nat) : Int) = ((a.length * b.length : Nat) : Int) := by simp
 rw [em, bM (by omega)]
 by_cases hab : a.length * b.length > 60
 ·rw [Yn (show ((a.length * b.length : Nat) : Int) > 60 by omega)]; rfl
 rw [Ym (show ¬ ((a.length * b.length : Nat) : Int) > 60 by omega), cond_false, xk, Ye]
 have hb' : (bnd n.1 && bnd n.2.1 && bnd n.2.2) = bP n := rfl
 rw [hb']
 cases hn : bP n with
 | false => rfl
 | true =>
  have z0 : ((0 : Int) != 0) = false := rfl
  obtain ⟨n1, n2, n3⟩ := gE.1 hn
  have td : ∀ {x : Int}, bnd x = true → (-33554432 ≤ x.tdiv 8 ∧ x.tdiv 8 ≤ 33554432) ∧ IntKind.wrap .i64 (x.tdiv 8) = x.tdiv 8 := by
   intro x hx
   have h1 := ep.1 hx
   have h4 : -33554432 ≤ x.tdiv 8 ∧ x.tdiv 8 ≤ 33554432 := by
    rcases Int.le_total 0 x with k | k
    ·rw [Int.tdiv_eq_ediv_of_nonneg k]; omega
    ·have e : x.tdiv 8 = -((-x).tdiv 8) := by rw [Int.neg_tdiv, Int.neg_neg]
     rw [e, Int.tdiv_eq_ediv_of_nonneg (by omega)]; omega
   exact ⟨h4, bM (by omega)⟩
  obtain ⟨t1, w1⟩ := td n1
  obtain ⟨t2, w2⟩ := td n2
  obtain ⟨t3, w3⟩ := td n3
  rw [w1, w2, w3]
  generalize hv : ((n.1.tdiv 8, n.2.1.tdiv 8, n.2.2.tdiv 8) : Pt) = v
  have v1 : n.1.tdiv 8 = v.1 := by rw [← hv]
  have v2 : n.2.1.tdiv 8 = v.2.1 := by rw [← hv]
  have v3 : n.2.2.tdiv 8 = v.2.2 := by rw [← hv]
  rw [v1, v2, v3]
  rw [v1] at t1; rw [v2] at t2; rw [v3] at t3
  have hsv : small 33554432 v := ⟨t1, t2, t3⟩
  obtain ⟨ba, ea, sa⟩ := P1 (l := a) (by omega) hsv
  obtain ⟨bb, eb, sb⟩ := P1 (l := b) (by omega) hsv
  simp only [cond_true, z0, cond_false]
  rw [ea, eb]
  cases ba with
  | false =>
   cases bb <;> rfl
  | true =>
   cases bb with
   | false => rfl
   | true =>
    simp only [cond_true, Ye]
    have sa := sa rfl
    have sb := sb rfl
    have oa := C9 (by decide) sa
    have ob := C9 (by decide) sb
    have mvs : ∀ {l : List Pt}, (∀ p ∈ l, small 67108864 p) → aQ (l.map (qF v)) = true := by
     intro l hl
     refine C9 (m := 268435456) (by decide) fun p hp => ?_
     obtain ⟨q, hq, rfl⟩ := List.mem_map.1 hp
     obtain ⟨q1, q2, q3⟩ := hl q hq
     unfold small qF
     simp only
     omega
    have oma := mvs sa
    have omb := mvs sb
    have dsm : ∀ {x y : List Pt}, (∀ p ∈ x, small 67108864 p) → (∀ p ∈ y, small 67108864 p) → aQ (bY x y) = true := by
     intro x y hx hy
     refine C9 (m := 268435456) (by decide) fun r hr => ?_
     obtain ⟨p, hp, q, hq, rfl⟩ := vk.1 hr
     obtain ⟨p1, p2, p3⟩ := hx p hp
     obtain ⟨q1, q2, q3⟩ := hy q hq
     unfold small ax
     simp only
     omega
    have lma : (a.map (qF v)).length = a.length := List.length_map _
    have lmb : (b.map (qF v)).length = b.length := List.length_map _
    by_cases he : a.length = 0 ∨ b.length = 0
    ·have l1 := At oa ob (by omega) (by omega) he
     have l2 := At ob oa (by omega) (by omega) he.symm
     have l3 := At oma omb (by omega) (by omega) (by omega)
     have A1 := C6 (a := a) (b := b) (by omega) (by omega) (by rw [l1]; decide)
     have A2 := C6 (a := b) (b := a) (by omega) (by omega) (by rw [l2]; decide)
     have A3 := C6 (a := a.map (qF v)) (b := b.map (qF v)) (by omega) (by omega) (by rw [l3]; decide)
     rw [l1] at A1; rw [l2] at A2; rw [l3, lma, lmb] at A3
     rw [A1, A2, A3]
     simp only [Ye]
     rcases he with h | h
     ·rw [h]; rfl
     ·rw [h]
      cases (((a.length : Nat) : Int) == 0) <;> rfl
    ·have ha1 : 1 ≤ a.length := by omega
     have hb1 : 1 ≤ b.length := by omega
     have d1 := dsm sa sb
     have d2 := dsm sb sa
     have hba : b.length * a.length ≤ 60 := by rw [Nat.mul_comm]; omega
     have l1 := C8 oa ob (by omega) (by omega) ha1 hb1 (by omega) d1
     have l2 := C8 ob oa (by omega) (by omega) hb1 ha1 (by omega) d2
     have l3 := C8 oma omb (by omega) (by omega) (by omega) (by omega) (by rw [lma, lmb]; omega) (by rw [HF]; exact d1)
     rw [HF] at l3
     obtain ⟨o, N, D, hN, e⟩ := P3 d1 (by rw [qY]; exact Nat.mul_pos ha1 hb1) (by rw [qY]; omega)
     obtain ⟨o', N', D', hN', e'⟩ := P3 d2 (by rw [qY]; exact Nat.mul_pos hb1 ha1) (by rw [qY]; omega)
     have A1 := C7 (a := a) (b := b) (by omega) (by omega) (by rw [l1]) hN.sN hN.sD (by rw [l1]; exact e)
     have A2 := C7 (a := b) (b := a) (by omega) (by omega) (by rw [l2]) hN'.sN hN'.sD (by rw [l2]; exact e')
     have A3 := C7 (a := a.map (qF v)) (b := b.map (qF v)) (by omega) (by omega) (by rw [l3]) hN.sN hN.sD (by rw [l3]; exact e)
     rw [lma, lmb] at A3
     obtain ⟨q1, q2⟩ := hN.opp hN'
     have f1 := aT hN.sN.h.1 (by decide)
     have f2 := aT hN.sN.h.2.1 (by decide)
     have f3 := aT hN.sN.h.2.2 (by decide)
     have g1 := aT (FR hN.sN.h.1) (by decide)
     have g2 := aT (FR hN.sN.h.2.1) (by decide)
     have g3 := aT (FR hN.sN.h.2.2) (by decide)
     have k1 := Q2 f1 g1
     have k2 := Q2 f2 g2
     have k3 := Q2 f3 g3
     obtain ⟨lo, hi, B, b1, b2, b3, b4⟩ := UD oa ha1 (by omega)
     obtain ⟨lo', hi', B', b1', b2', b3', b4'⟩ := UD ob hb1 (by omega)
     have z1 : ((0 : Int) == 0) = true := rfl
     subst q1 q2
     rw [A1, A2, A3]
     simp only [Ye, z0, cond_false, k1, k2, k3, iZ, beq_self_eq_true, Yl, Bool.not_true, cond_true, bne_self_eq_false]
     rw [XF f1 f2 f3]
     simp only [TM (show a.length ≤ 1000 by omega) (show b.length ≤ 1000 by omega), B, B', Ye, z1, cond_true]
     by_cases hz : ((N.1, N.2.1, N.2.2) : Pt) = (0, 0, 0)
     ·have hz' : N = (0, 0, 0) := hz
      rw [Yn hz, cond_true]
      subst hz'
      have side : ∀ (u : Pt) (m : Pt → Int), (∀ p q : Pt, ae (ax p q) u = m p - m q) → (∀ p ∈ a, ∀ q ∈ b, m q < m p) → False := by
       intro u m hm hall
       refine hN.meets u fun r hr => ?_
       obtain ⟨p, hp, q, hq, rfl⟩ := vk.1 hr
       rw [hm]
       have := hall p hp q hq
       omega
      have le1 : le3 lo hi' := by
       refine ⟨?_, ?_, ?_⟩
       ·exact Int.not_lt.1 fun hlt => side (1, 0, 0) (·.1) (fun p q => by simp only [ae, ax]; omega) fun p hp q hq => by
         have x1 := (b4 p hp).1.1
         have x2 := (b4' q hq).2.1
         omega
       ·exact Int.not_lt.1 fun hlt => side (0, 1, 0) (·.2.1) (fun p q => by simp only [ae, ax]; omega) fun p hp q hq => by
         have x1 := (b4 p hp).1.2.1
         have x2 := (b4' q hq).2.2.1
         omega
       ·exact Int.not_lt.1 fun hlt => side (0, 0, 1) (·.2.2) (fun p q => by simp only [ae, ax]; omega) fun p hp q hq => by
         have x1 := (b4 p hp).1.2.2
         have x2 := (b4' q hq).2.2.2
         omega
      have le2 : le3 lo' hi := by
       refine ⟨?_, ?_, ?_⟩
       ·exact Int.not_lt.1 fun hlt => side (-1, 0, 0) (-·.1) (fun p q => by simp only [ae, ax]; omega) fun p hp q hq => by
         have x1 := (b4 p hp).2.1
         have x2 := (b4' q hq).1.1
         omega
       ·exact Int.not_lt.1 fun hlt => side (0, -1, 0) (-·.2.1) (fun p q => by simp only [ae, ax]; omega) fun p hp q hq => by
         have x1 := (b4 p hp).2.2.1
         have x2 := (b4' q hq).1.2.1
         omega
       ·exact Int.not_lt.1 fun hlt => side (0, 0, -1) (-·.2.2) (fun p q => by simp only [ae, ax]; omega) fun p hp q hq => by
         have x1 := (b4 p hp).2.2.2
         have x2 := (b4' q hq).1.2.2
         omega
      rw [VE b1 b2 b3 b1' b2' b3' le1 le2]
      cases (a.any fun p => b.any fun q => decide (p = q)) <;> rfl
     ·rw [Ym hz, cond_false]
      cases hs : (a.any fun p => b.any fun q => decide (p = q)) with
      | false => rfl
      | true =>
       exfalso
       apply hz
       simp only [List.any_eq_true, Yo] at hs
       obtain ⟨p, hp, q, hq, rfl⟩ := hs
       have h0 : ((0, 0, 0) : Pt) ∈ bY a b := vk.2 ⟨p, hp, p, hq, by simp [ax]⟩
       exact hN.zero h0
end Go.Ev
namespace Go.Ev
open Go.ChangeShapes Go.WideShapes Go.ChangeAt Go.RowKit Go.Deep
def allI (P : Program) : Nat → TypeId → Bool
 | 0, _ => false
 | d + 1, t => match P.underlying t with
  | some (.int .i64) => true
  | some (.struct fs) => fs.toList.all (fun f => allI P d f.type) && (List.range (P.cellsOf t)).all fun i => fs.toList.any fun f => decide (f.offset ≤ i ∧ i < f.offset + P.cellsOf f.type)
  | _ => false
section
variable {H : Type} {enc : TypeId × Value → H} {P : Program} {w : World} {base : Nat} {spare : Nat → Bool} {held : Bool}
theorem RR : ∀ (d : Nat) (t : TypeId), allI P d t = true → ∀ (n : Nat) (cs : List Value) (x : DataW H × List MemPlace), DataW.trod enc P w base spare held n t cs = some x → ∀ (i : Nat) (v : Value), cs[i]? = some v → ∃ z, v = Value.int .i64 z := by
 intro d
 induction d with
 | zero => intro t h; cases h
 | succ d ih =>
  intro t h n cs x hx i v hv
  unfold allI at h
  split at h
  ·rename_i ht
   obtain ⟨z, rfl, _⟩ := DataW.trod_int ht hx
   cases i with
   | zero => simp only [List.getElem?_cons_zero, Yh] at hv; exact ⟨z, hv.symm⟩
   | succ i => simp at hv
  ·rename_i fs ht
   rw [Yi] at h
   obtain ⟨h1, h2⟩ := h
   obtain ⟨xs, m, _, _, hlen, hxl, hf⟩ := DataW.trod_struct ht hx
   have hi : i < P.cellsOf t := by rw [← hlen]; exact (Yr.1 hv).1
   have h3 := List.all_eq_true.1 h2 i (List.mem_range.2 hi)
   obtain ⟨f, hfm, hfi⟩ := List.any_eq_true.1 h3
   rw [Yo] at hfi
   obtain ⟨k, hk⟩ := List.mem_iff_getElem?.1 hfm
   rw [YD] at hk
   have h4 := hf k f hk
   have hk' : k < xs.length := by rw [hxl]; exact (Array.getElem?_eq_some_iff.1 hk).1
   rw [Yp hk'] at h4
   refine ih f.type (List.all_eq_true.1 h1 f hfm) m _ _ h4 (i - f.offset) v ?_
   rw [List.getElem?_take, if_pos (by omega), List.getElem?_drop, show f.offset + (i - f.offset) = i by omega]
   exact hv
  ·cases h
theorem L4 {t e : TypeId} {C d : Nat} {a : Option Addr} {len cap : Nat} {dd : DataW H} {ps : List MemPlace} (ht : P.underlying t = some (.slice e)) (ha : allI P d e = true) (hC : P.cellsOf e = C) (hC0 : 0 < C)
  (h : DataW.Trod enc P w base (fun _ => true) held t (.slice a len cap) dd ps) :
  len = 0 ∨ ∃ (x : Addr) (Z : Nat → Int), a = some x ∧ ∀ k, k < len * C → w.cell? (x.add k) = some (.int .i64 (Z k)) := by
 obtain ⟨fuel, hf⟩ := h
 rcases open_slice ht hf with ⟨h0, _⟩ | ⟨x, l, c, m, n, D, Pl, hcs, _, hl, _, hm, _, hi⟩
 ·simp [Value.cells] at h0
  exact .inl h0.2.1
 ·simp [Value.cells] at hcs
  obtain ⟨rfl, rfl, rfl⟩ := hcs
  simp only [if_true] at hm
  subst hm
  right
  have key : ∀ k, ∃ z : Int, k < len * C → w.cell? (x.add k) = some (.int .i64 z) := by
   intro k
   by_cases hk : k < len * C
   ·have hq : k / C < len := (Nat.div_lt_iff_lt_mul hC0).2 hk
    obtain ⟨cs', h1, h2⟩ := hi (k / C) (by omega)
    rw [hC] at h1
    obtain ⟨_, hcl, hat⟩ := World.cells?_some h1
    have hr : k % C < C := Nat.mod_lt _ hC0
    have h3 := hat (k % C) hr
    have h4 : cs'[k % C]? = some (cs'[k % C]'(by omega)) := Yp (by omega)
    obtain ⟨z, hz⟩ := RR d e ha n cs' _ h2 (k % C) _ h4
    refine ⟨z, fun _ => ?_⟩
    rw [h4, hz, Go.Deep.add_add, Nat.div_add_mod' k C] at h3
    exact h3
   ·exact ⟨0, fun h => absurd h hk⟩
  exact ⟨x, fun k => (key k).choose, rfl, fun k hk => (key k).choose_spec hk⟩
end
theorem U1 {A B : Type} (f : A → List B) (m : Nat) (hm : ∀ a, (f a).length = m) (l : List A) (i j : Nat) (hj : j < m) : (l.flatMap f)[i * m + j]? = (l[i]?).bind fun a => (f a)[j]? := by
 induction l generalizing i with
 | nil => simp
 | cons a l ih =>
  cases i with
  | zero => simp [List.flatMap_cons, List.getElem?_append, hm, hj]
  | succ i =>
   have h1 : (i + 1) * m + j = m + (i * m + j) := by rw [Nat.add_mul]; omega
   rw [h1, List.flatMap_cons, List.getElem?_append_right (by rw [hm]; omega), hm]
   have h2 : m + (i * m + j) - m = i * m + j := by omega
   rw [h2, ih]
   simp
theorem U2 {A B : Type} (f : A → List B) (m : Nat) (hm : ∀ a, (f a).length = m) (l : List A) : (l.flatMap f).length = l.length * m := by
 induction l with
 | nil => simp
 | cons a l ih => rw [List.flatMap_cons, Yw, hm, ih, YC, Nat.add_mul]; omega
theorem Oh {w : World} {A : Type} (f : A → LA_) (row : (Nat → Int) → A) (C : Nat) (hC : 0 < C) (hlen : ∀ a, (f a).length = C) (hrow : ∀ Z j, j < C → (f (row Z))[j]? = some (.int .i64 (Z j))) {a : Option Addr} {len cap : Nat}
  (h : len = 0 ∨ ∃ (x : Addr) (Z : Nat → Int), a = some x ∧ ∀ k, k < len * C → w.cell? (x.add k) = some (.int .i64 (Z k))) :
  ∃ (l : List A) (L : Loc), l.length = len ∧ L.sp = a ∧ L.sl = len ∧ L.sk = cap ∧ (∀ ρ, BOk ρ L w (.vec (l.flatMap f) l.length C false)) ∧ (l.flatMap f ≠ [] → L.blk < w.heap.size) ∧ scC 0 (l.flatMap f) = true := by
 by_cases h0 : len = 0
 ·subst h0
  exact ⟨[], ⟨0, 0, 0, ⟨0, 0, none⟩, .nilIface, a, 0, cap, default⟩, rfl, rfl, rfl, rfl, fun ρ => ⟨rfl, .inl ⟨rfl, rfl, fun h => by cases h⟩⟩, fun h => absurd rfl h, rfl⟩
 obtain ⟨x, Z, rfl, hx⟩ := h.resolve_left h0
 have hpos : 0 < len * C := Nat.mul_pos (by omega) hC
 let l : List A := (List.range len).map fun i => row fun j => Z (i * C + j)
 have hll : l.length = len := by simp [l]
 have hfl : (l.flatMap f).length = len * C := by rw [U2 f C hlen, hll]
 have hcell : ∀ k, k < len * C → (l.flatMap f)[k]? = some (.int .i64 (Z k)) := by
  intro k hk
  have hr : k % C < C := Nat.mod_lt _ hC
  have hq : k / C < len := (Nat.div_lt_iff_lt_mul hC).2 hk
  have h1 := U1 f C hlen l (k / C) (k % C) hr
  rw [Nat.div_add_mod' k C] at h1
  rw [h1]
  have h2 : l[k / C]? = some (row fun j => Z (k / C * C + j)) := by simp [l, hq]
  rw [h2]
  show (f _)[k % C]? = _
  rw [hrow _ _ hr, Nat.div_add_mod' k C]
 have h1 := hx 0 hpos
 have hx0 : x.add 0 = x := rfl
 rw [hx0] at h1
 unfold World.cell? at h1
 split at h1
 ·rename_i c e fz hb
  split at h1
  ·cases h1
  ·rename_i hspot
   have hsp : x.spot = none := by simpa using hspot
   have hat : ∀ k, k < len * C → c[x.off + k]? = some (.int .i64 (Z k)) := by
    intro k hk
    have h2 := hx k hk
    unfold World.cell? at h2
    have hb2 : (x.add k).block = x.block := by unfold Addr.add; split <;> rfl
    have ho2 : (x.add k).off = x.off + k := by unfold Addr.add; split <;> simp_all
    rw [hb2, hb] at h2
    simp only at h2
    split at h2
    ·cases h2
    ·rw [ho2] at h2; exact h2
   have hne : l.flatMap f ≠ [] := by intro hn; rw [hn] at hfl; simp at hfl; omega
   have hsz : x.off + len * C ≤ c.size := by
    have := (Array.getElem?_eq_some_iff.1 (hat (len * C - 1) (by omega))).1
    omega
   have hadr : x = ⟨x.block, x.off, none⟩ := by cases x; simp_all
   refine ⟨l, ⟨x.block, x.off, 0, ⟨0, 0, none⟩, .nilIface, some x, len, cap, default⟩, hll, rfl, rfl, rfl, fun ρ => ⟨hll.symm, .inr ⟨hne, congrArg some hadr, by rw [hfl, hll], c, e, fz, hb, ⟨c.toList.take x.off, c.toList.drop (x.off + len * C), ?_, ?_⟩, fun h => by cases h⟩⟩, fun _ => ?_, ?_⟩
   ·apply List.ext_getElem?
    intro i
    rw [YB, List.getElem?_append, List.length_take, Array.length_toList, Nat.min_eq_left (by omega)]
    split
    ·rename_i hi; rw [List.getElem?_take, if_pos hi]
    ·rename_i hi
     rw [List.getElem?_append, aX, hfl]
     split
     ·rename_i hi2
      rw [je, hcell _ hi2, YD]
      have := hat (i - x.off) hi2
      rw [show x.off + (i - x.off) = i by omega] at this
      rw [this]; rfl
     ·rename_i hi2
      rw [List.getElem?_drop, show x.off + len * C + (i - x.off - len * C) = i by omega]
   ·rw [List.length_take, Array.length_toList, Nat.min_eq_left (by omega)]
   ·exact (Array.getElem?_eq_some_iff.1 hb).1
   ·rw [gN]
    intro v hv
    obtain ⟨i, hi⟩ := List.mem_iff_getElem?.1 hv
    have hil : i < len * C := by rw [← hfl]; exact (Yr.1 hi).1
    rw [hcell i hil] at hi
    cases hi
    exact ⟨rfl, rfl⟩
 ·cases h1
theorem L5 {cs : LA_} {n sz : Nat} {own : Bool} (h : (aq.vec cs n sz own).alive = true) : cs ≠ [] := by
 rintro rfl; cases h
theorem RS {w : World} {ρ : Nat → Loc} {ls : List aq} (h : ∀ i b, ls[i]? = some b → BOk ρ (ρ i) w b ∧ b.owned = false ∧ scB ls.length b = true ∧ (b.alive = true → (ρ i).blk < w.heap.size)) : Rel (W0.all w) ρ ⟨ls.length, dh 0 ls⟩ w := by
 have hbk : ∀ i b, (⟨ls.length, dh 0 ls⟩ : Mem).get i = some b → i < ls.length ∧ ls[i]? = some b := by
  intro i b hi
  obtain ⟨_, h2, h3⟩ := IT _ (nP hi)
  simp only [Nat.zero_add, Nat.sub_zero] at h2 h3
  exact ⟨h2, h3⟩
 refine ⟨fun i b hi => (hbk i b hi).1, fun i b hi => (h i b (hbk i b hi).2).2.2.1, fun i b hi => (h i b (hbk i b hi).2).1, fun i b hi => (h i b (hbk i b hi).2).2.2.2, ?_, ?_, rfl, rfl, rfl, Nat.le_refl _, fun _ _ => rfl⟩
 ·intro i j bi bj hi hj hij ho _
  rw [(h i bi (hbk i bi hi).2).2.1] at ho; cases ho
 ·intro i b hi ho
  rw [(h i b (hbk i b hi).2).2.1] at ho; cases ho
theorem dD.row {P : Program} {g : FuncId} {cargs : LA_} {ls : List aq} {b : Bool} {σ' : Mem} {w : World} {ρ : Nat → Loc} (h : dD P g cargs ⟨ls.length, dh 0 ls⟩ (.ret (.bool b)) σ') (R : Rel (W0.all w) ρ ⟨ls.length, dh 0 ls⟩ w)
  (hs : scL ls.length cargs = true) : Calls P g (γL ρ cargs).toArray w fun e w' => e = .returned (.bool b) ∧ Below w.heap.size w w' := by
 refine (h _ ρ w R hs).mono ?_
 rintro e w' ⟨ρ', rfl, k, _⟩
 exact ⟨rfl, k.rel.os, k.rel.tape, k.rel.output, k.rel.size, fun q hq => k.rel.old q hq⟩
end Go.Ev
namespace Go.Ev
open Go.ChangeShapes Go.WideShapes Go.ChangeAt Go.RowKit Go.Deep
def yJ (Z : Nat → Int) (S : Nat → Option Addr × Nat × Nat) : List Bool → Nat → List Value
 | [], _ => []
 | true :: r, i => .int .i64 (Z i) :: yJ Z S r (i + 1)
 | false :: r, i => .slice (S i).1 (S i).2.1 (S i).2.2 :: yJ Z S r (i + 1)
def Lt (P : Program) : List TypeId → List Bool → Bool
 | [], [] => true
 | u :: ts, k :: ks => (match P.underlying u with
  | some (.int .i64) => k
  | some (.slice _) => !k
  | _ => false) && Lt P ts ks
 | _, _ => false
def zOf (l : List Value) (i : Nat) : Int := match l[i]? with
 | some (.int _ z) => z
 | _ => 0
def sOf (l : List Value) (i : Nat) : Option Addr × Nat × Nat := match l[i]? with
 | some (.slice a b c) => (a, b, c)
 | _ => (none, 0, 0)
theorem L6 {P : Program} {w : World} {r : Reach} {b0 : Nat} {l0 : List Value} : ∀ {ts : List TypeId} {ks : List Bool} {l : List Value} {i : Nat}, Lt P ts ks = true → l.length = ts.length → (∀ (j : Nat) (v : Value), l[j]? = some v → l0[i + j]? = some v) →
  (∀ (j : Nat) (v : Value), l[j]? = some v → ∃ u, ts[j]? = some u ∧ Cell.okWide P w r b0 u v) → l = yJ (zOf l0) (sOf l0) ks i
 | [], [], [], _, _, _, _, _ => rfl
 | [], _ :: _, _, _, h, _, _, _ => by simp [Lt] at h
 | _ :: _, [], _, _, h, _, _, _ => by simp [Lt] at h
 | [], [], _ :: _, _, _, h, _, _ => by simp at h
 | _ :: _, _ :: _, [], _, _, h, _, _ => by simp at h
 | u :: ts, k :: ks, v :: l, i, h, hn, h0, hv => by
  simp only [Lt, Yi] at h
  have ih := L6 (w := w) (r := r) (b0 := b0) (l0 := l0) (i := i + 1) h.2 (l := l) (by simpa using hn) (fun j x hx => by
   have := h0 (j + 1) x (by simpa using hx)
   rw [show i + 1 + j = i + (j + 1) by omega]; exact this) (fun j x hx => by
   obtain ⟨u', q1, q2⟩ := hv (j + 1) x (by simpa using hx)
   exact ⟨u', by simpa using q1, q2⟩)
  obtain ⟨u', q1, q2⟩ := hv 0 v rfl
  simp only [List.getElem?_cons_zero, Yh] at q1
  subst q1
  have hi : l0[i]? = some v := by simpa using h0 0 v rfl
  have h1 := h.1
  split at h1
  ·rename_i hu
   subst h1
   obtain ⟨n, rfl⟩ := Go.WideShapes.okWide_int hu (by unfold Value.okWide; rw [hu]; exact q2)
   simp only [yJ, zOf, hi]
   rw [← ih]
  ·rename_i e hu
   obtain rfl : k = false := by simpa using h1
   obtain ⟨a, len, cap, rfl⟩ := Go.WideShapes.okWide_slice hu (by unfold Value.okWide; rw [hu]; exact q2)
   simp only [yJ, sOf, hi]
   rw [← ih]
  ·cases h1
theorem RV {P : Program} {w : World} {r : Reach} {b0 : Nat} {t : TypeId} {fs : Array Field} {ts : List TypeId} {ks : List Bool} {v : Value} (ht : P.underlying t = some (.struct fs)) (hc : P.cellTypes P.depth t = some ts) (hn : P.cellsOf t = ts.length)
  (hk : Lt P ts ks = true) (hv : Value.okWide P w r b0 t v) : ∃ Z S, v = .agg (yJ Z S ks 0).toArray := by
 unfold Value.okWide at hv
 rw [ht] at hv
 obtain ⟨cs, rfl, hsz, ts', h1, _, h2⟩ := hv
 rw [hc] at h1
 obtain rfl : ts = ts' := by simpa using h1
 obtain ⟨l⟩ := cs
 have hl : l.length = ts.length := by simpa [hn] using hsz
 have := L6 (l0 := l) (l := l) (i := 0) hk hl (fun j v h => by simpa using h) (fun j v h => by
  obtain ⟨u, q1, q2⟩ := h2 j v (by simpa using h)
  have hj : j < ts.length := by rw [← hl]; exact (Yr.1 h).1
  rw [Nat.mod_eq_of_lt hj] at q1
  exact ⟨u, q1, q2⟩)
 exact ⟨_, _, by rw [← this]⟩
end Go.Ev
