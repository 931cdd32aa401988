import Derived.Test.YtbmjabafceihgaaGreatKah
set_option linter.unusedVariables false
set_option linter.unusedSimpArgs false
set_option maxRecDepth 100000
noncomputable section
namespace Go.Ev
theorem Dd (a : Int) : IntKind.wrap .u64 a = a % 18446744073709551616 := by
 simp [IntKind.wrap, IntKind.signed, IntKind.bits]
theorem bM {a : Int} (h : -9223372036854775808 ≤ a ∧ a < 9223372036854775808) : IntKind.wrap .i64 a = a := by
 simp [IntKind.wrap, IntKind.signed, IntKind.bits]
 omega
theorem VS (a : Int) : aE .u64 a 63 = a / 9223372036854775808 := by
 unfold aE
 rw [Int.fdiv_eq_ediv_of_nonneg _ (by decide)]
 rfl
theorem VT (a : Int) : aE .i64 a 63 = a / 9223372036854775808 := by
 unfold aE
 rw [Int.fdiv_eq_ediv_of_nonneg _ (by decide)]
 rfl
theorem Sx : ∀ (n : Nat) {z : Int}, -18446744073709551616 ≤ z ∧ z < 0 → n ≠ 0 → dv n z = -1
 | 0, z, _, h => absurd rfl h
 | 1, z, h, _ => by show z / _ = -1; omega
 | n + 2, z, h, _ => by show dv (n + 1) z / _ = -1; rw [Sx (n + 1) h (by omega)]; rfl
theorem Sy : ∀ (n : Nat) {z : Int}, 0 ≤ z ∧ z < 18446744073709551616 → n ≠ 0 → dv n z = 0
 | 0, z, _, h => absurd rfl h
 | 1, z, h, _ => by show z / _ = 0; omega
 | n + 2, z, h, _ => by show dv (n + 1) z / _ = 0; rw [Sy (n + 1) h (by omega)]; rfl
theorem X8 {x : Int} (h : bf x = true) : uS x = some (t8 x) := by
 have hr : -9223372036854775808 ≤ x ∧ x < 9223372036854775808 := by simpa [bf] using h
 unfold uS t8
 rw [VT]
 simp only [Dd]
 have h0 : aa x 0 = x % 18446744073709551616 := rfl
 by_cases hx : x < 0
 ·have e : x / 9223372036854775808 = -1 := by omega
  have l : ∀ n, n ≠ 0 → aa x n = -1 % 18446744073709551616 := fun n hn => by unfold aa; rw [Sx n ⟨by omega, hx⟩ hn]
  rw [e, h0, l 1 (by decide), l 2 (by decide), l 3 (by decide), l 4 (by decide), l 5 (by decide), l 6 (by decide), l 7 (by decide)]
 ·have e : x / 9223372036854775808 = 0 := by omega
  have l : ∀ n, n ≠ 0 → aa x n = 0 % 18446744073709551616 := fun n hn => by unfold aa; rw [Sy n ⟨by omega, by omega⟩ hn]
  rw [e, h0, l 1 (by decide), l 2 (by decide), l 3 (by decide), l 4 (by decide), l 5 (by decide), l 6 (by decide), l 7 (by decide)]
def Av (z : Int) : Bool := decide (9223372036854775808 ≤ aa z 7)
theorem nR (z : Int) : am (aa z 0) (aa z 1) (aa z 2) (aa z 3) (aa z 4) (aa z 5) (aa z 6) (aa z 7) = some (Av z) := by
 unfold am Av
 rw [VS]
 have := cE z 7
 by_cases h : 9223372036854775808 ≤ aa z 7
 ·have e : aa z 7 / 9223372036854775808 = 1 := by omega
  rw [e, Yn h]; rfl
 ·have e : aa z 7 / 9223372036854775808 = 0 := by omega
  rw [e, Ym h]; rfl
theorem Q7 (z : Int) : aa z 7 = z / 18446744073709551616 / 18446744073709551616 / 18446744073709551616 / 18446744073709551616 / 18446744073709551616 / 18446744073709551616 / 18446744073709551616 % 18446744073709551616 := rfl
theorem ei {z : Int} (h : fit z) : Av z = decide (z < 0) := by
 have e := Q7 z
 unfold fit at h
 unfold Av
 by_cases hz : z < 0
 ·have : 9223372036854775808 ≤ aa z 7 := by omega
  rw [Yn hz, Yn this]
 ·have : ¬ 9223372036854775808 ≤ aa z 7 := by omega
  rw [Ym hz, Ym this]
theorem LH {z : Int} (h : ¬ fit z) (h0 : 0 ≤ z) (h1 : z < 13407807929942597099574024998205846127479365820592393377723561443721764030073546976801874298166903427690031858186486050853753882811946569946433649006084096) : Av z = true := by
 have e := Q7 z
 unfold fit at h
 unfold Av
 have : 9223372036854775808 ≤ aa z 7 := by omega
 rw [Yn this]
theorem LI {z : Int} (h : ¬ fit z) (h0 : z < 0) (h1 : -13407807929942597099574024998205846127479365820592393377723561443721764030073546976801874298166903427690031858186486050853753882811946569946433649006084096 ≤ z) : Av z = false := by
 have e := Q7 z
 unfold fit at h
 unfold Av
 have : ¬ 9223372036854775808 ≤ aa z 7 := by omega
 rw [Ym this]
theorem nS {X Y S c : Int} (hS : S = X + Y + c) (hc : 0 ≤ c ∧ c ≤ 1) : ∃ d, (0 ≤ d ∧ d ≤ 1) ∧ iS (X % 18446744073709551616) (Y % 18446744073709551616) c = some (S % 18446744073709551616, d) ∧
  S / 18446744073709551616 = X / 18446744073709551616 + Y / 18446744073709551616 + d := by
 refine ⟨(X % 18446744073709551616 + Y % 18446744073709551616 + c) / 18446744073709551616, by omega, ?_, by omega⟩
 have h : (decide (0 ≤ X % 18446744073709551616) && decide (0 ≤ Y % 18446744073709551616) && decide (0 ≤ c) && decide (c ≤ 1)) = true := by
  simp only [Yi, Yo]; omega
 have e : (X % 18446744073709551616 + Y % 18446744073709551616 + c) % 18446744073709551616 = S % 18446744073709551616 := by omega
 unfold iS ah
 rw [h, e]
theorem BA (x y c : Int) (hc : 0 ≤ c ∧ c ≤ 1) : dS (aa x 0) (aa x 1) (aa x 2) (aa x 3) (aa x 4) (aa x 5) (aa x 6) (aa x 7) (aa y 0) (aa y 1) (aa y 2) (aa y 3) (aa y 4) (aa y 5) (aa y 6) (aa y 7) c = some (t8 (x + y + c)) := by
 obtain ⟨c1, h1, e1, q1⟩ := nS (X := x) (Y := y) (S := x + y + c) rfl hc
 obtain ⟨c2, h2, e2, q2⟩ := nS q1 h1
 obtain ⟨c3, h3, e3, q3⟩ := nS q2 h2
 obtain ⟨c4, h4, e4, q4⟩ := nS q3 h3
 obtain ⟨c5, h5, e5, q5⟩ := nS q4 h4
 obtain ⟨c6, h6, e6, q6⟩ := nS q5 h5
 obtain ⟨c7, h7, e7, q7⟩ := nS q6 h6
 obtain ⟨c8, h8, e8, q8⟩ := nS q7 h7
 simp only [dS, aa, dv, e1, e2, e3, e4, e5, e6, e7, e8, Ye, t8]
theorem TX {a : Int} (h : 0 ≤ a ∧ a < 18446744073709551616) : Ak .u64 18446744073709551615 a = 18446744073709551615 - a := by
 unfold Ak
 rw [Dd]
 obtain ⟨n, rfl⟩ := Int.eq_ofNat_of_zero_le h.1
 have hn : n < 2 ^ 64 := by omega
 have e1 : BitVec.ofInt (IntKind.bits .u64) 18446744073709551615 = BitVec.allOnes 64 := by
  show BitVec.ofInt 64 18446744073709551615 = _
  decide
 have e2 : BitVec.ofInt (IntKind.bits .u64) (n : Int) = BitVec.ofNat 64 n := by
  simp [IntKind.bits, BitVec.ofInt_natCast]
 rw [e1, e2]
 have e3 : BitVec.allOnes 64 ^^^ BitVec.ofNat 64 n = ~~~ (BitVec.ofNat 64 n) := by
  rw [BitVec.not_def]
 have e4 : (BitVec.allOnes 64 ^^^ BitVec.ofNat 64 n).toNat = 2 ^ 64 - 1 - n := by
  rw [e3, BitVec.toNat_not, BitVec.toNat_ofNat, Nat.mod_eq_of_lt hn]
 have e5 : ((BitVec.allOnes 64 ^^^ BitVec.ofNat 64 n).toNat : Int) = 18446744073709551615 - n := by
  rw [e4]; omega
 refine Eq.trans (congrArg (fun z : Int => z % 18446744073709551616) e5) ?_
 show (18446744073709551615 - (n : Int)) % 18446744073709551616 = _
 omega
theorem Sz : ∀ (n : Nat) (z : Int), dv n (-z - 1) = -(dv n z) - 1
 | 0, z => rfl
 | n + 1, z => by show dv n (-z - 1) / _ = -(dv n z / _) - 1; rw [Sz n z]; omega
theorem TY (z : Int) (n : Nat) : aa (-z - 1) n = 18446744073709551615 - aa z n := by
 unfold aa; rw [Sz]; omega
theorem KF (z : Int) : ij (aa z 0) (aa z 1) (aa z 2) (aa z 3) (aa z 4) (aa z 5) (aa z 6) (aa z 7) = some (t8 (-z - 1)) := by
 unfold ij t8
 simp only [TX (cE z _), TY]
theorem LJ (z : Int) : fx (aa z 0) (aa z 1) (aa z 2) (aa z 3) (aa z 4) (aa z 5) (aa z 6) (aa z 7) = some (t8 (-z)) := by
 have h := BA (-z - 1) 0 1 ⟨by decide, by decide⟩
 simp only [gP] at h
 have e : -z - 1 + 0 + 1 = -z := by omega
 rw [e] at h
 simp only [fx, KF, Ye, t8, h]
theorem KG {z : Int} (h : fit z) : dT (aa z 0) (aa z 1) (aa z 2) (aa z 3) (aa z 4) (aa z 5) (aa z 6) (aa z 7) = some (t8 (z.natAbs : Int)) := by
 simp only [dT, nR, ei h, Ye, LJ]
 by_cases hz : z < 0
 ·have e : (z.natAbs : Int) = -z := by omega
  rw [Yn hz, e]; rfl
 ·have e : (z.natAbs : Int) = z := by omega
  rw [Ym hz, e]; rfl
theorem XL {x y : Int} (hx : fit x) (hy : fit y) :
  sd (aa x 0) (aa x 1) (aa x 2) (aa x 3) (aa x 4) (aa x 5) (aa x 6) (aa x 7) (aa y 0) (aa y 1) (aa y 2) (aa y 3) (aa y 4) (aa y 5) (aa y 6) (aa y 7) =
   some (t9 (gV (x + y)).1 (gV (x + y)).2) := by
 simp only [sd, BA x y 0 ⟨by decide, by decide⟩, Int.add_zero, Ye, t8, nR, ei hx, ei hy]
 by_cases hs : fit (x + y)
 ·rw [ei hs]
  unfold gV
  rw [ci.2 hs]
  by_cases h1 : x < 0 <;> by_cases h2 : y < 0 <;> by_cases h3 : x + y < 0 <;> simp [h1, h2, h3, t9] <;> omega
 ·unfold gV
  rw [sZ.2 hs]
  simp only [t9, gP]
  by_cases h1 : x + y < 0
  ·rw [LI hs h1 (by unfold fit at hx hy; omega)]
   have : x < 0 ∧ y < 0 := by unfold fit at hx hy hs; omega
   simp [this, gP]
  ·rw [LH hs (by omega) (by unfold fit at hx hy; omega)]
   have : ¬ x < 0 ∧ ¬ y < 0 := by unfold fit at hx hy hs; omega
   simp [this, gP]
theorem UF {x y : Int} (hx : fit x) (hy : fit y) :
  oy (aa x 0) (aa x 1) (aa x 2) (aa x 3) (aa x 4) (aa x 5) (aa x 6) (aa x 7) (aa y 0) (aa y 1) (aa y 2) (aa y 3) (aa y 4) (aa y 5) (aa y 6) (aa y 7) =
   some (t9 (gV (x - y)).1 (gV (x - y)).2) := by
 have h := BA x (-y - 1) 1 ⟨by decide, by decide⟩
 have e : x + (-y - 1) + 1 = x - y := by omega
 rw [e] at h
 simp only [oy, KF, h, Ye, t8, nR, ei hx, ei hy]
 by_cases hs : fit (x - y)
 ·rw [ei hs]
  unfold gV
  rw [ci.2 hs]
  by_cases h1 : x < 0 <;> by_cases h2 : y < 0 <;> by_cases h3 : x - y < 0 <;> simp [h1, h2, h3, t9] <;> omega
 ·unfold gV
  rw [sZ.2 hs]
  simp only [t9, gP]
  by_cases h1 : x - y < 0
  ·rw [LI hs h1 (by unfold fit at hx hy; omega)]
   have : x < 0 ∧ ¬ y < 0 := by unfold fit at hx hy hs; omega
   simp [this, gP]
  ·rw [LH hs (by omega) (by unfold fit at hx hy; omega)]
   have : ¬ x < 0 ∧ y < 0 := by unfold fit at hx hy hs; omega
   simp [this, gP]
theorem As : fit 0 := by unfold fit; omega
theorem XM {x : Int} (hx : fit x) : sx (aa x 0) (aa x 1) (aa x 2) (aa x 3) (aa x 4) (aa x 5) (aa x 6) (aa x 7) = some (t9 (gV (0 - x)).1 (gV (0 - x)).2) := by
 have h := UF As hx
 simp only [gP] at h
 simp only [sx, h, Ye]
 unfold gV
 cases f0 (0 - x) <;> rfl
theorem Ly {x y : Int} (hx : fit x) (hy : fit y) : (aa x 0 == aa y 0 && (aa x 1 == aa y 1 && (aa x 2 == aa y 2 && (aa x 3 == aa y 3 && (aa x 4 == aa y 4 && (aa x 5 == aa y 5 && (aa x 6 == aa y 6 && (aa x 7 == aa y 7 && true)))))))) = decide (x = y) := by
 by_cases h : x = y
 ·subst h; simp
 ·rw [Ym h]
  apply Bool.eq_false_iff.2
  intro q
  simp only [Yi, beq_iff_eq, Bool.and_true] at q
  obtain ⟨h0, h1, h2, h3, h4, h5, h6, h7⟩ := q
  apply h
  rw [← aD hx, ← aD hy, h0, h1, h2, h3, h4, h5, h6, h7]
theorem O3 {x : Int} (hx : fit x) : mc (aa x 0) (aa x 1) (aa x 2) (aa x 3) (aa x 4) (aa x 5) (aa x 6) (aa x 7) = some (sgn x) := by
 have h := Ly hx As
 simp only [gP] at h
 simp only [mc, nR, ei hx, Ye, h, sgn]
 by_cases h1 : x < 0 <;> by_cases h2 : x = 0 <;> simp [h1, h2]
theorem eQ (i : Nat) : decide (0 ≤ (i : Int)) = true := by simp
theorem Q8 (i : Nat) : decide ((i : Int) ≥ 0) = true := by simp
theorem Aw {i : Nat} (h : i < 8) : decide ((i : Int) < ((8 : Nat) : Int)) = true := Yn (by omega)
theorem nT : ∀ (i : Nat) (l : List Int), lv l = lv (l.take i) + 18446744073709551616 ^ i * lv (l.drop i)
 | 0, l => by simp [lv]
 | i + 1, [] => by simp [lv]
 | i + 1, a :: r => by
  have ih := nT i r
  simp only [List.take_succ_cons, List.drop_succ_cons, lv, Int.pow_succ]
  rw [ih, Int.mul_add, Int.mul_comm ((18446744073709551616 : Int) ^ i) 18446744073709551616, Int.mul_assoc]
  omega
theorem rL.take {l : List Int} (h : rL l) (i : Nat) : rL (l.take i) := fun x hx => h x (List.mem_of_mem_take hx)
theorem rL.drop {l : List Int} (h : rL l) (i : Nat) : rL (l.drop i) := fun x hx => h x (List.mem_of_mem_drop hx)
theorem qZ {l : List Int} {i : Nat} (h : i < l.length) : l.drop i = l.getD i 0 :: l.drop (i + 1) := by
 rw [List.drop_eq_getElem_cons h, Yq, Yp h]; rfl
theorem Jf (i : Nat) : (0 : Int) < 18446744073709551616 ^ i := Int.pow_pos (by decide)
theorem UG {l m : List Int} (h1 : rL l) (h2 : rL m) {i : Nat} (hl : i < l.length) (hm : i < m.length) (hd : l.drop (i + 1) = m.drop (i + 1)) (hi : l.getD i 0 < m.getD i 0) : lv l < lv m := by
 rw [nT i l, nT i m, qZ hl, qZ hm, hd]
 simp only [lv, Int.mul_add]
 have a1 := qH (h1.take i)
 have a2 := qH (h2.take i)
 rw [List.length_take, Nat.min_eq_left (by omega)] at a1 a2
 have p := Jf i
 generalize (18446744073709551616 : Int) ^ i = q at *
 have : q * (l.getD i 0 + 1) ≤ q * m.getD i 0 := YA (by omega) (by omega)
 rw [Int.mul_add] at this
 omega
theorem Q9 {l m : List Int} (h1 : rL l) (h2 : rL m) (hl : l.length = 8) (hm : m.length = 8) (p q : Nat) :
  ∃ e, zs (LL l, p, LL m, q) 7 = some e ∧ Sum.elim id (fun _ => 0) e = sgn (lv l - lv m) := by
 refine gF (step := qp (LL l, p, LL m, q)) (fun v => ∃ i : Nat, v = (i : Int) - 1 ∧ i ≤ 8 ∧ l.drop i = m.drop i) (fun v => (v + 1).toNat) _ ?_ (by decide)
  ⟨8, rfl, Nat.le_refl _, by rw [List.drop_eq_nil_of_le (by omega), List.drop_eq_nil_of_le (by omega)]⟩
 rintro v ⟨i, rfl, hi, hd⟩
 cases i with
 | zero =>
  refine .inr ⟨.inr (), rfl, ?_⟩
  simp only [List.drop_zero] at hd
  rw [hd, Int.sub_self]; rfl
 | succ i =>
  have e : ((i + 1 : Nat) : Int) - 1 = (i : Int) := by omega
  rw [e]
  have hi8 : i < 8 := by omega
  have h3 : IntKind.wrap .i64 ((i : Int) - 1) = (i : Int) - 1 := bM (by omega)
  simp only [qp, fY, eQ, Q8, Aw hi8, h3, cond_true, az, Yl, Int.toNat_natCast, Nat.mul_one, Nat.zero_add, Nat.add_zero, uh, kQ, hl, hm, Yn hi8]
  by_cases hne : l.getD i 0 = m.getD i 0
  ·refine .inl ⟨(i : Int) - 1, ?_, ⟨i, rfl, by omega, ?_⟩, by omega⟩
   ·rw [hne]; simp
   ·rw [qZ (by omega), qZ (l := m) (by omega), hne, hd]
  ·have hb : (l.getD i 0 != m.getD i 0) = true := by simpa using hne
   rw [hb]
   by_cases hlt : l.getD i 0 < m.getD i 0
   ·refine .inr ⟨.inl (-1), by rw [Yn hlt]; rfl, ?_⟩
    have := UG h1 h2 (by omega) (by omega) hd hlt
    have a : lv l - lv m < 0 := by omega
    simp [sgn, Sum.elim, a]
   ·refine .inr ⟨.inl 1, by rw [Ym hlt]; rfl, ?_⟩
    have := UG h2 h1 (by omega) (by omega) hd.symm (by omega)
    have a : ¬ lv l - lv m < 0 := by omega
    have b : ¬ lv l - lv m = 0 := by omega
    simp [sgn, Sum.elim, a, b]
def l8 (z : Int) : List Int := [aa z 0, aa z 1, aa z 2, aa z 3, aa z 4, aa z 5, aa z 6, aa z 7]
theorem s6 (z : Int) : (l8 z).length = 8 := rfl
theorem KH (z : Int) : rL (l8 z) := by
 intro x hx
 simp only [l8, List.mem_cons, List.not_mem_nil, or_false] at hx
 rcases hx with h | h | h | h | h | h | h | h <;> rw [h] <;> exact cE _ _
theorem Gu {z : Int} (h0 : 0 ≤ z) (h1 : z < 13407807929942597099574024998205846127479365820592393377723561443721764030073546976801874298166903427690031858186486050853753882811946569946433649006084096) : lv (l8 z) = z := by
 have e := FV z
 have e8 : dv 8 z = 0 := by
  have : dv 8 z = z / 18446744073709551616 / 18446744073709551616 / 18446744073709551616 / 18446744073709551616 / 18446744073709551616 / 18446744073709551616 / 18446744073709551616 / 18446744073709551616 := rfl
  omega
 rw [e8] at e
 rw [l8, lv8]; omega
theorem UH {l : List Int} (h : rL l) (hl : l.length = 8) : l = l8 (lv l) := by
 match l, hl with
 | [a, b, c, d, e, f, g, k], _ =>
  rw [lv8]
  have h0 := h a (by simp)
  have h1 := h b (by simp)
  have h2 := h c (by simp)
  have h3 := h d (by simp)
  have h4 := h e (by simp)
  have h5 := h f (by simp)
  have h6 := h g (by simp)
  have h7 := h k (by simp)
  have := zP (k := 0) (a := a) (b := b) (c := c) (d := d) (e := e) (f := f) (g := g) (h := k) (by simp [ok8, rng, *]) (qG a b c d e f g k) (by omega)
  obtain ⟨q0, q1, q2, q3, q4, q5, q6, q7, _⟩ := this
  rw [l8, q0, q1, q2, q3, q4, q5, q6, q7]
theorem SA {l : List Int} (h : rL l) (hl : l.length = 8) : 0 ≤ lv l ∧ lv l < 13407807929942597099574024998205846127479365820592393377723561443721764030073546976801874298166903427690031858186486050853753882811946569946433649006084096 := by
 have := qH h
 rw [hl] at this
 exact this
def cr (z : Int) : Prop := 0 ≤ z ∧ z < 13407807929942597099574024998205846127479365820592393377723561443721764030073546976801874298166903427690031858186486050853753882811946569946433649006084096
theorem LK {x y : Int} (hx : cr x) (hy : cr y) : iJ (aa x 0) (aa x 1) (aa x 2) (aa x 3) (aa x 4) (aa x 5) (aa x 6) (aa x 7) (aa y 0) (aa y 1) (aa y 2) (aa y 3) (aa y 4) (aa y 5) (aa y 6) (aa y 7) = some (sgn (x - y)) := by
 obtain ⟨e, h1, h2⟩ := Q9 (KH x) (KH y) rfl rfl 1 1
 rw [Gu hx.1 hx.2, Gu hy.1 hy.2] at h2
 unfold iJ
 simp only [Dc]
 rw [show [aa x 0, aa x 1, aa x 2, aa x 3, aa x 4, aa x 5, aa x 6, aa x 7] = l8 x from rfl, show [aa y 0, aa y 1, aa y 2, aa y 3, aa y 4, aa y 5, aa y 6, aa y 7] = l8 y from rfl, h1, Ye]
 rw [← h2]
 cases e <;> rfl
theorem dy (z k : Int) : ∀ n, n < 8 → aa (z + 13407807929942597099574024998205846127479365820592393377723561443721764030073546976801874298166903427690031858186486050853753882811946569946433649006084096 * k) n = aa z n := by
 intro n hn
 have e := FV z
 have := zP (k := dv 8 z + k) (bz z) (z + 13407807929942597099574024998205846127479365820592393377723561443721764030073546976801874298166903427690031858186486050853753882811946569946433649006084096 * k) (by rw [Int.mul_add]; omega)
 obtain ⟨q0, q1, q2, q3, q4, q5, q6, q7, _⟩ := this
 match n, hn with
 | 0, _ => exact q0
 | 1, _ => exact q1
 | 2, _ => exact q2
 | 3, _ => exact q3
 | 4, _ => exact q4
 | 5, _ => exact q5
 | 6, _ => exact q6
 | 7, _ => exact q7
theorem XN {x y : Int} (hx : fit x) (hy : fit y) : sf (aa x 0) (aa x 1) (aa x 2) (aa x 3) (aa x 4) (aa x 5) (aa x 6) (aa x 7) (aa y 0) (aa y 1) (aa y 2) (aa y 3) (aa y 4) (aa y 5) (aa y 6) (aa y 7) = some (sgn (x - y)) := by
 simp only [sf, nR, ei hx, ei hy, Ye]
 by_cases h1 : x < 0 <;> by_cases h2 : y < 0
 ·have ex : ∀ n, n < 8 → aa x n = aa (x + 13407807929942597099574024998205846127479365820592393377723561443721764030073546976801874298166903427690031858186486050853753882811946569946433649006084096 * 1) n := fun n hn => (dy x 1 n hn).symm
  have ey : ∀ n, n < 8 → aa y n = aa (y + 13407807929942597099574024998205846127479365820592393377723561443721764030073546976801874298166903427690031858186486050853753882811946569946433649006084096 * 1) n := fun n hn => (dy y 1 n hn).symm
  have h := LK (x := x + 13407807929942597099574024998205846127479365820592393377723561443721764030073546976801874298166903427690031858186486050853753882811946569946433649006084096 * 1) (y := y + 13407807929942597099574024998205846127479365820592393377723561443721764030073546976801874298166903427690031858186486050853753882811946569946433649006084096 * 1)
   (by unfold fit at hx; unfold cr; omega) (by unfold fit at hy; unfold cr; omega)
  simp only [dy x 1 _ (show 0 < 8 by omega), dy x 1 _ (show 1 < 8 by omega), dy x 1 _ (show 2 < 8 by omega), dy x 1 _ (show 3 < 8 by omega), dy x 1 _ (show 4 < 8 by omega), dy x 1 _ (show 5 < 8 by omega), dy x 1 _ (show 6 < 8 by omega), dy x 1 _ (show 7 < 8 by omega),
   dy y 1 _ (show 0 < 8 by omega), dy y 1 _ (show 1 < 8 by omega), dy y 1 _ (show 2 < 8 by omega), dy y 1 _ (show 3 < 8 by omega), dy y 1 _ (show 4 < 8 by omega), dy y 1 _ (show 5 < 8 by omega), dy y 1 _ (show 6 < 8 by omega), dy y 1 _ (show 7 < 8 by omega)] at h
  simp only [h1, h2, decide_true, cond_true, h, Ye]
  congr 1
  congr 1
  omega
 ·simp only [h1, h2, decide_true, decide_false, cond_true, cond_false]
  have : x - y < 0 := by omega
  simp [sgn, this]
 ·simp only [h1, h2, decide_true, decide_false, cond_true, cond_false]
  have a : ¬ x - y < 0 := by omega
  have b : ¬ x - y = 0 := by omega
  simp [sgn, a, b]
 ·have h := LK (x := x) (y := y) (by unfold fit at hx; unfold cr; omega) (by unfold fit at hy; unfold cr; omega)
  simp only [h1, h2, decide_false, cond_false, h, Ye]
def Jg : ByteArray := ⟨#[0, 1, 2, 2, 3, 3, 3, 3, 4, 4, 4, 4, 4, 4, 4, 4, 5, 5, 5, 5, 5, 5, 5, 5, 5, 5, 5, 5, 5, 5, 5, 5, 6, 6, 6, 6, 6, 6, 6, 6, 6, 6, 6, 6, 6, 6, 6, 6, 6, 6, 6, 6, 6, 6, 6, 6, 6, 6, 6, 6, 6, 6, 6, 6, 7, 7, 7, 7, 7, 7, 7, 7, 7, 7, 7, 7, 7, 7, 7, 7, 7, 7, 7, 7, 7, 7, 7, 7, 7, 7, 7, 7, 7, 7, 7, 7, 7, 7, 7, 7, 7, 7, 7, 7, 7, 7, 7, 7, 7, 7, 7, 7, 7, 7, 7, 7, 7, 7, 7, 7, 7, 7, 7, 7, 7, 7, 7, 7, 8, 8, 8, 8, 8, 8, 8, 8, 8, 8, 8, 8, 8, 8, 8, 8, 8, 8, 8, 8, 8, 8, 8, 8, 8, 8, 8, 8, 8, 8, 8, 8, 8, 8, 8, 8, 8, 8, 8, 8, 8, 8, 8, 8, 8, 8, 8, 8, 8, 8, 8, 8, 8, 8, 8, 8, 8, 8, 8, 8, 8, 8, 8, 8, 8, 8, 8, 8, 8, 8, 8, 8, 8, 8, 8, 8, 8, 8, 8, 8, 8, 8, 8, 8, 8, 8, 8, 8, 8, 8, 8, 8, 8, 8, 8, 8, 8, 8, 8, 8, 8, 8, 8, 8, 8, 8, 8, 8, 8, 8, 8, 8, 8, 8, 8, 8, 8, 8, 8, 8, 8, 8, 8, 8, 8, 8, 8, 8]⟩
def SB (T : ByteArray) (a0 : Int) : Option Int :=
 (cond (decide (a0 ≥ 4294967296)) (cond (decide ((aE .u64 a0 32) ≥ 65536)) (cond (decide ((aE .u64 (aE .u64 a0 32) 16) ≥ 256)) (ah (decide (0 ≤ (IntKind.wrap .u8 (aE .u64 (aE .u64 (aE .u64 a0 32) 16) 8))) && decide ((IntKind.wrap .u8 (aE .u64 (aE .u64 (aE .u64 a0 32) 16) 8)) < ((ByteArray.size T : Nat) : Int))) (some (IntKind.wrap .i64 (56 + (IntKind.wrap .i64 (ew T (Int.toNat (IntKind.wrap .u8 (aE .u64 (aE .u64 (aE .u64 a0 32) 16) 8))))))))) (ah (decide (0 ≤ (IntKind.wrap .u8 (aE .u64 (aE .u64 a0 32) 16))) && decide ((IntKind.wrap .u8 (aE .u64 (aE .u64 a0 32) 16)) < ((ByteArray.size T : Nat) : Int))) (some (IntKind.wrap .i64 (48 + (IntKind.wrap .i64 (ew T (Int.toNat (IntKind.wrap .u8 (aE .u64 (aE .u64 a0 32) 16)))))))))) (cond (decide ((aE .u64 a0 32) ≥ 256)) (ah (decide (0 ≤ (IntKind.wrap .u8 (aE .u64 (aE .u64 a0 32) 8))) && decide ((IntKind.wrap .u8 (aE .u64 (aE .u64 a0 32) 8)) < ((ByteArray.size T : Nat) : Int))) (some (IntKind.wrap .i64 (40 + (IntKind.wrap .i64 (ew T (Int.toNat (IntKind.wrap .u8 (aE .u64 (aE .u64 a0 32) 8))))))))) (ah (decide (0 ≤ (IntKind.wrap .u8 (aE .u64 a0 32))) && decide ((IntKind.wrap .u8 (aE .u64 a0 32)) < ((ByteArray.size T : Nat) : Int))) (some (IntKind.wrap .i64 (32 + (IntKind.wrap .i64 (ew T (Int.toNat (IntKind.wrap .u8 (aE .u64 a0 32))))))))))) (cond (decide (a0 ≥ 65536)) (cond (decide ((aE .u64 a0 16) ≥ 256)) (ah (decide (0 ≤ (IntKind.wrap .u8 (aE .u64 (aE .u64 a0 16) 8))) && decide ((IntKind.wrap .u8 (aE .u64 (aE .u64 a0 16) 8)) < ((ByteArray.size T : Nat) : Int))) (some (IntKind.wrap .i64 (24 + (IntKind.wrap .i64 (ew T (Int.toNat (IntKind.wrap .u8 (aE .u64 (aE .u64 a0 16) 8))))))))) (ah (decide (0 ≤ (IntKind.wrap .u8 (aE .u64 a0 16))) && decide ((IntKind.wrap .u8 (aE .u64 a0 16)) < ((ByteArray.size T : Nat) : Int))) (some (IntKind.wrap .i64 (16 + (IntKind.wrap .i64 (ew T (Int.toNat (IntKind.wrap .u8 (aE .u64 a0 16)))))))))) (cond (decide (a0 ≥ 256)) (ah (decide (0 ≤ (IntKind.wrap .u8 (aE .u64 a0 8))) && decide ((IntKind.wrap .u8 (aE .u64 a0 8)) < ((ByteArray.size T : Nat) : Int))) (some (IntKind.wrap .i64 (8 + (IntKind.wrap .i64 (ew T (Int.toNat (IntKind.wrap .u8 (aE .u64 a0 8))))))))) (ah (decide (0 ≤ (IntKind.wrap .u8 a0)) && decide ((IntKind.wrap .u8 a0) < ((ByteArray.size T : Nat) : Int))) (some (IntKind.wrap .i64 (0 + (IntKind.wrap .i64 (ew T (Int.toNat (IntKind.wrap .u8 a0)))))))))))
theorem TZ (a : Int) : gX a = SB Jg a := rfl
theorem T0 : ∀ b : Fin 256, ew Jg b.val = fC b.val := by decide
theorem SC : Jg.size = 256 := by decide
theorem FX {a : Int} (k : Nat) (hk : k ≤ 64) : aE .u64 a (k : Int) = a / ((2 ^ k : Nat) : Int) := by
 unfold aE
 have e : min (Int.toNat (k : Int)) (IntKind.bits .u64) = k := by simp [IntKind.bits]; omega
 rw [e, Int.fdiv_eq_ediv_of_nonneg]
 ·congr 1
 ·exact Int.pow_nonneg (by decide)
theorem HG {n k : Nat} (h1 : 2 ^ k ≤ n) (h2 : n < 2 ^ (k + 1)) : fC n = (k + 1 : Nat) := by
 have h0 : n ≠ 0 := by have := Nat.two_pow_pos k; omega
 have e : Nat.log2 n = k := by
  have a : k ≤ Nat.log2 n := (Nat.le_log2 h0).2 h1
  have b : Nat.log2 n < k + 1 := (Nat.log2_lt h0).2 h2
  omega
 unfold fC
 have : Nat.beq n 0 = false := by cases hb : Nat.beq n 0 with
  | false => rfl
  | true => exact absurd (Yx hb) h0
 rw [this, e]; rfl
theorem yO {n : Nat} (h0 : n ≠ 0) : ∃ k, fC n = (k + 1 : Nat) ∧ 2 ^ k ≤ n ∧ n < 2 ^ (k + 1) :=
 ⟨Nat.log2 n, HG ((Nat.le_log2 h0).1 (Nat.le_refl _)) ((Nat.log2_lt h0).1 (Nat.lt_succ_self _)), (Nat.le_log2 h0).1 (Nat.le_refl _), (Nat.log2_lt h0).1 (Nat.lt_succ_self _)⟩
theorem Ra {n b k : Nat} (h0 : b ≠ 0) (h1 : b * 2 ^ k ≤ n) (h2 : n < (b + 1) * 2 ^ k) : fC n = k + fC b := by
 obtain ⟨j, e, h3, h4⟩ := yO h0
 rw [e, HG (n := n) (k := k + j)]
 ·omega
 ·rw [Nat.pow_add, Nat.mul_comm]
  exact Nat.le_trans (Nat.mul_le_mul_right _ h3) h1
 ·have : b + 1 ≤ 2 ^ (j + 1) := h4
  refine Nat.lt_of_lt_of_le h2 (Nat.le_trans (Nat.mul_le_mul_right _ this) ?_)
  rw [← Nat.pow_add]
  exact Nat.le_of_eq (congrArg _ (by omega))
theorem Gv {n k : Nat} (h : n < 2 ^ k) : 0 ≤ fC n ∧ fC n ≤ k := by
 by_cases h0 : n = 0
 ·subst h0; simp [fC]
 ·obtain ⟨j, e, h3, h4⟩ := yO h0
  rw [e]
  have : j < k := by
   apply Nat.lt_of_not_le
   intro hk
   have := Nat.pow_le_pow_right (n := 2) (by decide) hk
   omega
  omega
theorem XO {a : Int} (h : 0 ≤ a ∧ a < 256) : IntKind.wrap .u8 a = a := by
 simp [IntKind.wrap, IntKind.signed, IntKind.bits]; omega
theorem nU (c : Int) {b : Int} (hb : 0 ≤ b ∧ b < 256) (hc : 0 ≤ c ∧ c ≤ 56) : ah (decide (0 ≤ (IntKind.wrap .u8 b)) && decide ((IntKind.wrap .u8 b) < ((ByteArray.size Jg : Nat) : Int))) (some (IntKind.wrap .i64 (c + (IntKind.wrap .i64 (ew Jg (Int.toNat (IntKind.wrap .u8 b))))))) = some (c + fC b.toNat) := by
 have h := T0 ⟨b.toNat, by omega⟩
 have hl := Gv (n := b.toNat) (k := 8) (by omega)
 simp only at h
 rw [XO hb, h, SC, bM (a := fC b.toNat) (by omega), bM (by omega), Yn (show 0 ≤ b by omega), Yn (show b < ((256 : Nat) : Int) by omega)]
 rfl
theorem SD {b : Int} (hb : 0 ≤ b ∧ b < 256) : ah (decide (0 ≤ (IntKind.wrap .u8 b)) && decide ((IntKind.wrap .u8 b) < ((ByteArray.size Jg : Nat) : Int))) (some (IntKind.wrap .i64 (0 + (IntKind.wrap .i64 (ew Jg (Int.toNat (IntKind.wrap .u8 b))))))) = some (fC b.toNat) := by
 rw [nU 0 hb (by decide), Int.zero_add]
theorem De {a : Int} : aE .u64 a 32 = a / 4294967296 ∧ aE .u64 a 16 = a / 65536 ∧ aE .u64 a 8 = a / 256 :=
 ⟨FX 32 (by decide), FX 16 (by decide), FX 8 (by decide)⟩
theorem q9 {a b : Int} (k : Nat) (hb : 0 < b) (h1 : b * ((2 ^ k : Nat) : Int) ≤ a) (h2 : a < (b + 1) * ((2 ^ k : Nat) : Int)) : fC a.toNat = (k : Int) + fC b.toNat := by
 have e1 : ((b.toNat : Nat) : Int) = b := by omega
 have hp : (0 : Int) < ((2 ^ k : Nat) : Int) := by have := Nat.two_pow_pos k; omega
 have ha : 0 ≤ a := Int.le_trans (Int.mul_nonneg (by omega) (by omega)) h1
 have e2 : ((a.toNat : Nat) : Int) = a := by omega
 refine Ra (n := a.toNat) (b := b.toNat) (k := k) (by omega) ?_ ?_
 ·have : ((b.toNat * 2 ^ k : Nat) : Int) ≤ ((a.toNat : Nat) : Int) := by rw [Int.natCast_mul, e1, e2]; exact h1
  omega
 ·have : ((a.toNat : Nat) : Int) < (((b.toNat + 1) * 2 ^ k : Nat) : Int) := by rw [Int.natCast_mul, e2]; push_cast; rw [e1]; push_cast at h2; exact h2
  omega
theorem VU {a : Int} (h : 0 ≤ a ∧ a < 18446744073709551616) : gX a = some (fC a.toNat) := by
 rw [TZ]
 unfold SB
 simp only [De.1, De.2.1, De.2.2]
 by_cases h1 : a ≥ 4294967296
 ·rw [Yn h1, cond_true]
  by_cases h2 : a / 4294967296 ≥ 65536
  ·rw [Yn h2, cond_true]
   by_cases h3 : a / 4294967296 / 65536 ≥ 256
   ·rw [Yn h3, cond_true, nU 56 (by omega) (by decide), q9 (a := a) (b := a / 4294967296 / 65536 / 256) 56 (by omega) (by omega) (by omega)]; rfl
   ·rw [Ym h3, cond_false, nU 48 (by omega) (by decide), q9 (a := a) (b := a / 4294967296 / 65536) 48 (by omega) (by omega) (by omega)]; rfl
  ·rw [Ym h2, cond_false]
   by_cases h3 : a / 4294967296 ≥ 256
   ·rw [Yn h3, cond_true, nU 40 (by omega) (by decide), q9 (a := a) (b := a / 4294967296 / 256) 40 (by omega) (by omega) (by omega)]; rfl
   ·rw [Ym h3, cond_false, nU 32 (by omega) (by decide), q9 (a := a) (b := a / 4294967296) 32 (by omega) (by omega) (by omega)]; rfl
 ·rw [Ym h1, cond_false]
  by_cases h2 : a ≥ 65536
  ·rw [Yn h2, cond_true]
   by_cases h3 : a / 65536 ≥ 256
   ·rw [Yn h3, cond_true, nU 24 (by omega) (by decide), q9 (a := a) (b := a / 65536 / 256) 24 (by omega) (by omega) (by omega)]; rfl
   ·rw [Ym h3, cond_false, nU 16 (by omega) (by decide), q9 (a := a) (b := a / 65536) 16 (by omega) (by omega) (by omega)]; rfl
  ·rw [Ym h2, cond_false]
   by_cases h3 : a ≥ 256
   ·rw [Yn h3, cond_true, nU 8 (by omega) (by decide), q9 (a := a) (b := a / 256) 8 (by omega) (by omega) (by omega)]; rfl
   ·rw [Ym h3, cond_false, SD (by omega)]
theorem m2 (i : Nat) : (18446744073709551616 : Int) ^ i = ((2 ^ (64 * i) : Nat) : Int) := by
 rw [Nat.pow_mul, Int.natCast_pow]; rfl
theorem Px {l : List Int} (h1 : rL l) (hl : l.length = 8) (p : Nat) :
  ∃ e, yp (LL l, p) 7 = some e ∧ Sum.elim id (fun _ => 0) e = fC (lv l).toNat := by
 refine gF (step := pm (LL l, p)) (fun v => ∃ i : Nat, v = (i : Int) - 1 ∧ i ≤ 8 ∧ lv (l.drop i) = 0) (fun v => (v + 1).toNat) _ ?_ (by decide)
  ⟨8, rfl, Nat.le_refl _, by rw [List.drop_eq_nil_of_le (by omega)]; rfl⟩
 rintro v ⟨i, rfl, hi, hd⟩
 cases i with
 | zero =>
  refine .inr ⟨.inr (), rfl, ?_⟩
  simp only [List.drop_zero] at hd
  rw [hd]; rfl
 | succ i =>
  have e : ((i + 1 : Nat) : Int) - 1 = (i : Int) := by omega
  rw [e]
  have hi8 : i < 8 := by omega
  have h3 : IntKind.wrap .i64 ((i : Int) - 1) = (i : Int) - 1 := bM (by omega)
  have hg := h1.get i
  have hb := Gv (n := (l.getD i 0).toNat) (k := 64) (by omega)
  have h4 : IntKind.wrap .i64 (64 * (i : Int)) = 64 * (i : Int) := bM (by omega)
  have h5 : IntKind.wrap .i64 (64 * (i : Int) + fC (l.getD i 0).toNat) = 64 * (i : Int) + fC (l.getD i 0).toNat := bM (by omega)
  simp only [pm, fF, eQ, Q8, Aw hi8, h3, cond_true, az, Yl, Int.toNat_natCast, Nat.mul_one, Nat.zero_add, Nat.add_zero, uh, kQ, hl, Yn hi8, VU hg, Ye, h4, h5]
  by_cases hne : l.getD i 0 = 0
  ·refine .inl ⟨(i : Int) - 1, ?_, ⟨i, rfl, by omega, ?_⟩, by omega⟩
   ·rw [hne]; rfl
   ·rw [qZ (by omega), hne, lv, hd]; rfl
  ·have hb' : (l.getD i 0 != 0) = true := by simpa using hne
   refine .inr ⟨.inl (64 * (i : Int) + fC (l.getD i 0).toNat), by rw [hb']; rfl, ?_⟩
   have hs := nT i l
   rw [qZ (by omega), lv, hd] at hs
   have ht := qH (h1.take i)
   rw [List.length_take, Nat.min_eq_left (by omega), m2] at ht
   rw [m2] at hs
   have e2 : lv l = lv (l.take i) + l.getD i 0 * ((2 ^ (64 * i) : Nat) : Int) := by rw [hs, Int.mul_comm (l.getD i 0)]; simp
   refine Eq.symm ((q9 (a := lv l) (b := l.getD i 0) (64 * i) (by omega) (by omega) (by rw [Int.add_mul]; omega)).trans ?_)
   simp [Sum.elim]
theorem O4 {x : Int} (hx : cr x) : jc (aa x 0) (aa x 1) (aa x 2) (aa x 3) (aa x 4) (aa x 5) (aa x 6) (aa x 7) = some (fC x.toNat) := by
 obtain ⟨e, h1, h2⟩ := Px (KH x) rfl 1
 rw [Gu hx.1 hx.2] at h2
 unfold jc
 simp only [Dc]
 rw [show [aa x 0, aa x 1, aa x 2, aa x 3, aa x 4, aa x 5, aa x 6, aa x 7] = l8 x from rfl, h1, Ye]
 rw [← h2]
 cases e <;> rfl
theorem uz {x : Int} (hx : fit x) : cr (x.natAbs : Int) := by unfold fit at hx; unfold cr; omega
theorem O5 {a : Int} (h : 0 ≤ a ∧ a < 18446744073709551616) : xV .u64 a 4294967295 = a % 4294967296 := by
 unfold xV
 rw [Dd]
 obtain ⟨n, rfl⟩ := Int.eq_ofNat_of_zero_le h.1
 have hn : n < 2 ^ 64 := by omega
 have e1 : (BitVec.ofInt (IntKind.bits .u64) 4294967295).toNat = 2 ^ 32 - 1 := by
  show (BitVec.ofInt 64 4294967295).toNat = _
  decide
 have e2 : (BitVec.ofInt (IntKind.bits .u64) (n : Int)).toNat = n := by
  show (BitVec.ofInt 64 (n : Int)).toNat = n
  rw [BitVec.ofInt_natCast, BitVec.toNat_ofNat, Nat.mod_eq_of_lt hn]
 rw [BitVec.toNat_and, e1, e2, Nat.and_two_pow_sub_one_eq_mod]
 omega
theorem VV {a b : Int} (ha : 0 ≤ a ∧ a < 18446744073709551616) (hb : 0 ≤ b ∧ b < 18446744073709551616) : gY a b = some (a * b / 18446744073709551616, a * b % 18446744073709551616) := by
 unfold gY
 have im : ∀ x : Int, xV .u64 (x % 18446744073709551616) 4294967295 = x % 18446744073709551616 % 4294967296 := fun x => O5 (by omega)
 simp only [De.1, O5 ha, O5 hb, Dd, im]
 have hA : a = a / 4294967296 * 4294967296 + a % 4294967296 := by omega
 have hB : b = b / 4294967296 * 4294967296 + b % 4294967296 := by omega
 have a1 : 0 ≤ a / 4294967296 ∧ a / 4294967296 ≤ 4294967295 := by omega
 have a0 : 0 ≤ a % 4294967296 ∧ a % 4294967296 ≤ 4294967295 := by omega
 have b1 : 0 ≤ b / 4294967296 ∧ b / 4294967296 ≤ 4294967295 := by omega
 have b0 : 0 ≤ b % 4294967296 ∧ b % 4294967296 ≤ 4294967295 := by omega
 generalize a / 4294967296 = x1 at *
 generalize a % 4294967296 = x0 at *
 generalize b / 4294967296 = y1 at *
 generalize b % 4294967296 = y0 at *
 have e : a * b = x1 * y1 * 18446744073709551616 + (x1 * y0 + x0 * y1) * 4294967296 + x0 * y0 := by
  rw [hA, hB]; grind
 rw [e]
 have p : ∀ u v : Int, 0 ≤ u ∧ u ≤ 4294967295 → 0 ≤ v ∧ v ≤ 4294967295 → 0 ≤ u * v ∧ u * v ≤ 18446744065119617025 := fun u v hu hv =>
  ⟨Int.mul_nonneg hu.1 hv.1, Int.le_trans (Int.mul_le_mul hu.2 hv.2 hv.1 (by decide)) (by decide)⟩
 have p11 := p x1 y1 a1 b1
 have p10 := p x1 y0 a1 b0
 have p01 := p x0 y1 a0 b1
 have p00 := p x0 y0 a0 b0
 generalize x1 * y1 = q11 at *
 generalize x1 * y0 = q10 at *
 generalize x0 * y1 = q01 at *
 generalize x0 * y0 = q00 at *
 congr 2
 omega
theorem LM {x y m : Int} (k : Nat) (hx : 0 ≤ x ∧ x < ((2 ^ k : Nat) : Int)) (hm : 0 ≤ m) (hy : y = ((2 ^ k : Nat) : Int) * m) (hs : x + y < 18446744073709551616) : ior .u64 x y = x + y := by
 have hy0 : 0 ≤ y := by rw [hy]; exact Int.mul_nonneg (by omega) hm
 obtain ⟨a, rfl⟩ := Int.eq_ofNat_of_zero_le hx.1
 obtain ⟨b, rfl⟩ := Int.eq_ofNat_of_zero_le hm
 have hyn : y = ((2 ^ k * b : Nat) : Int) := by rw [hy, Int.natCast_mul]
 unfold ior
 rw [Dd]
 have hc : 2 ^ k * b + a < 2 ^ 64 := by omega
 have e1 : (BitVec.ofInt (IntKind.bits .u64) (a : Int)).toNat = a := by
  show (BitVec.ofInt 64 (a : Int)).toNat = a
  rw [BitVec.ofInt_natCast, BitVec.toNat_ofNat, Nat.mod_eq_of_lt (by omega)]
 have e2 : (BitVec.ofInt (IntKind.bits .u64) y).toNat = 2 ^ k * b := by
  show (BitVec.ofInt 64 y).toNat = _
  rw [hyn, BitVec.ofInt_natCast, BitVec.toNat_ofNat, Nat.mod_eq_of_lt (by omega)]
 rw [BitVec.toNat_or, e1, e2, Nat.or_comm, ← Nat.two_pow_add_eq_or_of_lt (by omega)]
 omega
theorem FY {a : Int} (k : Nat) (hk : k ≤ 64) : iY .u64 a (k : Int) = a * ((2 ^ k : Nat) : Int) % 18446744073709551616 := by
 unfold iY
 rw [Dd]
 have e : min (Int.toNat (k : Int)) (IntKind.bits .u64) = k := by simp [IntKind.bits]; omega
 rw [e, Int.natCast_pow]; rfl
theorem Xj {z : Int} (hz : cr z) : me (aa z 0) (aa z 1) (aa z 2) (aa z 3) (aa z 4) (aa z 5) (aa z 6) (aa z 7) = some (t8 (z / 2)) := by
 have dvh : ∀ n, dv n (z / 2) = dv n z / 2 := by
  intro n
  induction n with
  | zero => rfl
  | succ n ih => show dv n (z / 2) / _ = dv n z / _ / 2; rw [ih]; omega
 have hl : ∀ n, aa (z / 2) n = aa z n / 2 + aa z (n + 1) % 2 * 9223372036854775808 := by
  intro n
  unfold aa
  rw [dvh]
  show _ = _ + dv n z / 18446744073709551616 % _ % _ * _
  omega
 have h8 : dv 8 z = 0 := by
  have : dv 8 z = z / 18446744073709551616 / 18446744073709551616 / 18446744073709551616 / 18446744073709551616 / 18446744073709551616 / 18446744073709551616 / 18446744073709551616 / 18446744073709551616 := rfl
  unfold cr at hz; omega
 have h7 : aa (z / 2) 7 = aa z 7 / 2 := by
  rw [hl 7]
  show _ + dv 8 z % _ % _ * _ = _
  rw [h8]; omega
 have e1 : ∀ a : Int, aE .u64 a 1 = a / 2 := fun a => FX 1 (by decide)
 have e2 : ∀ a : Int, iY .u64 a 63 = a * 9223372036854775808 % 18446744073709551616 := fun a => FY 63 (by decide)
 have e3 : ∀ n, ior .u64 (aE .u64 (aa z n) 1) (iY .u64 (aa z (n + 1)) 63) = aa (z / 2) n := by
  intro n
  have r1 := cE z n
  have r2 := cE z (n + 1)
  rw [hl n, e1, e2]
  have e4 : aa z (n + 1) * 9223372036854775808 % 18446744073709551616 = aa z (n + 1) % 2 * 9223372036854775808 := by omega
  rw [e4, LM 63 (m := aa z (n + 1) % 2) ⟨by omega, by omega⟩ (by omega) (by rw [Int.mul_comm]; rfl) (by omega)]
 unfold me t8
 rw [h7, e3 0, e3 1, e3 2, e3 3, e3 4, e3 5, e3 6, e1]
theorem SE : ∀ (j k : Nat) (z : Int), dv (k + j) z = dv j (dv k z)
 | 0, k, z => rfl
 | j + 1, k, z => by show dv (k + j) z / _ = dv j (dv k z) / _; rw [SE j k z]
theorem LN : ∀ (k : Nat) (y : Int), dv k (y * 18446744073709551616 ^ k) = y
 | 0, y => by show y * 1 = y; omega
 | k + 1, y => by
  show dv k (y * 18446744073709551616 ^ (k + 1)) / _ = y
  have e : y * (18446744073709551616 : Int) ^ (k + 1) = (y * 18446744073709551616) * 18446744073709551616 ^ k := by rw [Int.pow_succ, Int.mul_assoc, Int.mul_comm (18446744073709551616 ^ k)]
  rw [e, LN k]; omega
theorem T1 (j k : Nat) (z : Int) : aa z (k + j) = aa (dv k z) j := by unfold aa; rw [SE]
theorem T2 {i k : Nat} (h : i < k) (y : Int) : aa (y * 18446744073709551616 ^ k) i = 0 := by
 obtain ⟨r, rfl⟩ : ∃ r, k = i + (r + 1) := ⟨k - i - 1, by omega⟩
 have e : y * (18446744073709551616 : Int) ^ (i + (r + 1)) = (y * 18446744073709551616 ^ r * 18446744073709551616) * 18446744073709551616 ^ i := by
  rw [Int.pow_add, Int.pow_succ]
  grind
 unfold aa
 rw [e, LN]; omega
theorem vl {s : Nat} (h : s < 64) : ((2 ^ s : Nat) : Int) * ((2 ^ (64 - s) : Nat) : Int) = 18446744073709551616 := by
 rw [← Int.natCast_mul, ← Nat.pow_add]
 have e : s + (64 - s) = 64 := by omega
 rw [e]; rfl
theorem lO (s : Nat) : (0 : Int) < ((2 ^ s : Nat) : Int) := by have := Nat.two_pow_pos s; omega
theorem FZ {p q D l c : Int} (hp : 0 < p) (hq : 0 < q) (h : p * q = 18446744073709551616) (hl : 0 ≤ l ∧ l < 18446744073709551616) (hc : 0 ≤ c ∧ c < p) :
  ((l + 18446744073709551616 * D) * p + c) / 18446744073709551616 = D * p + l / q ∧ (l / q < p ∧ 0 ≤ l / q) ∧ ((l + 18446744073709551616 * D) * p + c) % 18446744073709551616 = l * p % 18446744073709551616 + c ∧
  (∃ m, 0 ≤ m ∧ l * p % 18446744073709551616 = p * m) ∧ l * p % 18446744073709551616 + c < 18446744073709551616 := by
 have hlq := Int.mul_ediv_add_emod l q
 have hr0 := Int.emod_nonneg l (show q ≠ 0 by omega)
 have hr1 := Int.emod_lt_of_pos l hq
 have hq0 : 0 ≤ l / q := Int.ediv_nonneg hl.1 (by omega)
 generalize l / q = u at *
 generalize l % q = v at *
 have hu : u < p := by
  apply Int.lt_of_mul_lt_mul_left (a := q) _ (by omega)
  rw [Int.mul_comm q p, h]; omega
 have hv : v * p + p ≤ 18446744073709551616 := by
  have : (v + 1) * p ≤ q * p := Yz (by omega) (by omega)
  rw [Int.add_mul, Int.mul_comm q p, h] at this; omega
 have hv0 : 0 ≤ v * p := Int.mul_nonneg hr0 (by omega)
 have e1 : l * p = 18446744073709551616 * u + v * p := by
  rw [← hlq, ← h]; grind
 have e2 : (l + 18446744073709551616 * D) * p = 18446744073709551616 * (D * p) + l * p := by grind
 have e3 : l * p % 18446744073709551616 = v * p := by omega
 refine ⟨?_, ⟨hu, hq0⟩, ?_, ⟨v, hr0, by rw [e3, Int.mul_comm]⟩, by omega⟩
 ·rw [e2, e1]; omega
 ·rw [e2, e3, e1]; omega
def cry (x q : Int) : Nat → Int
 | 0 => 0
 | j + 1 => aa x j / q
theorem O6 {p q : Int} (hp : 0 < p) (hq : 0 < q) (h : p * q = 18446744073709551616) (x : Int) : ∀ j, dv j (x * p) = dv j x * p + cry x q j ∧ (0 ≤ cry x q j ∧ cry x q j < p) ∧ aa (x * p) j = aa x j * p % 18446744073709551616 + cry x q j := by
 have key : ∀ j, dv j (x * p) = dv j x * p + cry x q j ∧ (0 ≤ cry x q j ∧ cry x q j < p) := by
  intro j
  induction j with
  | zero => exact ⟨by show x * p = x * p + 0; omega, ⟨Int.le_refl _, hp⟩⟩
  | succ j ih =>
   have hm := FZ (D := dv (j + 1) x) hp hq h (cE x j) ih.2
   rw [← uy j x, ← ih.1] at hm
   exact ⟨hm.1, hm.2.1.2, hm.2.1.1⟩
 intro j
 have k := key j
 refine ⟨k.1, k.2, ?_⟩
 have hm := FZ (D := dv (j + 1) x) hp hq h (cE x j) k.2
 rw [← uy j x, ← k.1] at hm
 exact hm.2.2.1
theorem Jh {n i : Nat} (x : Int) (hi : n / 64 ≤ i) : aa (x * ((2 ^ n : Nat) : Int)) i = aa x (i - n / 64) * ((2 ^ (n % 64) : Nat) : Int) % 18446744073709551616 + cry x ((2 ^ (64 - n % 64) : Nat) : Int) (i - n / 64) := by
 have hn : 2 ^ n = 2 ^ (n % 64) * 2 ^ (64 * (n / 64)) := by rw [← Nat.pow_add, Nat.add_comm, Nat.div_add_mod]
 have e : x * ((2 ^ n : Nat) : Int) = (x * ((2 ^ (n % 64) : Nat) : Int)) * 18446744073709551616 ^ (n / 64) := by
  rw [hn, m2, Int.natCast_mul, Int.mul_assoc]
 obtain ⟨j, rfl⟩ : ∃ j, i = n / 64 + j := ⟨i - n / 64, by omega⟩
 rw [e, T1, LN, Nat.add_sub_cancel_left]
 have h64 : n % 64 < 64 := Nat.mod_lt _ (by decide)
 exact (O6 (lO _) (lO _) (vl h64) x j).2.2
theorem SF {n i : Nat} (x : Int) (hi : i < n / 64) : aa (x * ((2 ^ n : Nat) : Int)) i = 0 := by
 have hn : 2 ^ n = 2 ^ (n % 64) * 2 ^ (64 * (n / 64)) := by rw [← Nat.pow_add, Nat.add_comm, Nat.div_add_mod]
 have e : x * ((2 ^ n : Nat) : Int) = (x * ((2 ^ (n % 64) : Nat) : Int)) * 18446744073709551616 ^ (n / 64) := by
  rw [hn, m2, Int.natCast_mul, Int.mul_assoc]
 rw [e, T2 hi]
theorem O7 {n i : Nat} (x : Int) (hi : n / 64 ≤ i) : ior .u64 (iY .u64 (aa x (i - n / 64)) ((n % 64 : Nat) : Int)) (cry x ((2 ^ (64 - n % 64) : Nat) : Int) (i - n / 64)) = aa (x * ((2 ^ n : Nat) : Int)) i := by
 have h64 : n % 64 < 64 := Nat.mod_lt _ (by decide)
 have hs := O6 (lO (n % 64)) (lO (64 - n % 64)) (vl h64) x (i - n / 64)
 have hm := FZ (D := 0) (lO (n % 64)) (lO (64 - n % 64)) (vl h64) (cE x (i - n / 64)) hs.2.1
 obtain ⟨m, hm0, hm1⟩ := hm.2.2.2.1
 rw [FY _ (by omega), Jh x hi]
 have hlt := hm.2.2.2.2
 have hc : ∀ a b : Int, ior .u64 a b = ior .u64 b a := fun a b => by unfold ior; rw [BitVec.or_comm]
 rw [hc, LM (n % 64) hs.2.1 hm0 hm1 (by omega)]
 omega
theorem jP {z : Int} {i : Nat} : (l8 z).getD i 0 = if i < 8 then aa z i else 0 := by
 match i with
 | 0 | 1 | 2 | 3 | 4 | 5 | 6 | 7 => rfl
 | i + 8 => rw [if_neg (by omega)]; rfl
theorem X9 {l m : List Int} (hl : l.length = 8) (hm : m.length = 8) (h : ∀ i, i < 8 → l.getD i 0 = m.getD i 0) : l = m := by
 rw [Xi hl, Xi hm, h 0 (by decide), h 1 (by decide), h 2 (by decide), h 3 (by decide), h 4 (by decide), h 5 (by decide), h 6 (by decide), h 7 (by decide)]
theorem O8 {l : List Int} {i j : Nat} {v : Int} (h : i < l.length) : (l.set i v).getD j 0 = if j = i then v else l.getD j 0 := by
 rw [Yq, List.getElem?_set, Yq]
 by_cases hij : i = j
 ·subst hij; simp [h]
 ·rw [if_neg hij, if_neg (fun e => hij e.symm)]
def z8 : List Int := [0, 0, 0, 0, 0, 0, 0, 0]
theorem SG (j : Nat) : z8.getD j 0 = 0 := by
 match j with
 | 0 | 1 | 2 | 3 | 4 | 5 | 6 | 7 => rfl
 | j + 8 => simp [z8]
theorem xm (x : Int) : [aa x 0, aa x 1, aa x 2, aa x 3, aa x 4, aa x 5, aa x 6, aa x 7] = l8 x := rfl
theorem Qc : ([0, 0, 0, 0, 0, 0, 0, 0] : List Int) = z8 := rfl
theorem SH : z8.length = 8 := rfl
theorem O9 {l m : List Int} (h : l.length = m.length) : spliced (LL l) 0 (LL m) = LL m := by
 unfold spliced LL
 simp [h, List.drop_eq_nil_of_le]
theorem SI {x : Int} {n : Nat} (hn : n < 512) (p q r : Nat) (zl : LA_) :
  ∃ e, A9 ((n : Int), LL (l8 x), p, zl, q, r) (LL z8, ((n / 64 : Nat) : Int)) = some e ∧ e = LL (l8 (x * ((2 ^ n : Nat) : Int))) := by
 have hz0 : ∀ j, z8.getD j 0 = if j < n / 64 then aa (x * ((2 ^ n : Nat) : Int)) j else 0 := by
  intro j
  rw [SG]
  split
  ·rename_i h; rw [SF x h]
  ·rfl
 refine gF (step := sn ((n : Int), LL (l8 x), p, zl, q, r))
  (fun v => ∃ (i : Nat) (l : List Int), v = (LL l, (i : Int)) ∧ l.length = 8 ∧ n / 64 ≤ i ∧ i ≤ 8 ∧ ∀ j, l.getD j 0 = if j < i then aa (x * ((2 ^ n : Nat) : Int)) j else 0) (fun v => (8 - v.2).toNat) _ ?_
  (Nat.lt_of_le_of_lt (show (8 - ((n / 64 : Nat) : Int)).toNat ≤ 8 by omega) (by decide))
  ⟨n / 64, z8, rfl, rfl, Nat.le_refl _, by omega, hz0⟩
 rintro v ⟨i, l, rfl, hl, hk, hi, hg⟩
 have t1 : Int.tdiv (n : Int) 64 = ((n / 64 : Nat) : Int) := by rw [Int.tdiv_eq_ediv_of_nonneg (by omega)]; omega
 have t2 : Int.tmod (n : Int) 64 = ((n % 64 : Nat) : Int) := by rw [Int.tmod_eq_emod_of_nonneg (by omega)]; omega
 have w1 : IntKind.wrap .i64 ((n / 64 : Nat) : Int) = ((n / 64 : Nat) : Int) := bM (by omega)
 by_cases h8 : i = 8
 ·subst h8
  refine .inr ⟨LL l, rfl, ?_⟩
  rw [X9 hl (s6 _) (fun j hj => by rw [hg j, jP])]
 ·have hi8 : i < 8 := by omega
  have w2 : IntKind.wrap .i64 ((i : Int) - ((n / 64 : Nat) : Int)) = ((i - n / 64 : Nat) : Int) := by rw [bM (by omega)]; omega
  have w3 : IntKind.wrap .i64 (64 - ((n % 64 : Nat) : Int)) = ((64 - n % 64 : Nat) : Int) := by rw [bM (by omega)]; omega
  have w4 : IntKind.wrap .i64 ((i : Int) + 1) = ((i + 1 : Nat) : Int) := by rw [bM (by omega)]; omega
  have d1 : decide ((i : Int) < 8) = true := Yn (by omega)
  have d2 : decide (((n % 64 : Nat) : Int) < 0) = false := Ym (by omega)
  have d3 : decide (((64 - n % 64 : Nat) : Int) < 0) = false := Ym (by omega)
  have d4 : decide (i + 1 ≤ 8) = true := Yn (by omega)
  have hx8 := s6 x
  have gx : ∀ j, j < 8 → (l8 x).getD j 0 = aa x j := fun j hj => by rw [jP, if_pos hj]
  have hset : ∀ v, v = aa (x * ((2 ^ n : Nat) : Int)) i → ∃ v', some (Sum.inl (LL (l.set i v), ((i + 1 : Nat) : Int)) : (LA_ × Int) ⊕ LA_) = some (Sum.inl v') ∧
    (∃ (i : Nat) (l : List Int), v' = (LL l, (i : Int)) ∧ l.length = 8 ∧ n / 64 ≤ i ∧ i ≤ 8 ∧ ∀ j, l.getD j 0 = if j < i then aa (x * ((2 ^ n : Nat) : Int)) j else 0) ∧ (8 - v'.2).toNat < (8 - (i : Int)).toNat := by
   intro v hv
   refine ⟨_, rfl, ⟨i + 1, l.set i v, rfl, by simpa using hl, by omega, by omega, fun j => ?_⟩, by show (8 - ((i + 1 : Nat) : Int)).toNat < _; omega⟩
   rw [O8 (by omega), hg j, hv]
   by_cases e1 : j = i
   ·subst e1; simp
   ·rw [if_neg e1]
    by_cases e2 : j < i
    ·rw [if_pos e2, if_pos (by omega)]
    ·rw [if_neg e2, if_neg (by omega)]
  left
  simp only [sn, gL, t1, t2, w1, w2, w3, w4, d1, d2, d3, d4, eQ, Aw hi8, Aw (show i - n / 64 < 8 by omega), cond_true, az, Yl, Bool.not_false, Int.toNat_natCast, Nat.mul_one, Nat.zero_add, Nat.add_zero, uh, kQ, hl, hx8,
   Yn (show i - n / 64 < 8 by omega), Yn hi8, yN, gx _ (show i - n / 64 < 8 by omega)]
  by_cases hs : n % 64 = 0
  ·have d5 : decide (((n % 64 : Nat) : Int) > 0) = false := Ym (by omega)
   rw [d5]
   simp only [cond_false]
   rw [xl (by omega)]
   refine hset _ ?_
   rw [FY _ (by omega), Jh x hk]
   have c0 : cry x ((2 ^ (64 - n % 64) : Nat) : Int) (i - n / 64) = 0 := by
    cases i - n / 64 with
    | zero => rfl
    | succ j =>
     have := cE x j
     show aa x j / _ = 0
     rw [hs]
     have e : ((2 ^ (64 - 0) : Nat) : Int) = 18446744073709551616 := by decide
     rw [e]; omega
   rw [c0]; omega
  ·have d5 : decide (((n % 64 : Nat) : Int) > 0) = true := Yn (by omega)
   rw [d5]
   simp only [cond_true]
   by_cases hik : (i : Int) > ((n / 64 : Nat) : Int)
   ·rw [Yn hik]
    have w5 : IntKind.wrap .i64 (((i - n / 64 : Nat) : Int) - 1) = ((i - n / 64 - 1 : Nat) : Int) := by rw [bM (by omega)]; omega
    simp only [cond_true, w5, eQ, Aw (show i - n / 64 - 1 < 8 by omega), Yl, az, Int.toNat_natCast, Yn (show i - n / 64 - 1 < 8 by omega), gx _ (show i - n / 64 - 1 < 8 by omega)]
    rw [xl (by omega)]
    simp only [uh, kQ, yN, List.length_set, hl, Yn hi8, d4, az]
    rw [O8 (by omega), if_pos rfl, xl (by simpa using (by omega : i < l.length)), List.set_set]
    refine hset _ ?_
    rw [← O7 x hk]
    have e : i - n / 64 = (i - n / 64 - 1) + 1 := by omega
    rw [e, Nat.add_sub_cancel]
    congr 1
    show _ = aa x (i - n / 64 - 1) / _
    rw [FX _ (by omega)]
   ·rw [Ym hik]
    simp only [cond_false]
    rw [xl (by omega)]
    refine hset _ ?_
    have e : i - n / 64 = 0 := by omega
    rw [Jh x hk, e, FY _ (by omega)]
    show _ = _ + 0
    omega
theorem Xk {x : Int} {n : Nat} (hn : n < 512) : pD (aa x 0) (aa x 1) (aa x 2) (aa x 3) (aa x 4) (aa x 5) (aa x 6) (aa x 7) (n : Int) = some (t8 (x * ((2 ^ n : Nat) : Int))) := by
 obtain ⟨e, h1, h2⟩ := SI (x := x) hn 1 1 1 (LL z8)
 subst h2
 have t1 : Int.tdiv (n : Int) 64 = ((n / 64 : Nat) : Int) := by rw [Int.tdiv_eq_ediv_of_nonneg (by omega)]; omega
 have w1 : IntKind.wrap .i64 ((n / 64 : Nat) : Int) = ((n / 64 : Nat) : Int) := bM (by omega)
 have g8 : ∀ j, j < 8 → (l8 (x * ((2 ^ n : Nat) : Int))).getD j 0 = aa (x * ((2 ^ n : Nat) : Int)) j := fun j hj => by rw [jP, if_pos hj]
 unfold pD
 simp only [Dc, t1, w1, xm, Qc, h1, Ye, Bz (s6 _), az, yN, SH, kQ, g8 _ (show 0 < 8 by omega), g8 _ (show 1 < 8 by omega), g8 _ (show 2 < 8 by omega), g8 _ (show 3 < 8 by omega), g8 _ (show 4 < 8 by omega), g8 _ (show 5 < 8 by omega), g8 _ (show 6 < 8 by omega), g8 _ (show 7 < 8 by omega), O9 (show z8.length = (l8 (x * ((2 ^ n : Nat) : Int))).length from rfl)]
 rfl
theorem vm {l : List Int} (h : rL l) : 0 ≤ lv l := (qH h).1
theorem T3 {l : List Int} (h : rL l) {i s : Nat} (hi : i < l.length) (hs : s < 64) {t : Int} (e : lv l = ((2 ^ (64 * i + s + 1) : Nat) : Int) * t) : ∃ u, 0 ≤ u ∧ l.getD i 0 = ((2 ^ (s + 1) : Nat) : Int) * u := by
 have hsp := nT i l
 rw [qZ hi, lv] at hsp
 have ht := qH (h.take i)
 rw [List.length_take, Nat.min_eq_left (by omega)] at ht
 have hg := h.get i
 have e1 : ((2 ^ (64 * i + s + 1) : Nat) : Int) = 18446744073709551616 ^ i * ((2 ^ (s + 1) : Nat) : Int) := by rw [m2, ← Int.natCast_mul, ← Nat.pow_add]; rfl
 have hp := Jf i
 have e2 : (18446744073709551616 : Int) = ((2 ^ (s + 1) : Nat) : Int) * ((2 ^ (63 - s) : Nat) : Int) := by
  rw [← Int.natCast_mul, ← Nat.pow_add, show s + 1 + (63 - s) = 64 by omega]; rfl
 rw [e1] at e
 generalize (18446744073709551616 : Int) ^ i = p at *
 generalize hP : ((2 ^ (s + 1) : Nat) : Int) = P at *
 generalize ((2 ^ (63 - s) : Nat) : Int) = Q at *
 generalize lv (l.take i) = x at *
 generalize lv (l.drop (i + 1)) = y at *
 generalize l.getD i 0 = g at *
 have hP0 : 0 < P := by rw [← hP]; exact lO _
 have e3 : x = p * (P * t - (g + 18446744073709551616 * y)) := by rw [Int.mul_sub, ← Int.mul_assoc]; omega
 have e4 : P * t - (g + 18446744073709551616 * y) = 0 := by
  rcases Int.lt_trichotomy (P * t - (g + 18446744073709551616 * y)) 0 with h1 | h1 | h1
  ·have : p * (P * t - (g + 18446744073709551616 * y)) ≤ p * (-1) := YA (by omega) (by omega)
   omega
  ·exact h1
  ·have : p * 1 ≤ p * (P * t - (g + 18446744073709551616 * y)) := YA (by omega) (by omega)
   omega
 refine ⟨t - Q * y, ?_, ?_⟩
 ·have e5 : g = P * (t - Q * y) := by rw [Int.mul_sub, ← Int.mul_assoc, ← e2]; omega
  rcases Int.lt_or_le (t - Q * y) 0 with h1 | h1
  ·have : P * (t - Q * y) ≤ P * (-1) := YA (by omega) (by omega)
   omega
  ·exact h1
 ·rw [Int.mul_sub, ← Int.mul_assoc, ← e2]; omega
theorem VW {l : List Int} (h : rL l) (hl : l.length = 8) {k : Nat} (hk : k < 512) {t : Int} (e : lv l = ((2 ^ (k + 1) : Nat) : Int) * t) :
  rL (l.set (k / 64) (ior .u64 (l.getD (k / 64) 0) (iY .u64 1 ((k % 64 : Nat) : Int)))) ∧ lv (l.set (k / 64) (ior .u64 (l.getD (k / 64) 0) (iY .u64 1 ((k % 64 : Nat) : Int)))) = lv l + ((2 ^ k : Nat) : Int) := by
 have h64 : k % 64 < 64 := Nat.mod_lt _ (by decide)
 have hi : k / 64 < l.length := by omega
 have ek : 64 * (k / 64) + k % 64 + 1 = k + 1 := by rw [Nat.div_add_mod]
 obtain ⟨u, hu0, hu⟩ := T3 h hi h64 (t := t) (by rw [ek]; exact e)
 have hg := h.get (k / 64)
 have hps := lO (k % 64)
 have hP : ((2 ^ (k % 64 + 1) : Nat) : Int) = 2 * ((2 ^ (k % 64) : Nat) : Int) := by rw [Nat.pow_succ]; push_cast; omega
 have hlt : ((2 ^ (k % 64) : Nat) : Int) < 18446744073709551616 := by
  have := vl h64
  have hq := lO (64 - k % 64)
  have hq2 : (2 : Int) ≤ ((2 ^ (64 - k % 64) : Nat) : Int) := by
   have : 2 ^ 1 ≤ 2 ^ (64 - k % 64) := Nat.pow_le_pow_right (by decide) (by omega)
   omega
  have : ((2 ^ (k % 64) : Nat) : Int) * 2 ≤ ((2 ^ (k % 64) : Nat) : Int) * ((2 ^ (64 - k % 64) : Nat) : Int) := YA hq2 (by omega)
  omega
 have hsum : ((2 ^ (k % 64) : Nat) : Int) + l.getD (k / 64) 0 < 18446744073709551616 := by
  have hm := vl (s := k % 64 + 1 - 1) (by omega)
  have e2 : (18446744073709551616 : Int) = ((2 ^ (k % 64 + 1) : Nat) : Int) * ((2 ^ (63 - k % 64) : Nat) : Int) := by
   rw [← Int.natCast_mul, ← Nat.pow_add, show k % 64 + 1 + (63 - k % 64) = 64 by omega]; rfl
  have hu1 : u < ((2 ^ (63 - k % 64) : Nat) : Int) := by
   apply Int.lt_of_mul_lt_mul_left (a := ((2 ^ (k % 64 + 1) : Nat) : Int)) _ (by omega)
   rw [← hu, ← e2]; exact hg.2
  have : ((2 ^ (k % 64 + 1) : Nat) : Int) * (u + 1) ≤ ((2 ^ (k % 64 + 1) : Nat) : Int) * ((2 ^ (63 - k % 64) : Nat) : Int) := YA (by omega) (by omega)
  rw [Int.mul_add, ← hu, ← e2] at this
  omega
 have hc : ∀ a b : Int, ior .u64 a b = ior .u64 b a := fun a b => by unfold ior; rw [BitVec.or_comm]
 have hv : ior .u64 (l.getD (k / 64) 0) (iY .u64 1 ((k % 64 : Nat) : Int)) = ((2 ^ (k % 64) : Nat) : Int) + l.getD (k / 64) 0 := by
  rw [FY _ (by omega), Int.one_mul, Int.emod_eq_of_lt (by omega) hlt, hc, LM (k % 64 + 1) ⟨by omega, by omega⟩ hu0 hu hsum]
 rw [hv]
 refine ⟨h.set ⟨by omega, hsum⟩ _, ?_⟩
 rw [O0 _ hi]
 have e3 : ((2 ^ k : Nat) : Int) = ((2 ^ (k % 64) : Nat) : Int) * 18446744073709551616 ^ (k / 64) := by
  rw [m2, ← Int.natCast_mul, ← Nat.pow_add, Nat.add_comm, Nat.div_add_mod]
 rw [e3]
 congr 1
 congr 1
 omega
def T4 (a b : Int) (v : LA_ × LA_ × Int × LA_ × Nat) : Prop :=
 ∃ (m : Nat) (q : List Int) (r s t : Int), v = (LL q, LL (l8 r), (m : Int) - 1, LL (l8 s), 1) ∧ q.length = 8 ∧ rL q ∧ m ≤ 512 ∧ a = lv q * b + r ∧ 0 ≤ r ∧ r < b * ((2 ^ m : Nat) : Int) ∧ (m ≠ 0 → s = b * ((2 ^ (m - 1) : Nat) : Int)) ∧ cr s ∧
  lv q = ((2 ^ m : Nat) : Int) * t ∧ r ≤ a
theorem Rb {a b : Int} (ha : cr a) (hb : 0 < b) {v : LA_ × LA_ × Int × LA_ × Nat} (hv : T4 a b v) :
  ∃ e, zv (1, 1) v = some e ∧ e = (LL (l8 (a / b)), LL (l8 (a % b))) := by
 obtain ⟨m0, _, _, _, _, hv0, _, _, hm0, _⟩ := id hv
 refine gF (step := qw (1, 1)) (T4 a b) (fun v => (v.2.2.1 + 1).toNat) _ ?_
  (Nat.lt_of_le_of_lt (show (v.2.2.1 + 1).toNat ≤ 512 by subst hv0; show (((m0 : Int) - 1) + 1).toNat ≤ 512; omega) (by decide)) hv
 rintro v ⟨m, q, r, s, t, rfl, hq, hrq, hm, hab, hr0, hr1, hs, hsu, ht, hra⟩
 cases m with
 | zero =>
  refine .inr ⟨(LL q, LL (l8 r)), rfl, ?_⟩
  have h1 : r < b := by simpa using hr1
  have e1 : a / b = lv q := by
   rw [hab, Int.add_comm, Int.add_mul_ediv_right _ _ (by omega), Int.ediv_eq_zero_of_lt hr0 h1]; omega
  have e2 : a % b = r := by
   have := Int.mul_ediv_add_emod a b
   rw [e1, Int.mul_comm] at this; omega
  rw [e1, e2, ← UH hrq hq]
 | succ k =>
  left
  have e : ((k + 1 : Nat) : Int) - 1 = (k : Int) := by omega
  have es := hs (by omega)
  rw [Nat.add_sub_cancel] at es
  have hk : k < 512 := by omega
  have t1 : Int.tdiv (k : Int) 64 = ((k / 64 : Nat) : Int) := by rw [Int.tdiv_eq_ediv_of_nonneg (by omega)]; omega
  have t2 : Int.tmod (k : Int) 64 = ((k % 64 : Nat) : Int) := by rw [Int.tmod_eq_emod_of_nonneg (by omega)]; omega
  have w1 : IntKind.wrap .i64 ((k / 64 : Nat) : Int) = ((k / 64 : Nat) : Int) := bM (by omega)
  have w2 : IntKind.wrap .i64 ((k : Int) - 1) = (k : Int) - 1 := bM (by omega)
  have d2 : decide (((k % 64 : Nat) : Int) < 0) = false := Ym (by omega)
  have hk8 : k / 64 < 8 := by omega
  have d4 : decide (k / 64 + 1 ≤ 8) = true := Yn (by omega)
  have hru : cr r := ⟨hr0, Int.lt_of_le_of_lt hra ha.2⟩
  have gr : ∀ j, j < 8 → (l8 r).getD j 0 = aa r j := fun j hj => by rw [jP, if_pos hj]
  have gs : ∀ j, j < 8 → (l8 s).getD j 0 = aa s j := fun j hj => by rw [jP, if_pos hj]
  have hp := BA r (-s - 1) 1 ⟨by decide, by decide⟩
  rw [show r + (-s - 1) + 1 = r - s by omega] at hp
  have gh : ∀ j, j < 8 → (l8 (s / 2)).getD j 0 = aa (s / 2) j := fun j hj => by rw [jP, if_pos hj]
  have hp1 : ((2 ^ (k + 1) : Nat) : Int) = 2 * ((2 ^ k : Nat) : Int) := by rw [Nat.pow_succ]; push_cast; omega
  have hs2 : k ≠ 0 → s / 2 = b * ((2 ^ (k - 1) : Nat) : Int) := by
   intro hk0
   have : ((2 ^ k : Nat) : Int) = 2 * ((2 ^ (k - 1) : Nat) : Int) := by
    conv => lhs; rw [show k = k - 1 + 1 by omega, Nat.pow_succ]
    push_cast; omega
   rw [es, this, Int.mul_left_comm]; omega
  have hsu2 : cr (s / 2) := by unfold cr at *; omega
  rw [e]
  simp only [qw, fZ, Q8, cond_true, Bz (s6 _), az, kQ, gr _ (show 0 < 8 by omega), gr _ (show 1 < 8 by omega), gr _ (show 2 < 8 by omega), gr _ (show 3 < 8 by omega), gr _ (show 4 < 8 by omega), gr _ (show 5 < 8 by omega), gr _ (show 6 < 8 by omega), gr _ (show 7 < 8 by omega),
   gs _ (show 0 < 8 by omega), gs _ (show 1 < 8 by omega), gs _ (show 2 < 8 by omega), gs _ (show 3 < 8 by omega), gs _ (show 4 < 8 by omega), gs _ (show 5 < 8 by omega), gs _ (show 6 < 8 by omega), gs _ (show 7 < 8 by omega), LK hru hsu, Ye, KF, hp, t8, Xj hsu, t1, t2, w1, w2, d2, d4, Bool.not_false, eQ, Aw hk8, Yl, Int.toNat_natCast, Nat.mul_one, Nat.zero_add, Nat.add_zero,
   uh, yN, s6, hq, Yn hk8, Dc, xm, O9 (show (l8 s).length = (l8 (s / 2)).length from rfl), O9 (show (l8 r).length = (l8 (r - s)).length from rfl), gh _ (show 0 < 8 by omega), gh _ (show 1 < 8 by omega), gh _ (show 2 < 8 by omega), gh _ (show 3 < 8 by omega), gh _ (show 4 < 8 by omega), gh _ (show 5 < 8 by omega), gh _ (show 6 < 8 by omega), gh _ (show 7 < 8 by omega), Nat.le_refl, decide_true]
  by_cases hge : s ≤ r
  ·have hd : decide (sgn (r - s) ≥ 0) = true := by
    have a1 : ¬ r - s < 0 := by omega
    unfold sgn
    rw [Ym a1, cond_false]
    cases decide (r - s = 0) <;> rfl
   obtain ⟨hb1, hb2⟩ := VW hrq hq hk ht
   rw [hd]
   simp only [cond_true]
   rw [xl (by omega)]
   refine ⟨_, rfl, ⟨k, _, r - s, s / 2, 2 * t + 1, rfl, by simpa using hq, hb1, by omega, ?_, by omega, ?_, hs2, hsu2, ?_, by unfold cr at hsu; omega⟩, ?_⟩
   ·rw [hb2, Int.add_mul, es]
    rw [Int.mul_comm b] at *; omega
   ·rw [hp1, Int.mul_left_comm] at hr1; omega
   ·rw [hb2, ht, hp1, Int.mul_add, Int.mul_one, Int.mul_comm 2, Int.mul_assoc]
   ·show (((k : Int) - 1) + 1).toNat < ((k : Int) + 1).toNat; omega
  ·have hd : decide (sgn (r - s) ≥ 0) = false := by
    have a1 : r - s < 0 := by omega
    unfold sgn
    rw [Yn a1]; rfl
   rw [hd]
   simp only [cond_false]
   refine ⟨_, rfl, ⟨k, q, r, s / 2, 2 * t, rfl, hq, hrq, by omega, hab, hr0, by omega, hs2, hsu2, ?_, hra⟩, ?_⟩
   ·rw [ht, hp1, Int.mul_comm 2, Int.mul_assoc]
   ·show (((k : Int) - 1) + 1).toNat < ((k : Int) + 1).toNat; omega
abbrev T16 := (I8 (Int × Int × Int × Int × Int × Int × Int × Int))
def t16 (x y : Int) : T16 := (aa x 0, aa x 1, aa x 2, aa x 3, aa x 4, aa x 5, aa x 6, aa x 7, aa y 0, aa y 1, aa y 2, aa y 3, aa y 4, aa y 5, aa y 6, aa y 7)
theorem lvz : lv z8 = 0 := by decide
theorem rLz : rL z8 := by
 intro x hx
 simp only [z8, List.mem_cons, List.not_mem_nil, or_false, or_self] at hx
 subst hx; decide
theorem XP (n m : Nat) (h : n = m + m) (hm : m = 256) : (2 : Nat) ^ n = 13407807929942597099574024998205846127479365820592393377723561443721764030073546976801874298166903427690031858186486050853753882811946569946433649006084096 := by
 rw [h, Nat.pow_add, hm]
theorem T5 : (2 : Nat) ^ 512 = 13407807929942597099574024998205846127479365820592393377723561443721764030073546976801874298166903427690031858186486050853753882811946569946433649006084096 := XP 512 256 rfl rfl
theorem VX {a b : Int} (ha : cr a) (hb : cr b) (hb0 : 0 < b) : nv (aa a 0) (aa a 1) (aa a 2) (aa a 3) (aa a 4) (aa a 5) (aa a 6) (aa a 7) (aa b 0) (aa b 1) (aa b 2) (aa b 3) (aa b 4) (aa b 5) (aa b 6) (aa b 7) = some (t16 (a / b) (a % b)) := by
 have hap : a.toNat < 2 ^ 512 := by rw [T5]; unfold cr at ha; omega
 have hbp : b.toNat < 2 ^ 512 := by rw [T5]; unfold cr at hb; omega
 have la := Gv hap
 have lb := Gv hbp
 clear hap hbp
 obtain ⟨kb, eb, b1, b2⟩ := yO (n := b.toNat) (by omega)
 have w0 : IntKind.wrap .i64 (fC a.toNat - fC b.toNat) = fC a.toNat - fC b.toNat := bM (by omega)
 unfold nv
 simp only [O4 ha, O4 hb, Ye, w0]
 by_cases hlt : fC a.toNat - fC b.toNat < 0
 ·have hab : a < b := by
   by_cases ha0 : a.toNat = 0
   ·omega
   ·obtain ⟨ka, ea, a1, a2⟩ := yO ha0
    have : 2 ^ (ka + 1) ≤ 2 ^ kb := Nat.pow_le_pow_right (by decide) (by omega)
    omega
  rw [Yn hlt, Int.ediv_eq_zero_of_lt ha.1 hab, Int.emod_eq_of_lt ha.1 hab]
  simp only [cond_true, t16, gP]
 ·obtain ⟨n, hn⟩ := Int.eq_ofNat_of_zero_le (show 0 ≤ fC a.toNat - fC b.toNat by omega)
  have ha0 : a.toNat ≠ 0 := by
   intro h0
   have : fC a.toNat = 0 := by rw [h0]; rfl
   omega
  obtain ⟨ka, ea, a1, a2⟩ := yO ha0
  have hkn : ka = kb + n := by omega
  have hl : cr (b * ((2 ^ n : Nat) : Int)) := by
   have key : ∀ N, kb + 1 + n ≤ N → b.toNat * 2 ^ n < 2 ^ N := by
    intro N hN
    have : b.toNat * 2 ^ n < 2 ^ (kb + 1) * 2 ^ n := Nat.mul_lt_mul_of_pos_right b2 (Nat.two_pow_pos n)
    rw [← Nat.pow_add] at this
    exact Nat.lt_of_lt_of_le this (Nat.pow_le_pow_right (by decide) hN)
   have h1 := key 512 (by omega)
   have h2 : b * ((2 ^ n : Nat) : Int) = ((b.toNat * 2 ^ n : Nat) : Int) := by rw [Int.natCast_mul]; congr 1; omega
   rw [T5] at h1
   unfold cr; rw [h2]; omega
  have hinv : T4 a b (LL z8, LL (l8 a), (n : Int), LL (l8 (b * ((2 ^ n : Nat) : Int))), 1) := by
   refine ⟨n + 1, z8, a, b * ((2 ^ n : Nat) : Int), 0, by rw [show ((n + 1 : Nat) : Int) - 1 = (n : Int) by omega], rfl, rLz, by omega, by rw [lvz]; omega, ha.1, ?_, fun _ => by rw [Nat.add_sub_cancel], hl, by rw [lvz]; omega, Int.le_refl _⟩
   have h1 : a.toNat < b.toNat * 2 ^ (n + 1) := by
    refine Nat.lt_of_lt_of_le a2 ?_
    rw [hkn, Nat.add_assoc, Nat.pow_add]
    exact Nat.mul_le_mul_right _ b1
   have h2 : b * ((2 ^ (n + 1) : Nat) : Int) = ((b.toNat * 2 ^ (n + 1) : Nat) : Int) := by rw [Int.natCast_mul]; congr 1; omega
   rw [h2]; omega
  obtain ⟨e, h1, h2⟩ := Rb ha hb0 hinv
  subst h2
  have gq : ∀ z j, j < 8 → (l8 z).getD j 0 = aa z j := fun z j hj => by rw [jP, if_pos hj]
  rw [Ym hlt, hn]
  simp only [cond_false, Xk (show n < 512 by omega), Ye, t8, Dc, xm, Qc, h1, Bz (s6 _), az, yN, s6, kQ, gq _ _ (show 0 < 8 by omega), gq _ _ (show 1 < 8 by omega), gq _ _ (show 2 < 8 by omega), gq _ _ (show 3 < 8 by omega), gq _ _ (show 4 < 8 by omega), gq _ _ (show 5 < 8 by omega), gq _ _ (show 6 < 8 by omega), gq _ _ (show 7 < 8 by omega), O9, t16]
  rfl
theorem Q5 {x : Int} (hx : fit x) : (aa x 0 == 0 && (aa x 1 == 0 && (aa x 2 == 0 && (aa x 3 == 0 && (aa x 4 == 0 && (aa x 5 == 0 && (aa x 6 == 0 && (aa x 7 == 0 && true)))))))) = decide (x = 0) := by
 have h := Ly hx As
 simpa only [gP] using h
theorem Nd {x : Int} (hx : cr x) : (aa x 0 == 0 && (aa x 1 == 0 && (aa x 2 == 0 && (aa x 3 == 0 && (aa x 4 == 0 && (aa x 5 == 0 && (aa x 6 == 0 && (aa x 7 == 0 && true)))))))) = decide (x = 0) := by
 by_cases h : x = 0
 ·subst h; simp [gP]
 ·rw [Ym h]
  apply Bool.eq_false_iff.2
  intro q
  simp only [Yi, beq_iff_eq, Bool.and_true] at q
  obtain ⟨h0, h1, h2, h3, h4, h5, h6, h7⟩ := q
  apply h
  have e := Gu hx.1 hx.2
  rw [l8, h0, h1, h2, h3, h4, h5, h6, h7] at e
  rw [← e]; decide
theorem UI {x : Int} (hx : cr x) : (aa (-x) 0 == 0 && (aa (-x) 1 == 0 && (aa (-x) 2 == 0 && (aa (-x) 3 == 0 && (aa (-x) 4 == 0 && (aa (-x) 5 == 0 && (aa (-x) 6 == 0 && (aa (-x) 7 == 0 && true)))))))) = decide (x = 0) := by
 by_cases h : x = 0
 ·subst h; simp [gP]
 ·have e : ∀ n, n < 8 → aa (-x) n = aa (-x + 13407807929942597099574024998205846127479365820592393377723561443721764030073546976801874298166903427690031858186486050853753882811946569946433649006084096 * 1) n := fun n hn => (dy _ 1 n hn).symm
  have hu : cr (-x + 13407807929942597099574024998205846127479365820592393377723561443721764030073546976801874298166903427690031858186486050853753882811946569946433649006084096 * 1) := by unfold cr at *; omega
  have hz := Nd hu
  rw [← e 0 (by omega), ← e 1 (by omega), ← e 2 (by omega), ← e 3 (by omega), ← e 4 (by omega), ← e 5 (by omega), ← e 6 (by omega), ← e 7 (by omega)] at hz
  rw [hz, Ym h]
  apply Ym
  unfold cr at hx; omega
theorem Xl {x : Int} (hx : cr x) (h0 : x ≠ 0) : Av (-x) = f0 (-x) := by
 by_cases h : fit (-x)
 ·rw [ei h, ci.2 h, Yn]; unfold cr at hx; omega
 ·rw [sZ.2 h, LI h (by unfold cr at hx; omega) (by unfold cr at hx; omega)]
theorem Xm {x : Int} (hx : cr x) : Av x = !f0 x := by
 by_cases h : fit x
 ·rw [ei h, ci.2 h, Ym]; · rfl
  unfold cr at hx; omega
 ·rw [sZ.2 h, LH h hx.1 hx.2]; rfl
theorem gW {x : Int} (hx : cr x) (b : Bool) (hf : fit (cond b (-x) x)) : bt (aa x 0) (aa x 1) (aa x 2) (aa x 3) (aa x 4) (aa x 5) (aa x 6) (aa x 7) b = some (t8 (cond b (-x) x)) := by
 unfold bt
 cases b with
 | true =>
  simp only [cond_true, LJ, Ye, t8, UI hx, nR] at hf ⊢
  by_cases h0 : x = 0
  ·rw [Yn h0]; rfl
  ·rw [Ym h0, Xl hx h0, ci.2 hf]; rfl
 | false =>
  simp only [cond_false, Nd hx, nR, Ye] at hf ⊢
  by_cases h0 : x = 0
  ·rw [Yn h0]; rfl
  ·rw [Ym h0, Xm hx, ci.2 hf]; rfl
def t17 (x y : Int) (b : Bool) : (I8 (I8 Bool)) := (aa x 0, aa x 1, aa x 2, aa x 3, aa x 4, aa x 5, aa x 6, aa x 7, aa y 0, aa y 1, aa y 2, aa y 3, aa y 4, aa y 5, aa y 6, aa y 7, b)
theorem mm {a b q r : Int} (h : a = b * q + r) (hr : (0 ≤ r ∧ r < b) ∨ (b < r ∧ r ≤ 0)) : a.fdiv b = q ∧ a.fmod b = r := by
 have hb : b ≠ 0 := by omega
 have e : a.fdiv b = q := by
  rcases hr with ⟨h1, h2⟩ | ⟨h1, h2⟩
  ·rw [Int.fdiv_eq_ediv_of_nonneg _ (by omega), h, Int.mul_comm, Int.add_comm, Int.add_mul_ediv_right _ _ hb, Int.ediv_eq_zero_of_lt h1 h2]; omega
  ·have : a.fdiv b = (-a).fdiv (-b) := by rw [Int.neg_fdiv_neg]
   rw [this, Int.fdiv_eq_ediv_of_nonneg _ (by omega)]
   have e2 : -a = -r + q * (-b) := by rw [h, Int.mul_neg, Int.mul_comm q]; omega
   rw [e2, Int.add_mul_ediv_right _ _ (by omega), Int.ediv_eq_zero_of_lt (by omega) (by omega)]; omega
 refine ⟨e, ?_⟩
 rw [Int.fmod_def, e]; omega
theorem Xn {a b : Int} (hb : fit b) (h0 : b = 0) : lE (aa a 0) (aa a 1) (aa a 2) (aa a 3) (aa a 4) (aa a 5) (aa a 6) (aa a 7) (aa b 0) (aa b 1) (aa b 2) (aa b 3) (aa b 4) (aa b 5) (aa b 6) (aa b 7) = some (t17 0 0 false) := by
 unfold lE
 rw [O3 hb, Ye, h0]
 simp [sgn, t17, gP]
theorem XQ {a b : Int} (ha : fit a) (hb : fit b) (h0 : b ≠ 0) (hf : fit (a.fdiv b)) : lE (aa a 0) (aa a 1) (aa a 2) (aa a 3) (aa a 4) (aa a 5) (aa a 6) (aa a 7) (aa b 0) (aa b 1) (aa b 2) (aa b 3) (aa b 4) (aa b 5) (aa b 6) (aa b 7) = some (t17 (a.fdiv b) (a.fmod b) true) := by
 have hs : (sgn b == 0) = false := by
  unfold sgn
  rw [Ym h0]
  cases decide (b < 0) <;> rfl
 have hA := uz ha
 have hB := uz hb
 have hB0 : 0 < (b.natAbs : Int) := by omega
 have hdm := Int.mul_ediv_add_emod (a.natAbs : Int) (b.natAbs : Int)
 have hr0 := Int.emod_nonneg (a.natAbs : Int) (show (b.natAbs : Int) ≠ 0 by omega)
 have hr1 := Int.emod_lt_of_pos (a.natAbs : Int) hB0
 have hq0 : 0 ≤ (a.natAbs : Int) / (b.natAbs : Int) := Int.ediv_nonneg hA.1 hB.1
 have hqa : (a.natAbs : Int) / (b.natAbs : Int) ≤ (a.natAbs : Int) := Int.ediv_le_self _ hA.1
 unfold lE
 simp only [O3 hb, Ye, hs, cond_false, KG ha, KG hb, t8, VX hA hB hB0, t16, nR, ei ha, ei hb]
 generalize (a.natAbs : Int) / (b.natAbs : Int) = x at *
 generalize (a.natAbs : Int) % (b.natAbs : Int) = y at *
 have hx : cr x := by unfold cr at *; omega
 have hy : cr y := by unfold cr at *; omega
 simp only [Nd hy]
 have hp1 := BA x 0 1 ⟨by decide, by decide⟩
 simp only [gP, Int.add_zero] at hp1
 have hp2 := BA (b.natAbs : Int) (-y - 1) 1 ⟨by decide, by decide⟩
 rw [show (b.natAbs : Int) + (-y - 1) + 1 = (b.natAbs : Int) - y by omega] at hp2
 by_cases h1 : a < 0 <;> by_cases h2 : b < 0
 ·have e := mm (a := a) (b := b) (q := x) (r := -y) (by rw [show b = -(b.natAbs : Int) by omega, Int.neg_mul]; omega) (.inr ⟨by omega, by omega⟩)
  rw [e.1] at hf
  have s1 := gW hx false hf
  have s2 := gW hy true (by show fit (-y); unfold fit; unfold fit at hb; omega)
  simp only [Yn h1, Yn h2, cond_true, Ye, s1, s2, t8, e.1, e.2, t17, cond_false]
 ·by_cases hy0 : y = 0
  ·have e := mm (a := a) (b := b) (q := -x) (r := 0) (by rw [show b = (b.natAbs : Int) by omega, Int.mul_neg]; omega) (.inl ⟨by omega, by omega⟩)
   rw [e.1] at hf
   have s1 := gW hx true hf
   have s2 := gW hy false (by show fit y; rw [hy0]; exact As)
   simp only [Yn h1, Ym h2, Yn hy0, Bool.not_true, cond_true, cond_false, Ye, s1, s2, t8, e.1, e.2, t17]
   rw [hy0]
  ·have e := mm (a := a) (b := b) (q := -(x + 1)) (r := (b.natAbs : Int) - y) (by rw [show b * -(x + 1) = -((b.natAbs : Int) * x + (b.natAbs : Int)) by rw [show (b.natAbs : Int) = b by omega, Int.mul_neg, Int.mul_add]; omega]; omega) (.inl ⟨by omega, by omega⟩)
   rw [e.1] at hf
   have hx1 : cr (x + 1) := by unfold fit at hf; unfold cr; omega
   have hb1 : cr ((b.natAbs : Int) - y) := by unfold cr at *; omega
   have s1 := gW hx1 true hf
   have s2 := gW hb1 false (by show fit ((b.natAbs : Int) - y); unfold fit at *; omega)
   simp only [Yn h1, Ym h2, Ym hy0, Bool.not_false, cond_true, cond_false, Ye, hp1, KF, hp2, s1, s2, t8, e.1, e.2, t17]
 ·by_cases hy0 : y = 0
  ·have e := mm (a := a) (b := b) (q := -x) (r := 0) (by rw [show b = -(b.natAbs : Int) by omega, Int.neg_mul_neg]; omega) (.inr ⟨by omega, by omega⟩)
   rw [e.1] at hf
   have s1 := gW hx true hf
   have s2 := gW hy true (by show fit (-y); rw [hy0]; exact As)
   simp only [Ym h1, Yn h2, Yn hy0, Bool.not_true, cond_true, cond_false, Ye, s1, s2, t8, e.1, e.2, t17]
   rw [hy0]; rfl
  ·have e := mm (a := a) (b := b) (q := -(x + 1)) (r := -((b.natAbs : Int) - y)) (by rw [show b * -(x + 1) = (b.natAbs : Int) * x + (b.natAbs : Int) by rw [show (b.natAbs : Int) = -b by omega, Int.mul_neg, Int.mul_add, Int.neg_mul]; omega]; omega) (.inr ⟨by omega, by omega⟩)
   rw [e.1] at hf
   have hx1 : cr (x + 1) := by unfold fit at hf; unfold cr; omega
   have hb1 : cr ((b.natAbs : Int) - y) := by unfold cr at *; omega
   have s1 := gW hx1 true hf
   have s2 := gW hb1 true (by show fit (-((b.natAbs : Int) - y)); unfold fit at *; omega)
   simp only [Ym h1, Yn h2, Ym hy0, Bool.not_false, cond_true, cond_false, Ye, hp1, KF, hp2, s1, s2, t8, e.1, e.2, t17]
 ·have e := mm (a := a) (b := b) (q := x) (r := y) (by rw [show b = (b.natAbs : Int) by omega]; omega) (.inl ⟨by omega, by omega⟩)
  rw [e.1] at hf
  have s1 := gW hx false hf
  have s2 := gW hy false (by show fit y; unfold fit at *; omega)
  simp only [Ym h1, Ym h2, cond_true, Ye, s1, s2, t8, e.1, e.2, t17, cond_false]
theorem Qd {l : List Int} {i : Nat} (h : i < l.length) : lv (l.take (i + 1)) = lv (l.take i) + l.getD i 0 * 18446744073709551616 ^ i := by
 have e := nT i (l.take (i + 1))
 rw [List.take_take, Nat.min_eq_left (by omega), List.drop_take, show i + 1 - i = 1 by omega, qZ h] at e
 rw [e]
 simp [lv, Int.mul_comm]
theorem SJ {x y l0 : List Int} (hx : rL x) (hy : rL y) (hxl : x.length = 8) (hyl : y.length = 8) (h0 : rL l0) (hl0 : l0.length = 8) {i : Nat} (hi : i < 8) (a b c : LA_) (n1 n2 n3 n4 n5 n6 : Nat) :
  ∃ e, Bb (a, n1, b, n2, c, n3, LL x, n4, LL y, n5, n6, (i : Int), (i : Int)) (LL l0, 0, 0) = some e ∧
   match e with
   | .inl () => 18446744073709551616 ^ 8 ≤ lv l0 + x.getD i 0 * lv y * 18446744073709551616 ^ i
   | .inr (r, k) => ∃ l, r = LL l ∧ l.length = 8 ∧ rL l ∧ 0 ≤ k ∧ lv l + k * 18446744073709551616 ^ (i + 8) = lv l0 + x.getD i 0 * lv y * 18446744073709551616 ^ i ∧ (0 < i → k = 0) := by
 refine gF (step := ss (a, n1, b, n2, c, n3, LL x, n4, LL y, n5, n6, (i : Int), (i : Int)))
  (fun v => ∃ (k : Nat) (l : List Int) (w : Int), v = (LL l, w, (k : Int)) ∧ l.length = 8 ∧ rL l ∧ k ≤ 8 ∧ (0 ≤ w ∧ w < 18446744073709551616) ∧
   lv l + w * 18446744073709551616 ^ (i + k) = lv l0 + x.getD i 0 * lv (y.take k) * 18446744073709551616 ^ i ∧ (8 < i + k → w = 0)) (fun v => (8 - v.2.2).toNat) _ ?_ (show (8 - (0 : Int)).toNat < 18446744073709551616 by decide)
  ⟨0, l0, 0, rfl, hl0, h0, by omega, by decide, by simp [lv], by omega⟩
 rintro v ⟨k, l, w, rfl, hl, hr, hk, hw, he, hc⟩
 have xg := hx.get i
 generalize hX : x.getD i 0 = xi at *
 by_cases h8 : k = 8
 ·subst h8
  refine .inr ⟨.inr (LL l, w), rfl, l, rfl, hl, hr, hw.1, ?_, fun h => hc (by omega)⟩
  rw [he, List.take_of_length_le (by omega)]
 ·have hk8 : k < 8 := by omega
  have yg := hy.get k
  have hta := Qd (l := y) (i := k) (by omega)
  have hsp := nT (k + 1) y
  generalize hY : y.getD k 0 = yk at *
  have d1 : decide ((k : Int) < 8) = true := Yn (by omega)
  have w1 : IntKind.wrap .i64 ((i : Int) + (k : Int)) = ((i + k : Nat) : Int) := by rw [bM (by omega)]; omega
  have w2 : IntKind.wrap .i64 ((k : Int) + 1) = ((k + 1 : Nat) : Int) := by rw [bM (by omega)]; omega
  have hpn : 0 ≤ xi * yk := Int.mul_nonneg xg.1 yg.1
  have hpm : xi * yk ≤ 18446744073709551615 * 18446744073709551615 := Int.mul_le_mul (by omega) (by omega) yg.1 (by decide)
  have hlo := Int.emod_nonneg (xi * yk) (show (18446744073709551616 : Int) ≠ 0 by decide)
  have hlo2 := Int.emod_lt_of_pos (xi * yk) (show (0 : Int) < 18446744073709551616 by decide)
  have ad : iS (xi * yk % 18446744073709551616) w 0 = some ((xi * yk % 18446744073709551616 + w + 0) % 18446744073709551616, (xi * yk % 18446744073709551616 + w + 0) / 18446744073709551616) := by
   unfold iS
   rw [Yn hlo, Yn hw.1]; rfl
  have hmul : xi * lv (y.take (k + 1)) * 18446744073709551616 ^ i = xi * lv (y.take k) * 18446744073709551616 ^ i + xi * yk * 18446744073709551616 ^ (i + k) := by
   rw [hta, Int.pow_add]; grind
  have hbig : xi * lv (y.take (k + 1)) * 18446744073709551616 ^ i ≤ xi * lv y * 18446744073709551616 ^ i := by
   have h2 : 0 ≤ 18446744073709551616 ^ (k + 1) * lv (y.drop (k + 1)) := Int.mul_nonneg (Int.le_of_lt (Jf _)) (vm (hy.drop _))
   exact Yz (YA (by omega) xg.1) (Int.le_of_lt (Jf i))
  simp only [ss, gM, d1, w1, w2, cond_true, eQ, Aw hi, Aw hk8, Yl, az, Int.toNat_natCast, Nat.mul_one, Nat.zero_add, Nat.add_zero, uh, kQ, hxl, hyl, hl, Yn hi, Yn hk8, hX, hY, VV xg yg, Ye, ad, Dd]
  by_cases hik : i + k < 8
  ·have d2 : decide (((i + k : Nat) : Int) ≥ 8) = false := Ym (by omega)
   have d3 : decide (i + k + 1 ≤ 8) = true := Yn (by omega)
   have lg := hr.get (i + k)
   have hlen : i + k < l.length := by omega
   have hset := O0 (l := l) (i := i + k)
   generalize hL : l.getD (i + k) 0 = lk at *
   have ad2 : ∀ u, 0 ≤ u → iS lk u 0 = some ((lk + u + 0) % 18446744073709551616, (lk + u + 0) / 18446744073709551616) := fun u hu => by
    unfold iS
    rw [Yn lg.1, Yn hu]; rfl
   have hlo3 := Int.emod_nonneg (xi * yk % 18446744073709551616 + w + 0) (show (18446744073709551616 : Int) ≠ 0 by decide)
   simp only [d2, cond_false, d3, yN, hl, Aw hik, eQ, Yl, az, Yn hik, ad2 _ hlo3, Ye]
   rw [xl hlen]
   refine .inl ⟨_, rfl, ⟨k + 1, _, _, rfl, by simpa using hl, hr.set (by omega) _, by omega, by omega, ?_, by omega⟩, by show (8 - ((k + 1 : Nat) : Int)).toNat < (8 - (k : Int)).toNat; omega⟩
   rw [hset _ hlen, hmul, ← Int.add_assoc (lv l0), ← he, show i + (k + 1) = i + k + 1 by omega, Int.pow_succ]
   have key : ((lk + (xi * yk % 18446744073709551616 + w + 0) % 18446744073709551616 + 0) % 18446744073709551616 - lk) + ((xi * yk / 18446744073709551616 + (xi * yk % 18446744073709551616 + w + 0) / 18446744073709551616) % 18446744073709551616 + (lk + (xi * yk % 18446744073709551616 + w + 0) % 18446744073709551616 + 0) / 18446744073709551616) % 18446744073709551616 * 18446744073709551616 = w + xi * yk := by
    generalize xi * yk = p at *
    omega
   generalize ((lk + (xi * yk % 18446744073709551616 + w + 0) % 18446744073709551616 + 0) % 18446744073709551616 - lk) = u1 at *
   generalize ((xi * yk / 18446744073709551616 + (xi * yk % 18446744073709551616 + w + 0) / 18446744073709551616) % 18446744073709551616 + (lk + (xi * yk % 18446744073709551616 + w + 0) % 18446744073709551616 + 0) / 18446744073709551616) % 18446744073709551616 = u2 at *
   generalize (18446744073709551616 : Int) ^ (i + k) = p at *
   have : u1 * p + u2 * (p * 18446744073709551616) = (u1 + u2 * 18446744073709551616) * p := by grind
   rw [Int.add_assoc, this, key]; grind
  ·have d2 : decide (((i + k : Nat) : Int) ≥ 8) = true := Yn (by omega)
   simp only [d2, cond_true]
   have hover : 0 < xi * yk + w → 18446744073709551616 ^ 8 ≤ lv l0 + xi * lv y * 18446744073709551616 ^ i := by
    intro hpos
    have h1 : lv l + (w + xi * yk) * 18446744073709551616 ^ (i + k) = lv l0 + xi * lv (y.take (k + 1)) * 18446744073709551616 ^ i := by
     rw [hmul, ← Int.add_assoc (lv l0), ← he, Int.add_mul, Int.add_assoc]
    have h2 : (18446744073709551616 : Int) ^ 8 ≤ 18446744073709551616 ^ (i + k) := by
     rw [m2, m2]
     have := Nat.pow_le_pow_right (n := 2) (by decide) (show 64 * 8 ≤ 64 * (i + k) by omega)
     omega
    have h3 : 1 * (18446744073709551616 : Int) ^ (i + k) ≤ (w + xi * yk) * 18446744073709551616 ^ (i + k) := Yz (by omega) (Int.le_of_lt (Jf _))
    have h4 := vm hr
    omega
   generalize hq : xi * yk = p at *
   by_cases e1 : (p % 18446744073709551616 + w + 0) % 18446744073709551616 = 0
   ·have b1 : ((p % 18446744073709551616 + w + 0) % 18446744073709551616 != 0) = false := by rw [e1]; rfl
    rw [b1]
    simp only [cond_false]
    by_cases e2 : (p / 18446744073709551616 + (p % 18446744073709551616 + w + 0) / 18446744073709551616) % 18446744073709551616 = 0
    ·have b2 : ((p / 18446744073709551616 + (p % 18446744073709551616 + w + 0) / 18446744073709551616) % 18446744073709551616 != 0) = false := by rw [e2]; rfl
     rw [b2]
     have hz : p = 0 ∧ w = 0 := by omega
     refine .inl ⟨_, rfl, ⟨k + 1, l, 0, rfl, hl, hr, by omega, by decide, ?_, fun _ => rfl⟩, by show (8 - ((k + 1 : Nat) : Int)).toNat < (8 - (k : Int)).toNat; omega⟩
     rw [hmul, hz.1]
     rw [hz.2] at he
     simpa using he
    ·have b2 : ((p / 18446744073709551616 + (p % 18446744073709551616 + w + 0) / 18446744073709551616) % 18446744073709551616 != 0) = true := by simpa using e2
     rw [b2]
     exact .inr ⟨.inl (), rfl, hover (by omega)⟩
   ·have b1 : ((p % 18446744073709551616 + w + 0) % 18446744073709551616 != 0) = true := by simpa using e1
    rw [b1]
    exact .inr ⟨.inl (), rfl, hover (by omega)⟩
theorem SK {x y : List Int} (hx : rL x) (hy : rL y) (hxl : x.length = 8) (hyl : y.length = 8) (a b c : LA_) (n1 n2 n3 n4 n5 n6 : Nat) :
  ∃ e, vQ (a, n1, b, n2, c, n3, LL x, n4, LL y, n5, n6) (LL z8, 0) = some e ∧
   match e with
   | .inl () => 18446744073709551616 ^ 8 ≤ lv x * lv y
   | .inr r => r = LL (l8 (lv x * lv y)) ∧ cr (lv x * lv y) := by
 refine gF (step := tY (a, n1, b, n2, c, n3, LL x, n4, LL y, n5, n6))
  (fun v => ∃ (i : Nat) (l : List Int), v = (LL l, (i : Int)) ∧ l.length = 8 ∧ rL l ∧ i ≤ 8 ∧ lv l = lv (x.take i) * lv y) (fun v => (8 - v.2).toNat) _ ?_ (show (8 - (0 : Int)).toNat < 18446744073709551616 by decide)
  ⟨0, z8, rfl, rfl, rLz, by omega, by simp [lvz, lv]⟩
 rintro v ⟨i, l, rfl, hl, hr, hi, he⟩
 by_cases h8 : i = 8
 ·subst h8
  rw [List.take_of_length_le (by omega)] at he
  refine .inr ⟨.inr (LL l), rfl, ?_, ?_⟩
  ·rw [← he, ← UH hr hl]
  ·have := SA hr hl
   rw [he] at this; exact this
 ·have hi8 : i < 8 := by omega
  have hta := Qd (l := x) (i := i) (by omega)
  have xg := hx.get i
  have d1 : decide ((i : Int) < 8) = true := Yn (by omega)
  have w2 : IntKind.wrap .i64 ((i : Int) + 1) = ((i + 1 : Nat) : Int) := by rw [bM (by omega)]; omega
  obtain ⟨e, h1, h2⟩ := SJ hx hy hxl hyl hr hl hi8 a b c n1 n2 n3 n4 n5 n6
  simp only [tY, ix, d1, w2, cond_true, eQ, Aw hi8, Yl, az, Int.toNat_natCast, Nat.mul_one, Nat.zero_add, Nat.add_zero, uh, kQ, hxl, Yn hi8, h1, Ye]
  generalize hX : x.getD i 0 = xi at *
  have hsum : lv l + xi * lv y * 18446744073709551616 ^ i = lv (x.take (i + 1)) * lv y := by rw [he, hta]; grind
  have hle : lv (x.take (i + 1)) * lv y ≤ lv x * lv y := by
   have hsp := nT (i + 1) x
   have h2 : 0 ≤ 18446744073709551616 ^ (i + 1) * lv (x.drop (i + 1)) := Int.mul_nonneg (Int.le_of_lt (Jf _)) (vm (hx.drop _))
   exact Yz (by omega) (vm hy)
  by_cases hx0 : xi = 0
  ·have b1 : (xi == 0) = true := by simp [hx0]
   rw [b1]
   refine .inl ⟨_, rfl, ⟨i + 1, l, rfl, hl, hr, by omega, ?_⟩, by show (8 - ((i + 1 : Nat) : Int)).toNat < (8 - (i : Int)).toNat; omega⟩
   rw [← hsum, hx0]; simp
  ·have b1 : (xi == 0) = false := by simpa using hx0
   rw [b1]
   simp only [cond_false]
   rw [hsum] at h2
   match e, h2 with
   | .inl (), h2 => exact .inr ⟨.inl (), rfl, Int.le_trans h2 hle⟩
   | .inr (r, k), ⟨l2, hr2, hl2, hrl2, hk0, he2, hki⟩ =>
    subst hr2
    by_cases hk : k = 0
    ·have b2 : (k != 0) = false := by simp [hk]
     refine .inl ⟨(LL l2, ((i + 1 : Nat) : Int)), by simp only [Sum.elim, b2, cond_false], ⟨i + 1, l2, rfl, hl2, hrl2, by omega, ?_⟩, by show (8 - ((i + 1 : Nat) : Int)).toNat < (8 - (i : Int)).toNat; omega⟩
     rw [hk] at he2; simpa using he2
    ·have b2 : (k != 0) = true := by simpa using hk
     refine .inr ⟨.inl (), by simp only [Sum.elim, b2, cond_true], ?_⟩
     have hi0 : i = 0 := by
      rcases Nat.eq_zero_or_pos i with h | h
      ·exact h
      ·exact absurd (hki h) hk
     subst hi0
     have h3 : 1 * (18446744073709551616 : Int) ^ 8 ≤ k * 18446744073709551616 ^ 8 := Yz (by omega) (Int.le_of_lt (Jf _))
     have h4 := vm hrl2
     simp only [Nat.zero_add] at he2 hle
     exact Int.le_trans (by omega) hle
def K8v : List TK := [.int .u64, .int .u64, .int .u64, .int .u64, .int .u64, .int .u64, .int .u64, .int .u64]
abbrev R9 := (I8 Bool)
def Ax (e : LA_) (ok : Bool) : Option R9 :=
 ah (decide (0 + 8 ≤ List.length (LL z8))) (ah (aw K8v (spliced (LL z8) 0 e) 0) (some (ac (spliced (LL z8) 0 e) 0, ac (spliced (LL z8) 0 e) 1, ac (spliced (LL z8) 0 e) 2, ac (spliced (LL z8) 0 e) 3, ac (spliced (LL z8) 0 e) 4, ac (spliced (LL z8) 0 e) 5, ac (spliced (LL z8) 0 e) 6, ac (spliced (LL z8) 0 e) 7, ok)))
def zr (a b c d e f g h : Int) : Bool := a == 0 && (b == 0 && (c == 0 && (d == 0 && (e == 0 && (f == 0 && (g == 0 && (h == 0 && true)))))))
def Nf (e : LA_) : Option R9 :=
 cond (!(zr (ac e 0) (ac e 1) (ac e 2) (ac e 3) (ac e 4) (ac e 5) (ac e 6) (ac e 7))) (Option.bind (am (ac e 0) (ac e 1) (ac e 2) (ac e 3) (ac e 4) (ac e 5) (ac e 6) (ac e 7)) fun n => cond n (Ax (LL z8) false) (Ax [.int .u64 (ac e 0), .int .u64 (ac e 1), .int .u64 (ac e 2), .int .u64 (ac e 3), .int .u64 (ac e 4), .int .u64 (ac e 5), .int .u64 (ac e 6), .int .u64 (ac e 7)] true)) (Ax [.int .u64 (ac e 0), .int .u64 (ac e 1), .int .u64 (ac e 2), .int .u64 (ac e 3), .int .u64 (ac e 4), .int .u64 (ac e 5), .int .u64 (ac e 6), .int .u64 (ac e 7)] true)
def KI (e : LA_) : Option R9 :=
 Option.bind (fx (ac e 0) (ac e 1) (ac e 2) (ac e 3) (ac e 4) (ac e 5) (ac e 6) (ac e 7)) fun r => cond (!(zr r.1 r.2.1 r.2.2.1 r.2.2.2.1 r.2.2.2.2.1 r.2.2.2.2.2.1 r.2.2.2.2.2.2.1 r.2.2.2.2.2.2.2)) (Option.bind (am r.1 r.2.1 r.2.2.1 r.2.2.2.1 r.2.2.2.2.1 r.2.2.2.2.2.1 r.2.2.2.2.2.2.1 r.2.2.2.2.2.2.2) fun n => cond n (Ax [.int .u64 r.1, .int .u64 r.2.1, .int .u64 r.2.2.1, .int .u64 r.2.2.2.1, .int .u64 r.2.2.2.2.1, .int .u64 r.2.2.2.2.2.1, .int .u64 r.2.2.2.2.2.2.1, .int .u64 r.2.2.2.2.2.2.2] true) (Ax (LL z8) false)) (Ax [.int .u64 r.1, .int .u64 r.2.1, .int .u64 r.2.2.1, .int .u64 r.2.2.2.1, .int .u64 r.2.2.2.2.1, .int .u64 r.2.2.2.2.2.1, .int .u64 r.2.2.2.2.2.2.1, .int .u64 r.2.2.2.2.2.2.2] true)
def Ng (a b e : LA_) : Option R9 :=
 ah (aw K8v e 0) (ah (aw K8v a 0) (Option.bind (am (ac a 0) (ac a 1) (ac a 2) (ac a 3) (ac a 4) (ac a 5) (ac a 6) (ac a 7)) fun n => cond n
  (ah (aw K8v b 0) (Option.bind (am (ac b 0) (ac b 1) (ac b 2) (ac b 3) (ac b 4) (ac b 5) (ac b 6) (ac b 7)) fun m => cond m (Nf e) (KI e)))
  (ah (aw K8v b 0) (Option.bind (am (ac b 0) (ac b 1) (ac b 2) (ac b 3) (ac b 4) (ac b 5) (ac b 6) (ac b 7)) fun m => cond m (KI e) (Nf e)))))
theorem Py (x y : Int) : sv (aa x 0) (aa x 1) (aa x 2) (aa x 3) (aa x 4) (aa x 5) (aa x 6) (aa x 7) (aa y 0) (aa y 1) (aa y 2) (aa y 3) (aa y 4) (aa y 5) (aa y 6) (aa y 7) =
  Option.bind (dT (aa x 0) (aa x 1) (aa x 2) (aa x 3) (aa x 4) (aa x 5) (aa x 6) (aa x 7)) fun r1 => Option.bind (dT (aa y 0) (aa y 1) (aa y 2) (aa y 3) (aa y 4) (aa y 5) (aa y 6) (aa y 7)) fun r2 =>
   Option.bind (vQ (LL (l8 x), 1, LL (l8 y), 1, LL z8, 1, LL [r1.1, r1.2.1, r1.2.2.1, r1.2.2.2.1, r1.2.2.2.2.1, r1.2.2.2.2.2.1, r1.2.2.2.2.2.2.1, r1.2.2.2.2.2.2.2], 1, LL [r2.1, r2.2.1, r2.2.2.1, r2.2.2.2.1, r2.2.2.2.2.1, r2.2.2.2.2.2.1, r2.2.2.2.2.2.2.1, r2.2.2.2.2.2.2.2], 1, 1) (LL z8, 0)) (Sum.elim (fun _ => Ax (LL z8) false) fun e => Ng (LL (l8 x)) (LL (l8 y)) e) := rfl
theorem g8 (z : Int) {j : Nat} (hj : j < 8) : ac (LL (l8 z)) j = aa z j := by rw [kQ, jP, if_pos hj]
theorem LO (z : Int) (ok : Bool) : Ax (LL (l8 z)) ok = some (t9 z ok) := by
 unfold Ax
 simp only [K8v, yN, SH, O9 (show z8.length = (l8 z).length from rfl), Bz (s6 _), kQ, jP]
 rfl
theorem Pa : Ax (LL z8) false = some (t9 0 false) := by
 have := LO 0 false
 rw [show l8 0 = z8 by unfold l8; simp only [gP]; rfl] at this
 exact this
theorem T6 {z : Int} (h : cr z) : Nf (LL (l8 z)) = some (cond (f0 z) (t9 z true) (t9 0 false)) := by
 unfold Nf zr
 simp only [g8 z (show 0 < 8 by omega), g8 z (show 1 < 8 by omega), g8 z (show 2 < 8 by omega), g8 z (show 3 < 8 by omega), g8 z (show 4 < 8 by omega), g8 z (show 5 < 8 by omega), g8 z (show 6 < 8 by omega), g8 z (show 7 < 8 by omega), Nd h, nR, Ye, Dc, xm, LO, Pa, Xm h]
 by_cases h0 : z = 0
 ·subst h0; rw [ci.2 As]; rfl
 ·rw [Ym h0]; cases f0 z <;> rfl
theorem SL {z : Int} (h : cr z) : KI (LL (l8 z)) = some (cond (f0 (-z)) (t9 (-z) true) (t9 0 false)) := by
 unfold KI zr
 simp only [g8 z (show 0 < 8 by omega), g8 z (show 1 < 8 by omega), g8 z (show 2 < 8 by omega), g8 z (show 3 < 8 by omega), g8 z (show 4 < 8 by omega), g8 z (show 5 < 8 by omega), g8 z (show 6 < 8 by omega), g8 z (show 7 < 8 by omega), LJ, t8, UI h, nR, Ye, Dc, xm, LO, Pa]
 by_cases h0 : z = 0
 ·subst h0; rw [Int.neg_zero, ci.2 As]; rfl
 ·rw [Ym h0, Xl h h0]; cases f0 (-z) <;> rfl
theorem T7 {x y z : Int} (hx : fit x) (hy : fit y) (h : cr z) : Ng (LL (l8 x)) (LL (l8 y)) (LL (l8 z)) = cond (decide (x < 0) == decide (y < 0)) (some (cond (f0 z) (t9 z true) (t9 0 false))) (some (cond (f0 (-z)) (t9 (-z) true) (t9 0 false))) := by
 unfold Ng
 simp only [K8v, Bz (s6 _), az, g8 x (show 0 < 8 by omega), g8 x (show 1 < 8 by omega), g8 x (show 2 < 8 by omega), g8 x (show 3 < 8 by omega), g8 x (show 4 < 8 by omega), g8 x (show 5 < 8 by omega), g8 x (show 6 < 8 by omega), g8 x (show 7 < 8 by omega),
  g8 y (show 0 < 8 by omega), g8 y (show 1 < 8 by omega), g8 y (show 2 < 8 by omega), g8 y (show 3 < 8 by omega), g8 y (show 4 < 8 by omega), g8 y (show 5 < 8 by omega), g8 y (show 6 < 8 by omega), g8 y (show 7 < 8 by omega), nR, Ye, ei hx, ei hy, T6 h, SL h]
 cases decide (x < 0) <;> cases decide (y < 0) <;> rfl
theorem Xo {p q : Prop} [Decidable p] [Decidable q] (h : p ≠ q) : (decide p == decide q) = false := by
 by_cases a : p <;> by_cases b : q <;> simp_all
theorem Xp {p q : Prop} [Decidable p] [Decidable q] (h : ¬ p ≠ q) : (decide p == decide q) = true := by
 by_cases a : p <;> by_cases b : q <;> simp_all
theorem XR {x y : Int} (hx : fit x) (hy : fit y) :
  sv (aa x 0) (aa x 1) (aa x 2) (aa x 3) (aa x 4) (aa x 5) (aa x 6) (aa x 7) (aa y 0) (aa y 1) (aa y 2) (aa y 3) (aa y 4) (aa y 5) (aa y 6) (aa y 7) =
   some (t9 (gV (x * y)).1 (gV (x * y)).2) := by
 have hA := uz hx
 have hB := uz hy
 obtain ⟨e, h1, h2⟩ := SK (x := l8 (x.natAbs : Int)) (y := l8 (y.natAbs : Int)) (KH _) (KH _) rfl rfl (LL (l8 x)) (LL (l8 y)) (LL z8) 1 1 1 1 1 1
 rw [Gu hA.1 hA.2, Gu hB.1 hB.2] at h2
 have gq : ∀ z j, j < 8 → (l8 z).getD j 0 = aa z j := fun z j hj => by rw [jP, if_pos hj]
 have gz : ∀ j, z8.getD j 0 = 0 := SG
 have hab : (x * y).natAbs = x.natAbs * y.natAbs := Int.natAbs_mul x y
 have hP : ((x.natAbs : Int) * (y.natAbs : Int)) = ((x * y).natAbs : Int) := by rw [hab]; push_cast; rfl
 rw [hP] at h2
 have hsg : x * y < 0 ↔ (x * y ≠ 0 ∧ ((x < 0) ≠ (y < 0))) := by
  rcases Int.lt_trichotomy x 0 with a | a | a <;> rcases Int.lt_trichotomy y 0 with b | b | b
  ·have := Int.mul_pos_of_neg_of_neg a b; simp [a, b]; omega
  ·subst b; simp
  ·have := Int.mul_neg_of_neg_of_pos a b
   have hb : ¬ y < 0 := by omega
   simp [a, hb, this]; omega
  ·subst a; simp
  ·subst a; simp
  ·subst a; simp
  ·have := Int.mul_neg_of_pos_of_neg a b
   have ha : ¬ x < 0 := by omega
   simp [ha, b, this]; omega
  ·subst b; simp
  ·have := Int.mul_pos a b
   have ha : ¬ x < 0 := by omega
   have hb : ¬ y < 0 := by omega
   simp [ha, hb]; omega
 rw [Py, KG hx, Ye, KG hy, Ye]
 simp only [t8, xm, h1, Ye]
 match e, h2 with
 | .inl (), h2 =>
  have hnf : ¬ fit (x * y) := by
   have : (18446744073709551616 : Int) ^ 8 = 13407807929942597099574024998205846127479365820592393377723561443721764030073546976801874298166903427690031858186486050853753882811946569946433649006084096 := by decide
   unfold fit; omega
  unfold gV
  rw [sZ.2 hnf]
  exact Pa
 | .inr r, ⟨h2, h3⟩ =>
  subst h2
  show Ng _ _ _ = _
  rw [T7 hx hy h3]
  generalize hz : x * y = z at *
  unfold gV
  by_cases hn : (x < 0) ≠ (y < 0)
  ·have hb : (decide (x < 0) == decide (y < 0)) = false := Xo hn
   rw [hb]
   have e : -(z.natAbs : Int) = z := by
    by_cases h0 : z = 0
    ·omega
    ·have := hsg.2 ⟨h0, hn⟩; omega
   rw [cond_false, e]; cases f0 z <;> rfl
  ·have hb : (decide (x < 0) == decide (y < 0)) = true := Xp hn
   rw [hb]
   have e : (z.natAbs : Int) = z := by
    have : ¬ z < 0 := fun h => hn (hsg.1 h).2
    omega
   rw [cond_true, e]; cases f0 z <;> rfl
end Go.Ev
namespace Go.Ev
open Go.Proofs
theorem aN.da {P : Program} {g : FuncId} {h c : HK} (hk : aN P g h) (e : ∀ args σ x, (c.call args σ fun r σ' => some (r, σ')) = some x → (h.call args σ fun r σ' => some (r, σ')) = some x) : aN P g c := fun args σ r σ' q => hk args σ r σ' (e args σ _ q)
theorem XS {a0 : Int} {r} (h : cOf a0 = some r) : uS a0 = some (t8 r) := by
 unfold cOf at h
 obtain ⟨h1, h2⟩ := aL h
 simp only [Yh] at h2
 subst h2
 exact X8 h1
def K3 : HK where
 call := fun args σ k => match args with
  | [.int .i64 a0] => Option.bind (cOf a0) fun r => k (.ret (.agg [.int .u64 (aa r 0), .int .u64 (aa r 1), .int .u64 (aa r 2), .int .u64 (aa r 3), .int .u64 (aa r 4), .int .u64 (aa r 5), .int .u64 (aa r 6), .int .u64 (aa r 7)])) σ
  | _ => none
 nat := fun args σ k => by
  repeat' split
  all_goals simp only [Yg, Yf, Ye]
 pure := true
 pok := fun _ args σ r σ' h => by
  split at h
  ·obtain ⟨q, h1, h2⟩ := bE_ h
   simp only [Yh, Yj] at h2
   obtain ⟨rfl, rfl⟩ := h2
   exact ⟨rfl, ⟨_, rfl⟩, fun σ2 => by simp only [h1, Ye]⟩
  ·cases h
theorem F0 : aN YI 19 K3 := No.da fun args σ x h => by
 simp only [K3] at h
 split at h
 ·rename_i a0
  obtain ⟨r, h1, h2⟩ := bE_ h
  simp only [Fh, XS h1, Ye]
  exact h2
 ·cases h
theorem VY {a0 a1 a2 a3 a4 a5 a6 a7 : Int} {r} (h : rI a0 a1 a2 a3 a4 a5 a6 a7 = some r) : mc a0 a1 a2 a3 a4 a5 a6 a7 = some (r) := by
 unfold rI at h
 obtain ⟨h1, h2⟩ := aL h
 simp only [Yh] at h2
 subst h2
 have hf := f7 h1
 have q := O3 hf
 obtain ⟨e0, e1, e2, e3, e4, e5, e6, e7⟩ := aR h1
 rw [e0, e1, e2, e3, e4, e5, e6, e7] at q
 exact q
def EQ : HK where
 call := fun args σ k => match args with
  | [.agg [.int .u64 a0, .int .u64 a1, .int .u64 a2, .int .u64 a3, .int .u64 a4, .int .u64 a5, .int .u64 a6, .int .u64 a7]] => Option.bind (rI a0 a1 a2 a3 a4 a5 a6 a7) fun r => k (.ret (.int .i64 r)) σ
  | _ => none
 nat := fun args σ k => by
  repeat' split
  all_goals simp only [Yg, Yf, Ye]
 pure := true
 pok := fun _ args σ r σ' h => by
  split at h
  ·obtain ⟨q, h1, h2⟩ := bE_ h
   simp only [Yh, Yj] at h2
   obtain ⟨rfl, rfl⟩ := h2
   exact ⟨rfl, ⟨_, rfl⟩, fun σ2 => by simp only [h1, Ye]⟩
  ·cases h
theorem ER : aN YI 56 EQ := A7.da fun args σ x h => by
 simp only [EQ] at h
 split at h
 ·rename_i a0 a1 a2 a3 a4 a5 a6 a7
  obtain ⟨r, h1, h2⟩ := bE_ h
  simp only [un, VY h1, Ye]
  exact h2
 ·cases h
theorem Xq {a0 a1 a2 a3 a4 a5 a6 a7 a8 a9 a10 a11 a12 a13 a14 a15 : Int} {r} (h : Ia a0 a1 a2 a3 a4 a5 a6 a7 a8 a9 a10 a11 a12 a13 a14 a15 = some r) : sf a0 a1 a2 a3 a4 a5 a6 a7 a8 a9 a10 a11 a12 a13 a14 a15 = some (r) := by
 unfold Ia at h
 obtain ⟨h1, h2⟩ := aL h
 simp only [Yh] at h2
 subst h2
 rw [Yi] at h1
 obtain ⟨h1, h3⟩ := h1
 have hf := f7 h1
 have hg := f7 h3
 obtain ⟨e0, e1, e2, e3, e4, e5, e6, e7⟩ := aR h1
 obtain ⟨d0, d1, d2, d3, d4, d5, d6, d7⟩ := aR h3
 have q := XN hf hg
 rw [e0, e1, e2, e3, e4, e5, e6, e7, d0, d1, d2, d3, d4, d5, d6, d7] at q
 exact q
def MS : HK where
 call := fun args σ k => match args with
  | [.agg [.int .u64 a0, .int .u64 a1, .int .u64 a2, .int .u64 a3, .int .u64 a4, .int .u64 a5, .int .u64 a6, .int .u64 a7], .agg [.int .u64 a8, .int .u64 a9, .int .u64 a10, .int .u64 a11, .int .u64 a12, .int .u64 a13, .int .u64 a14, .int .u64 a15]] => Option.bind (Ia a0 a1 a2 a3 a4 a5 a6 a7 a8 a9 a10 a11 a12 a13 a14 a15) fun r => k (.ret (.int .i64 r)) σ
  | _ => none
 nat := fun args σ k => by
  repeat' split
  all_goals simp only [Yg, Yf, Ye]
 pure := true
 pok := fun _ args σ r σ' h => by
  split at h
  ·obtain ⟨q, h1, h2⟩ := bE_ h
   simp only [Yh, Yj] at h2
   obtain ⟨rfl, rfl⟩ := h2
   exact ⟨rfl, ⟨_, rfl⟩, fun σ2 => by simp only [h1, Ye]⟩
  ·cases h
theorem Nh : aN YI 47 MS := MD.da fun args σ x h => by
 simp only [MS] at h
 split at h
 ·rename_i a0 a1 a2 a3 a4 a5 a6 a7 a8 a9 a10 a11 a12 a13 a14 a15
  obtain ⟨r, h1, h2⟩ := bE_ h
  simp only [Cl, Xq h1, Ye]
  exact h2
 ·cases h
theorem Xr {a0 a1 a2 a3 a4 a5 a6 a7 : Int} {r} (h : O1 a0 a1 a2 a3 a4 a5 a6 a7 = some r) : sx a0 a1 a2 a3 a4 a5 a6 a7 = some (t9 r.1 r.2) := by
 unfold O1 at h
 obtain ⟨h1, h2⟩ := aL h
 simp only [Yh] at h2
 subst h2
 have hf := f7 h1
 have q := XM hf
 obtain ⟨e0, e1, e2, e3, e4, e5, e6, e7⟩ := aR h1
 rw [e0, e1, e2, e3, e4, e5, e6, e7] at q
 exact q
def Rc : HK where
 call := fun args σ k => match args with
  | [.agg [.int .u64 a0, .int .u64 a1, .int .u64 a2, .int .u64 a3, .int .u64 a4, .int .u64 a5, .int .u64 a6, .int .u64 a7]] => Option.bind (O1 a0 a1 a2 a3 a4 a5 a6 a7) fun r => k (.ret (.tup [.agg [.int .u64 (aa r.1 0), .int .u64 (aa r.1 1), .int .u64 (aa r.1 2), .int .u64 (aa r.1 3), .int .u64 (aa r.1 4), .int .u64 (aa r.1 5), .int .u64 (aa r.1 6), .int .u64 (aa r.1 7)], .bool r.2])) σ
  | _ => none
 nat := fun args σ k => by
  repeat' split
  all_goals simp only [Yg, Yf, Ye]
 pure := true
 pok := fun _ args σ r σ' h => by
  split at h
  ·obtain ⟨q, h1, h2⟩ := bE_ h
   simp only [Yh, Yj] at h2
   obtain ⟨rfl, rfl⟩ := h2
   exact ⟨rfl, ⟨_, rfl⟩, fun σ2 => by simp only [h1, Ye]⟩
  ·cases h
theorem T9 : aN YI 26 Rc := MI.da fun args σ x h => by
 simp only [Rc] at h
 split at h
 ·rename_i a0 a1 a2 a3 a4 a5 a6 a7
  obtain ⟨r, h1, h2⟩ := bE_ h
  simp only [Cs, Xr h1, Ye]
  exact h2
 ·cases h
theorem Xs {a0 a1 a2 a3 a4 a5 a6 a7 a8 a9 a10 a11 a12 a13 a14 a15 : Int} {r} (h : xT a0 a1 a2 a3 a4 a5 a6 a7 a8 a9 a10 a11 a12 a13 a14 a15 = some r) : sd a0 a1 a2 a3 a4 a5 a6 a7 a8 a9 a10 a11 a12 a13 a14 a15 = some (t9 r.1 r.2) := by
 unfold xT at h
 obtain ⟨h1, h2⟩ := aL h
 simp only [Yh] at h2
 subst h2
 rw [Yi] at h1
 obtain ⟨h1, h3⟩ := h1
 have hf := f7 h1
 have hg := f7 h3
 obtain ⟨e0, e1, e2, e3, e4, e5, e6, e7⟩ := aR h1
 obtain ⟨d0, d1, d2, d3, d4, d5, d6, d7⟩ := aR h3
 have q := XL hf hg
 rw [e0, e1, e2, e3, e4, e5, e6, e7, d0, d1, d2, d3, d4, d5, d6, d7] at q
 exact q
def MT : HK where
 call := fun args σ k => match args with
  | [.agg [.int .u64 a0, .int .u64 a1, .int .u64 a2, .int .u64 a3, .int .u64 a4, .int .u64 a5, .int .u64 a6, .int .u64 a7], .agg [.int .u64 a8, .int .u64 a9, .int .u64 a10, .int .u64 a11, .int .u64 a12, .int .u64 a13, .int .u64 a14, .int .u64 a15]] => Option.bind (xT a0 a1 a2 a3 a4 a5 a6 a7 a8 a9 a10 a11 a12 a13 a14 a15) fun r => k (.ret (.tup [.agg [.int .u64 (aa r.1 0), .int .u64 (aa r.1 1), .int .u64 (aa r.1 2), .int .u64 (aa r.1 3), .int .u64 (aa r.1 4), .int .u64 (aa r.1 5), .int .u64 (aa r.1 6), .int .u64 (aa r.1 7)], .bool r.2])) σ
  | _ => none
 nat := fun args σ k => by
  repeat' split
  all_goals simp only [Yg, Yf, Ye]
 pure := true
 pok := fun _ args σ r σ' h => by
  split at h
  ·obtain ⟨q, h1, h2⟩ := bE_ h
   simp only [Yh, Yj] at h2
   obtain ⟨rfl, rfl⟩ := h2
   exact ⟨rfl, ⟨_, rfl⟩, fun σ2 => by simp only [h1, Ye]⟩
  ·cases h
theorem Ni : aN YI 64 MT := MB.da fun args σ x h => by
 simp only [MT] at h
 split at h
 ·rename_i a0 a1 a2 a3 a4 a5 a6 a7 a8 a9 a10 a11 a12 a13 a14 a15
  obtain ⟨r, h1, h2⟩ := bE_ h
  simp only [Ck, Xs h1, Ye]
  exact h2
 ·cases h
theorem Xt {a0 a1 a2 a3 a4 a5 a6 a7 a8 a9 a10 a11 a12 a13 a14 a15 : Int} {r} (h : EM a0 a1 a2 a3 a4 a5 a6 a7 a8 a9 a10 a11 a12 a13 a14 a15 = some r) : oy a0 a1 a2 a3 a4 a5 a6 a7 a8 a9 a10 a11 a12 a13 a14 a15 = some (t9 r.1 r.2) := by
 unfold EM at h
 obtain ⟨h1, h2⟩ := aL h
 simp only [Yh] at h2
 subst h2
 rw [Yi] at h1
 obtain ⟨h1, h3⟩ := h1
 have hf := f7 h1
 have hg := f7 h3
 obtain ⟨e0, e1, e2, e3, e4, e5, e6, e7⟩ := aR h1
 obtain ⟨d0, d1, d2, d3, d4, d5, d6, d7⟩ := aR h3
 have q := UF hf hg
 rw [e0, e1, e2, e3, e4, e5, e6, e7, d0, d1, d2, d3, d4, d5, d6, d7] at q
 exact q
def MU : HK where
 call := fun args σ k => match args with
  | [.agg [.int .u64 a0, .int .u64 a1, .int .u64 a2, .int .u64 a3, .int .u64 a4, .int .u64 a5, .int .u64 a6, .int .u64 a7], .agg [.int .u64 a8, .int .u64 a9, .int .u64 a10, .int .u64 a11, .int .u64 a12, .int .u64 a13, .int .u64 a14, .int .u64 a15]] => Option.bind (EM a0 a1 a2 a3 a4 a5 a6 a7 a8 a9 a10 a11 a12 a13 a14 a15) fun r => k (.ret (.tup [.agg [.int .u64 (aa r.1 0), .int .u64 (aa r.1 1), .int .u64 (aa r.1 2), .int .u64 (aa r.1 3), .int .u64 (aa r.1 4), .int .u64 (aa r.1 5), .int .u64 (aa r.1 6), .int .u64 (aa r.1 7)], .bool r.2])) σ
  | _ => none
 nat := fun args σ k => by
  repeat' split
  all_goals simp only [Yg, Yf, Ye]
 pure := true
 pok := fun _ args σ r σ' h => by
  split at h
  ·obtain ⟨q, h1, h2⟩ := bE_ h
   simp only [Yh, Yj] at h2
   obtain ⟨rfl, rfl⟩ := h2
   exact ⟨rfl, ⟨_, rfl⟩, fun σ2 => by simp only [h1, Ye]⟩
  ·cases h
theorem Nj : aN YI 38 MU := Dn.da fun args σ x h => by
 simp only [MU] at h
 split at h
 ·rename_i a0 a1 a2 a3 a4 a5 a6 a7 a8 a9 a10 a11 a12 a13 a14 a15
  obtain ⟨r, h1, h2⟩ := bE_ h
  simp only [wV, Xt h1, Ye]
  exact h2
 ·cases h
theorem Xu {a0 a1 a2 a3 a4 a5 a6 a7 a8 a9 a10 a11 a12 a13 a14 a15 : Int} {r} (h : xS a0 a1 a2 a3 a4 a5 a6 a7 a8 a9 a10 a11 a12 a13 a14 a15 = some r) : sv a0 a1 a2 a3 a4 a5 a6 a7 a8 a9 a10 a11 a12 a13 a14 a15 = some (t9 r.1 r.2) := by
 unfold xS at h
 obtain ⟨h1, h2⟩ := aL h
 simp only [Yh] at h2
 subst h2
 rw [Yi] at h1
 obtain ⟨h1, h3⟩ := h1
 have hf := f7 h1
 have hg := f7 h3
 obtain ⟨e0, e1, e2, e3, e4, e5, e6, e7⟩ := aR h1
 obtain ⟨d0, d1, d2, d3, d4, d5, d6, d7⟩ := aR h3
 have q := XR hf hg
 rw [e0, e1, e2, e3, e4, e5, e6, e7, d0, d1, d2, d3, d4, d5, d6, d7] at q
 exact q
def JB : HK where
 call := fun args σ k => match args with
  | [.agg [.int .u64 a0, .int .u64 a1, .int .u64 a2, .int .u64 a3, .int .u64 a4, .int .u64 a5, .int .u64 a6, .int .u64 a7], .agg [.int .u64 a8, .int .u64 a9, .int .u64 a10, .int .u64 a11, .int .u64 a12, .int .u64 a13, .int .u64 a14, .int .u64 a15]] => Option.bind (xS a0 a1 a2 a3 a4 a5 a6 a7 a8 a9 a10 a11 a12 a13 a14 a15) fun r => k (.ret (.tup [.agg [.int .u64 (aa r.1 0), .int .u64 (aa r.1 1), .int .u64 (aa r.1 2), .int .u64 (aa r.1 3), .int .u64 (aa r.1 4), .int .u64 (aa r.1 5), .int .u64 (aa r.1 6), .int .u64 (aa r.1 7)], .bool r.2])) σ
  | _ => none
 nat := fun args σ k => by
  repeat' split
  all_goals simp only [Yg, Yf, Ye]
 pure := true
 pok := fun _ args σ r σ' h => by
  split at h
  ·obtain ⟨q, h1, h2⟩ := bE_ h
   simp only [Yh, Yj] at h2
   obtain ⟨rfl, rfl⟩ := h2
   exact ⟨rfl, ⟨_, rfl⟩, fun σ2 => by simp only [h1, Ye]⟩
  ·cases h
theorem Ib : aN YI 63 JB := MG.da fun args σ x h => by
 simp only [JB] at h
 split at h
 ·rename_i a0 a1 a2 a3 a4 a5 a6 a7 a8 a9 a10 a11 a12 a13 a14 a15
  obtain ⟨r, h1, h2⟩ := bE_ h
  simp only [Cr, Xu h1, Ye]
  exact h2
 ·cases h
theorem Xv {a0 a1 a2 a3 a4 a5 a6 a7 a8 a9 a10 a11 a12 a13 a14 a15 : Int} {r} (h : O2 a0 a1 a2 a3 a4 a5 a6 a7 a8 a9 a10 a11 a12 a13 a14 a15 = some r) : lE a0 a1 a2 a3 a4 a5 a6 a7 a8 a9 a10 a11 a12 a13 a14 a15 = some (t17 r.1 r.2.1 r.2.2) := by
 unfold O2 at h
 obtain ⟨h1, h2⟩ := aL h
 simp only [Yh] at h2
 subst h2
 simp only [Yi] at h1
 obtain ⟨h1, h3⟩ := h1
 obtain ⟨h1, h4⟩ := h1
 have hf := f7 h1
 have hg := f7 h4
 obtain ⟨e0, e1, e2, e3, e4, e5, e6, e7⟩ := aR h1
 obtain ⟨d0, d1, d2, d3, d4, d5, d6, d7⟩ := aR h4
 by_cases h0 : num a8 a9 a10 a11 a12 a13 a14 a15 = 0
 ·have q := Xn (a := num a0 a1 a2 a3 a4 a5 a6 a7) hg h0
  rw [e0, e1, e2, e3, e4, e5, e6, e7, d0, d1, d2, d3, d4, d5, d6, d7] at q
  unfold Q6
  rw [Yn h0]
  exact q
 ·rw [Ym h0, Bool.false_or] at h3
  have q := XQ hf hg h0 (ci.1 h3)
  rw [e0, e1, e2, e3, e4, e5, e6, e7, d0, d1, d2, d3, d4, d5, d6, d7] at q
  unfold Q6
  rw [Ym h0, h3]
  exact q
def Re : HK where
 call := fun args σ k => match args with
  | [.agg [.int .u64 a0, .int .u64 a1, .int .u64 a2, .int .u64 a3, .int .u64 a4, .int .u64 a5, .int .u64 a6, .int .u64 a7], .agg [.int .u64 a8, .int .u64 a9, .int .u64 a10, .int .u64 a11, .int .u64 a12, .int .u64 a13, .int .u64 a14, .int .u64 a15]] => Option.bind (O2 a0 a1 a2 a3 a4 a5 a6 a7 a8 a9 a10 a11 a12 a13 a14 a15) fun r => k (.ret (.tup [.agg [.int .u64 (aa r.1 0), .int .u64 (aa r.1 1), .int .u64 (aa r.1 2), .int .u64 (aa r.1 3), .int .u64 (aa r.1 4), .int .u64 (aa r.1 5), .int .u64 (aa r.1 6), .int .u64 (aa r.1 7)], .agg [.int .u64 (aa r.2.1 0), .int .u64 (aa r.2.1 1), .int .u64 (aa r.2.1 2), .int .u64 (aa r.2.1 3), .int .u64 (aa r.2.1 4), .int .u64 (aa r.2.1 5), .int .u64 (aa r.2.1 6), .int .u64 (aa r.2.1 7)], .bool r.2.2])) σ
  | _ => none
 nat := fun args σ k => by
  repeat' split
  all_goals simp only [Yg, Yf, Ye]
 pure := true
 pok := fun _ args σ r σ' h => by
  split at h
  ·obtain ⟨q, h1, h2⟩ := bE_ h
   simp only [Yh, Yj] at h2
   obtain ⟨rfl, rfl⟩ := h2
   exact ⟨rfl, ⟨_, rfl⟩, fun σ2 => by simp only [h1, Ye]⟩
  ·cases h
theorem Ua : aN YI 79 Re := ME.da fun args σ x h => by
 simp only [Re] at h
 split at h
 ·rename_i a0 a1 a2 a3 a4 a5 a6 a7 a8 a9 a10 a11 a12 a13 a14 a15
  obtain ⟨r, h1, h2⟩ := bE_ h
  simp only [Cm, Xv h1, Ye]
  exact h2
 ·cases h
def zo : CH := CH.none
theorem EI : aB YI zo := CH.ay
def et (a0 a1 a2 : Int) : Option (Int) :=
 (cond (decide (a0 < (-268435456))) (some 7) (cond (decide (a0 > 268435456)) (some 7) (cond (decide (a1 < (-268435456))) (some 7) (cond (decide (a1 > 268435456)) (some 7) (cond (decide (a2 < (-268435456))) (some 7) (cond (decide (a2 > 268435456)) (some 7) (some 0)))))))
def oe : FD where
 X := Int
 k := 0
 pre := []
 F := fun s => []
 M := .int .i64
 B := []
 toL := fun x => [.I x]
 ofL := fun ls => match ls with
  | [.I x0] => some x0
  | _ => none
 ar := fun ls x h => by
  split at h
  ·cases h; rfl
  ·cases h
theorem Id (a0 a1 a2 x : Int) (h : et a0 a1 a2 = some x) : aP YI 13 0 [.agg [.int .i64 a0, .int .i64 a1, .int .i64 a2]] [] oe x :=
 FD.sem (ch := zo) (A := bw) (fn := Tryz.f13) (c := br Tryz.f13) (fuel := 60) aK EI mixed bI oe Tryz.func13 (by kernel_rfl) (aH (l := [aJ Tryz.f13 0]) (by kernel_rfl) ⟨(eL (by kernel_rfl)), trivial⟩)
  (by kernel_rfl) (Eq.trans (by kernel_rfl) h)
def iz : HK where
 call := fun args σ k => match args with
  | [.agg [.int .i64 a0, .int .i64 a1, .int .i64 a2]] => Option.bind (et a0 a1 a2) fun y => au σ 0 (oe.val y) (oe.aI y) k
  | _ => none
 nat := fun args σ k => by
  repeat' split
  all_goals simp only [ao, ai, Yg, Yf, au, Ye]
 pure := true
 pok := fun _ args σ r σ' h => by
  split at h
  ·exact aZ h (fun y => rfl) (fun y f => rfl)
  ·cases h
theorem jg : aN YI 13 iz := by
 intro args σ r σ' h
 simp only [iz] at h
 split at h
 ·rename_i a0 a1 a2
  obtain ⟨y, hy, h⟩ := bE_ h
  exact aG (xs := []) (ls := []) (cargs := [.agg [.int .i64 a0, .int .i64 a1, .int .i64 a2]]) (bg.of trivial) rfl (Id a0 a1 a2 y hy) rfl rfl rfl rfl h
 ·cases h
end Go.Ev
namespace Go.Ev
open Go.Proofs
abbrev li8 (x : Int) (r : LA_) : LA_ := .int .u64 (aa x 0) :: .int .u64 (aa x 1) :: .int .u64 (aa x 2) :: .int .u64 (aa x 3) :: .int .u64 (aa x 4) :: .int .u64 (aa x 5) :: .int .u64 (aa x 6) :: .int .u64 (aa x 7) :: r
abbrev be {R : Type} (x : Int) (r : R) : Int × Int × Int × Int × Int × Int × Int × Int × R := (aa x 0, aa x 1, aa x 2, aa x 3, aa x 4, aa x 5, aa x 6, aa x 7, r)
end Go.Ev
namespace Go.Ev
open Go.Proofs
abbrev Ih := (I8 (I8 (Int × Int × Int × Int × Int × Int × Int × Int)))
def Nk : CH := (CH.add 19 K3 CH.none)
theorem JF : aB YI Nk := (CH.aj F0 CH.ay)
def kS (a0 a1 a2 : Int) : Option (Ih) :=
 (Option.bind (cOf a0) fun r1 => (Option.bind (cOf a1) fun r2 => (Option.bind (cOf a2) fun r3 => (some ((aa r1 0), (aa r1 1), (aa r1 2), (aa r1 3), (aa r1 4), (aa r1 5), (aa r1 6), (aa r1 7), (aa r2 0), (aa r2 1), (aa r2 2), (aa r2 3), (aa r2 4), (aa r2 5), (aa r2 6), (aa r2 7), (aa r3 0), (aa r3 1), (aa r3 2), (aa r3 3), (aa r3 4), (aa r3 5), (aa r3 6), (aa r3 7))))))
def ul : FD where
 X := Ih
 k := 0
 pre := []
 F := fun s => []
 M := .agg (rl (.int .u64) 24 [])
 B := []
 toL := fun x => [.I x.1, .I x.2.1, .I x.2.2.1, .I x.2.2.2.1, .I x.s4.1, .I x.s4.2.1, .I x.s4.2.2.1, .I x.s4.2.2.2.1, .I x.s8.1, .I x.s8.2.1, .I x.s8.2.2.1, .I x.s8.2.2.2.1, .I x.s8.s4.1, .I x.s8.s4.2.1, .I x.s8.s4.2.2.1, .I x.s8.s4.2.2.2.1, .I x.s16.1, .I x.s16.2.1, .I x.s16.2.2.1, .I x.s16.2.2.2.1, .I x.s16.s4.1, .I x.s16.s4.2.1, .I x.s16.s4.2.2.1, .I x.s16.s4.2.2.2]
 ofL := fun ls => match ls with
  | [.I x0, .I x1, .I x2, .I x3, .I x4, .I x5, .I x6, .I x7, .I x8, .I x9, .I x10, .I x11, .I x12, .I x13, .I x14, .I x15, .I x16, .I x17, .I x18, .I x19, .I x20, .I x21, .I x22, .I x23] => some (x0, x1, x2, x3, x4, x5, x6, x7, x8, x9, x10, x11, x12, x13, x14, x15, x16, x17, x18, x19, x20, x21, x22, x23)
  | _ => none
 ar := fun ls x h => by
  split at h
  ·cases h; rfl
  ·cases h
theorem Mz (a0 a1 a2 : Int) (x : Ih) (h : kS a0 a1 a2 = some x) : aP YI 62 0 [.agg [.int .i64 a0, .int .i64 a1, .int .i64 a2]] [] ul x :=
 FD.semA ul JF Tryz.func62 (fuel := 60) (by kernel_rfl) (by kernel_rfl)
  (by kernel_rfl) (Eq.trans (by kernel_rfl) h)
def uC : HK where
 call := fun args σ k => match args with
  | [.agg [.int .i64 a0, .int .i64 a1, .int .i64 a2]] => Option.bind (kS a0 a1 a2) fun y => au σ 0 (ul.val y) (ul.aI y) k
  | _ => none
 nat := fun args σ k => by
  repeat' split
  all_goals simp only [ao, ai, Yg, Yf, au, Ye]
 pure := true
 pok := fun _ args σ r σ' h => by
  split at h
  ·exact aZ h (fun y => rfl) (fun y f => rfl)
  ·cases h
theorem xR : aN YI 62 uC := by
 intro args σ r σ' h
 simp only [uC] at h
 split at h
 ·rename_i a0 a1 a2
  obtain ⟨y, hy, h⟩ := bE_ h
  exact aG (xs := []) (ls := []) (cargs := [.agg [.int .i64 a0, .int .i64 a1, .int .i64 a2]]) (bg.of trivial) rfl (Mz a0 a1 a2 y hy) rfl rfl rfl rfl h
 ·cases h
abbrev zU := (I8 Bool)
def xQ : CH := (CH.add 62 uC (CH.add 64 MT (CH.add 63 JB CH.none)))
def zn : CH := xG YI kc [61] 60 xQ 2
theorem DL : aB YI xQ := (CH.aj xR (CH.aj Ni (CH.aj Ib CH.ay)))
theorem EH : aB YI zn := ju aK mixed bI DL 2
def iC (a0 a1 a2 a3 a4 a5 a6 a7 a8 a9 a10 a11 a12 a13 a14 a15 a16 a17 a18 a19 a20 a21 a22 a23 a24 a25 a26 : Int) : Option (zU) :=
 (Option.bind (kS a24 a25 a26) fun r1 => (Option.bind (xS a0 a1 a2 a3 a4 a5 a6 a7 r1.1 r1.2.1 r1.2.2.1 r1.2.2.2.1 r1.2.2.2.2.1 r1.2.2.2.2.2.1 r1.2.2.2.2.2.2.1 r1.2.2.2.2.2.2.2.1) fun r2 => (cond r2.2 (Option.bind (xT 0 0 0 0 0 0 0 0 (aa r2.1 0) (aa r2.1 1) (aa r2.1 2) (aa r2.1 3) (aa r2.1 4) (aa r2.1 5) (aa r2.1 6) (aa r2.1 7)) fun r3 => (cond r3.2 (Option.bind (xS a8 a9 a10 a11 a12 a13 a14 a15 r1.2.2.2.2.2.2.2.2.1 r1.2.2.2.2.2.2.2.2.2.1 r1.2.2.2.2.2.2.2.2.2.2.1 r1.2.2.2.2.2.2.2.2.2.2.2.1 r1.2.2.2.2.2.2.2.2.2.2.2.2.1 r1.2.2.2.2.2.2.2.2.2.2.2.2.2.1 r1.2.2.2.2.2.2.2.2.2.2.2.2.2.2.1 r1.2.2.2.2.2.2.2.2.2.2.2.2.2.2.2.1) fun r4 => (cond r4.2 (Option.bind (xT (aa r3.1 0) (aa r3.1 1) (aa r3.1 2) (aa r3.1 3) (aa r3.1 4) (aa r3.1 5) (aa r3.1 6) (aa r3.1 7) (aa r4.1 0) (aa r4.1 1) (aa r4.1 2) (aa r4.1 3) (aa r4.1 4) (aa r4.1 5) (aa r4.1 6) (aa r4.1 7)) fun r5 => (cond r5.2 (Option.bind (xS a16 a17 a18 a19 a20 a21 a22 a23 r1.2.2.2.2.2.2.2.2.2.2.2.2.2.2.2.2.1 r1.2.2.2.2.2.2.2.2.2.2.2.2.2.2.2.2.2.1 r1.2.2.2.2.2.2.2.2.2.2.2.2.2.2.2.2.2.2.1 r1.2.2.2.2.2.2.2.2.2.2.2.2.2.2.2.2.2.2.2.1 r1.2.2.2.2.2.2.2.2.2.2.2.2.2.2.2.2.2.2.2.2.1 r1.2.2.2.2.2.2.2.2.2.2.2.2.2.2.2.2.2.2.2.2.2.1 r1.2.2.2.2.2.2.2.2.2.2.2.2.2.2.2.2.2.2.2.2.2.2.1 r1.2.2.2.2.2.2.2.2.2.2.2.2.2.2.2.2.2.2.2.2.2.2.2) fun r6 => (cond r6.2 (Option.bind (xT (aa r5.1 0) (aa r5.1 1) (aa r5.1 2) (aa r5.1 3) (aa r5.1 4) (aa r5.1 5) (aa r5.1 6) (aa r5.1 7) (aa r6.1 0) (aa r6.1 1) (aa r6.1 2) (aa r6.1 3) (aa r6.1 4) (aa r6.1 5) (aa r6.1 6) (aa r6.1 7)) fun r7 => (cond r7.2 (some (be r7.1 true)) (some (0, 0, 0, 0, 0, 0, 0, 0, false)))) (some (0, 0, 0, 0, 0, 0, 0, 0, false)))) (some (0, 0, 0, 0, 0, 0, 0, 0, false)))) (some (0, 0, 0, 0, 0, 0, 0, 0, false)))) (some (0, 0, 0, 0, 0, 0, 0, 0, false)))) (some (0, 0, 0, 0, 0, 0, 0, 0, false)))))
def od : FD where
 X := zU
 k := 0
 pre := []
 F := fun s => []
 M := .tup [.agg (rl (.int .u64) 8 []), .bool]
 B := []
 toL := fun x => [.I x.1, .I x.2.1, .I x.2.2.1, .I x.2.2.2.1, .I x.s4.1, .I x.s4.2.1, .I x.s4.2.2.1, .I x.s4.2.2.2.1, .B x.s8]
 ofL := fun ls => match ls with
  | [.I x0, .I x1, .I x2, .I x3, .I x4, .I x5, .I x6, .I x7, .B x8] => some (x0, x1, x2, x3, x4, x5, x6, x7, x8)
  | _ => none
 ar := fun ls x h => by
  split at h
  ·cases h; rfl
  ·cases h
theorem Ic (a0 a1 a2 a3 a4 a5 a6 a7 a8 a9 a10 a11 a12 a13 a14 a15 a16 a17 a18 a19 a20 a21 a22 a23 a24 a25 a26 : Int) (x : zU) (h : iC a0 a1 a2 a3 a4 a5 a6 a7 a8 a9 a10 a11 a12 a13 a14 a15 a16 a17 a18 a19 a20 a21 a22 a23 a24 a25 a26 = some x) : aP YI 46 0 [.agg (v8 a0 a1 a2 a3 a4 a5 a6 a7 (v8 a8 a9 a10 a11 a12 a13 a14 a15 (v8 a16 a17 a18 a19 a20 a21 a22 a23 []))), .agg [.int .i64 a24, .int .i64 a25, .int .i64 a26]] [] od x :=
 FD.V4 (il := fun _ => false) (ch := zn) (A := bw) (fn := Tryz.f46) (c := br Tryz.f46) (fuel := 60) aK EH mixed bI od Tryz.func46 (by kernel_rfl) (aH (l := []) (by kernel_rfl) trivial)
  (by kernel_rfl) (Eq.trans (by kernel_rfl) h)
def mV : HK where
 call := fun args σ k => match args with
  | [.agg [.int .u64 a0, .int .u64 a1, .int .u64 a2, .int .u64 a3, .int .u64 a4, .int .u64 a5, .int .u64 a6, .int .u64 a7, .int .u64 a8, .int .u64 a9, .int .u64 a10, .int .u64 a11, .int .u64 a12, .int .u64 a13, .int .u64 a14, .int .u64 a15, .int .u64 a16, .int .u64 a17, .int .u64 a18, .int .u64 a19, .int .u64 a20, .int .u64 a21, .int .u64 a22, .int .u64 a23], .agg [.int .i64 a24, .int .i64 a25, .int .i64 a26]] => Option.bind (iC a0 a1 a2 a3 a4 a5 a6 a7 a8 a9 a10 a11 a12 a13 a14 a15 a16 a17 a18 a19 a20 a21 a22 a23 a24 a25 a26) fun y => au σ 0 (od.val y) (od.aI y) k
  | _ => none
 nat := fun args σ k => by
  repeat' split
  all_goals simp only [ao, ai, Yg, Yf, au, Ye]
 pure := true
 pok := fun _ args σ r σ' h => by
  split at h
  ·exact aZ h (fun y => rfl) (fun y f => rfl)
  ·cases h
theorem rB : aN YI 46 mV := by
 intro args σ r σ' h
 simp only [mV] at h
 split at h
 ·rename_i a0 a1 a2 a3 a4 a5 a6 a7 a8 a9 a10 a11 a12 a13 a14 a15 a16 a17 a18 a19 a20 a21 a22 a23 a24 a25 a26
  obtain ⟨y, hy, h⟩ := bE_ h
  exact aG (xs := []) (ls := []) (cargs := [.agg (v8 a0 a1 a2 a3 a4 a5 a6 a7 (v8 a8 a9 a10 a11 a12 a13 a14 a15 (v8 a16 a17 a18 a19 a20 a21 a22 a23 []))), .agg [.int .i64 a24, .int .i64 a25, .int .i64 a26]]) (bg.of trivial) rfl (Ic a0 a1 a2 a3 a4 a5 a6 a7 a8 a9 a10 a11 a12 a13 a14 a15 a16 a17 a18 a19 a20 a21 a22 a23 a24 a25 a26 y hy) rfl rfl rfl rfl h
 ·cases h
abbrev EL := Int × Int × Int × Int × Int × Int × Int × Int
def Mx : CH := (CH.add 62 uC (CH.add 46 mV CH.none))
theorem Ig : aB YI Mx := (CH.aj xR (CH.aj rB CH.ay))
def rE (a0 a1 a2 a3 a4 a5 : Int) : Option (EL) :=
 (Option.bind (kS a0 a1 a2) fun r1 => (Option.bind (iC r1.1 r1.2.1 r1.2.2.1 r1.2.2.2.1 r1.2.2.2.2.1 r1.2.2.2.2.2.1 r1.2.2.2.2.2.2.1 r1.2.2.2.2.2.2.2.1 r1.2.2.2.2.2.2.2.2.1 r1.2.2.2.2.2.2.2.2.2.1 r1.2.2.2.2.2.2.2.2.2.2.1 r1.2.2.2.2.2.2.2.2.2.2.2.1 r1.2.2.2.2.2.2.2.2.2.2.2.2.1 r1.2.2.2.2.2.2.2.2.2.2.2.2.2.1 r1.2.2.2.2.2.2.2.2.2.2.2.2.2.2.1 r1.2.2.2.2.2.2.2.2.2.2.2.2.2.2.2.1 r1.2.2.2.2.2.2.2.2.2.2.2.2.2.2.2.2.1 r1.2.2.2.2.2.2.2.2.2.2.2.2.2.2.2.2.2.1 r1.2.2.2.2.2.2.2.2.2.2.2.2.2.2.2.2.2.2.1 r1.2.2.2.2.2.2.2.2.2.2.2.2.2.2.2.2.2.2.2.1 r1.2.2.2.2.2.2.2.2.2.2.2.2.2.2.2.2.2.2.2.2.1 r1.2.2.2.2.2.2.2.2.2.2.2.2.2.2.2.2.2.2.2.2.2.1 r1.2.2.2.2.2.2.2.2.2.2.2.2.2.2.2.2.2.2.2.2.2.2.1 r1.2.2.2.2.2.2.2.2.2.2.2.2.2.2.2.2.2.2.2.2.2.2.2 a3 a4 a5) fun r2 => (cond r2.2.2.2.2.2.2.2.2 (some (r2.1, r2.2.1, r2.2.2.1, r2.2.2.2.1, r2.2.2.2.2.1, r2.2.2.2.2.2.1, r2.2.2.2.2.2.2.1, r2.2.2.2.2.2.2.2.1)) (some (r2.1, r2.2.1, r2.2.2.1, r2.2.2.2.1, r2.2.2.2.2.1, r2.2.2.2.2.2.1, r2.2.2.2.2.2.2.1, r2.2.2.2.2.2.2.2.1)))))
def rF : FD where
 X := EL
 k := 0
 pre := []
 F := fun s => []
 M := .agg (rl (.int .u64) 8 [])
 B := []
 toL := fun x => [.I x.1, .I x.2.1, .I x.2.2.1, .I x.2.2.2.1, .I x.s4.1, .I x.s4.2.1, .I x.s4.2.2.1, .I x.s4.2.2.2]
 ofL := fun ls => match ls with
  | [.I x0, .I x1, .I x2, .I x3, .I x4, .I x5, .I x6, .I x7] => some (x0, x1, x2, x3, x4, x5, x6, x7)
  | _ => none
 ar := fun ls x h => by
  split at h
  ·cases h; rfl
  ·cases h
theorem K1 (a0 a1 a2 a3 a4 a5 : Int) (x : EL) (h : rE a0 a1 a2 a3 a4 a5 = some x) : aP YI 75 0 [.agg [.int .i64 a0, .int .i64 a1, .int .i64 a2], .agg [.int .i64 a3, .int .i64 a4, .int .i64 a5]] [] rF x :=
 FD.semA rF Ig Tryz.func75 (fuel := 60) (by kernel_rfl) (by kernel_rfl)
  (by kernel_rfl) (Eq.trans (by kernel_rfl) h)
def BQ : HK where
 call := fun args σ k => match args with
  | [.agg [.int .i64 a0, .int .i64 a1, .int .i64 a2], .agg [.int .i64 a3, .int .i64 a4, .int .i64 a5]] => Option.bind (rE a0 a1 a2 a3 a4 a5) fun y => au σ 0 (rF.val y) (rF.aI y) k
  | _ => none
 nat := fun args σ k => by
  repeat' split
  all_goals simp only [ao, ai, Yg, Yf, au, Ye]
 pure := true
 pok := fun _ args σ r σ' h => by
  split at h
  ·exact aZ h (fun y => rfl) (fun y f => rfl)
  ·cases h
theorem My : aN YI 75 BQ := by
 intro args σ r σ' h
 simp only [BQ] at h
 split at h
 ·rename_i a0 a1 a2 a3 a4 a5
  obtain ⟨y, hy, h⟩ := bE_ h
  exact aG (xs := []) (ls := []) (cargs := [.agg [.int .i64 a0, .int .i64 a1, .int .i64 a2], .agg [.int .i64 a3, .int .i64 a4, .int .i64 a5]]) (bg.of trivial) rfl (K1 a0 a1 a2 a3 a4 a5 y hy) rfl rfl rfl rfl h
 ·cases h
abbrev BR := Int × Int × Int × Int × Int × Int × Int × Int
def K2 : CH := (CH.add 38 MU CH.none)
theorem GQ : aB YI K2 := (CH.aj Nj CH.ay)
def jI (a0 a1 a2 a3 a4 a5 a6 a7 a8 a9 a10 a11 a12 a13 a14 a15 : Int) : Option (BR) :=
 (Option.bind (EM a0 a1 a2 a3 a4 a5 a6 a7 a8 a9 a10 a11 a12 a13 a14 a15) fun r1 => (cond r1.2 (some ((aa r1.1 0), (aa r1.1 1), (aa r1.1 2), (aa r1.1 3), (aa r1.1 4), (aa r1.1 5), (aa r1.1 6), (aa r1.1 7))) (some ((aa r1.1 0), (aa r1.1 1), (aa r1.1 2), (aa r1.1 3), (aa r1.1 4), (aa r1.1 5), (aa r1.1 6), (aa r1.1 7)))))
def pL : FD where
 X := BR
 k := 0
 pre := []
 F := fun s => []
 M := .agg (rl (.int .u64) 8 [])
 B := []
 toL := fun x => [.I x.1, .I x.2.1, .I x.2.2.1, .I x.2.2.2.1, .I x.s4.1, .I x.s4.2.1, .I x.s4.2.2.1, .I x.s4.2.2.2]
 ofL := fun ls => match ls with
  | [.I x0, .I x1, .I x2, .I x3, .I x4, .I x5, .I x6, .I x7] => some (x0, x1, x2, x3, x4, x5, x6, x7)
  | _ => none
 ar := fun ls x h => by
  split at h
  ·cases h; rfl
  ·cases h
theorem JE (a0 a1 a2 a3 a4 a5 a6 a7 a8 a9 a10 a11 a12 a13 a14 a15 : Int) (x : BR) (h : jI a0 a1 a2 a3 a4 a5 a6 a7 a8 a9 a10 a11 a12 a13 a14 a15 = some x) : aP YI 116 0 [.agg (v8 a0 a1 a2 a3 a4 a5 a6 a7 []), .agg (v8 a8 a9 a10 a11 a12 a13 a14 a15 [])] [] pL x :=
 FD.semA pL GQ Tryz.func116 (fuel := 60) (by kernel_rfl) (by kernel_rfl)
  (by kernel_rfl) (Eq.trans (by kernel_rfl) h)
def zW : HK where
 call := fun args σ k => match args with
  | [.agg [.int .u64 a0, .int .u64 a1, .int .u64 a2, .int .u64 a3, .int .u64 a4, .int .u64 a5, .int .u64 a6, .int .u64 a7], .agg [.int .u64 a8, .int .u64 a9, .int .u64 a10, .int .u64 a11, .int .u64 a12, .int .u64 a13, .int .u64 a14, .int .u64 a15]] => Option.bind (jI a0 a1 a2 a3 a4 a5 a6 a7 a8 a9 a10 a11 a12 a13 a14 a15) fun y => au σ 0 (pL.val y) (pL.aI y) k
  | _ => none
 nat := fun args σ k => by
  repeat' split
  all_goals simp only [ao, ai, Yg, Yf, au, Ye]
 pure := true
 pok := fun _ args σ r σ' h => by
  split at h
  ·exact aZ h (fun y => rfl) (fun y f => rfl)
  ·cases h
theorem KZ : aN YI 116 zW := by
 intro args σ r σ' h
 simp only [zW] at h
 split at h
 ·rename_i a0 a1 a2 a3 a4 a5 a6 a7 a8 a9 a10 a11 a12 a13 a14 a15
  obtain ⟨y, hy, h⟩ := bE_ h
  exact aG (xs := []) (ls := []) (cargs := [.agg (v8 a0 a1 a2 a3 a4 a5 a6 a7 []), .agg (v8 a8 a9 a10 a11 a12 a13 a14 a15 [])]) (bg.of trivial) rfl (JE a0 a1 a2 a3 a4 a5 a6 a7 a8 a9 a10 a11 a12 a13 a14 a15 y hy) rfl rfl rfl rfl h
 ·cases h
end Go.Ev
