import Derived.Test.YtbmjabafceihgaaKah
set_option linter.unusedVariables false
set_option linter.unusedSimpArgs false
set_option maxRecDepth 100000
noncomputable section
namespace Go.Ev
theorem AA (a : Int) : IntKind.wrap .u64 a = a % 18446744073709551616 := by
 simp [IntKind.wrap, IntKind.signed, IntKind.bits]
theorem ce {a : Int} (h : -9223372036854775808 ≤ a ∧ a < 9223372036854775808) : IntKind.wrap .i64 a = a := by
 simp [IntKind.wrap, IntKind.signed, IntKind.bits]
 omega
theorem Sf (a : Int) : aD .u64 a 63 = a / 9223372036854775808 := by
 unfold aD
 rw [Int.fdiv_eq_ediv_of_nonneg _ (by decide)]
 rfl
theorem Sg (a : Int) : aD .i64 a 63 = a / 9223372036854775808 := by
 unfold aD
 rw [Int.fdiv_eq_ediv_of_nonneg _ (by decide)]
 rfl
theorem OS : ∀ (n : Nat) {z : Int}, -18446744073709551616 ≤ z ∧ z < 0 → n ≠ 0 → dv n z = -1
 | 0, z, _, h => absurd rfl h
 | 1, z, h, _ => by show z / _ = -1; omega
 | n + 2, z, h, _ => by show dv (n + 1) z / _ = -1; rw [OS (n + 1) h (by omega)]; rfl
theorem OT : ∀ (n : Nat) {z : Int}, 0 ≤ z ∧ z < 18446744073709551616 → n ≠ 0 → dv n z = 0
 | 0, z, _, h => absurd rfl h
 | 1, z, h, _ => by show z / _ = 0; omega
 | n + 2, z, h, _ => by show dv (n + 1) z / _ = 0; rw [OT (n + 1) h (by omega)]; rfl
theorem Us {x : Int} (h : ba x = true) : su x = some (t8 x) := by
 have hr : -9223372036854775808 ≤ x ∧ x < 9223372036854775808 := by simpa [ba] using h
 unfold su t8
 rw [Sg]
 simp only [AA]
 have h0 : aa x 0 = x % 18446744073709551616 := rfl
 by_cases hx : x < 0
 ·have e : x / 9223372036854775808 = -1 := by omega
  have l : ∀ n, n ≠ 0 → aa x n = -1 % 18446744073709551616 := fun n hn => by unfold aa; rw [OS n ⟨by omega, hx⟩ hn]
  rw [e, h0, l 1 (by decide), l 2 (by decide), l 3 (by decide), l 4 (by decide), l 5 (by decide), l 6 (by decide), l 7 (by decide)]
 ·have e : x / 9223372036854775808 = 0 := by omega
  have l : ∀ n, n ≠ 0 → aa x n = 0 % 18446744073709551616 := fun n hn => by unfold aa; rw [OT n ⟨by omega, by omega⟩ hn]
  rw [e, h0, l 1 (by decide), l 2 (by decide), l 3 (by decide), l 4 (by decide), l 5 (by decide), l 6 (by decide), l 7 (by decide)]
def xH (z : Int) : Bool := decide (9223372036854775808 ≤ aa z 7)
theorem lQ (z : Int) : aj (aa z 0) (aa z 1) (aa z 2) (aa z 3) (aa z 4) (aa z 5) (aa z 6) (aa z 7) = some (xH z) := by
 unfold aj xH
 rw [Sf]
 have := cq z 7
 by_cases h : 9223372036854775808 ≤ aa z 7
 ·have e : aa z 7 / 9223372036854775808 = 1 := by omega
  rw [e, UH h]; rfl
 ·have e : aa z 7 / 9223372036854775808 = 0 := by omega
  rw [e, UG h]; rfl
theorem Nm (z : Int) : aa z 7 = z / 18446744073709551616 / 18446744073709551616 / 18446744073709551616 / 18446744073709551616 / 18446744073709551616 / 18446744073709551616 / 18446744073709551616 % 18446744073709551616 := rfl
theorem dH {z : Int} (h : fit z) : xH z = decide (z < 0) := by
 have e := Nm z
 unfold fit at h
 unfold xH
 by_cases hz : z < 0
 ·have : 9223372036854775808 ≤ aa z 7 := by omega
  rw [UH hz, UH this]
 ·have : ¬ 9223372036854775808 ≤ aa z 7 := by omega
  rw [UG hz, UG this]
theorem If {z : Int} (h : ¬ fit z) (h0 : 0 ≤ z) (h1 : z < 13407807929942597099574024998205846127479365820592393377723561443721764030073546976801874298166903427690031858186486050853753882811946569946433649006084096) : xH z = true := by
 have e := Nm z
 unfold fit at h
 unfold xH
 have : 9223372036854775808 ≤ aa z 7 := by omega
 rw [UH this]
theorem Ig {z : Int} (h : ¬ fit z) (h0 : z < 0) (h1 : -13407807929942597099574024998205846127479365820592393377723561443721764030073546976801874298166903427690031858186486050853753882811946569946433649006084096 ≤ z) : xH z = false := by
 have e := Nm z
 unfold fit at h
 unfold xH
 have : ¬ 9223372036854775808 ≤ aa z 7 := by omega
 rw [UG this]
theorem lR {X Y S c : Int} (hS : S = X + Y + c) (hc : 0 ≤ c ∧ c ≤ 1) : ∃ d, (0 ≤ d ∧ d ≤ 1) ∧ gR (X % 18446744073709551616) (Y % 18446744073709551616) c = some (S % 18446744073709551616, d) ∧
  S / 18446744073709551616 = X / 18446744073709551616 + Y / 18446744073709551616 + d := by
 refine ⟨(X % 18446744073709551616 + Y % 18446744073709551616 + c) / 18446744073709551616, by omega, ?_, by omega⟩
 have h : (decide (0 ≤ X % 18446744073709551616) && decide (0 ≤ Y % 18446744073709551616) && decide (0 ≤ c) && decide (c ≤ 1)) = true := by
  simp only [UC, UI]; omega
 have e : (X % 18446744073709551616 + Y % 18446744073709551616 + c) % 18446744073709551616 = S % 18446744073709551616 := by omega
 unfold gR af
 rw [h, e]
theorem yQ (x y c : Int) (hc : 0 ≤ c ∧ c ≤ 1) : dy (aa x 0) (aa x 1) (aa x 2) (aa x 3) (aa x 4) (aa x 5) (aa x 6) (aa x 7) (aa y 0) (aa y 1) (aa y 2) (aa y 3) (aa y 4) (aa y 5) (aa y 6) (aa y 7) c = some (t8 (x + y + c)) := by
 obtain ⟨c1, h1, e1, q1⟩ := lR (X := x) (Y := y) (S := x + y + c) rfl hc
 obtain ⟨c2, h2, e2, q2⟩ := lR q1 h1
 obtain ⟨c3, h3, e3, q3⟩ := lR q2 h2
 obtain ⟨c4, h4, e4, q4⟩ := lR q3 h3
 obtain ⟨c5, h5, e5, q5⟩ := lR q4 h4
 obtain ⟨c6, h6, e6, q6⟩ := lR q5 h5
 obtain ⟨c7, h7, e7, q7⟩ := lR q6 h6
 obtain ⟨c8, h8, e8, q8⟩ := lR q7 h7
 simp only [dy, aa, dv, e1, e2, e3, e4, e5, e6, e7, e8, Uy, t8]
theorem Qi {a : Int} (h : 0 ≤ a ∧ a < 18446744073709551616) : xw .u64 18446744073709551615 a = 18446744073709551615 - a := by
 unfold xw
 rw [AA]
 obtain ⟨n, rfl⟩ := Int.eq_ofNat_of_zero_le h.1
 have hn : n < 2 ^ 64 := by omega
 have e1 : BitVec.ofInt (IntKind.bits .u64) 18446744073709551615 = BitVec.allOnes 64 := by
  show BitVec.ofInt 64 18446744073709551615 = _
  decide
 have e2 : BitVec.ofInt (IntKind.bits .u64) (n : Int) = BitVec.ofNat 64 n := by
  simp [IntKind.bits, BitVec.ofInt_natCast]
 rw [e1, e2]
 have e3 : BitVec.allOnes 64 ^^^ BitVec.ofNat 64 n = ~~~ (BitVec.ofNat 64 n) := by
  rw [BitVec.not_def]
 have e4 : (BitVec.allOnes 64 ^^^ BitVec.ofNat 64 n).toNat = 2 ^ 64 - 1 - n := by
  rw [e3, BitVec.toNat_not, BitVec.toNat_ofNat, Nat.mod_eq_of_lt hn]
 have e5 : ((BitVec.allOnes 64 ^^^ BitVec.ofNat 64 n).toNat : Int) = 18446744073709551615 - n := by
  rw [e4]; omega
 refine Eq.trans (congrArg (fun z : Int => z % 18446744073709551616) e5) ?_
 show (18446744073709551615 - (n : Int)) % 18446744073709551616 = _
 omega
theorem OU : ∀ (n : Nat) (z : Int), dv n (-z - 1) = -(dv n z) - 1
 | 0, z => rfl
 | n + 1, z => by show dv n (-z - 1) / _ = -(dv n z / _) - 1; rw [OU n z]; omega
theorem Qj (z : Int) (n : Nat) : aa (-z - 1) n = 18446744073709551615 - aa z n := by
 unfold aa; rw [OU]; omega
theorem Ha (z : Int) : ge (aa z 0) (aa z 1) (aa z 2) (aa z 3) (aa z 4) (aa z 5) (aa z 6) (aa z 7) = some (t8 (-z - 1)) := by
 unfold ge t8
 simp only [Qi (cq z _), Qj]
theorem Ih (z : Int) : eH (aa z 0) (aa z 1) (aa z 2) (aa z 3) (aa z 4) (aa z 5) (aa z 6) (aa z 7) = some (t8 (-z)) := by
 have h := yQ (-z - 1) 0 1 ⟨by decide, by decide⟩
 simp only [fy] at h
 have e : -z - 1 + 0 + 1 = -z := by omega
 rw [e] at h
 simp only [eH, Ha, Uy, t8, h]
theorem Hc {z : Int} (h : fit z) : dz (aa z 0) (aa z 1) (aa z 2) (aa z 3) (aa z 4) (aa z 5) (aa z 6) (aa z 7) = some (t8 (z.natAbs : Int)) := by
 simp only [dz, lQ, dH h, Uy, Ih]
 by_cases hz : z < 0
 ·have e : (z.natAbs : Int) = -z := by omega
  rw [UH hz, e]; rfl
 ·have e : (z.natAbs : Int) = z := by omega
  rw [UG hz, e]; rfl
theorem T4 {x y : Int} (hx : fit x) (hy : fit y) :
  pN (aa x 0) (aa x 1) (aa x 2) (aa x 3) (aa x 4) (aa x 5) (aa x 6) (aa x 7) (aa y 0) (aa y 1) (aa y 2) (aa y 3) (aa y 4) (aa y 5) (aa y 6) (aa y 7) =
   some (t9 (fV (x + y)).1 (fV (x + y)).2) := by
 simp only [pN, yQ x y 0 ⟨by decide, by decide⟩, Int.add_zero, Uy, t8, lQ, dH hx, dH hy]
 by_cases hs : fit (x + y)
 ·rw [dH hs]
  unfold fV
  rw [bY.2 hs]
  by_cases h1 : x < 0 <;> by_cases h2 : y < 0 <;> by_cases h3 : x + y < 0 <;> simp [h1, h2, h3, t9] <;> omega
 ·unfold fV
  rw [qz.2 hs]
  simp only [t9, fy]
  by_cases h1 : x + y < 0
  ·rw [Ig hs h1 (by unfold fit at hx hy; omega)]
   have : x < 0 ∧ y < 0 := by unfold fit at hx hy hs; omega
   simp [this, fy]
  ·rw [If hs (by omega) (by unfold fit at hx hy; omega)]
   have : ¬ x < 0 ∧ ¬ y < 0 := by unfold fit at hx hy hs; omega
   simp [this, fy]
theorem QY {x y : Int} (hx : fit x) (hy : fit y) :
  mi (aa x 0) (aa x 1) (aa x 2) (aa x 3) (aa x 4) (aa x 5) (aa x 6) (aa x 7) (aa y 0) (aa y 1) (aa y 2) (aa y 3) (aa y 4) (aa y 5) (aa y 6) (aa y 7) =
   some (t9 (fV (x - y)).1 (fV (x - y)).2) := by
 have h := yQ x (-y - 1) 1 ⟨by decide, by decide⟩
 have e : x + (-y - 1) + 1 = x - y := by omega
 rw [e] at h
 simp only [mi, Ha, h, Uy, t8, lQ, dH hx, dH hy]
 by_cases hs : fit (x - y)
 ·rw [dH hs]
  unfold fV
  rw [bY.2 hs]
  by_cases h1 : x < 0 <;> by_cases h2 : y < 0 <;> by_cases h3 : x - y < 0 <;> simp [h1, h2, h3, t9] <;> omega
 ·unfold fV
  rw [qz.2 hs]
  simp only [t9, fy]
  by_cases h1 : x - y < 0
  ·rw [Ig hs h1 (by unfold fit at hx hy; omega)]
   have : x < 0 ∧ ¬ y < 0 := by unfold fit at hx hy hs; omega
   simp [this, fy]
  ·rw [If hs (by omega) (by unfold fit at hx hy; omega)]
   have : ¬ x < 0 ∧ y < 0 := by unfold fit at hx hy hs; omega
   simp [this, fy]
theorem xF : fit 0 := by unfold fit; omega
theorem T5 {x : Int} (hx : fit x) : pZ (aa x 0) (aa x 1) (aa x 2) (aa x 3) (aa x 4) (aa x 5) (aa x 6) (aa x 7) = some (t9 (fV (0 - x)).1 (fV (0 - x)).2) := by
 have h := QY xF hx
 simp only [fy] at h
 simp only [pZ, h, Uy]
 unfold fV
 cases fh (0 - x) <;> rfl
theorem H8 {x y : Int} (hx : fit x) (hy : fit y) : (aa x 0 == aa y 0 && (aa x 1 == aa y 1 && (aa x 2 == aa y 2 && (aa x 3 == aa y 3 && (aa x 4 == aa y 4 && (aa x 5 == aa y 5 && (aa x 6 == aa y 6 && (aa x 7 == aa y 7 && true)))))))) = decide (x = y) := by
 by_cases h : x = y
 ·subst h; simp
 ·rw [UG h]
  apply Bool.eq_false_iff.2
  intro q
  simp only [UC, beq_iff_eq, Bool.and_true] at q
  obtain ⟨h0, h1, h2, h3, h4, h5, h6, h7⟩ := q
  apply h
  rw [← aI hx, ← aI hy, h0, h1, h2, h3, h4, h5, h6, h7]
theorem Lb {x : Int} (hx : fit x) : kl (aa x 0) (aa x 1) (aa x 2) (aa x 3) (aa x 4) (aa x 5) (aa x 6) (aa x 7) = some (sgn x) := by
 have h := H8 hx xF
 simp only [fy] at h
 simp only [kl, lQ, dH hx, Uy, h, sgn]
 by_cases h1 : x < 0 <;> by_cases h2 : x = 0 <;> simp [h1, h2]
theorem gt (i : Nat) : decide (0 ≤ (i : Int)) = true := by simp
theorem Nn (i : Nat) : decide ((i : Int) ≥ 0) = true := by simp
theorem xI {i : Nat} (h : i < 8) : decide ((i : Int) < ((8 : Nat) : Int)) = true := UH (by omega)
theorem lS : ∀ (i : Nat) (l : List Int), lv l = lv (l.take i) + 18446744073709551616 ^ i * lv (l.drop i)
 | 0, l => by simp [lv]
 | i + 1, [] => by simp [lv]
 | i + 1, a :: r => by
  have ih := lS i r
  simp only [List.take_succ_cons, List.drop_succ_cons, lv, Int.pow_succ]
  rw [ih, Int.mul_add, Int.mul_comm ((18446744073709551616 : Int) ^ i) 18446744073709551616, Int.mul_assoc]
  omega
theorem rL.take {l : List Int} (h : rL l) (i : Nat) : rL (l.take i) := fun x hx => h x (List.mem_of_mem_take hx)
theorem rL.drop {l : List Int} (h : rL l) (i : Nat) : rL (l.drop i) := fun x hx => h x (List.mem_of_mem_drop hx)
theorem oS {l : List Int} {i : Nat} (h : i < l.length) : l.drop i = l.getD i 0 :: l.drop (i + 1) := by
 rw [List.drop_eq_getElem_cons h, UK, UJ h]; rfl
theorem FA (i : Nat) : (0 : Int) < 18446744073709551616 ^ i := Int.pow_pos (by decide)
theorem QZ {l m : List Int} (h1 : rL l) (h2 : rL m) {i : Nat} (hl : i < l.length) (hm : i < m.length) (hd : l.drop (i + 1) = m.drop (i + 1)) (hi : l.getD i 0 < m.getD i 0) : lv l < lv m := by
 rw [lS i l, lS i m, oS hl, oS hm, hd]
 simp only [lv, Int.mul_add]
 have a1 := oA (h1.take i)
 have a2 := oA (h2.take i)
 rw [List.length_take, Nat.min_eq_left (by omega)] at a1 a2
 have p := FA i
 generalize (18446744073709551616 : Int) ^ i = q at *
 have : q * (l.getD i 0 + 1) ≤ q * m.getD i 0 := UU (by omega) (by omega)
 rw [Int.mul_add] at this
 omega
theorem No {l m : List Int} (h1 : rL l) (h2 : rL m) (hl : l.length = 8) (hm : m.length = 8) (p q : Nat) :
  ∃ e, wu (LL l, p, LL m, q) 7 = some e ∧ Sum.elim id (fun _ => 0) e = sgn (lv l - lv m) := by
 refine gv (step := n9 (LL l, p, LL m, q)) (fun v => ∃ i : Nat, v = (i : Int) - 1 ∧ i ≤ 8 ∧ l.drop i = m.drop i) (fun v => (v + 1).toNat) _ ?_ (by decide)
  ⟨8, rfl, Nat.le_refl _, by rw [List.drop_eq_nil_of_le (by omega), List.drop_eq_nil_of_le (by omega)]⟩
 rintro v ⟨i, rfl, hi, hd⟩
 cases i with
 | zero =>
  refine .inr ⟨.inr (), rfl, ?_⟩
  simp only [List.drop_zero] at hd
  rw [hd, Int.sub_self]; rfl
 | succ i =>
  have e : ((i + 1 : Nat) : Int) - 1 = (i : Int) := by omega
  rw [e]
  have hi8 : i < 8 := by omega
  have h3 : IntKind.wrap .i64 ((i : Int) - 1) = (i : Int) - 1 := ce (by omega)
  simp only [n9, fa, gt, Nn, xI hi8, h3, cond_true, aw, UF, Int.toNat_natCast, Nat.mul_one, Nat.zero_add, Nat.add_zero, rI, jt, hl, hm, UH hi8]
  by_cases hne : l.getD i 0 = m.getD i 0
  ·refine .inl ⟨(i : Int) - 1, ?_, ⟨i, rfl, by omega, ?_⟩, by omega⟩
   ·rw [hne]; simp
   ·rw [oS (by omega), oS (l := m) (by omega), hne, hd]
  ·have hb : (l.getD i 0 != m.getD i 0) = true := by simpa using hne
   rw [hb]
   by_cases hlt : l.getD i 0 < m.getD i 0
   ·refine .inr ⟨.inl (-1), by rw [UH hlt]; rfl, ?_⟩
    have := QZ h1 h2 (by omega) (by omega) hd hlt
    have a : lv l - lv m < 0 := by omega
    simp [sgn, Sum.elim, a]
   ·refine .inr ⟨.inl 1, by rw [UG hlt]; rfl, ?_⟩
    have := QZ h2 h1 (by omega) (by omega) hd.symm (by omega)
    have a : ¬ lv l - lv m < 0 := by omega
    have b : ¬ lv l - lv m = 0 := by omega
    simp [sgn, Sum.elim, a, b]
def l8 (z : Int) : List Int := [aa z 0, aa z 1, aa z 2, aa z 3, aa z 4, aa z 5, aa z 6, aa z 7]
theorem qA (z : Int) : (l8 z).length = 8 := rfl
theorem He (z : Int) : rL (l8 z) := by
 intro x hx
 simp only [l8, List.mem_cons, List.not_mem_nil, or_false] at hx
 rcases hx with h | h | h | h | h | h | h | h <;> rw [h] <;> exact cq _ _
theorem Db {z : Int} (h0 : 0 ≤ z) (h1 : z < 13407807929942597099574024998205846127479365820592393377723561443721764030073546976801874298166903427690031858186486050853753882811946569946433649006084096) : lv (l8 z) = z := by
 have e := CF z
 have e8 : dv 8 z = 0 := by
  have : dv 8 z = z / 18446744073709551616 / 18446744073709551616 / 18446744073709551616 / 18446744073709551616 / 18446744073709551616 / 18446744073709551616 / 18446744073709551616 / 18446744073709551616 := rfl
  omega
 rw [e8] at e
 rw [l8, lv8]; omega
theorem Q0 {l : List Int} (h : rL l) (hl : l.length = 8) : l = l8 (lv l) := by
 match l, hl with
 | [a, b, c, d, e, f, g, k], _ =>
  rw [lv8]
  have h0 := h a (by simp)
  have h1 := h b (by simp)
  have h2 := h c (by simp)
  have h3 := h d (by simp)
  have h4 := h e (by simp)
  have h5 := h f (by simp)
  have h6 := h g (by simp)
  have h7 := h k (by simp)
  have := wT (k := 0) (a := a) (b := b) (c := c) (d := d) (e := e) (f := f) (g := g) (h := k) (by simp [ok8, rng, *]) (oz a b c d e f g k) (by omega)
  obtain ⟨q0, q1, q2, q3, q4, q5, q6, q7, _⟩ := this
  rw [l8, q0, q1, q2, q3, q4, q5, q6, q7]
theorem OV {l : List Int} (h : rL l) (hl : l.length = 8) : 0 ≤ lv l ∧ lv l < 13407807929942597099574024998205846127479365820592393377723561443721764030073546976801874298166903427690031858186486050853753882811946569946433649006084096 := by
 have := oA h
 rw [hl] at this
 exact this
def cd (z : Int) : Prop := 0 ≤ z ∧ z < 13407807929942597099574024998205846127479365820592393377723561443721764030073546976801874298166903427690031858186486050853753882811946569946433649006084096
theorem Ii {x y : Int} (hx : cd x) (hy : cd y) : gI (aa x 0) (aa x 1) (aa x 2) (aa x 3) (aa x 4) (aa x 5) (aa x 6) (aa x 7) (aa y 0) (aa y 1) (aa y 2) (aa y 3) (aa y 4) (aa y 5) (aa y 6) (aa y 7) = some (sgn (x - y)) := by
 obtain ⟨e, h1, h2⟩ := No (He x) (He y) rfl rfl 1 1
 rw [Db hx.1 hx.2, Db hy.1 hy.2] at h2
 unfold gI
 simp only [Az]
 rw [show [aa x 0, aa x 1, aa x 2, aa x 3, aa x 4, aa x 5, aa x 6, aa x 7] = l8 x from rfl, show [aa y 0, aa y 1, aa y 2, aa y 3, aa y 4, aa y 5, aa y 6, aa y 7] = l8 y from rfl, h1, Uy]
 rw [← h2]
 cases e <;> rfl
theorem da (z k : Int) : ∀ n, n < 8 → aa (z + 13407807929942597099574024998205846127479365820592393377723561443721764030073546976801874298166903427690031858186486050853753882811946569946433649006084096 * k) n = aa z n := by
 intro n hn
 have e := CF z
 have := wT (k := dv 8 z + k) (bA z) (z + 13407807929942597099574024998205846127479365820592393377723561443721764030073546976801874298166903427690031858186486050853753882811946569946433649006084096 * k) (by rw [Int.mul_add]; omega)
 obtain ⟨q0, q1, q2, q3, q4, q5, q6, q7, _⟩ := this
 match n, hn with
 | 0, _ => exact q0
 | 1, _ => exact q1
 | 2, _ => exact q2
 | 3, _ => exact q3
 | 4, _ => exact q4
 | 5, _ => exact q5
 | 6, _ => exact q6
 | 7, _ => exact q7
theorem T6 {x y : Int} (hx : fit x) (hy : fit y) : pP (aa x 0) (aa x 1) (aa x 2) (aa x 3) (aa x 4) (aa x 5) (aa x 6) (aa x 7) (aa y 0) (aa y 1) (aa y 2) (aa y 3) (aa y 4) (aa y 5) (aa y 6) (aa y 7) = some (sgn (x - y)) := by
 simp only [pP, lQ, dH hx, dH hy, Uy]
 by_cases h1 : x < 0 <;> by_cases h2 : y < 0
 ·have ex : ∀ n, n < 8 → aa x n = aa (x + 13407807929942597099574024998205846127479365820592393377723561443721764030073546976801874298166903427690031858186486050853753882811946569946433649006084096 * 1) n := fun n hn => (da x 1 n hn).symm
  have ey : ∀ n, n < 8 → aa y n = aa (y + 13407807929942597099574024998205846127479365820592393377723561443721764030073546976801874298166903427690031858186486050853753882811946569946433649006084096 * 1) n := fun n hn => (da y 1 n hn).symm
  have h := Ii (x := x + 13407807929942597099574024998205846127479365820592393377723561443721764030073546976801874298166903427690031858186486050853753882811946569946433649006084096 * 1) (y := y + 13407807929942597099574024998205846127479365820592393377723561443721764030073546976801874298166903427690031858186486050853753882811946569946433649006084096 * 1)
   (by unfold fit at hx; unfold cd; omega) (by unfold fit at hy; unfold cd; omega)
  simp only [da x 1 _ (show 0 < 8 by omega), da x 1 _ (show 1 < 8 by omega), da x 1 _ (show 2 < 8 by omega), da x 1 _ (show 3 < 8 by omega), da x 1 _ (show 4 < 8 by omega), da x 1 _ (show 5 < 8 by omega), da x 1 _ (show 6 < 8 by omega), da x 1 _ (show 7 < 8 by omega),
   da y 1 _ (show 0 < 8 by omega), da y 1 _ (show 1 < 8 by omega), da y 1 _ (show 2 < 8 by omega), da y 1 _ (show 3 < 8 by omega), da y 1 _ (show 4 < 8 by omega), da y 1 _ (show 5 < 8 by omega), da y 1 _ (show 6 < 8 by omega), da y 1 _ (show 7 < 8 by omega)] at h
  simp only [h1, h2, decide_true, cond_true, h, Uy]
  congr 1
  congr 1
  omega
 ·simp only [h1, h2, decide_true, decide_false, cond_true, cond_false]
  have : x - y < 0 := by omega
  simp [sgn, this]
 ·simp only [h1, h2, decide_true, decide_false, cond_true, cond_false]
  have a : ¬ x - y < 0 := by omega
  have b : ¬ x - y = 0 := by omega
  simp [sgn, a, b]
 ·have h := Ii (x := x) (y := y) (by unfold fit at hx; unfold cd; omega) (by unfold fit at hy; unfold cd; omega)
  simp only [h1, h2, decide_false, cond_false, h, Uy]
def FB : ByteArray := ⟨#[0, 1, 2, 2, 3, 3, 3, 3, 4, 4, 4, 4, 4, 4, 4, 4, 5, 5, 5, 5, 5, 5, 5, 5, 5, 5, 5, 5, 5, 5, 5, 5, 6, 6, 6, 6, 6, 6, 6, 6, 6, 6, 6, 6, 6, 6, 6, 6, 6, 6, 6, 6, 6, 6, 6, 6, 6, 6, 6, 6, 6, 6, 6, 6, 7, 7, 7, 7, 7, 7, 7, 7, 7, 7, 7, 7, 7, 7, 7, 7, 7, 7, 7, 7, 7, 7, 7, 7, 7, 7, 7, 7, 7, 7, 7, 7, 7, 7, 7, 7, 7, 7, 7, 7, 7, 7, 7, 7, 7, 7, 7, 7, 7, 7, 7, 7, 7, 7, 7, 7, 7, 7, 7, 7, 7, 7, 7, 7, 8, 8, 8, 8, 8, 8, 8, 8, 8, 8, 8, 8, 8, 8, 8, 8, 8, 8, 8, 8, 8, 8, 8, 8, 8, 8, 8, 8, 8, 8, 8, 8, 8, 8, 8, 8, 8, 8, 8, 8, 8, 8, 8, 8, 8, 8, 8, 8, 8, 8, 8, 8, 8, 8, 8, 8, 8, 8, 8, 8, 8, 8, 8, 8, 8, 8, 8, 8, 8, 8, 8, 8, 8, 8, 8, 8, 8, 8, 8, 8, 8, 8, 8, 8, 8, 8, 8, 8, 8, 8, 8, 8, 8, 8, 8, 8, 8, 8, 8, 8, 8, 8, 8, 8, 8, 8, 8, 8, 8, 8, 8, 8, 8, 8, 8, 8, 8, 8, 8, 8, 8, 8, 8, 8, 8, 8, 8, 8]⟩
def OW (T : ByteArray) (a0 : Int) : Option Int :=
 (cond (decide (a0 ≥ 4294967296)) (cond (decide ((aD .u64 a0 32) ≥ 65536)) (cond (decide ((aD .u64 (aD .u64 a0 32) 16) ≥ 256)) (af (decide (0 ≤ (IntKind.wrap .u8 (aD .u64 (aD .u64 (aD .u64 a0 32) 16) 8))) && decide ((IntKind.wrap .u8 (aD .u64 (aD .u64 (aD .u64 a0 32) 16) 8)) < ((ByteArray.size T : Nat) : Int))) (some (IntKind.wrap .i64 (56 + (IntKind.wrap .i64 (dN T (Int.toNat (IntKind.wrap .u8 (aD .u64 (aD .u64 (aD .u64 a0 32) 16) 8))))))))) (af (decide (0 ≤ (IntKind.wrap .u8 (aD .u64 (aD .u64 a0 32) 16))) && decide ((IntKind.wrap .u8 (aD .u64 (aD .u64 a0 32) 16)) < ((ByteArray.size T : Nat) : Int))) (some (IntKind.wrap .i64 (48 + (IntKind.wrap .i64 (dN T (Int.toNat (IntKind.wrap .u8 (aD .u64 (aD .u64 a0 32) 16)))))))))) (cond (decide ((aD .u64 a0 32) ≥ 256)) (af (decide (0 ≤ (IntKind.wrap .u8 (aD .u64 (aD .u64 a0 32) 8))) && decide ((IntKind.wrap .u8 (aD .u64 (aD .u64 a0 32) 8)) < ((ByteArray.size T : Nat) : Int))) (some (IntKind.wrap .i64 (40 + (IntKind.wrap .i64 (dN T (Int.toNat (IntKind.wrap .u8 (aD .u64 (aD .u64 a0 32) 8))))))))) (af (decide (0 ≤ (IntKind.wrap .u8 (aD .u64 a0 32))) && decide ((IntKind.wrap .u8 (aD .u64 a0 32)) < ((ByteArray.size T : Nat) : Int))) (some (IntKind.wrap .i64 (32 + (IntKind.wrap .i64 (dN T (Int.toNat (IntKind.wrap .u8 (aD .u64 a0 32))))))))))) (cond (decide (a0 ≥ 65536)) (cond (decide ((aD .u64 a0 16) ≥ 256)) (af (decide (0 ≤ (IntKind.wrap .u8 (aD .u64 (aD .u64 a0 16) 8))) && decide ((IntKind.wrap .u8 (aD .u64 (aD .u64 a0 16) 8)) < ((ByteArray.size T : Nat) : Int))) (some (IntKind.wrap .i64 (24 + (IntKind.wrap .i64 (dN T (Int.toNat (IntKind.wrap .u8 (aD .u64 (aD .u64 a0 16) 8))))))))) (af (decide (0 ≤ (IntKind.wrap .u8 (aD .u64 a0 16))) && decide ((IntKind.wrap .u8 (aD .u64 a0 16)) < ((ByteArray.size T : Nat) : Int))) (some (IntKind.wrap .i64 (16 + (IntKind.wrap .i64 (dN T (Int.toNat (IntKind.wrap .u8 (aD .u64 a0 16)))))))))) (cond (decide (a0 ≥ 256)) (af (decide (0 ≤ (IntKind.wrap .u8 (aD .u64 a0 8))) && decide ((IntKind.wrap .u8 (aD .u64 a0 8)) < ((ByteArray.size T : Nat) : Int))) (some (IntKind.wrap .i64 (8 + (IntKind.wrap .i64 (dN T (Int.toNat (IntKind.wrap .u8 (aD .u64 a0 8))))))))) (af (decide (0 ≤ (IntKind.wrap .u8 a0)) && decide ((IntKind.wrap .u8 a0) < ((ByteArray.size T : Nat) : Int))) (some (IntKind.wrap .i64 (0 + (IntKind.wrap .i64 (dN T (Int.toNat (IntKind.wrap .u8 a0)))))))))))
theorem Qk (a : Int) : fX a = OW FB a := rfl
theorem Ql : ∀ b : Fin 256, dN FB b.val = eJ b.val := by decide
theorem OX : FB.size = 256 := by decide
theorem CG {a : Int} (k : Nat) (hk : k ≤ 64) : aD .u64 a (k : Int) = a / ((2 ^ k : Nat) : Int) := by
 unfold aD
 have e : min (Int.toNat (k : Int)) (IntKind.bits .u64) = k := by simp [IntKind.bits]; omega
 rw [e, Int.fdiv_eq_ediv_of_nonneg]
 ·congr 1
 ·exact Int.pow_nonneg (by decide)
theorem Ef {n k : Nat} (h1 : 2 ^ k ≤ n) (h2 : n < 2 ^ (k + 1)) : eJ n = (k + 1 : Nat) := by
 have h0 : n ≠ 0 := by have := Nat.two_pow_pos k; omega
 have e : Nat.log2 n = k := by
  have a : k ≤ Nat.log2 n := (Nat.le_log2 h0).2 h1
  have b : Nat.log2 n < k + 1 := (Nat.log2_lt h0).2 h2
  omega
 unfold eJ
 have : Nat.beq n 0 = false := by cases hb : Nat.beq n 0 with
  | false => rfl
  | true => exact absurd (UR hb) h0
 rw [this, e]; rfl
theorem vO {n : Nat} (h0 : n ≠ 0) : ∃ k, eJ n = (k + 1 : Nat) ∧ 2 ^ k ≤ n ∧ n < 2 ^ (k + 1) :=
 ⟨Nat.log2 n, Ef ((Nat.le_log2 h0).1 (Nat.le_refl _)) ((Nat.log2_lt h0).1 (Nat.lt_succ_self _)), (Nat.le_log2 h0).1 (Nat.le_refl _), (Nat.log2_lt h0).1 (Nat.lt_succ_self _)⟩
theorem Np {n b k : Nat} (h0 : b ≠ 0) (h1 : b * 2 ^ k ≤ n) (h2 : n < (b + 1) * 2 ^ k) : eJ n = k + eJ b := by
 obtain ⟨j, e, h3, h4⟩ := vO h0
 rw [e, Ef (n := n) (k := k + j)]
 ·omega
 ·rw [Nat.pow_add, Nat.mul_comm]
  exact Nat.le_trans (Nat.mul_le_mul_right _ h3) h1
 ·have : b + 1 ≤ 2 ^ (j + 1) := h4
  refine Nat.lt_of_lt_of_le h2 (Nat.le_trans (Nat.mul_le_mul_right _ this) ?_)
  rw [← Nat.pow_add]
  exact Nat.le_of_eq (congrArg _ (by omega))
theorem Dc {n k : Nat} (h : n < 2 ^ k) : 0 ≤ eJ n ∧ eJ n ≤ k := by
 by_cases h0 : n = 0
 ·subst h0; simp [eJ]
 ·obtain ⟨j, e, h3, h4⟩ := vO h0
  rw [e]
  have : j < k := by
   apply Nat.lt_of_not_le
   intro hk
   have := Nat.pow_le_pow_right (n := 2) (by decide) hk
   omega
  omega
theorem T7 {a : Int} (h : 0 ≤ a ∧ a < 256) : IntKind.wrap .u8 a = a := by
 simp [IntKind.wrap, IntKind.signed, IntKind.bits]; omega
theorem lT (c : Int) {b : Int} (hb : 0 ≤ b ∧ b < 256) (hc : 0 ≤ c ∧ c ≤ 56) : af (decide (0 ≤ (IntKind.wrap .u8 b)) && decide ((IntKind.wrap .u8 b) < ((ByteArray.size FB : Nat) : Int))) (some (IntKind.wrap .i64 (c + (IntKind.wrap .i64 (dN FB (Int.toNat (IntKind.wrap .u8 b))))))) = some (c + eJ b.toNat) := by
 have h := Ql ⟨b.toNat, by omega⟩
 have hl := Dc (n := b.toNat) (k := 8) (by omega)
 simp only at h
 rw [T7 hb, h, OX, ce (a := eJ b.toNat) (by omega), ce (by omega), UH (show 0 ≤ b by omega), UH (show b < ((256 : Nat) : Int) by omega)]
 rfl
theorem OY {b : Int} (hb : 0 ≤ b ∧ b < 256) : af (decide (0 ≤ (IntKind.wrap .u8 b)) && decide ((IntKind.wrap .u8 b) < ((ByteArray.size FB : Nat) : Int))) (some (IntKind.wrap .i64 (0 + (IntKind.wrap .i64 (dN FB (Int.toNat (IntKind.wrap .u8 b))))))) = some (eJ b.toNat) := by
 rw [lT 0 hb (by decide), Int.zero_add]
theorem AB {a : Int} : aD .u64 a 32 = a / 4294967296 ∧ aD .u64 a 16 = a / 65536 ∧ aD .u64 a 8 = a / 256 :=
 ⟨CG 32 (by decide), CG 16 (by decide), CG 8 (by decide)⟩
theorem oT {a b : Int} (k : Nat) (hb : 0 < b) (h1 : b * ((2 ^ k : Nat) : Int) ≤ a) (h2 : a < (b + 1) * ((2 ^ k : Nat) : Int)) : eJ a.toNat = (k : Int) + eJ b.toNat := by
 have e1 : ((b.toNat : Nat) : Int) = b := by omega
 have hp : (0 : Int) < ((2 ^ k : Nat) : Int) := by have := Nat.two_pow_pos k; omega
 have ha : 0 ≤ a := Int.le_trans (Int.mul_nonneg (by omega) (by omega)) h1
 have e2 : ((a.toNat : Nat) : Int) = a := by omega
 refine Np (n := a.toNat) (b := b.toNat) (k := k) (by omega) ?_ ?_
 ·have : ((b.toNat * 2 ^ k : Nat) : Int) ≤ ((a.toNat : Nat) : Int) := by rw [Int.natCast_mul, e1, e2]; exact h1
  omega
 ·have : ((a.toNat : Nat) : Int) < (((b.toNat + 1) * 2 ^ k : Nat) : Int) := by rw [Int.natCast_mul, e2]; push_cast; rw [e1]; push_cast at h2; exact h2
  omega
theorem Sh {a : Int} (h : 0 ≤ a ∧ a < 18446744073709551616) : fX a = some (eJ a.toNat) := by
 rw [Qk]
 unfold OW
 simp only [AB.1, AB.2.1, AB.2.2]
 by_cases h1 : a ≥ 4294967296
 ·rw [UH h1, cond_true]
  by_cases h2 : a / 4294967296 ≥ 65536
  ·rw [UH h2, cond_true]
   by_cases h3 : a / 4294967296 / 65536 ≥ 256
   ·rw [UH h3, cond_true, lT 56 (by omega) (by decide), oT (a := a) (b := a / 4294967296 / 65536 / 256) 56 (by omega) (by omega) (by omega)]; rfl
   ·rw [UG h3, cond_false, lT 48 (by omega) (by decide), oT (a := a) (b := a / 4294967296 / 65536) 48 (by omega) (by omega) (by omega)]; rfl
  ·rw [UG h2, cond_false]
   by_cases h3 : a / 4294967296 ≥ 256
   ·rw [UH h3, cond_true, lT 40 (by omega) (by decide), oT (a := a) (b := a / 4294967296 / 256) 40 (by omega) (by omega) (by omega)]; rfl
   ·rw [UG h3, cond_false, lT 32 (by omega) (by decide), oT (a := a) (b := a / 4294967296) 32 (by omega) (by omega) (by omega)]; rfl
 ·rw [UG h1, cond_false]
  by_cases h2 : a ≥ 65536
  ·rw [UH h2, cond_true]
   by_cases h3 : a / 65536 ≥ 256
   ·rw [UH h3, cond_true, lT 24 (by omega) (by decide), oT (a := a) (b := a / 65536 / 256) 24 (by omega) (by omega) (by omega)]; rfl
   ·rw [UG h3, cond_false, lT 16 (by omega) (by decide), oT (a := a) (b := a / 65536) 16 (by omega) (by omega) (by omega)]; rfl
  ·rw [UG h2, cond_false]
   by_cases h3 : a ≥ 256
   ·rw [UH h3, cond_true, lT 8 (by omega) (by decide), oT (a := a) (b := a / 256) 8 (by omega) (by omega) (by omega)]; rfl
   ·rw [UG h3, cond_false, OY (by omega)]
theorem m2 (i : Nat) : (18446744073709551616 : Int) ^ i = ((2 ^ (64 * i) : Nat) : Int) := by
 rw [Nat.pow_mul, Int.natCast_pow]; rfl
theorem LI {l : List Int} (h1 : rL l) (hl : l.length = 8) (p : Nat) :
  ∃ e, vp (LL l, p) 7 = some e ∧ Sum.elim id (fun _ => 0) e = eJ (lv l).toNat := by
 refine gv (step := mW (LL l, p)) (fun v => ∃ i : Nat, v = (i : Int) - 1 ∧ i ≤ 8 ∧ lv (l.drop i) = 0) (fun v => (v + 1).toNat) _ ?_ (by decide)
  ⟨8, rfl, Nat.le_refl _, by rw [List.drop_eq_nil_of_le (by omega)]; rfl⟩
 rintro v ⟨i, rfl, hi, hd⟩
 cases i with
 | zero =>
  refine .inr ⟨.inr (), rfl, ?_⟩
  simp only [List.drop_zero] at hd
  rw [hd]; rfl
 | succ i =>
  have e : ((i + 1 : Nat) : Int) - 1 = (i : Int) := by omega
  rw [e]
  have hi8 : i < 8 := by omega
  have h3 : IntKind.wrap .i64 ((i : Int) - 1) = (i : Int) - 1 := ce (by omega)
  have hg := h1.get i
  have hb := Dc (n := (l.getD i 0).toNat) (k := 64) (by omega)
  have h4 : IntKind.wrap .i64 (64 * (i : Int)) = 64 * (i : Int) := ce (by omega)
  have h5 : IntKind.wrap .i64 (64 * (i : Int) + eJ (l.getD i 0).toNat) = 64 * (i : Int) + eJ (l.getD i 0).toNat := ce (by omega)
  simp only [mW, eO, gt, Nn, xI hi8, h3, cond_true, aw, UF, Int.toNat_natCast, Nat.mul_one, Nat.zero_add, Nat.add_zero, rI, jt, hl, UH hi8, Sh hg, Uy, h4, h5]
  by_cases hne : l.getD i 0 = 0
  ·refine .inl ⟨(i : Int) - 1, ?_, ⟨i, rfl, by omega, ?_⟩, by omega⟩
   ·rw [hne]; rfl
   ·rw [oS (by omega), hne, lv, hd]; rfl
  ·have hb' : (l.getD i 0 != 0) = true := by simpa using hne
   refine .inr ⟨.inl (64 * (i : Int) + eJ (l.getD i 0).toNat), by rw [hb']; rfl, ?_⟩
   have hs := lS i l
   rw [oS (by omega), lv, hd] at hs
   have ht := oA (h1.take i)
   rw [List.length_take, Nat.min_eq_left (by omega), m2] at ht
   rw [m2] at hs
   have e2 : lv l = lv (l.take i) + l.getD i 0 * ((2 ^ (64 * i) : Nat) : Int) := by rw [hs, Int.mul_comm (l.getD i 0)]; simp
   refine Eq.symm ((oT (a := lv l) (b := l.getD i 0) (64 * i) (by omega) (by omega) (by rw [Int.add_mul]; omega)).trans ?_)
   simp [Sum.elim]
theorem Lc {x : Int} (hx : cd x) : gX (aa x 0) (aa x 1) (aa x 2) (aa x 3) (aa x 4) (aa x 5) (aa x 6) (aa x 7) = some (eJ x.toNat) := by
 obtain ⟨e, h1, h2⟩ := LI (He x) rfl 1
 rw [Db hx.1 hx.2] at h2
 unfold gX
 simp only [Az]
 rw [show [aa x 0, aa x 1, aa x 2, aa x 3, aa x 4, aa x 5, aa x 6, aa x 7] = l8 x from rfl, h1, Uy]
 rw [← h2]
 cases e <;> rfl
theorem rW {x : Int} (hx : fit x) : cd (x.natAbs : Int) := by unfold fit at hx; unfold cd; omega
theorem Ld {a : Int} (h : 0 ≤ a ∧ a < 18446744073709551616) : uY .u64 a 4294967295 = a % 4294967296 := by
 unfold uY
 rw [AA]
 obtain ⟨n, rfl⟩ := Int.eq_ofNat_of_zero_le h.1
 have hn : n < 2 ^ 64 := by omega
 have e1 : (BitVec.ofInt (IntKind.bits .u64) 4294967295).toNat = 2 ^ 32 - 1 := by
  show (BitVec.ofInt 64 4294967295).toNat = _
  decide
 have e2 : (BitVec.ofInt (IntKind.bits .u64) (n : Int)).toNat = n := by
  show (BitVec.ofInt 64 (n : Int)).toNat = n
  rw [BitVec.ofInt_natCast, BitVec.toNat_ofNat, Nat.mod_eq_of_lt hn]
 rw [BitVec.toNat_and, e1, e2, Nat.and_two_pow_sub_one_eq_mod]
 omega
theorem Si {a b : Int} (ha : 0 ≤ a ∧ a < 18446744073709551616) (hb : 0 ≤ b ∧ b < 18446744073709551616) : fY a b = some (a * b / 18446744073709551616, a * b % 18446744073709551616) := by
 unfold fY
 have im : ∀ x : Int, uY .u64 (x % 18446744073709551616) 4294967295 = x % 18446744073709551616 % 4294967296 := fun x => Ld (by omega)
 simp only [AB.1, Ld ha, Ld hb, AA, im]
 have hA : a = a / 4294967296 * 4294967296 + a % 4294967296 := by omega
 have hB : b = b / 4294967296 * 4294967296 + b % 4294967296 := by omega
 have a1 : 0 ≤ a / 4294967296 ∧ a / 4294967296 ≤ 4294967295 := by omega
 have a0 : 0 ≤ a % 4294967296 ∧ a % 4294967296 ≤ 4294967295 := by omega
 have b1 : 0 ≤ b / 4294967296 ∧ b / 4294967296 ≤ 4294967295 := by omega
 have b0 : 0 ≤ b % 4294967296 ∧ b % 4294967296 ≤ 4294967295 := by omega
 generalize a / 4294967296 = x1 at *
 generalize a % 4294967296 = x0 at *
 generalize b / 4294967296 = y1 at *
 generalize b % 4294967296 = y0 at *
 have e : a * b = x1 * y1 * 18446744073709551616 + (x1 * y0 + x0 * y1) * 4294967296 + x0 * y0 := by
  rw [hA, hB]; grind
 rw [e]
 have p : ∀ u v : Int, 0 ≤ u ∧ u ≤ 4294967295 → 0 ≤ v ∧ v ≤ 4294967295 → 0 ≤ u * v ∧ u * v ≤ 18446744065119617025 := fun u v hu hv =>
  ⟨Int.mul_nonneg hu.1 hv.1, Int.le_trans (Int.mul_le_mul hu.2 hv.2 hv.1 (by decide)) (by decide)⟩
 have p11 := p x1 y1 a1 b1
 have p10 := p x1 y0 a1 b0
 have p01 := p x0 y1 a0 b1
 have p00 := p x0 y0 a0 b0
 generalize x1 * y1 = q11 at *
 generalize x1 * y0 = q10 at *
 generalize x0 * y1 = q01 at *
 generalize x0 * y0 = q00 at *
 congr 2
 omega
theorem Ij {x y m : Int} (k : Nat) (hx : 0 ≤ x ∧ x < ((2 ^ k : Nat) : Int)) (hm : 0 ≤ m) (hy : y = ((2 ^ k : Nat) : Int) * m) (hs : x + y < 18446744073709551616) : ior .u64 x y = x + y := by
 have hy0 : 0 ≤ y := by rw [hy]; exact Int.mul_nonneg (by omega) hm
 obtain ⟨a, rfl⟩ := Int.eq_ofNat_of_zero_le hx.1
 obtain ⟨b, rfl⟩ := Int.eq_ofNat_of_zero_le hm
 have hyn : y = ((2 ^ k * b : Nat) : Int) := by rw [hy, Int.natCast_mul]
 unfold ior
 rw [AA]
 have hc : 2 ^ k * b + a < 2 ^ 64 := by omega
 have e1 : (BitVec.ofInt (IntKind.bits .u64) (a : Int)).toNat = a := by
  show (BitVec.ofInt 64 (a : Int)).toNat = a
  rw [BitVec.ofInt_natCast, BitVec.toNat_ofNat, Nat.mod_eq_of_lt (by omega)]
 have e2 : (BitVec.ofInt (IntKind.bits .u64) y).toNat = 2 ^ k * b := by
  show (BitVec.ofInt 64 y).toNat = _
  rw [hyn, BitVec.ofInt_natCast, BitVec.toNat_ofNat, Nat.mod_eq_of_lt (by omega)]
 rw [BitVec.toNat_or, e1, e2, Nat.or_comm, ← Nat.two_pow_add_eq_or_of_lt (by omega)]
 omega
theorem CI {a : Int} (k : Nat) (hk : k ≤ 64) : gV .u64 a (k : Int) = a * ((2 ^ k : Nat) : Int) % 18446744073709551616 := by
 unfold gV
 rw [AA]
 have e : min (Int.toNat (k : Int)) (IntKind.bits .u64) = k := by simp [IntKind.bits]; omega
 rw [e, Int.natCast_pow]; rfl
theorem TD {z : Int} (hz : cd z) : km (aa z 0) (aa z 1) (aa z 2) (aa z 3) (aa z 4) (aa z 5) (aa z 6) (aa z 7) = some (t8 (z / 2)) := by
 have dvh : ∀ n, dv n (z / 2) = dv n z / 2 := by
  intro n
  induction n with
  | zero => rfl
  | succ n ih => show dv n (z / 2) / _ = dv n z / _ / 2; rw [ih]; omega
 have hl : ∀ n, aa (z / 2) n = aa z n / 2 + aa z (n + 1) % 2 * 9223372036854775808 := by
  intro n
  unfold aa
  rw [dvh]
  show _ = _ + dv n z / 18446744073709551616 % _ % _ * _
  omega
 have h8 : dv 8 z = 0 := by
  have : dv 8 z = z / 18446744073709551616 / 18446744073709551616 / 18446744073709551616 / 18446744073709551616 / 18446744073709551616 / 18446744073709551616 / 18446744073709551616 / 18446744073709551616 := rfl
  unfold cd at hz; omega
 have h7 : aa (z / 2) 7 = aa z 7 / 2 := by
  rw [hl 7]
  show _ + dv 8 z % _ % _ * _ = _
  rw [h8]; omega
 have e1 : ∀ a : Int, aD .u64 a 1 = a / 2 := fun a => CG 1 (by decide)
 have e2 : ∀ a : Int, gV .u64 a 63 = a * 9223372036854775808 % 18446744073709551616 := fun a => CI 63 (by decide)
 have e3 : ∀ n, ior .u64 (aD .u64 (aa z n) 1) (gV .u64 (aa z (n + 1)) 63) = aa (z / 2) n := by
  intro n
  have r1 := cq z n
  have r2 := cq z (n + 1)
  rw [hl n, e1, e2]
  have e4 : aa z (n + 1) * 9223372036854775808 % 18446744073709551616 = aa z (n + 1) % 2 * 9223372036854775808 := by omega
  rw [e4, Ij 63 (m := aa z (n + 1) % 2) ⟨by omega, by omega⟩ (by omega) (by rw [Int.mul_comm]; rfl) (by omega)]
 unfold km t8
 rw [h7, e3 0, e3 1, e3 2, e3 3, e3 4, e3 5, e3 6, e1]
theorem OZ : ∀ (j k : Nat) (z : Int), dv (k + j) z = dv j (dv k z)
 | 0, k, z => rfl
 | j + 1, k, z => by show dv (k + j) z / _ = dv j (dv k z) / _; rw [OZ j k z]
theorem Ik : ∀ (k : Nat) (y : Int), dv k (y * 18446744073709551616 ^ k) = y
 | 0, y => by show y * 1 = y; omega
 | k + 1, y => by
  show dv k (y * 18446744073709551616 ^ (k + 1)) / _ = y
  have e : y * (18446744073709551616 : Int) ^ (k + 1) = (y * 18446744073709551616) * 18446744073709551616 ^ k := by rw [Int.pow_succ, Int.mul_assoc, Int.mul_comm (18446744073709551616 ^ k)]
  rw [e, Ik k]; omega
theorem Qm (j k : Nat) (z : Int) : aa z (k + j) = aa (dv k z) j := by unfold aa; rw [OZ]
theorem Qn {i k : Nat} (h : i < k) (y : Int) : aa (y * 18446744073709551616 ^ k) i = 0 := by
 obtain ⟨r, rfl⟩ : ∃ r, k = i + (r + 1) := ⟨k - i - 1, by omega⟩
 have e : y * (18446744073709551616 : Int) ^ (i + (r + 1)) = (y * 18446744073709551616 ^ r * 18446744073709551616) * 18446744073709551616 ^ i := by
  rw [Int.pow_add, Int.pow_succ]
  grind
 unfold aa
 rw [e, Ik]; omega
theorem sO {s : Nat} (h : s < 64) : ((2 ^ s : Nat) : Int) * ((2 ^ (64 - s) : Nat) : Int) = 18446744073709551616 := by
 rw [← Int.natCast_mul, ← Nat.pow_add]
 have e : s + (64 - s) = 64 := by omega
 rw [e]; rfl
theorem j7 (s : Nat) : (0 : Int) < ((2 ^ s : Nat) : Int) := by have := Nat.two_pow_pos s; omega
theorem CJ {p q D l c : Int} (hp : 0 < p) (hq : 0 < q) (h : p * q = 18446744073709551616) (hl : 0 ≤ l ∧ l < 18446744073709551616) (hc : 0 ≤ c ∧ c < p) :
  ((l + 18446744073709551616 * D) * p + c) / 18446744073709551616 = D * p + l / q ∧ (l / q < p ∧ 0 ≤ l / q) ∧ ((l + 18446744073709551616 * D) * p + c) % 18446744073709551616 = l * p % 18446744073709551616 + c ∧
  (∃ m, 0 ≤ m ∧ l * p % 18446744073709551616 = p * m) ∧ l * p % 18446744073709551616 + c < 18446744073709551616 := by
 have hlq := Int.mul_ediv_add_emod l q
 have hr0 := Int.emod_nonneg l (show q ≠ 0 by omega)
 have hr1 := Int.emod_lt_of_pos l hq
 have hq0 : 0 ≤ l / q := Int.ediv_nonneg hl.1 (by omega)
 generalize l / q = u at *
 generalize l % q = v at *
 have hu : u < p := by
  apply Int.lt_of_mul_lt_mul_left (a := q) _ (by omega)
  rw [Int.mul_comm q p, h]; omega
 have hv : v * p + p ≤ 18446744073709551616 := by
  have : (v + 1) * p ≤ q * p := UT (by omega) (by omega)
  rw [Int.add_mul, Int.mul_comm q p, h] at this; omega
 have hv0 : 0 ≤ v * p := Int.mul_nonneg hr0 (by omega)
 have e1 : l * p = 18446744073709551616 * u + v * p := by
  rw [← hlq, ← h]; grind
 have e2 : (l + 18446744073709551616 * D) * p = 18446744073709551616 * (D * p) + l * p := by grind
 have e3 : l * p % 18446744073709551616 = v * p := by omega
 refine ⟨?_, ⟨hu, hq0⟩, ?_, ⟨v, hr0, by rw [e3, Int.mul_comm]⟩, by omega⟩
 ·rw [e2, e1]; omega
 ·rw [e2, e3, e1]; omega
def cry (x q : Int) : Nat → Int
 | 0 => 0
 | j + 1 => aa x j / q
theorem Le {p q : Int} (hp : 0 < p) (hq : 0 < q) (h : p * q = 18446744073709551616) (x : Int) : ∀ j, dv j (x * p) = dv j x * p + cry x q j ∧ (0 ≤ cry x q j ∧ cry x q j < p) ∧ aa (x * p) j = aa x j * p % 18446744073709551616 + cry x q j := by
 have key : ∀ j, dv j (x * p) = dv j x * p + cry x q j ∧ (0 ≤ cry x q j ∧ cry x q j < p) := by
  intro j
  induction j with
  | zero => exact ⟨by show x * p = x * p + 0; omega, ⟨Int.le_refl _, hp⟩⟩
  | succ j ih =>
   have hm := CJ (D := dv (j + 1) x) hp hq h (cq x j) ih.2
   rw [← rV j x, ← ih.1] at hm
   exact ⟨hm.1, hm.2.1.2, hm.2.1.1⟩
 intro j
 have k := key j
 refine ⟨k.1, k.2, ?_⟩
 have hm := CJ (D := dv (j + 1) x) hp hq h (cq x j) k.2
 rw [← rV j x, ← k.1] at hm
 exact hm.2.2.1
theorem FC {n i : Nat} (x : Int) (hi : n / 64 ≤ i) : aa (x * ((2 ^ n : Nat) : Int)) i = aa x (i - n / 64) * ((2 ^ (n % 64) : Nat) : Int) % 18446744073709551616 + cry x ((2 ^ (64 - n % 64) : Nat) : Int) (i - n / 64) := by
 have hn : 2 ^ n = 2 ^ (n % 64) * 2 ^ (64 * (n / 64)) := by rw [← Nat.pow_add, Nat.add_comm, Nat.div_add_mod]
 have e : x * ((2 ^ n : Nat) : Int) = (x * ((2 ^ (n % 64) : Nat) : Int)) * 18446744073709551616 ^ (n / 64) := by
  rw [hn, m2, Int.natCast_mul, Int.mul_assoc]
 obtain ⟨j, rfl⟩ : ∃ j, i = n / 64 + j := ⟨i - n / 64, by omega⟩
 rw [e, Qm, Ik, Nat.add_sub_cancel_left]
 have h64 : n % 64 < 64 := Nat.mod_lt _ (by decide)
 exact (Le (j7 _) (j7 _) (sO h64) x j).2.2
theorem O0 {n i : Nat} (x : Int) (hi : i < n / 64) : aa (x * ((2 ^ n : Nat) : Int)) i = 0 := by
 have hn : 2 ^ n = 2 ^ (n % 64) * 2 ^ (64 * (n / 64)) := by rw [← Nat.pow_add, Nat.add_comm, Nat.div_add_mod]
 have e : x * ((2 ^ n : Nat) : Int) = (x * ((2 ^ (n % 64) : Nat) : Int)) * 18446744073709551616 ^ (n / 64) := by
  rw [hn, m2, Int.natCast_mul, Int.mul_assoc]
 rw [e, Qn hi]
theorem Lf {n i : Nat} (x : Int) (hi : n / 64 ≤ i) : ior .u64 (gV .u64 (aa x (i - n / 64)) ((n % 64 : Nat) : Int)) (cry x ((2 ^ (64 - n % 64) : Nat) : Int) (i - n / 64)) = aa (x * ((2 ^ n : Nat) : Int)) i := by
 have h64 : n % 64 < 64 := Nat.mod_lt _ (by decide)
 have hs := Le (j7 (n % 64)) (j7 (64 - n % 64)) (sO h64) x (i - n / 64)
 have hm := CJ (D := 0) (j7 (n % 64)) (j7 (64 - n % 64)) (sO h64) (cq x (i - n / 64)) hs.2.1
 obtain ⟨m, hm0, hm1⟩ := hm.2.2.2.1
 rw [CI _ (by omega), FC x hi]
 have hlt := hm.2.2.2.2
 have hc : ∀ a b : Int, ior .u64 a b = ior .u64 b a := fun a b => by unfold ior; rw [BitVec.or_comm]
 rw [hc, Ij (n % 64) hs.2.1 hm0 hm1 (by omega)]
 omega
theorem iO {z : Int} {i : Nat} : (l8 z).getD i 0 = if i < 8 then aa z i else 0 := by
 match i with
 | 0 | 1 | 2 | 3 | 4 | 5 | 6 | 7 => rfl
 | i + 8 => rw [if_neg (by omega)]; rfl
theorem Ut {l m : List Int} (hl : l.length = 8) (hm : m.length = 8) (h : ∀ i, i < 8 → l.getD i 0 = m.getD i 0) : l = m := by
 rw [TC hl, TC hm, h 0 (by decide), h 1 (by decide), h 2 (by decide), h 3 (by decide), h 4 (by decide), h 5 (by decide), h 6 (by decide), h 7 (by decide)]
theorem Lg {l : List Int} {i j : Nat} {v : Int} (h : i < l.length) : (l.set i v).getD j 0 = if j = i then v else l.getD j 0 := by
 rw [UK, List.getElem?_set, UK]
 by_cases hij : i = j
 ·subst hij; simp [h]
 ·rw [if_neg hij, if_neg (fun e => hij e.symm)]
def z8 : List Int := [0, 0, 0, 0, 0, 0, 0, 0]
theorem O1 (j : Nat) : z8.getD j 0 = 0 := by
 match j with
 | 0 | 1 | 2 | 3 | 4 | 5 | 6 | 7 => rfl
 | j + 8 => simp [z8]
theorem uA (x : Int) : [aa x 0, aa x 1, aa x 2, aa x 3, aa x 4, aa x 5, aa x 6, aa x 7] = l8 x := rfl
theorem Mn : ([0, 0, 0, 0, 0, 0, 0, 0] : List Int) = z8 := rfl
theorem O2 : z8.length = 8 := rfl
theorem Lh {l m : List Int} (h : l.length = m.length) : spliced (LL l) 0 (LL m) = LL m := by
 unfold spliced LL
 simp [h, List.drop_eq_nil_of_le]
theorem O3 {x : Int} {n : Nat} (hn : n < 512) (p q r : Nat) (zl : LA_) :
  ∃ e, yj ((n : Int), LL (l8 x), p, zl, q, r) (LL z8, ((n / 64 : Nat) : Int)) = some e ∧ e = LL (l8 (x * ((2 ^ n : Nat) : Int))) := by
 have hz0 : ∀ j, z8.getD j 0 = if j < n / 64 then aa (x * ((2 ^ n : Nat) : Int)) j else 0 := by
  intro j
  rw [O1]
  split
  ·rename_i h; rw [O0 x h]
  ·rfl
 refine gv (step := pS ((n : Int), LL (l8 x), p, zl, q, r))
  (fun v => ∃ (i : Nat) (l : List Int), v = (LL l, (i : Int)) ∧ l.length = 8 ∧ n / 64 ≤ i ∧ i ≤ 8 ∧ ∀ j, l.getD j 0 = if j < i then aa (x * ((2 ^ n : Nat) : Int)) j else 0) (fun v => (8 - v.2).toNat) _ ?_
  (Nat.lt_of_le_of_lt (show (8 - ((n / 64 : Nat) : Int)).toNat ≤ 8 by omega) (by decide))
  ⟨n / 64, z8, rfl, rfl, Nat.le_refl _, by omega, hz0⟩
 rintro v ⟨i, l, rfl, hl, hk, hi, hg⟩
 have t1 : Int.tdiv (n : Int) 64 = ((n / 64 : Nat) : Int) := by rw [Int.tdiv_eq_ediv_of_nonneg (by omega)]; omega
 have t2 : Int.tmod (n : Int) 64 = ((n % 64 : Nat) : Int) := by rw [Int.tmod_eq_emod_of_nonneg (by omega)]; omega
 have w1 : IntKind.wrap .i64 ((n / 64 : Nat) : Int) = ((n / 64 : Nat) : Int) := ce (by omega)
 by_cases h8 : i = 8
 ·subst h8
  refine .inr ⟨LL l, rfl, ?_⟩
  rw [Ut hl (qA _) (fun j hj => by rw [hg j, iO])]
 ·have hi8 : i < 8 := by omega
  have w2 : IntKind.wrap .i64 ((i : Int) - ((n / 64 : Nat) : Int)) = ((i - n / 64 : Nat) : Int) := by rw [ce (by omega)]; omega
  have w3 : IntKind.wrap .i64 (64 - ((n % 64 : Nat) : Int)) = ((64 - n % 64 : Nat) : Int) := by rw [ce (by omega)]; omega
  have w4 : IntKind.wrap .i64 ((i : Int) + 1) = ((i + 1 : Nat) : Int) := by rw [ce (by omega)]; omega
  have d1 : decide ((i : Int) < 8) = true := UH (by omega)
  have d2 : decide (((n % 64 : Nat) : Int) < 0) = false := UG (by omega)
  have d3 : decide (((64 - n % 64 : Nat) : Int) < 0) = false := UG (by omega)
  have d4 : decide (i + 1 ≤ 8) = true := UH (by omega)
  have hx8 := qA x
  have gx : ∀ j, j < 8 → (l8 x).getD j 0 = aa x j := fun j hj => by rw [iO, if_pos hj]
  have hset : ∀ v, v = aa (x * ((2 ^ n : Nat) : Int)) i → ∃ v', some (Sum.inl (LL (l.set i v), ((i + 1 : Nat) : Int)) : (LA_ × Int) ⊕ LA_) = some (Sum.inl v') ∧
    (∃ (i : Nat) (l : List Int), v' = (LL l, (i : Int)) ∧ l.length = 8 ∧ n / 64 ≤ i ∧ i ≤ 8 ∧ ∀ j, l.getD j 0 = if j < i then aa (x * ((2 ^ n : Nat) : Int)) j else 0) ∧ (8 - v'.2).toNat < (8 - (i : Int)).toNat := by
   intro v hv
   refine ⟨_, rfl, ⟨i + 1, l.set i v, rfl, by simpa using hl, by omega, by omega, fun j => ?_⟩, by show (8 - ((i + 1 : Nat) : Int)).toNat < _; omega⟩
   rw [Lg (by omega), hg j, hv]
   by_cases e1 : j = i
   ·subst e1; simp
   ·rw [if_neg e1]
    by_cases e2 : j < i
    ·rw [if_pos e2, if_pos (by omega)]
    ·rw [if_neg e2, if_neg (by omega)]
  left
  simp only [pS, fM, t1, t2, w1, w2, w3, w4, d1, d2, d3, d4, gt, xI hi8, xI (show i - n / 64 < 8 by omega), cond_true, aw, UF, Bool.not_false, Int.toNat_natCast, Nat.mul_one, Nat.zero_add, Nat.add_zero, rI, jt, hl, hx8,
   UH (show i - n / 64 < 8 by omega), UH hi8, vN, gx _ (show i - n / 64 < 8 by omega)]
  by_cases hs : n % 64 = 0
  ·have d5 : decide (((n % 64 : Nat) : Int) > 0) = false := UG (by omega)
   rw [d5]
   simp only [cond_false]
   rw [uz (by omega)]
   refine hset _ ?_
   rw [CI _ (by omega), FC x hk]
   have c0 : cry x ((2 ^ (64 - n % 64) : Nat) : Int) (i - n / 64) = 0 := by
    cases i - n / 64 with
    | zero => rfl
    | succ j =>
     have := cq x j
     show aa x j / _ = 0
     rw [hs]
     have e : ((2 ^ (64 - 0) : Nat) : Int) = 18446744073709551616 := by decide
     rw [e]; omega
   rw [c0]; omega
  ·have d5 : decide (((n % 64 : Nat) : Int) > 0) = true := UH (by omega)
   rw [d5]
   simp only [cond_true]
   by_cases hik : (i : Int) > ((n / 64 : Nat) : Int)
   ·rw [UH hik]
    have w5 : IntKind.wrap .i64 (((i - n / 64 : Nat) : Int) - 1) = ((i - n / 64 - 1 : Nat) : Int) := by rw [ce (by omega)]; omega
    simp only [cond_true, w5, gt, xI (show i - n / 64 - 1 < 8 by omega), UF, aw, Int.toNat_natCast, UH (show i - n / 64 - 1 < 8 by omega), gx _ (show i - n / 64 - 1 < 8 by omega)]
    rw [uz (by omega)]
    simp only [rI, jt, vN, List.length_set, hl, UH hi8, d4, aw]
    rw [Lg (by omega), if_pos rfl, uz (by simpa using (by omega : i < l.length)), List.set_set]
    refine hset _ ?_
    rw [← Lf x hk]
    have e : i - n / 64 = (i - n / 64 - 1) + 1 := by omega
    rw [e, Nat.add_sub_cancel]
    congr 1
    show _ = aa x (i - n / 64 - 1) / _
    rw [CG _ (by omega)]
   ·rw [UG hik]
    simp only [cond_false]
    rw [uz (by omega)]
    refine hset _ ?_
    have e : i - n / 64 = 0 := by omega
    rw [FC x hk, e, CI _ (by omega)]
    show _ = _ + 0
    omega
theorem TE {x : Int} {n : Nat} (hn : n < 512) : ns (aa x 0) (aa x 1) (aa x 2) (aa x 3) (aa x 4) (aa x 5) (aa x 6) (aa x 7) (n : Int) = some (t8 (x * ((2 ^ n : Nat) : Int))) := by
 obtain ⟨e, h1, h2⟩ := O3 (x := x) hn 1 1 1 (LL z8)
 subst h2
 have t1 : Int.tdiv (n : Int) 64 = ((n / 64 : Nat) : Int) := by rw [Int.tdiv_eq_ediv_of_nonneg (by omega)]; omega
 have w1 : IntKind.wrap .i64 ((n / 64 : Nat) : Int) = ((n / 64 : Nat) : Int) := ce (by omega)
 have g8 : ∀ j, j < 8 → (l8 (x * ((2 ^ n : Nat) : Int))).getD j 0 = aa (x * ((2 ^ n : Nat) : Int)) j := fun j hj => by rw [iO, if_pos hj]
 unfold ns
 simp only [Az, t1, w1, uA, Mn, h1, Uy, yP (qA _), aw, vN, O2, jt, g8 _ (show 0 < 8 by omega), g8 _ (show 1 < 8 by omega), g8 _ (show 2 < 8 by omega), g8 _ (show 3 < 8 by omega), g8 _ (show 4 < 8 by omega), g8 _ (show 5 < 8 by omega), g8 _ (show 6 < 8 by omega), g8 _ (show 7 < 8 by omega), Lh (show z8.length = (l8 (x * ((2 ^ n : Nat) : Int))).length from rfl)]
 rfl
theorem sP {l : List Int} (h : rL l) : 0 ≤ lv l := (oA h).1
theorem Qo {l : List Int} (h : rL l) {i s : Nat} (hi : i < l.length) (hs : s < 64) {t : Int} (e : lv l = ((2 ^ (64 * i + s + 1) : Nat) : Int) * t) : ∃ u, 0 ≤ u ∧ l.getD i 0 = ((2 ^ (s + 1) : Nat) : Int) * u := by
 have hsp := lS i l
 rw [oS hi, lv] at hsp
 have ht := oA (h.take i)
 rw [List.length_take, Nat.min_eq_left (by omega)] at ht
 have hg := h.get i
 have e1 : ((2 ^ (64 * i + s + 1) : Nat) : Int) = 18446744073709551616 ^ i * ((2 ^ (s + 1) : Nat) : Int) := by rw [m2, ← Int.natCast_mul, ← Nat.pow_add]; rfl
 have hp := FA i
 have e2 : (18446744073709551616 : Int) = ((2 ^ (s + 1) : Nat) : Int) * ((2 ^ (63 - s) : Nat) : Int) := by
  rw [← Int.natCast_mul, ← Nat.pow_add, show s + 1 + (63 - s) = 64 by omega]; rfl
 rw [e1] at e
 generalize (18446744073709551616 : Int) ^ i = p at *
 generalize hP : ((2 ^ (s + 1) : Nat) : Int) = P at *
 generalize ((2 ^ (63 - s) : Nat) : Int) = Q at *
 generalize lv (l.take i) = x at *
 generalize lv (l.drop (i + 1)) = y at *
 generalize l.getD i 0 = g at *
 have hP0 : 0 < P := by rw [← hP]; exact j7 _
 have e3 : x = p * (P * t - (g + 18446744073709551616 * y)) := by rw [Int.mul_sub, ← Int.mul_assoc]; omega
 have e4 : P * t - (g + 18446744073709551616 * y) = 0 := by
  rcases Int.lt_trichotomy (P * t - (g + 18446744073709551616 * y)) 0 with h1 | h1 | h1
  ·have : p * (P * t - (g + 18446744073709551616 * y)) ≤ p * (-1) := UU (by omega) (by omega)
   omega
  ·exact h1
  ·have : p * 1 ≤ p * (P * t - (g + 18446744073709551616 * y)) := UU (by omega) (by omega)
   omega
 refine ⟨t - Q * y, ?_, ?_⟩
 ·have e5 : g = P * (t - Q * y) := by rw [Int.mul_sub, ← Int.mul_assoc, ← e2]; omega
  rcases Int.lt_or_le (t - Q * y) 0 with h1 | h1
  ·have : P * (t - Q * y) ≤ P * (-1) := UU (by omega) (by omega)
   omega
  ·exact h1
 ·rw [Int.mul_sub, ← Int.mul_assoc, ← e2]; omega
theorem Sj {l : List Int} (h : rL l) (hl : l.length = 8) {k : Nat} (hk : k < 512) {t : Int} (e : lv l = ((2 ^ (k + 1) : Nat) : Int) * t) :
  rL (l.set (k / 64) (ior .u64 (l.getD (k / 64) 0) (gV .u64 1 ((k % 64 : Nat) : Int)))) ∧ lv (l.set (k / 64) (ior .u64 (l.getD (k / 64) 0) (gV .u64 1 ((k % 64 : Nat) : Int)))) = lv l + ((2 ^ k : Nat) : Int) := by
 have h64 : k % 64 < 64 := Nat.mod_lt _ (by decide)
 have hi : k / 64 < l.length := by omega
 have ek : 64 * (k / 64) + k % 64 + 1 = k + 1 := by rw [Nat.div_add_mod]
 obtain ⟨u, hu0, hu⟩ := Qo h hi h64 (t := t) (by rw [ek]; exact e)
 have hg := h.get (k / 64)
 have hps := j7 (k % 64)
 have hP : ((2 ^ (k % 64 + 1) : Nat) : Int) = 2 * ((2 ^ (k % 64) : Nat) : Int) := by rw [Nat.pow_succ]; push_cast; omega
 have hlt : ((2 ^ (k % 64) : Nat) : Int) < 18446744073709551616 := by
  have := sO h64
  have hq := j7 (64 - k % 64)
  have hq2 : (2 : Int) ≤ ((2 ^ (64 - k % 64) : Nat) : Int) := by
   have : 2 ^ 1 ≤ 2 ^ (64 - k % 64) := Nat.pow_le_pow_right (by decide) (by omega)
   omega
  have : ((2 ^ (k % 64) : Nat) : Int) * 2 ≤ ((2 ^ (k % 64) : Nat) : Int) * ((2 ^ (64 - k % 64) : Nat) : Int) := UU hq2 (by omega)
  omega
 have hsum : ((2 ^ (k % 64) : Nat) : Int) + l.getD (k / 64) 0 < 18446744073709551616 := by
  have hm := sO (s := k % 64 + 1 - 1) (by omega)
  have e2 : (18446744073709551616 : Int) = ((2 ^ (k % 64 + 1) : Nat) : Int) * ((2 ^ (63 - k % 64) : Nat) : Int) := by
   rw [← Int.natCast_mul, ← Nat.pow_add, show k % 64 + 1 + (63 - k % 64) = 64 by omega]; rfl
  have hu1 : u < ((2 ^ (63 - k % 64) : Nat) : Int) := by
   apply Int.lt_of_mul_lt_mul_left (a := ((2 ^ (k % 64 + 1) : Nat) : Int)) _ (by omega)
   rw [← hu, ← e2]; exact hg.2
  have : ((2 ^ (k % 64 + 1) : Nat) : Int) * (u + 1) ≤ ((2 ^ (k % 64 + 1) : Nat) : Int) * ((2 ^ (63 - k % 64) : Nat) : Int) := UU (by omega) (by omega)
  rw [Int.mul_add, ← hu, ← e2] at this
  omega
 have hc : ∀ a b : Int, ior .u64 a b = ior .u64 b a := fun a b => by unfold ior; rw [BitVec.or_comm]
 have hv : ior .u64 (l.getD (k / 64) 0) (gV .u64 1 ((k % 64 : Nat) : Int)) = ((2 ^ (k % 64) : Nat) : Int) + l.getD (k / 64) 0 := by
  rw [CI _ (by omega), Int.one_mul, Int.emod_eq_of_lt (by omega) hlt, hc, Ij (k % 64 + 1) ⟨by omega, by omega⟩ hu0 hu hsum]
 rw [hv]
 refine ⟨h.set ⟨by omega, hsum⟩ _, ?_⟩
 rw [K8 _ hi]
 have e3 : ((2 ^ k : Nat) : Int) = ((2 ^ (k % 64) : Nat) : Int) * 18446744073709551616 ^ (k / 64) := by
  rw [m2, ← Int.natCast_mul, ← Nat.pow_add, Nat.add_comm, Nat.div_add_mod]
 rw [e3]
 congr 1
 congr 1
 omega
def Qp (a b : Int) (v : LA_ × LA_ × Int × LA_ × Nat) : Prop :=
 ∃ (m : Nat) (q : List Int) (r s t : Int), v = (LL q, LL (l8 r), (m : Int) - 1, LL (l8 s), 1) ∧ q.length = 8 ∧ rL q ∧ m ≤ 512 ∧ a = lv q * b + r ∧ 0 ≤ r ∧ r < b * ((2 ^ m : Nat) : Int) ∧ (m ≠ 0 → s = b * ((2 ^ (m - 1) : Nat) : Int)) ∧ cd s ∧
  lv q = ((2 ^ m : Nat) : Int) * t ∧ r ≤ a
theorem Nq {a b : Int} (ha : cd a) (hb : 0 < b) {v : LA_ × LA_ × Int × LA_ × Nat} (hv : Qp a b v) :
  ∃ e, wA (1, 1) v = some e ∧ e = (LL (l8 (a / b)), LL (l8 (a % b))) := by
 obtain ⟨m0, _, _, _, _, hv0, _, _, hm0, _⟩ := id hv
 refine gv (step := og (1, 1)) (Qp a b) (fun v => (v.2.2.1 + 1).toNat) _ ?_
  (Nat.lt_of_le_of_lt (show (v.2.2.1 + 1).toNat ≤ 512 by subst hv0; show (((m0 : Int) - 1) + 1).toNat ≤ 512; omega) (by decide)) hv
 rintro v ⟨m, q, r, s, t, rfl, hq, hrq, hm, hab, hr0, hr1, hs, hsu, ht, hra⟩
 cases m with
 | zero =>
  refine .inr ⟨(LL q, LL (l8 r)), rfl, ?_⟩
  have h1 : r < b := by simpa using hr1
  have e1 : a / b = lv q := by
   rw [hab, Int.add_comm, Int.add_mul_ediv_right _ _ (by omega), Int.ediv_eq_zero_of_lt hr0 h1]; omega
  have e2 : a % b = r := by
   have := Int.mul_ediv_add_emod a b
   rw [e1, Int.mul_comm] at this; omega
  rw [e1, e2, ← Q0 hrq hq]
 | succ k =>
  left
  have e : ((k + 1 : Nat) : Int) - 1 = (k : Int) := by omega
  have es := hs (by omega)
  rw [Nat.add_sub_cancel] at es
  have hk : k < 512 := by omega
  have t1 : Int.tdiv (k : Int) 64 = ((k / 64 : Nat) : Int) := by rw [Int.tdiv_eq_ediv_of_nonneg (by omega)]; omega
  have t2 : Int.tmod (k : Int) 64 = ((k % 64 : Nat) : Int) := by rw [Int.tmod_eq_emod_of_nonneg (by omega)]; omega
  have w1 : IntKind.wrap .i64 ((k / 64 : Nat) : Int) = ((k / 64 : Nat) : Int) := ce (by omega)
  have w2 : IntKind.wrap .i64 ((k : Int) - 1) = (k : Int) - 1 := ce (by omega)
  have d2 : decide (((k % 64 : Nat) : Int) < 0) = false := UG (by omega)
  have hk8 : k / 64 < 8 := by omega
  have d4 : decide (k / 64 + 1 ≤ 8) = true := UH (by omega)
  have hru : cd r := ⟨hr0, Int.lt_of_le_of_lt hra ha.2⟩
  have gr : ∀ j, j < 8 → (l8 r).getD j 0 = aa r j := fun j hj => by rw [iO, if_pos hj]
  have gs : ∀ j, j < 8 → (l8 s).getD j 0 = aa s j := fun j hj => by rw [iO, if_pos hj]
  have hp := yQ r (-s - 1) 1 ⟨by decide, by decide⟩
  rw [show r + (-s - 1) + 1 = r - s by omega] at hp
  have gh : ∀ j, j < 8 → (l8 (s / 2)).getD j 0 = aa (s / 2) j := fun j hj => by rw [iO, if_pos hj]
  have hp1 : ((2 ^ (k + 1) : Nat) : Int) = 2 * ((2 ^ k : Nat) : Int) := by rw [Nat.pow_succ]; push_cast; omega
  have hs2 : k ≠ 0 → s / 2 = b * ((2 ^ (k - 1) : Nat) : Int) := by
   intro hk0
   have : ((2 ^ k : Nat) : Int) = 2 * ((2 ^ (k - 1) : Nat) : Int) := by
    conv => lhs; rw [show k = k - 1 + 1 by omega, Nat.pow_succ]
    push_cast; omega
   rw [es, this, Int.mul_left_comm]; omega
  have hsu2 : cd (s / 2) := by unfold cd at *; omega
  rw [e]
  simp only [og, fb, Nn, cond_true, yP (qA _), aw, jt, gr _ (show 0 < 8 by omega), gr _ (show 1 < 8 by omega), gr _ (show 2 < 8 by omega), gr _ (show 3 < 8 by omega), gr _ (show 4 < 8 by omega), gr _ (show 5 < 8 by omega), gr _ (show 6 < 8 by omega), gr _ (show 7 < 8 by omega),
   gs _ (show 0 < 8 by omega), gs _ (show 1 < 8 by omega), gs _ (show 2 < 8 by omega), gs _ (show 3 < 8 by omega), gs _ (show 4 < 8 by omega), gs _ (show 5 < 8 by omega), gs _ (show 6 < 8 by omega), gs _ (show 7 < 8 by omega), Ii hru hsu, Uy, Ha, hp, t8, TD hsu, t1, t2, w1, w2, d2, d4, Bool.not_false, gt, xI hk8, UF, Int.toNat_natCast, Nat.mul_one, Nat.zero_add, Nat.add_zero,
   rI, vN, qA, hq, UH hk8, Az, uA, Lh (show (l8 s).length = (l8 (s / 2)).length from rfl), Lh (show (l8 r).length = (l8 (r - s)).length from rfl), gh _ (show 0 < 8 by omega), gh _ (show 1 < 8 by omega), gh _ (show 2 < 8 by omega), gh _ (show 3 < 8 by omega), gh _ (show 4 < 8 by omega), gh _ (show 5 < 8 by omega), gh _ (show 6 < 8 by omega), gh _ (show 7 < 8 by omega), Nat.le_refl, decide_true]
  by_cases hge : s ≤ r
  ·have hd : decide (sgn (r - s) ≥ 0) = true := by
    have a1 : ¬ r - s < 0 := by omega
    unfold sgn
    rw [UG a1, cond_false]
    cases decide (r - s = 0) <;> rfl
   obtain ⟨hb1, hb2⟩ := Sj hrq hq hk ht
   rw [hd]
   simp only [cond_true]
   rw [uz (by omega)]
   refine ⟨_, rfl, ⟨k, _, r - s, s / 2, 2 * t + 1, rfl, by simpa using hq, hb1, by omega, ?_, by omega, ?_, hs2, hsu2, ?_, by unfold cd at hsu; omega⟩, ?_⟩
   ·rw [hb2, Int.add_mul, es]
    rw [Int.mul_comm b] at *; omega
   ·rw [hp1, Int.mul_left_comm] at hr1; omega
   ·rw [hb2, ht, hp1, Int.mul_add, Int.mul_one, Int.mul_comm 2, Int.mul_assoc]
   ·show (((k : Int) - 1) + 1).toNat < ((k : Int) + 1).toNat; omega
  ·have hd : decide (sgn (r - s) ≥ 0) = false := by
    have a1 : r - s < 0 := by omega
    unfold sgn
    rw [UH a1]; rfl
   rw [hd]
   simp only [cond_false]
   refine ⟨_, rfl, ⟨k, q, r, s / 2, 2 * t, rfl, hq, hrq, by omega, hab, hr0, by omega, hs2, hsu2, ?_, hra⟩, ?_⟩
   ·rw [ht, hp1, Int.mul_comm 2, Int.mul_assoc]
   ·show (((k : Int) - 1) + 1).toNat < ((k : Int) + 1).toNat; omega
abbrev T16 := (I8 (Int × Int × Int × Int × Int × Int × Int × Int))
def t16 (x y : Int) : T16 := (aa x 0, aa x 1, aa x 2, aa x 3, aa x 4, aa x 5, aa x 6, aa x 7, aa y 0, aa y 1, aa y 2, aa y 3, aa y 4, aa y 5, aa y 6, aa y 7)
theorem lvz : lv z8 = 0 := by decide
theorem rLz : rL z8 := by
 intro x hx
 simp only [z8, List.mem_cons, List.not_mem_nil, or_false, or_self] at hx
 subst hx; decide
theorem T9 (n m : Nat) (h : n = m + m) (hm : m = 256) : (2 : Nat) ^ n = 13407807929942597099574024998205846127479365820592393377723561443721764030073546976801874298166903427690031858186486050853753882811946569946433649006084096 := by
 rw [h, Nat.pow_add, hm]
theorem Qq : (2 : Nat) ^ 512 = 13407807929942597099574024998205846127479365820592393377723561443721764030073546976801874298166903427690031858186486050853753882811946569946433649006084096 := T9 512 256 rfl rfl
theorem Sk {a b : Int} (ha : cd a) (hb : cd b) (hb0 : 0 < b) : lw (aa a 0) (aa a 1) (aa a 2) (aa a 3) (aa a 4) (aa a 5) (aa a 6) (aa a 7) (aa b 0) (aa b 1) (aa b 2) (aa b 3) (aa b 4) (aa b 5) (aa b 6) (aa b 7) = some (t16 (a / b) (a % b)) := by
 have hap : a.toNat < 2 ^ 512 := by rw [Qq]; unfold cd at ha; omega
 have hbp : b.toNat < 2 ^ 512 := by rw [Qq]; unfold cd at hb; omega
 have la := Dc hap
 have lb := Dc hbp
 clear hap hbp
 obtain ⟨kb, eb, b1, b2⟩ := vO (n := b.toNat) (by omega)
 have w0 : IntKind.wrap .i64 (eJ a.toNat - eJ b.toNat) = eJ a.toNat - eJ b.toNat := ce (by omega)
 unfold lw
 simp only [Lc ha, Lc hb, Uy, w0]
 by_cases hlt : eJ a.toNat - eJ b.toNat < 0
 ·have hab : a < b := by
   by_cases ha0 : a.toNat = 0
   ·omega
   ·obtain ⟨ka, ea, a1, a2⟩ := vO ha0
    have : 2 ^ (ka + 1) ≤ 2 ^ kb := Nat.pow_le_pow_right (by decide) (by omega)
    omega
  rw [UH hlt, Int.ediv_eq_zero_of_lt ha.1 hab, Int.emod_eq_of_lt ha.1 hab]
  simp only [cond_true, t16, fy]
 ·obtain ⟨n, hn⟩ := Int.eq_ofNat_of_zero_le (show 0 ≤ eJ a.toNat - eJ b.toNat by omega)
  have ha0 : a.toNat ≠ 0 := by
   intro h0
   have : eJ a.toNat = 0 := by rw [h0]; rfl
   omega
  obtain ⟨ka, ea, a1, a2⟩ := vO ha0
  have hkn : ka = kb + n := by omega
  have hl : cd (b * ((2 ^ n : Nat) : Int)) := by
   have key : ∀ N, kb + 1 + n ≤ N → b.toNat * 2 ^ n < 2 ^ N := by
    intro N hN
    have : b.toNat * 2 ^ n < 2 ^ (kb + 1) * 2 ^ n := Nat.mul_lt_mul_of_pos_right b2 (Nat.two_pow_pos n)
    rw [← Nat.pow_add] at this
    exact Nat.lt_of_lt_of_le this (Nat.pow_le_pow_right (by decide) hN)
   have h1 := key 512 (by omega)
   have h2 : b * ((2 ^ n : Nat) : Int) = ((b.toNat * 2 ^ n : Nat) : Int) := by rw [Int.natCast_mul]; congr 1; omega
   rw [Qq] at h1
   unfold cd; rw [h2]; omega
  have hinv : Qp a b (LL z8, LL (l8 a), (n : Int), LL (l8 (b * ((2 ^ n : Nat) : Int))), 1) := by
   refine ⟨n + 1, z8, a, b * ((2 ^ n : Nat) : Int), 0, by rw [show ((n + 1 : Nat) : Int) - 1 = (n : Int) by omega], rfl, rLz, by omega, by rw [lvz]; omega, ha.1, ?_, fun _ => by rw [Nat.add_sub_cancel], hl, by rw [lvz]; omega, Int.le_refl _⟩
   have h1 : a.toNat < b.toNat * 2 ^ (n + 1) := by
    refine Nat.lt_of_lt_of_le a2 ?_
    rw [hkn, Nat.add_assoc, Nat.pow_add]
    exact Nat.mul_le_mul_right _ b1
   have h2 : b * ((2 ^ (n + 1) : Nat) : Int) = ((b.toNat * 2 ^ (n + 1) : Nat) : Int) := by rw [Int.natCast_mul]; congr 1; omega
   rw [h2]; omega
  obtain ⟨e, h1, h2⟩ := Nq ha hb0 hinv
  subst h2
  have gq : ∀ z j, j < 8 → (l8 z).getD j 0 = aa z j := fun z j hj => by rw [iO, if_pos hj]
  rw [UG hlt, hn]
  simp only [cond_false, TE (show n < 512 by omega), Uy, t8, Az, uA, Mn, h1, yP (qA _), aw, vN, qA, jt, gq _ _ (show 0 < 8 by omega), gq _ _ (show 1 < 8 by omega), gq _ _ (show 2 < 8 by omega), gq _ _ (show 3 < 8 by omega), gq _ _ (show 4 < 8 by omega), gq _ _ (show 5 < 8 by omega), gq _ _ (show 6 < 8 by omega), gq _ _ (show 7 < 8 by omega), Lh, t16]
  rfl
theorem Nk {x : Int} (hx : fit x) : (aa x 0 == 0 && (aa x 1 == 0 && (aa x 2 == 0 && (aa x 3 == 0 && (aa x 4 == 0 && (aa x 5 == 0 && (aa x 6 == 0 && (aa x 7 == 0 && true)))))))) = decide (x = 0) := by
 have h := H8 hx xF
 simpa only [fy] using h
theorem JC {x : Int} (hx : cd x) : (aa x 0 == 0 && (aa x 1 == 0 && (aa x 2 == 0 && (aa x 3 == 0 && (aa x 4 == 0 && (aa x 5 == 0 && (aa x 6 == 0 && (aa x 7 == 0 && true)))))))) = decide (x = 0) := by
 by_cases h : x = 0
 ·subst h; simp [fy]
 ·rw [UG h]
  apply Bool.eq_false_iff.2
  intro q
  simp only [UC, beq_iff_eq, Bool.and_true] at q
  obtain ⟨h0, h1, h2, h3, h4, h5, h6, h7⟩ := q
  apply h
  have e := Db hx.1 hx.2
  rw [l8, h0, h1, h2, h3, h4, h5, h6, h7] at e
  rw [← e]; decide
theorem Q1 {x : Int} (hx : cd x) : (aa (-x) 0 == 0 && (aa (-x) 1 == 0 && (aa (-x) 2 == 0 && (aa (-x) 3 == 0 && (aa (-x) 4 == 0 && (aa (-x) 5 == 0 && (aa (-x) 6 == 0 && (aa (-x) 7 == 0 && true)))))))) = decide (x = 0) := by
 by_cases h : x = 0
 ·subst h; simp [fy]
 ·have e : ∀ n, n < 8 → aa (-x) n = aa (-x + 13407807929942597099574024998205846127479365820592393377723561443721764030073546976801874298166903427690031858186486050853753882811946569946433649006084096 * 1) n := fun n hn => (da _ 1 n hn).symm
  have hu : cd (-x + 13407807929942597099574024998205846127479365820592393377723561443721764030073546976801874298166903427690031858186486050853753882811946569946433649006084096 * 1) := by unfold cd at *; omega
  have hz := JC hu
  rw [← e 0 (by omega), ← e 1 (by omega), ← e 2 (by omega), ← e 3 (by omega), ← e 4 (by omega), ← e 5 (by omega), ← e 6 (by omega), ← e 7 (by omega)] at hz
  rw [hz, UG h]
  apply UG
  unfold cd at hx; omega
theorem TF {x : Int} (hx : cd x) (h0 : x ≠ 0) : xH (-x) = fh (-x) := by
 by_cases h : fit (-x)
 ·rw [dH h, bY.2 h, UH]; unfold cd at hx; omega
 ·rw [qz.2 h, Ig h (by unfold cd at hx; omega) (by unfold cd at hx; omega)]
theorem TG {x : Int} (hx : cd x) : xH x = !fh x := by
 by_cases h : fit x
 ·rw [dH h, bY.2 h, UG]; · rfl
  unfold cd at hx; omega
 ·rw [qz.2 h, If h hx.1 hx.2]; rfl
theorem fW {x : Int} (hx : cd x) (b : Bool) (hf : fit (cond b (-x) x)) : bn (aa x 0) (aa x 1) (aa x 2) (aa x 3) (aa x 4) (aa x 5) (aa x 6) (aa x 7) b = some (t8 (cond b (-x) x)) := by
 unfold bn
 cases b with
 | true =>
  simp only [cond_true, Ih, Uy, t8, Q1 hx, lQ] at hf ⊢
  by_cases h0 : x = 0
  ·rw [UH h0]; rfl
  ·rw [UG h0, TF hx h0, bY.2 hf]; rfl
 | false =>
  simp only [cond_false, JC hx, lQ, Uy] at hf ⊢
  by_cases h0 : x = 0
  ·rw [UH h0]; rfl
  ·rw [UG h0, TG hx, bY.2 hf]; rfl
def t17 (x y : Int) (b : Bool) : (I8 (I8 Bool)) := (aa x 0, aa x 1, aa x 2, aa x 3, aa x 4, aa x 5, aa x 6, aa x 7, aa y 0, aa y 1, aa y 2, aa y 3, aa y 4, aa y 5, aa y 6, aa y 7, b)
theorem kA {a b q r : Int} (h : a = b * q + r) (hr : (0 ≤ r ∧ r < b) ∨ (b < r ∧ r ≤ 0)) : a.fdiv b = q ∧ a.fmod b = r := by
 have hb : b ≠ 0 := by omega
 have e : a.fdiv b = q := by
  rcases hr with ⟨h1, h2⟩ | ⟨h1, h2⟩
  ·rw [Int.fdiv_eq_ediv_of_nonneg _ (by omega), h, Int.mul_comm, Int.add_comm, Int.add_mul_ediv_right _ _ hb, Int.ediv_eq_zero_of_lt h1 h2]; omega
  ·have : a.fdiv b = (-a).fdiv (-b) := by rw [Int.neg_fdiv_neg]
   rw [this, Int.fdiv_eq_ediv_of_nonneg _ (by omega)]
   have e2 : -a = -r + q * (-b) := by rw [h, Int.mul_neg, Int.mul_comm q]; omega
   rw [e2, Int.add_mul_ediv_right _ _ (by omega), Int.ediv_eq_zero_of_lt (by omega) (by omega)]; omega
 refine ⟨e, ?_⟩
 rw [Int.fmod_def, e]; omega
theorem TH {a b : Int} (hb : fit b) (h0 : b = 0) : jT (aa a 0) (aa a 1) (aa a 2) (aa a 3) (aa a 4) (aa a 5) (aa a 6) (aa a 7) (aa b 0) (aa b 1) (aa b 2) (aa b 3) (aa b 4) (aa b 5) (aa b 6) (aa b 7) = some (t17 0 0 false) := by
 unfold jT
 rw [Lb hb, Uy, h0]
 simp [sgn, t17, fy]
theorem Ua {a b : Int} (ha : fit a) (hb : fit b) (h0 : b ≠ 0) (hf : fit (a.fdiv b)) : jT (aa a 0) (aa a 1) (aa a 2) (aa a 3) (aa a 4) (aa a 5) (aa a 6) (aa a 7) (aa b 0) (aa b 1) (aa b 2) (aa b 3) (aa b 4) (aa b 5) (aa b 6) (aa b 7) = some (t17 (a.fdiv b) (a.fmod b) true) := by
 have hs : (sgn b == 0) = false := by
  unfold sgn
  rw [UG h0]
  cases decide (b < 0) <;> rfl
 have hA := rW ha
 have hB := rW hb
 have hB0 : 0 < (b.natAbs : Int) := by omega
 have hdm := Int.mul_ediv_add_emod (a.natAbs : Int) (b.natAbs : Int)
 have hr0 := Int.emod_nonneg (a.natAbs : Int) (show (b.natAbs : Int) ≠ 0 by omega)
 have hr1 := Int.emod_lt_of_pos (a.natAbs : Int) hB0
 have hq0 : 0 ≤ (a.natAbs : Int) / (b.natAbs : Int) := Int.ediv_nonneg hA.1 hB.1
 have hqa : (a.natAbs : Int) / (b.natAbs : Int) ≤ (a.natAbs : Int) := Int.ediv_le_self _ hA.1
 unfold jT
 simp only [Lb hb, Uy, hs, cond_false, Hc ha, Hc hb, t8, Sk hA hB hB0, t16, lQ, dH ha, dH hb]
 generalize (a.natAbs : Int) / (b.natAbs : Int) = x at *
 generalize (a.natAbs : Int) % (b.natAbs : Int) = y at *
 have hx : cd x := by unfold cd at *; omega
 have hy : cd y := by unfold cd at *; omega
 simp only [JC hy]
 have hp1 := yQ x 0 1 ⟨by decide, by decide⟩
 simp only [fy, Int.add_zero] at hp1
 have hp2 := yQ (b.natAbs : Int) (-y - 1) 1 ⟨by decide, by decide⟩
 rw [show (b.natAbs : Int) + (-y - 1) + 1 = (b.natAbs : Int) - y by omega] at hp2
 by_cases h1 : a < 0 <;> by_cases h2 : b < 0
 ·have e := kA (a := a) (b := b) (q := x) (r := -y) (by rw [show b = -(b.natAbs : Int) by omega, Int.neg_mul]; omega) (.inr ⟨by omega, by omega⟩)
  rw [e.1] at hf
  have s1 := fW hx false hf
  have s2 := fW hy true (by show fit (-y); unfold fit; unfold fit at hb; omega)
  simp only [UH h1, UH h2, cond_true, Uy, s1, s2, t8, e.1, e.2, t17, cond_false]
 ·by_cases hy0 : y = 0
  ·have e := kA (a := a) (b := b) (q := -x) (r := 0) (by rw [show b = (b.natAbs : Int) by omega, Int.mul_neg]; omega) (.inl ⟨by omega, by omega⟩)
   rw [e.1] at hf
   have s1 := fW hx true hf
   have s2 := fW hy false (by show fit y; rw [hy0]; exact xF)
   simp only [UH h1, UG h2, UH hy0, Bool.not_true, cond_true, cond_false, Uy, s1, s2, t8, e.1, e.2, t17]
   rw [hy0]
  ·have e := kA (a := a) (b := b) (q := -(x + 1)) (r := (b.natAbs : Int) - y) (by rw [show b * -(x + 1) = -((b.natAbs : Int) * x + (b.natAbs : Int)) by rw [show (b.natAbs : Int) = b by omega, Int.mul_neg, Int.mul_add]; omega]; omega) (.inl ⟨by omega, by omega⟩)
   rw [e.1] at hf
   have hx1 : cd (x + 1) := by unfold fit at hf; unfold cd; omega
   have hb1 : cd ((b.natAbs : Int) - y) := by unfold cd at *; omega
   have s1 := fW hx1 true hf
   have s2 := fW hb1 false (by show fit ((b.natAbs : Int) - y); unfold fit at *; omega)
   simp only [UH h1, UG h2, UG hy0, Bool.not_false, cond_true, cond_false, Uy, hp1, Ha, hp2, s1, s2, t8, e.1, e.2, t17]
 ·by_cases hy0 : y = 0
  ·have e := kA (a := a) (b := b) (q := -x) (r := 0) (by rw [show b = -(b.natAbs : Int) by omega, Int.neg_mul_neg]; omega) (.inr ⟨by omega, by omega⟩)
   rw [e.1] at hf
   have s1 := fW hx true hf
   have s2 := fW hy true (by show fit (-y); rw [hy0]; exact xF)
   simp only [UG h1, UH h2, UH hy0, Bool.not_true, cond_true, cond_false, Uy, s1, s2, t8, e.1, e.2, t17]
   rw [hy0]; rfl
  ·have e := kA (a := a) (b := b) (q := -(x + 1)) (r := -((b.natAbs : Int) - y)) (by rw [show b * -(x + 1) = (b.natAbs : Int) * x + (b.natAbs : Int) by rw [show (b.natAbs : Int) = -b by omega, Int.mul_neg, Int.mul_add, Int.neg_mul]; omega]; omega) (.inr ⟨by omega, by omega⟩)
   rw [e.1] at hf
   have hx1 : cd (x + 1) := by unfold fit at hf; unfold cd; omega
   have hb1 : cd ((b.natAbs : Int) - y) := by unfold cd at *; omega
   have s1 := fW hx1 true hf
   have s2 := fW hb1 true (by show fit (-((b.natAbs : Int) - y)); unfold fit at *; omega)
   simp only [UG h1, UH h2, UG hy0, Bool.not_false, cond_true, cond_false, Uy, hp1, Ha, hp2, s1, s2, t8, e.1, e.2, t17]
 ·have e := kA (a := a) (b := b) (q := x) (r := y) (by rw [show b = (b.natAbs : Int) by omega]; omega) (.inl ⟨by omega, by omega⟩)
  rw [e.1] at hf
  have s1 := fW hx false hf
  have s2 := fW hy false (by show fit y; unfold fit at *; omega)
  simp only [UG h1, UG h2, cond_true, Uy, s1, s2, t8, e.1, e.2, t17, cond_false]
theorem Mo {l : List Int} {i : Nat} (h : i < l.length) : lv (l.take (i + 1)) = lv (l.take i) + l.getD i 0 * 18446744073709551616 ^ i := by
 have e := lS i (l.take (i + 1))
 rw [List.take_take, Nat.min_eq_left (by omega), List.drop_take, show i + 1 - i = 1 by omega, oS h] at e
 rw [e]
 simp [lv, Int.mul_comm]
theorem O4 {x y l0 : List Int} (hx : rL x) (hy : rL y) (hxl : x.length = 8) (hyl : y.length = 8) (h0 : rL l0) (hl0 : l0.length = 8) {i : Nat} (hi : i < 8) (a b c : LA_) (n1 n2 n3 n4 n5 n6 : Nat) :
  ∃ e, ym (a, n1, b, n2, c, n3, LL x, n4, LL y, n5, n6, (i : Int), (i : Int)) (LL l0, 0, 0) = some e ∧
   match e with
   | .inl () => 18446744073709551616 ^ 8 ≤ lv l0 + x.getD i 0 * lv y * 18446744073709551616 ^ i
   | .inr (r, k) => ∃ l, r = LL l ∧ l.length = 8 ∧ rL l ∧ 0 ≤ k ∧ lv l + k * 18446744073709551616 ^ (i + 8) = lv l0 + x.getD i 0 * lv y * 18446744073709551616 ^ i ∧ (0 < i → k = 0) := by
 refine gv (step := pV (a, n1, b, n2, c, n3, LL x, n4, LL y, n5, n6, (i : Int), (i : Int)))
  (fun v => ∃ (k : Nat) (l : List Int) (w : Int), v = (LL l, w, (k : Int)) ∧ l.length = 8 ∧ rL l ∧ k ≤ 8 ∧ (0 ≤ w ∧ w < 18446744073709551616) ∧
   lv l + w * 18446744073709551616 ^ (i + k) = lv l0 + x.getD i 0 * lv (y.take k) * 18446744073709551616 ^ i ∧ (8 < i + k → w = 0)) (fun v => (8 - v.2.2).toNat) _ ?_ (show (8 - (0 : Int)).toNat < 18446744073709551616 by decide)
  ⟨0, l0, 0, rfl, hl0, h0, by omega, by decide, by simp [lv], by omega⟩
 rintro v ⟨k, l, w, rfl, hl, hr, hk, hw, he, hc⟩
 have xg := hx.get i
 generalize hX : x.getD i 0 = xi at *
 by_cases h8 : k = 8
 ·subst h8
  refine .inr ⟨.inr (LL l, w), rfl, l, rfl, hl, hr, hw.1, ?_, fun h => hc (by omega)⟩
  rw [he, List.take_of_length_le (by omega)]
 ·have hk8 : k < 8 := by omega
  have yg := hy.get k
  have hta := Mo (l := y) (i := k) (by omega)
  have hsp := lS (k + 1) y
  generalize hY : y.getD k 0 = yk at *
  have d1 : decide ((k : Int) < 8) = true := UH (by omega)
  have w1 : IntKind.wrap .i64 ((i : Int) + (k : Int)) = ((i + k : Nat) : Int) := by rw [ce (by omega)]; omega
  have w2 : IntKind.wrap .i64 ((k : Int) + 1) = ((k + 1 : Nat) : Int) := by rw [ce (by omega)]; omega
  have hpn : 0 ≤ xi * yk := Int.mul_nonneg xg.1 yg.1
  have hpm : xi * yk ≤ 18446744073709551615 * 18446744073709551615 := Int.mul_le_mul (by omega) (by omega) yg.1 (by decide)
  have hlo := Int.emod_nonneg (xi * yk) (show (18446744073709551616 : Int) ≠ 0 by decide)
  have hlo2 := Int.emod_lt_of_pos (xi * yk) (show (0 : Int) < 18446744073709551616 by decide)
  have ad : gR (xi * yk % 18446744073709551616) w 0 = some ((xi * yk % 18446744073709551616 + w + 0) % 18446744073709551616, (xi * yk % 18446744073709551616 + w + 0) / 18446744073709551616) := by
   unfold gR
   rw [UH hlo, UH hw.1]; rfl
  have hmul : xi * lv (y.take (k + 1)) * 18446744073709551616 ^ i = xi * lv (y.take k) * 18446744073709551616 ^ i + xi * yk * 18446744073709551616 ^ (i + k) := by
   rw [hta, Int.pow_add]; grind
  have hbig : xi * lv (y.take (k + 1)) * 18446744073709551616 ^ i ≤ xi * lv y * 18446744073709551616 ^ i := by
   have h2 : 0 ≤ 18446744073709551616 ^ (k + 1) * lv (y.drop (k + 1)) := Int.mul_nonneg (Int.le_of_lt (FA _)) (sP (hy.drop _))
   exact UT (UU (by omega) xg.1) (Int.le_of_lt (FA i))
  simp only [pV, fN, d1, w1, w2, cond_true, gt, xI hi, xI hk8, UF, aw, Int.toNat_natCast, Nat.mul_one, Nat.zero_add, Nat.add_zero, rI, jt, hxl, hyl, hl, UH hi, UH hk8, hX, hY, Si xg yg, Uy, ad, AA]
  by_cases hik : i + k < 8
  ·have d2 : decide (((i + k : Nat) : Int) ≥ 8) = false := UG (by omega)
   have d3 : decide (i + k + 1 ≤ 8) = true := UH (by omega)
   have lg := hr.get (i + k)
   have hlen : i + k < l.length := by omega
   have hset := K8 (l := l) (i := i + k)
   generalize hL : l.getD (i + k) 0 = lk at *
   have ad2 : ∀ u, 0 ≤ u → gR lk u 0 = some ((lk + u + 0) % 18446744073709551616, (lk + u + 0) / 18446744073709551616) := fun u hu => by
    unfold gR
    rw [UH lg.1, UH hu]; rfl
   have hlo3 := Int.emod_nonneg (xi * yk % 18446744073709551616 + w + 0) (show (18446744073709551616 : Int) ≠ 0 by decide)
   simp only [d2, cond_false, d3, vN, hl, xI hik, gt, UF, aw, UH hik, ad2 _ hlo3, Uy]
   rw [uz hlen]
   refine .inl ⟨_, rfl, ⟨k + 1, _, _, rfl, by simpa using hl, hr.set (by omega) _, by omega, by omega, ?_, by omega⟩, by show (8 - ((k + 1 : Nat) : Int)).toNat < (8 - (k : Int)).toNat; omega⟩
   rw [hset _ hlen, hmul, ← Int.add_assoc (lv l0), ← he, show i + (k + 1) = i + k + 1 by omega, Int.pow_succ]
   have key : ((lk + (xi * yk % 18446744073709551616 + w + 0) % 18446744073709551616 + 0) % 18446744073709551616 - lk) + ((xi * yk / 18446744073709551616 + (xi * yk % 18446744073709551616 + w + 0) / 18446744073709551616) % 18446744073709551616 + (lk + (xi * yk % 18446744073709551616 + w + 0) % 18446744073709551616 + 0) / 18446744073709551616) % 18446744073709551616 * 18446744073709551616 = w + xi * yk := by
    generalize xi * yk = p at *
    omega
   generalize ((lk + (xi * yk % 18446744073709551616 + w + 0) % 18446744073709551616 + 0) % 18446744073709551616 - lk) = u1 at *
   generalize ((xi * yk / 18446744073709551616 + (xi * yk % 18446744073709551616 + w + 0) / 18446744073709551616) % 18446744073709551616 + (lk + (xi * yk % 18446744073709551616 + w + 0) % 18446744073709551616 + 0) / 18446744073709551616) % 18446744073709551616 = u2 at *
   generalize (18446744073709551616 : Int) ^ (i + k) = p at *
   have : u1 * p + u2 * (p * 18446744073709551616) = (u1 + u2 * 18446744073709551616) * p := by grind
   rw [Int.add_assoc, this, key]; grind
  ·have d2 : decide (((i + k : Nat) : Int) ≥ 8) = true := UH (by omega)
   simp only [d2, cond_true]
   have hover : 0 < xi * yk + w → 18446744073709551616 ^ 8 ≤ lv l0 + xi * lv y * 18446744073709551616 ^ i := by
    intro hpos
    have h1 : lv l + (w + xi * yk) * 18446744073709551616 ^ (i + k) = lv l0 + xi * lv (y.take (k + 1)) * 18446744073709551616 ^ i := by
     rw [hmul, ← Int.add_assoc (lv l0), ← he, Int.add_mul, Int.add_assoc]
    have h2 : (18446744073709551616 : Int) ^ 8 ≤ 18446744073709551616 ^ (i + k) := by
     rw [m2, m2]
     have := Nat.pow_le_pow_right (n := 2) (by decide) (show 64 * 8 ≤ 64 * (i + k) by omega)
     omega
    have h3 : 1 * (18446744073709551616 : Int) ^ (i + k) ≤ (w + xi * yk) * 18446744073709551616 ^ (i + k) := UT (by omega) (Int.le_of_lt (FA _))
    have h4 := sP hr
    omega
   generalize hq : xi * yk = p at *
   by_cases e1 : (p % 18446744073709551616 + w + 0) % 18446744073709551616 = 0
   ·have b1 : ((p % 18446744073709551616 + w + 0) % 18446744073709551616 != 0) = false := by rw [e1]; rfl
    rw [b1]
    simp only [cond_false]
    by_cases e2 : (p / 18446744073709551616 + (p % 18446744073709551616 + w + 0) / 18446744073709551616) % 18446744073709551616 = 0
    ·have b2 : ((p / 18446744073709551616 + (p % 18446744073709551616 + w + 0) / 18446744073709551616) % 18446744073709551616 != 0) = false := by rw [e2]; rfl
     rw [b2]
     have hz : p = 0 ∧ w = 0 := by omega
     refine .inl ⟨_, rfl, ⟨k + 1, l, 0, rfl, hl, hr, by omega, by decide, ?_, fun _ => rfl⟩, by show (8 - ((k + 1 : Nat) : Int)).toNat < (8 - (k : Int)).toNat; omega⟩
     rw [hmul, hz.1]
     rw [hz.2] at he
     simpa using he
    ·have b2 : ((p / 18446744073709551616 + (p % 18446744073709551616 + w + 0) / 18446744073709551616) % 18446744073709551616 != 0) = true := by simpa using e2
     rw [b2]
     exact .inr ⟨.inl (), rfl, hover (by omega)⟩
   ·have b1 : ((p % 18446744073709551616 + w + 0) % 18446744073709551616 != 0) = true := by simpa using e1
    rw [b1]
    exact .inr ⟨.inl (), rfl, hover (by omega)⟩
theorem O5 {x y : List Int} (hx : rL x) (hy : rL y) (hxl : x.length = 8) (hyl : y.length = 8) (a b c : LA_) (n1 n2 n3 n4 n5 n6 : Nat) :
  ∃ e, tl (a, n1, b, n2, c, n3, LL x, n4, LL y, n5, n6) (LL z8, 0) = some e ∧
   match e with
   | .inl () => 18446744073709551616 ^ 8 ≤ lv x * lv y
   | .inr r => r = LL (l8 (lv x * lv y)) ∧ cd (lv x * lv y) := by
 refine gv (step := rv (a, n1, b, n2, c, n3, LL x, n4, LL y, n5, n6))
  (fun v => ∃ (i : Nat) (l : List Int), v = (LL l, (i : Int)) ∧ l.length = 8 ∧ rL l ∧ i ≤ 8 ∧ lv l = lv (x.take i) * lv y) (fun v => (8 - v.2).toNat) _ ?_ (show (8 - (0 : Int)).toNat < 18446744073709551616 by decide)
  ⟨0, z8, rfl, rfl, rLz, by omega, by simp [lvz, lv]⟩
 rintro v ⟨i, l, rfl, hl, hr, hi, he⟩
 by_cases h8 : i = 8
 ·subst h8
  rw [List.take_of_length_le (by omega)] at he
  refine .inr ⟨.inr (LL l), rfl, ?_, ?_⟩
  ·rw [← he, ← Q0 hr hl]
  ·have := OV hr hl
   rw [he] at this; exact this
 ·have hi8 : i < 8 := by omega
  have hta := Mo (l := x) (i := i) (by omega)
  have xg := hx.get i
  have d1 : decide ((i : Int) < 8) = true := UH (by omega)
  have w2 : IntKind.wrap .i64 ((i : Int) + 1) = ((i + 1 : Nat) : Int) := by rw [ce (by omega)]; omega
  obtain ⟨e, h1, h2⟩ := O4 hx hy hxl hyl hr hl hi8 a b c n1 n2 n3 n4 n5 n6
  simp only [rv, gy, d1, w2, cond_true, gt, xI hi8, UF, aw, Int.toNat_natCast, Nat.mul_one, Nat.zero_add, Nat.add_zero, rI, jt, hxl, UH hi8, h1, Uy]
  generalize hX : x.getD i 0 = xi at *
  have hsum : lv l + xi * lv y * 18446744073709551616 ^ i = lv (x.take (i + 1)) * lv y := by rw [he, hta]; grind
  have hle : lv (x.take (i + 1)) * lv y ≤ lv x * lv y := by
   have hsp := lS (i + 1) x
   have h2 : 0 ≤ 18446744073709551616 ^ (i + 1) * lv (x.drop (i + 1)) := Int.mul_nonneg (Int.le_of_lt (FA _)) (sP (hx.drop _))
   exact UT (by omega) (sP hy)
  by_cases hx0 : xi = 0
  ·have b1 : (xi == 0) = true := by simp [hx0]
   rw [b1]
   refine .inl ⟨_, rfl, ⟨i + 1, l, rfl, hl, hr, by omega, ?_⟩, by show (8 - ((i + 1 : Nat) : Int)).toNat < (8 - (i : Int)).toNat; omega⟩
   rw [← hsum, hx0]; simp
  ·have b1 : (xi == 0) = false := by simpa using hx0
   rw [b1]
   simp only [cond_false]
   rw [hsum] at h2
   match e, h2 with
   | .inl (), h2 => exact .inr ⟨.inl (), rfl, Int.le_trans h2 hle⟩
   | .inr (r, k), ⟨l2, hr2, hl2, hrl2, hk0, he2, hki⟩ =>
    subst hr2
    by_cases hk : k = 0
    ·have b2 : (k != 0) = false := by simp [hk]
     refine .inl ⟨(LL l2, ((i + 1 : Nat) : Int)), by simp only [Sum.elim, b2, cond_false], ⟨i + 1, l2, rfl, hl2, hrl2, by omega, ?_⟩, by show (8 - ((i + 1 : Nat) : Int)).toNat < (8 - (i : Int)).toNat; omega⟩
     rw [hk] at he2; simpa using he2
    ·have b2 : (k != 0) = true := by simpa using hk
     refine .inr ⟨.inl (), by simp only [Sum.elim, b2, cond_true], ?_⟩
     have hi0 : i = 0 := by
      rcases Nat.eq_zero_or_pos i with h | h
      ·exact h
      ·exact absurd (hki h) hk
     subst hi0
     have h3 : 1 * (18446744073709551616 : Int) ^ 8 ≤ k * 18446744073709551616 ^ 8 := UT (by omega) (Int.le_of_lt (FA _))
     have h4 := sP hrl2
     simp only [Nat.zero_add] at he2 hle
     exact Int.le_trans (by omega) hle
def K8v : List TK := [.int .u64, .int .u64, .int .u64, .int .u64, .int .u64, .int .u64, .int .u64, .int .u64]
abbrev R9 := (I8 Bool)
def xJ (e : LA_) (ok : Bool) : Option R9 :=
 af (decide (0 + 8 ≤ List.length (LL z8))) (af (aq K8v (spliced (LL z8) 0 e) 0) (some (ac (spliced (LL z8) 0 e) 0, ac (spliced (LL z8) 0 e) 1, ac (spliced (LL z8) 0 e) 2, ac (spliced (LL z8) 0 e) 3, ac (spliced (LL z8) 0 e) 4, ac (spliced (LL z8) 0 e) 5, ac (spliced (LL z8) 0 e) 6, ac (spliced (LL z8) 0 e) 7, ok)))
def zr (a b c d e f g h : Int) : Bool := a == 0 && (b == 0 && (c == 0 && (d == 0 && (e == 0 && (f == 0 && (g == 0 && (h == 0 && true)))))))
def JD (e : LA_) : Option R9 :=
 cond (!(zr (ac e 0) (ac e 1) (ac e 2) (ac e 3) (ac e 4) (ac e 5) (ac e 6) (ac e 7))) (Option.bind (aj (ac e 0) (ac e 1) (ac e 2) (ac e 3) (ac e 4) (ac e 5) (ac e 6) (ac e 7)) fun n => cond n (xJ (LL z8) false) (xJ [.int .u64 (ac e 0), .int .u64 (ac e 1), .int .u64 (ac e 2), .int .u64 (ac e 3), .int .u64 (ac e 4), .int .u64 (ac e 5), .int .u64 (ac e 6), .int .u64 (ac e 7)] true)) (xJ [.int .u64 (ac e 0), .int .u64 (ac e 1), .int .u64 (ac e 2), .int .u64 (ac e 3), .int .u64 (ac e 4), .int .u64 (ac e 5), .int .u64 (ac e 6), .int .u64 (ac e 7)] true)
def Hf (e : LA_) : Option R9 :=
 Option.bind (eH (ac e 0) (ac e 1) (ac e 2) (ac e 3) (ac e 4) (ac e 5) (ac e 6) (ac e 7)) fun r => cond (!(zr r.1 r.2.1 r.2.2.1 r.2.2.2.1 r.2.2.2.2.1 r.2.2.2.2.2.1 r.2.2.2.2.2.2.1 r.2.2.2.2.2.2.2)) (Option.bind (aj r.1 r.2.1 r.2.2.1 r.2.2.2.1 r.2.2.2.2.1 r.2.2.2.2.2.1 r.2.2.2.2.2.2.1 r.2.2.2.2.2.2.2) fun n => cond n (xJ [.int .u64 r.1, .int .u64 r.2.1, .int .u64 r.2.2.1, .int .u64 r.2.2.2.1, .int .u64 r.2.2.2.2.1, .int .u64 r.2.2.2.2.2.1, .int .u64 r.2.2.2.2.2.2.1, .int .u64 r.2.2.2.2.2.2.2] true) (xJ (LL z8) false)) (xJ [.int .u64 r.1, .int .u64 r.2.1, .int .u64 r.2.2.1, .int .u64 r.2.2.2.1, .int .u64 r.2.2.2.2.1, .int .u64 r.2.2.2.2.2.1, .int .u64 r.2.2.2.2.2.2.1, .int .u64 r.2.2.2.2.2.2.2] true)
def JE (a b e : LA_) : Option R9 :=
 af (aq K8v e 0) (af (aq K8v a 0) (Option.bind (aj (ac a 0) (ac a 1) (ac a 2) (ac a 3) (ac a 4) (ac a 5) (ac a 6) (ac a 7)) fun n => cond n
  (af (aq K8v b 0) (Option.bind (aj (ac b 0) (ac b 1) (ac b 2) (ac b 3) (ac b 4) (ac b 5) (ac b 6) (ac b 7)) fun m => cond m (JD e) (Hf e)))
  (af (aq K8v b 0) (Option.bind (aj (ac b 0) (ac b 1) (ac b 2) (ac b 3) (ac b 4) (ac b 5) (ac b 6) (ac b 7)) fun m => cond m (Hf e) (JD e)))))
theorem LJ (x y : Int) : pX (aa x 0) (aa x 1) (aa x 2) (aa x 3) (aa x 4) (aa x 5) (aa x 6) (aa x 7) (aa y 0) (aa y 1) (aa y 2) (aa y 3) (aa y 4) (aa y 5) (aa y 6) (aa y 7) =
  Option.bind (dz (aa x 0) (aa x 1) (aa x 2) (aa x 3) (aa x 4) (aa x 5) (aa x 6) (aa x 7)) fun r1 => Option.bind (dz (aa y 0) (aa y 1) (aa y 2) (aa y 3) (aa y 4) (aa y 5) (aa y 6) (aa y 7)) fun r2 =>
   Option.bind (tl (LL (l8 x), 1, LL (l8 y), 1, LL z8, 1, LL [r1.1, r1.2.1, r1.2.2.1, r1.2.2.2.1, r1.2.2.2.2.1, r1.2.2.2.2.2.1, r1.2.2.2.2.2.2.1, r1.2.2.2.2.2.2.2], 1, LL [r2.1, r2.2.1, r2.2.2.1, r2.2.2.2.1, r2.2.2.2.2.1, r2.2.2.2.2.2.1, r2.2.2.2.2.2.2.1, r2.2.2.2.2.2.2.2], 1, 1) (LL z8, 0)) (Sum.elim (fun _ => xJ (LL z8) false) fun e => JE (LL (l8 x)) (LL (l8 y)) e) := rfl
theorem g8 (z : Int) {j : Nat} (hj : j < 8) : ac (LL (l8 z)) j = aa z j := by rw [jt, iO, if_pos hj]
theorem Il (z : Int) (ok : Bool) : xJ (LL (l8 z)) ok = some (t9 z ok) := by
 unfold xJ
 simp only [K8v, vN, O2, Lh (show z8.length = (l8 z).length from rfl), yP (qA _), jt, iO]
 rfl
theorem Li : xJ (LL z8) false = some (t9 0 false) := by
 have := Il 0 false
 rw [show l8 0 = z8 by unfold l8; simp only [fy]; rfl] at this
 exact this
theorem Qr {z : Int} (h : cd z) : JD (LL (l8 z)) = some (cond (fh z) (t9 z true) (t9 0 false)) := by
 unfold JD zr
 simp only [g8 z (show 0 < 8 by omega), g8 z (show 1 < 8 by omega), g8 z (show 2 < 8 by omega), g8 z (show 3 < 8 by omega), g8 z (show 4 < 8 by omega), g8 z (show 5 < 8 by omega), g8 z (show 6 < 8 by omega), g8 z (show 7 < 8 by omega), JC h, lQ, Uy, Az, uA, Il, Li, TG h]
 by_cases h0 : z = 0
 ·subst h0; rw [bY.2 xF]; rfl
 ·rw [UG h0]; cases fh z <;> rfl
theorem O6 {z : Int} (h : cd z) : Hf (LL (l8 z)) = some (cond (fh (-z)) (t9 (-z) true) (t9 0 false)) := by
 unfold Hf zr
 simp only [g8 z (show 0 < 8 by omega), g8 z (show 1 < 8 by omega), g8 z (show 2 < 8 by omega), g8 z (show 3 < 8 by omega), g8 z (show 4 < 8 by omega), g8 z (show 5 < 8 by omega), g8 z (show 6 < 8 by omega), g8 z (show 7 < 8 by omega), Ih, t8, Q1 h, lQ, Uy, Az, uA, Il, Li]
 by_cases h0 : z = 0
 ·subst h0; rw [Int.neg_zero, bY.2 xF]; rfl
 ·rw [UG h0, TF h h0]; cases fh (-z) <;> rfl
theorem Qs {x y z : Int} (hx : fit x) (hy : fit y) (h : cd z) : JE (LL (l8 x)) (LL (l8 y)) (LL (l8 z)) = cond (decide (x < 0) == decide (y < 0)) (some (cond (fh z) (t9 z true) (t9 0 false))) (some (cond (fh (-z)) (t9 (-z) true) (t9 0 false))) := by
 unfold JE
 simp only [K8v, yP (qA _), aw, g8 x (show 0 < 8 by omega), g8 x (show 1 < 8 by omega), g8 x (show 2 < 8 by omega), g8 x (show 3 < 8 by omega), g8 x (show 4 < 8 by omega), g8 x (show 5 < 8 by omega), g8 x (show 6 < 8 by omega), g8 x (show 7 < 8 by omega),
  g8 y (show 0 < 8 by omega), g8 y (show 1 < 8 by omega), g8 y (show 2 < 8 by omega), g8 y (show 3 < 8 by omega), g8 y (show 4 < 8 by omega), g8 y (show 5 < 8 by omega), g8 y (show 6 < 8 by omega), g8 y (show 7 < 8 by omega), lQ, Uy, dH hx, dH hy, Qr h, O6 h]
 cases decide (x < 0) <;> cases decide (y < 0) <;> rfl
theorem TI {p q : Prop} [Decidable p] [Decidable q] (h : p ≠ q) : (decide p == decide q) = false := by
 by_cases a : p <;> by_cases b : q <;> simp_all
theorem TJ {p q : Prop} [Decidable p] [Decidable q] (h : ¬ p ≠ q) : (decide p == decide q) = true := by
 by_cases a : p <;> by_cases b : q <;> simp_all
theorem Ub {x y : Int} (hx : fit x) (hy : fit y) :
  pX (aa x 0) (aa x 1) (aa x 2) (aa x 3) (aa x 4) (aa x 5) (aa x 6) (aa x 7) (aa y 0) (aa y 1) (aa y 2) (aa y 3) (aa y 4) (aa y 5) (aa y 6) (aa y 7) =
   some (t9 (fV (x * y)).1 (fV (x * y)).2) := by
 have hA := rW hx
 have hB := rW hy
 obtain ⟨e, h1, h2⟩ := O5 (x := l8 (x.natAbs : Int)) (y := l8 (y.natAbs : Int)) (He _) (He _) rfl rfl (LL (l8 x)) (LL (l8 y)) (LL z8) 1 1 1 1 1 1
 rw [Db hA.1 hA.2, Db hB.1 hB.2] at h2
 have gq : ∀ z j, j < 8 → (l8 z).getD j 0 = aa z j := fun z j hj => by rw [iO, if_pos hj]
 have gz : ∀ j, z8.getD j 0 = 0 := O1
 have hab : (x * y).natAbs = x.natAbs * y.natAbs := Int.natAbs_mul x y
 have hP : ((x.natAbs : Int) * (y.natAbs : Int)) = ((x * y).natAbs : Int) := by rw [hab]; push_cast; rfl
 rw [hP] at h2
 have hsg : x * y < 0 ↔ (x * y ≠ 0 ∧ ((x < 0) ≠ (y < 0))) := by
  rcases Int.lt_trichotomy x 0 with a | a | a <;> rcases Int.lt_trichotomy y 0 with b | b | b
  ·have := Int.mul_pos_of_neg_of_neg a b; simp [a, b]; omega
  ·subst b; simp
  ·have := Int.mul_neg_of_neg_of_pos a b
   have hb : ¬ y < 0 := by omega
   simp [a, hb, this]; omega
  ·subst a; simp
  ·subst a; simp
  ·subst a; simp
  ·have := Int.mul_neg_of_pos_of_neg a b
   have ha : ¬ x < 0 := by omega
   simp [ha, b, this]; omega
  ·subst b; simp
  ·have := Int.mul_pos a b
   have ha : ¬ x < 0 := by omega
   have hb : ¬ y < 0 := by omega
   simp [ha, hb]; omega
 rw [LJ, Hc hx, Uy, Hc hy, Uy]
 simp only [t8, uA, h1, Uy]
 match e, h2 with
 | .inl (), h2 =>
  have hnf : ¬ fit (x * y) := by
   have : (18446744073709551616 : Int) ^ 8 = 13407807929942597099574024998205846127479365820592393377723561443721764030073546976801874298166903427690031858186486050853753882811946569946433649006084096 := by decide
   unfold fit; omega
  unfold fV
  rw [qz.2 hnf]
  exact Li
 | .inr r, ⟨h2, h3⟩ =>
  subst h2
  show JE _ _ _ = _
  rw [Qs hx hy h3]
  generalize hz : x * y = z at *
  unfold fV
  by_cases hn : (x < 0) ≠ (y < 0)
  ·have hb : (decide (x < 0) == decide (y < 0)) = false := TI hn
   rw [hb]
   have e : -(z.natAbs : Int) = z := by
    by_cases h0 : z = 0
    ·omega
    ·have := hsg.2 ⟨h0, hn⟩; omega
   rw [cond_false, e]; cases fh z <;> rfl
  ·have hb : (decide (x < 0) == decide (y < 0)) = true := TJ hn
   rw [hb]
   have e : (z.natAbs : Int) = z := by
    have : ¬ z < 0 := fun h => hn (hsg.1 h).2
    omega
   rw [cond_true, e]; cases fh z <;> rfl
end Go.Ev
namespace Go.Ev
open Go.Proofs
theorem aX.cO {P : Program} {g : FuncId} {h c : HK} (hk : aX P g h) (e : ∀ args σ x, (c.call args σ fun r σ' => some (r, σ')) = some x → (h.call args σ fun r σ' => some (r, σ')) = some x) : aX P g c := fun args σ r σ' q => hk args σ r σ' (e args σ _ q)
theorem Uc {a0 : Int} {r} (h : cOf a0 = some r) : su a0 = some (t8 r) := by
 unfold cOf at h
 obtain ⟨h1, h2⟩ := aH h
 simp only [UB] at h2
 subst h2
 exact Us h1
def HD : HK where
 call := fun args σ k => match args with
  | [.int .i64 a0] => Option.bind (cOf a0) fun r => k (.ret (.agg [.int .u64 (aa r 0), .int .u64 (aa r 1), .int .u64 (aa r 2), .int .u64 (aa r 3), .int .u64 (aa r 4), .int .u64 (aa r 5), .int .u64 (aa r 6), .int .u64 (aa r 7)])) σ
  | _ => none
 nat := fun args σ k => by
  repeat' split
  all_goals simp only [UA, Uz, Uy]
 pure := true
 pok := fun _ args σ r σ' h => by
  split at h
  ·obtain ⟨q, h1, h2⟩ := bE_ h
   simp only [UB, UD] at h2
   obtain ⟨rfl, rfl⟩ := h2
   exact ⟨rfl, ⟨_, rfl⟩, fun σ2 => by simp only [h1, Uy]⟩
  ·cases h
theorem CK : aX U2 19 HD := JM.cO fun args σ x h => by
 simp only [HD] at h
 split at h
 ·rename_i a0
  obtain ⟨r, h1, h2⟩ := bE_ h
  simp only [B3, Uc h1, Uy]
  exact h2
 ·cases h
theorem Sl {a0 a1 a2 a3 a4 a5 a6 a7 : Int} {r} (h : pu a0 a1 a2 a3 a4 a5 a6 a7 = some r) : kl a0 a1 a2 a3 a4 a5 a6 a7 = some (r) := by
 unfold pu at h
 obtain ⟨h1, h2⟩ := aH h
 simp only [UB] at h2
 subst h2
 have hf := fj h1
 have q := Lb hf
 obtain ⟨e0, e1, e2, e3, e4, e5, e6, e7⟩ := aQ h1
 rw [e0, e1, e2, e3, e4, e5, e6, e7] at q
 exact q
def BA : HK where
 call := fun args σ k => match args with
  | [.agg [.int .u64 a0, .int .u64 a1, .int .u64 a2, .int .u64 a3, .int .u64 a4, .int .u64 a5, .int .u64 a6, .int .u64 a7]] => Option.bind (pu a0 a1 a2 a3 a4 a5 a6 a7) fun r => k (.ret (.int .i64 r)) σ
  | _ => none
 nat := fun args σ k => by
  repeat' split
  all_goals simp only [UA, Uz, Uy]
 pure := true
 pok := fun _ args σ r σ' h => by
  split at h
  ·obtain ⟨q, h1, h2⟩ := bE_ h
   simp only [UB, UD] at h2
   obtain ⟨rfl, rfl⟩ := h2
   exact ⟨rfl, ⟨_, rfl⟩, fun σ2 => by simp only [h1, Uy]⟩
  ·cases h
theorem BB : aX U2 28 BA := yh.cO fun args σ x h => by
 simp only [BA] at h
 split at h
 ·rename_i a0 a1 a2 a3 a4 a5 a6 a7
  obtain ⟨r, h1, h2⟩ := bE_ h
  simp only [rM, Sl h1, Uy]
  exact h2
 ·cases h
theorem TL {a0 a1 a2 a3 a4 a5 a6 a7 a8 a9 a10 a11 a12 a13 a14 a15 : Int} {r} (h : Ez a0 a1 a2 a3 a4 a5 a6 a7 a8 a9 a10 a11 a12 a13 a14 a15 = some r) : pP a0 a1 a2 a3 a4 a5 a6 a7 a8 a9 a10 a11 a12 a13 a14 a15 = some (r) := by
 unfold Ez at h
 obtain ⟨h1, h2⟩ := aH h
 simp only [UB] at h2
 subst h2
 rw [UC] at h1
 obtain ⟨h1, h3⟩ := h1
 have hf := fj h1
 have hg := fj h3
 obtain ⟨e0, e1, e2, e3, e4, e5, e6, e7⟩ := aQ h1
 obtain ⟨d0, d1, d2, d3, d4, d5, d6, d7⟩ := aQ h3
 have q := T6 hf hg
 rw [e0, e1, e2, e3, e4, e5, e6, e7, d0, d1, d2, d3, d4, d5, d6, d7] at q
 exact q
def Jj : HK where
 call := fun args σ k => match args with
  | [.agg [.int .u64 a0, .int .u64 a1, .int .u64 a2, .int .u64 a3, .int .u64 a4, .int .u64 a5, .int .u64 a6, .int .u64 a7], .agg [.int .u64 a8, .int .u64 a9, .int .u64 a10, .int .u64 a11, .int .u64 a12, .int .u64 a13, .int .u64 a14, .int .u64 a15]] => Option.bind (Ez a0 a1 a2 a3 a4 a5 a6 a7 a8 a9 a10 a11 a12 a13 a14 a15) fun r => k (.ret (.int .i64 r)) σ
  | _ => none
 nat := fun args σ k => by
  repeat' split
  all_goals simp only [UA, Uz, Uy]
 pure := true
 pok := fun _ args σ r σ' h => by
  split at h
  ·obtain ⟨q, h1, h2⟩ := bE_ h
   simp only [UB, UD] at h2
   obtain ⟨rfl, rfl⟩ := h2
   exact ⟨rfl, ⟨_, rfl⟩, fun σ2 => by simp only [h1, Uy]⟩
  ·cases h
theorem JF : aX U2 21 Jj := I5.cO fun args σ x h => by
 simp only [Jj] at h
 split at h
 ·rename_i a0 a1 a2 a3 a4 a5 a6 a7 a8 a9 a10 a11 a12 a13 a14 a15
  obtain ⟨r, h1, h2⟩ := bE_ h
  simp only [zF, TL h1, Uy]
  exact h2
 ·cases h
theorem TM {a0 a1 a2 a3 a4 a5 a6 a7 : Int} {r} (h : K9 a0 a1 a2 a3 a4 a5 a6 a7 = some r) : pZ a0 a1 a2 a3 a4 a5 a6 a7 = some (t9 r.1 r.2) := by
 unfold K9 at h
 obtain ⟨h1, h2⟩ := aH h
 simp only [UB] at h2
 subst h2
 have hf := fj h1
 have q := T5 hf
 obtain ⟨e0, e1, e2, e3, e4, e5, e6, e7⟩ := aQ h1
 rw [e0, e1, e2, e3, e4, e5, e6, e7] at q
 exact q
def Ns : HK where
 call := fun args σ k => match args with
  | [.agg [.int .u64 a0, .int .u64 a1, .int .u64 a2, .int .u64 a3, .int .u64 a4, .int .u64 a5, .int .u64 a6, .int .u64 a7]] => Option.bind (K9 a0 a1 a2 a3 a4 a5 a6 a7) fun r => k (.ret (.tup [.agg [.int .u64 (aa r.1 0), .int .u64 (aa r.1 1), .int .u64 (aa r.1 2), .int .u64 (aa r.1 3), .int .u64 (aa r.1 4), .int .u64 (aa r.1 5), .int .u64 (aa r.1 6), .int .u64 (aa r.1 7)], .bool r.2])) σ
  | _ => none
 nat := fun args σ k => by
  repeat' split
  all_goals simp only [UA, Uz, Uy]
 pure := true
 pok := fun _ args σ r σ' h => by
  split at h
  ·obtain ⟨q, h1, h2⟩ := bE_ h
   simp only [UB, UD] at h2
   obtain ⟨rfl, rfl⟩ := h2
   exact ⟨rfl, ⟨_, rfl⟩, fun σ2 => by simp only [h1, Uy]⟩
  ·cases h
theorem Qt : aX U2 67 Ns := Ja.cO fun args σ x h => by
 simp only [Ns] at h
 split at h
 ·rename_i a0 a1 a2 a3 a4 a5 a6 a7
  obtain ⟨r, h1, h2⟩ := bE_ h
  simp only [zM, TM h1, Uy]
  exact h2
 ·cases h
theorem TN {a0 a1 a2 a3 a4 a5 a6 a7 a8 a9 a10 a11 a12 a13 a14 a15 : Int} {r} (h : uW a0 a1 a2 a3 a4 a5 a6 a7 a8 a9 a10 a11 a12 a13 a14 a15 = some r) : pN a0 a1 a2 a3 a4 a5 a6 a7 a8 a9 a10 a11 a12 a13 a14 a15 = some (t9 r.1 r.2) := by
 unfold uW at h
 obtain ⟨h1, h2⟩ := aH h
 simp only [UB] at h2
 subst h2
 rw [UC] at h1
 obtain ⟨h1, h3⟩ := h1
 have hf := fj h1
 have hg := fj h3
 obtain ⟨e0, e1, e2, e3, e4, e5, e6, e7⟩ := aQ h1
 obtain ⟨d0, d1, d2, d3, d4, d5, d6, d7⟩ := aQ h3
 have q := T4 hf hg
 rw [e0, e1, e2, e3, e4, e5, e6, e7, d0, d1, d2, d3, d4, d5, d6, d7] at q
 exact q
def Jk : HK where
 call := fun args σ k => match args with
  | [.agg [.int .u64 a0, .int .u64 a1, .int .u64 a2, .int .u64 a3, .int .u64 a4, .int .u64 a5, .int .u64 a6, .int .u64 a7], .agg [.int .u64 a8, .int .u64 a9, .int .u64 a10, .int .u64 a11, .int .u64 a12, .int .u64 a13, .int .u64 a14, .int .u64 a15]] => Option.bind (uW a0 a1 a2 a3 a4 a5 a6 a7 a8 a9 a10 a11 a12 a13 a14 a15) fun r => k (.ret (.tup [.agg [.int .u64 (aa r.1 0), .int .u64 (aa r.1 1), .int .u64 (aa r.1 2), .int .u64 (aa r.1 3), .int .u64 (aa r.1 4), .int .u64 (aa r.1 5), .int .u64 (aa r.1 6), .int .u64 (aa r.1 7)], .bool r.2])) σ
  | _ => none
 nat := fun args σ k => by
  repeat' split
  all_goals simp only [UA, Uz, Uy]
 pure := true
 pok := fun _ args σ r σ' h => by
  split at h
  ·obtain ⟨q, h1, h2⟩ := bE_ h
   simp only [UB, UD] at h2
   obtain ⟨rfl, rfl⟩ := h2
   exact ⟨rfl, ⟨_, rfl⟩, fun σ2 => by simp only [h1, Uy]⟩
  ·cases h
theorem JG : aX U2 36 Jk := I3.cO fun args σ x h => by
 simp only [Jk] at h
 split at h
 ·rename_i a0 a1 a2 a3 a4 a5 a6 a7 a8 a9 a10 a11 a12 a13 a14 a15
  obtain ⟨r, h1, h2⟩ := bE_ h
  simp only [zE, TN h1, Uy]
  exact h2
 ·cases h
theorem TO {a0 a1 a2 a3 a4 a5 a6 a7 a8 a9 a10 a11 a12 a13 a14 a15 : Int} {r} (h : Bw a0 a1 a2 a3 a4 a5 a6 a7 a8 a9 a10 a11 a12 a13 a14 a15 = some r) : mi a0 a1 a2 a3 a4 a5 a6 a7 a8 a9 a10 a11 a12 a13 a14 a15 = some (t9 r.1 r.2) := by
 unfold Bw at h
 obtain ⟨h1, h2⟩ := aH h
 simp only [UB] at h2
 subst h2
 rw [UC] at h1
 obtain ⟨h1, h3⟩ := h1
 have hf := fj h1
 have hg := fj h3
 obtain ⟨e0, e1, e2, e3, e4, e5, e6, e7⟩ := aQ h1
 obtain ⟨d0, d1, d2, d3, d4, d5, d6, d7⟩ := aQ h3
 have q := QY hf hg
 rw [e0, e1, e2, e3, e4, e5, e6, e7, d0, d1, d2, d3, d4, d5, d6, d7] at q
 exact q
def Jl : HK where
 call := fun args σ k => match args with
  | [.agg [.int .u64 a0, .int .u64 a1, .int .u64 a2, .int .u64 a3, .int .u64 a4, .int .u64 a5, .int .u64 a6, .int .u64 a7], .agg [.int .u64 a8, .int .u64 a9, .int .u64 a10, .int .u64 a11, .int .u64 a12, .int .u64 a13, .int .u64 a14, .int .u64 a15]] => Option.bind (Bw a0 a1 a2 a3 a4 a5 a6 a7 a8 a9 a10 a11 a12 a13 a14 a15) fun r => k (.ret (.tup [.agg [.int .u64 (aa r.1 0), .int .u64 (aa r.1 1), .int .u64 (aa r.1 2), .int .u64 (aa r.1 3), .int .u64 (aa r.1 4), .int .u64 (aa r.1 5), .int .u64 (aa r.1 6), .int .u64 (aa r.1 7)], .bool r.2])) σ
  | _ => none
 nat := fun args σ k => by
  repeat' split
  all_goals simp only [UA, Uz, Uy]
 pure := true
 pok := fun _ args σ r σ' h => by
  split at h
  ·obtain ⟨q, h1, h2⟩ := bE_ h
   simp only [UB, UD] at h2
   obtain ⟨rfl, rfl⟩ := h2
   exact ⟨rfl, ⟨_, rfl⟩, fun σ2 => by simp only [h1, Uy]⟩
  ·cases h
theorem JH : aX U2 83 Jl := AH.cO fun args σ x h => by
 simp only [Jl] at h
 split at h
 ·rename_i a0 a1 a2 a3 a4 a5 a6 a7 a8 a9 a10 a11 a12 a13 a14 a15
  obtain ⟨r, h1, h2⟩ := bE_ h
  simp only [uh, TO h1, Uy]
  exact h2
 ·cases h
theorem TP {a0 a1 a2 a3 a4 a5 a6 a7 a8 a9 a10 a11 a12 a13 a14 a15 : Int} {r} (h : uV a0 a1 a2 a3 a4 a5 a6 a7 a8 a9 a10 a11 a12 a13 a14 a15 = some r) : pX a0 a1 a2 a3 a4 a5 a6 a7 a8 a9 a10 a11 a12 a13 a14 a15 = some (t9 r.1 r.2) := by
 unfold uV at h
 obtain ⟨h1, h2⟩ := aH h
 simp only [UB] at h2
 subst h2
 rw [UC] at h1
 obtain ⟨h1, h3⟩ := h1
 have hf := fj h1
 have hg := fj h3
 obtain ⟨e0, e1, e2, e3, e4, e5, e6, e7⟩ := aQ h1
 obtain ⟨d0, d1, d2, d3, d4, d5, d6, d7⟩ := aQ h3
 have q := Ub hf hg
 rw [e0, e1, e2, e3, e4, e5, e6, e7, d0, d1, d2, d3, d4, d5, d6, d7] at q
 exact q
def FQ : HK where
 call := fun args σ k => match args with
  | [.agg [.int .u64 a0, .int .u64 a1, .int .u64 a2, .int .u64 a3, .int .u64 a4, .int .u64 a5, .int .u64 a6, .int .u64 a7], .agg [.int .u64 a8, .int .u64 a9, .int .u64 a10, .int .u64 a11, .int .u64 a12, .int .u64 a13, .int .u64 a14, .int .u64 a15]] => Option.bind (uV a0 a1 a2 a3 a4 a5 a6 a7 a8 a9 a10 a11 a12 a13 a14 a15) fun r => k (.ret (.tup [.agg [.int .u64 (aa r.1 0), .int .u64 (aa r.1 1), .int .u64 (aa r.1 2), .int .u64 (aa r.1 3), .int .u64 (aa r.1 4), .int .u64 (aa r.1 5), .int .u64 (aa r.1 6), .int .u64 (aa r.1 7)], .bool r.2])) σ
  | _ => none
 nat := fun args σ k => by
  repeat' split
  all_goals simp only [UA, Uz, Uy]
 pure := true
 pok := fun _ args σ r σ' h => by
  split at h
  ·obtain ⟨q, h1, h2⟩ := bE_ h
   simp only [UB, UD] at h2
   obtain ⟨rfl, rfl⟩ := h2
   exact ⟨rfl, ⟨_, rfl⟩, fun σ2 => by simp only [h1, Uy]⟩
  ·cases h
theorem EA : aX U2 35 FQ := I7.cO fun args σ x h => by
 simp only [FQ] at h
 split at h
 ·rename_i a0 a1 a2 a3 a4 a5 a6 a7 a8 a9 a10 a11 a12 a13 a14 a15
  obtain ⟨r, h1, h2⟩ := bE_ h
  simp only [zL, TP h1, Uy]
  exact h2
 ·cases h
theorem TQ {a0 a1 a2 a3 a4 a5 a6 a7 a8 a9 a10 a11 a12 a13 a14 a15 : Int} {r} (h : La a0 a1 a2 a3 a4 a5 a6 a7 a8 a9 a10 a11 a12 a13 a14 a15 = some r) : jT a0 a1 a2 a3 a4 a5 a6 a7 a8 a9 a10 a11 a12 a13 a14 a15 = some (t17 r.1 r.2.1 r.2.2) := by
 unfold La at h
 obtain ⟨h1, h2⟩ := aH h
 simp only [UB] at h2
 subst h2
 simp only [UC] at h1
 obtain ⟨h1, h3⟩ := h1
 obtain ⟨h1, h4⟩ := h1
 have hf := fj h1
 have hg := fj h4
 obtain ⟨e0, e1, e2, e3, e4, e5, e6, e7⟩ := aQ h1
 obtain ⟨d0, d1, d2, d3, d4, d5, d6, d7⟩ := aQ h4
 by_cases h0 : num a8 a9 a10 a11 a12 a13 a14 a15 = 0
 ·have q := TH (a := num a0 a1 a2 a3 a4 a5 a6 a7) hg h0
  rw [e0, e1, e2, e3, e4, e5, e6, e7, d0, d1, d2, d3, d4, d5, d6, d7] at q
  unfold Nl
  rw [UH h0]
  exact q
 ·rw [UG h0, Bool.false_or] at h3
  have q := Ua hf hg h0 (bY.1 h3)
  rw [e0, e1, e2, e3, e4, e5, e6, e7, d0, d1, d2, d3, d4, d5, d6, d7] at q
  unfold Nl
  rw [UG h0, h3]
  exact q
def Nt : HK where
 call := fun args σ k => match args with
  | [.agg [.int .u64 a0, .int .u64 a1, .int .u64 a2, .int .u64 a3, .int .u64 a4, .int .u64 a5, .int .u64 a6, .int .u64 a7], .agg [.int .u64 a8, .int .u64 a9, .int .u64 a10, .int .u64 a11, .int .u64 a12, .int .u64 a13, .int .u64 a14, .int .u64 a15]] => Option.bind (La a0 a1 a2 a3 a4 a5 a6 a7 a8 a9 a10 a11 a12 a13 a14 a15) fun r => k (.ret (.tup [.agg [.int .u64 (aa r.1 0), .int .u64 (aa r.1 1), .int .u64 (aa r.1 2), .int .u64 (aa r.1 3), .int .u64 (aa r.1 4), .int .u64 (aa r.1 5), .int .u64 (aa r.1 6), .int .u64 (aa r.1 7)], .agg [.int .u64 (aa r.2.1 0), .int .u64 (aa r.2.1 1), .int .u64 (aa r.2.1 2), .int .u64 (aa r.2.1 3), .int .u64 (aa r.2.1 4), .int .u64 (aa r.2.1 5), .int .u64 (aa r.2.1 6), .int .u64 (aa r.2.1 7)], .bool r.2.2])) σ
  | _ => none
 nat := fun args σ k => by
  repeat' split
  all_goals simp only [UA, Uz, Uy]
 pure := true
 pok := fun _ args σ r σ' h => by
  split at h
  ·obtain ⟨q, h1, h2⟩ := bE_ h
   simp only [UB, UD] at h2
   obtain ⟨rfl, rfl⟩ := h2
   exact ⟨rfl, ⟨_, rfl⟩, fun σ2 => by simp only [h1, Uy]⟩
  ·cases h
theorem Qu : aX U2 27 Nt := I6.cO fun args σ x h => by
 simp only [Nt] at h
 split at h
 ·rename_i a0 a1 a2 a3 a4 a5 a6 a7 a8 a9 a10 a11 a12 a13 a14 a15
  obtain ⟨r, h1, h2⟩ := bE_ h
  simp only [zG, TQ h1, Uy]
  exact h2
 ·cases h
def wn : CH := CH.none
theorem Bs : aG U2 wn := CH.aF
def iZ (a0 a1 a2 : Int) : Option (Int) :=
 (cond (decide (a0 < (-268435456))) (some 7) (cond (decide (a0 > 268435456)) (some 7) (cond (decide (a1 < (-268435456))) (some 7) (cond (decide (a1 > 268435456)) (some 7) (cond (decide (a2 < (-268435456))) (some 7) (cond (decide (a2 > 268435456)) (some 7) (some 0)))))))
def l9 : FD where
 X := Int
 k := 0
 pre := []
 F := fun s => []
 M := .int .i64
 B := []
 toL := fun x => [.I x]
 ofL := fun ls => match ls with
  | [.I x0] => some x0
  | _ => none
 au := fun ls x h => by
  split at h
  ·cases h; rfl
  ·cases h
theorem EC (a0 a1 a2 x : Int) (h : iZ a0 a1 a2 = some x) : bg U2 14 0 [.agg [.int .i64 a0, .int .i64 a1, .int .i64 a2]] [] l9 x :=
 FD.sem (ch := wn) (A := bD) (fn := Try.f14) (c := bu Try.f14) (fuel := 60) aJ Bs mixed bK l9 Try.func14 (by kernel_rfl) (aK (l := [aO Try.f14 0]) (by kernel_rfl) ⟨(eh (by kernel_rfl)), trivial⟩)
  (by kernel_rfl) (Eq.trans (by kernel_rfl) h)
def oW : HK where
 call := fun args σ k => match args with
  | [.agg [.int .i64 a0, .int .i64 a1, .int .i64 a2]] => Option.bind (iZ a0 a1 a2) fun y => aC σ 0 (l9.val y) (l9.aN y) k
  | _ => none
 nat := fun args σ k => by
  repeat' split
  all_goals simp only [av, ai, UA, Uz, aC, Uy]
 pure := true
 pok := fun _ args σ r σ' h => by
  split at h
  ·exact bq h (fun y => rfl) (fun y f => rfl)
  ·cases h
theorem we : aX U2 14 oW := by
 intro args σ r σ' h
 simp only [oW] at h
 split at h
 ·rename_i a0 a1 a2
  obtain ⟨y, hy, h⟩ := bE_ h
  exact lifted (xs := []) (ls := []) (cargs := [.agg [.int .i64 a0, .int .i64 a1, .int .i64 a2]]) (bC.of trivial) rfl (EC a0 a1 a2 y hy) rfl rfl rfl rfl h
 ·cases h
end Go.Ev
namespace Go.Ev
open Go.Proofs
abbrev li8 (x : Int) (r : LA_) : LA_ := .int .u64 (aa x 0) :: .int .u64 (aa x 1) :: .int .u64 (aa x 2) :: .int .u64 (aa x 3) :: .int .u64 (aa x 4) :: .int .u64 (aa x 5) :: .int .u64 (aa x 6) :: .int .u64 (aa x 7) :: r
abbrev aY {R : Type} (x : Int) (r : R) : Int × Int × Int × Int × Int × Int × Int × Int × R := (aa x 0, aa x 1, aa x 2, aa x 3, aa x 4, aa x 5, aa x 6, aa x 7, r)
end Go.Ev
namespace Go.Ev
open Go.Proofs
abbrev EG := (I8 (I8 (Int × Int × Int × Int × Int × Int × Int × Int)))
def JI : CH := (CH.add 19 HD CH.none)
theorem FU : aG U2 JI := (CH.ak CK CH.aF)
def ju (a0 a1 a2 : Int) : Option (EG) :=
 (Option.bind (cOf a0) fun r1 => (Option.bind (cOf a1) fun r2 => (Option.bind (cOf a2) fun r3 => (some ((aa r1 0), (aa r1 1), (aa r1 2), (aa r1 3), (aa r1 4), (aa r1 5), (aa r1 6), (aa r1 7), (aa r2 0), (aa r2 1), (aa r2 2), (aa r2 3), (aa r2 4), (aa r2 5), (aa r2 6), (aa r2 7), (aa r3 0), (aa r3 1), (aa r3 2), (aa r3 3), (aa r3 4), (aa r3 5), (aa r3 6), (aa r3 7))))))
def rJ : FD where
 X := EG
 k := 0
 pre := []
 F := fun s => []
 M := .agg (rl (.int .u64) 24 [])
 B := []
 toL := fun x => [.I x.1, .I x.2.1, .I x.2.2.1, .I x.2.2.2.1, .I x.s4.1, .I x.s4.2.1, .I x.s4.2.2.1, .I x.s4.2.2.2.1, .I x.s8.1, .I x.s8.2.1, .I x.s8.2.2.1, .I x.s8.2.2.2.1, .I x.s8.s4.1, .I x.s8.s4.2.1, .I x.s8.s4.2.2.1, .I x.s8.s4.2.2.2.1, .I x.s16.1, .I x.s16.2.1, .I x.s16.2.2.1, .I x.s16.2.2.2.1, .I x.s16.s4.1, .I x.s16.s4.2.1, .I x.s16.s4.2.2.1, .I x.s16.s4.2.2.2]
 ofL := fun ls => match ls with
  | [.I x0, .I x1, .I x2, .I x3, .I x4, .I x5, .I x6, .I x7, .I x8, .I x9, .I x10, .I x11, .I x12, .I x13, .I x14, .I x15, .I x16, .I x17, .I x18, .I x19, .I x20, .I x21, .I x22, .I x23] => some (x0, x1, x2, x3, x4, x5, x6, x7, x8, x9, x10, x11, x12, x13, x14, x15, x16, x17, x18, x19, x20, x21, x22, x23)
  | _ => none
 au := fun ls x h => by
  split at h
  ·cases h; rfl
  ·cases h
theorem I1 (a0 a1 a2 : Int) (x : EG) (h : ju a0 a1 a2 = some x) : bg U2 34 0 [.agg [.int .i64 a0, .int .i64 a1, .int .i64 a2]] [] rJ x :=
 FD.semA rJ FU Try.func34 (fuel := 60) (by kernel_rfl) (by kernel_rfl)
  (by kernel_rfl) (Eq.trans (by kernel_rfl) h)
def rY : HK where
 call := fun args σ k => match args with
  | [.agg [.int .i64 a0, .int .i64 a1, .int .i64 a2]] => Option.bind (ju a0 a1 a2) fun y => aC σ 0 (rJ.val y) (rJ.aN y) k
  | _ => none
 nat := fun args σ k => by
  repeat' split
  all_goals simp only [av, ai, UA, Uz, aC, Uy]
 pure := true
 pok := fun _ args σ r σ' h => by
  split at h
  ·exact bq h (fun y => rfl) (fun y f => rfl)
  ·cases h
theorem uU : aX U2 34 rY := by
 intro args σ r σ' h
 simp only [rY] at h
 split at h
 ·rename_i a0 a1 a2
  obtain ⟨y, hy, h⟩ := bE_ h
  exact lifted (xs := []) (ls := []) (cargs := [.agg [.int .i64 a0, .int .i64 a1, .int .i64 a2]]) (bC.of trivial) rfl (I1 a0 a1 a2 y hy) rfl rfl rfl rfl h
 ·cases h
abbrev wZ := (I8 Bool)
def uT : CH := (CH.add 34 rY (CH.add 36 Jk (CH.add 35 FQ CH.none)))
def wm : CH := uJ U2 iQ [33] 60 uT 2
theorem AV : aG U2 uT := (CH.ak uU (CH.ak JG (CH.ak EA CH.aF)))
theorem Br : aG U2 wm := ik aJ mixed bK AV 2
def gB (a0 a1 a2 a3 a4 a5 a6 a7 a8 a9 a10 a11 a12 a13 a14 a15 a16 a17 a18 a19 a20 a21 a22 a23 a24 a25 a26 : Int) : Option (wZ) :=
 (Option.bind (ju a24 a25 a26) fun r1 => (Option.bind (uV a0 a1 a2 a3 a4 a5 a6 a7 r1.1 r1.2.1 r1.2.2.1 r1.2.2.2.1 r1.2.2.2.2.1 r1.2.2.2.2.2.1 r1.2.2.2.2.2.2.1 r1.2.2.2.2.2.2.2.1) fun r2 => (cond r2.2 (Option.bind (uW 0 0 0 0 0 0 0 0 (aa r2.1 0) (aa r2.1 1) (aa r2.1 2) (aa r2.1 3) (aa r2.1 4) (aa r2.1 5) (aa r2.1 6) (aa r2.1 7)) fun r3 => (cond r3.2 (Option.bind (uV a8 a9 a10 a11 a12 a13 a14 a15 r1.2.2.2.2.2.2.2.2.1 r1.2.2.2.2.2.2.2.2.2.1 r1.2.2.2.2.2.2.2.2.2.2.1 r1.2.2.2.2.2.2.2.2.2.2.2.1 r1.2.2.2.2.2.2.2.2.2.2.2.2.1 r1.2.2.2.2.2.2.2.2.2.2.2.2.2.1 r1.2.2.2.2.2.2.2.2.2.2.2.2.2.2.1 r1.2.2.2.2.2.2.2.2.2.2.2.2.2.2.2.1) fun r4 => (cond r4.2 (Option.bind (uW (aa r3.1 0) (aa r3.1 1) (aa r3.1 2) (aa r3.1 3) (aa r3.1 4) (aa r3.1 5) (aa r3.1 6) (aa r3.1 7) (aa r4.1 0) (aa r4.1 1) (aa r4.1 2) (aa r4.1 3) (aa r4.1 4) (aa r4.1 5) (aa r4.1 6) (aa r4.1 7)) fun r5 => (cond r5.2 (Option.bind (uV a16 a17 a18 a19 a20 a21 a22 a23 r1.2.2.2.2.2.2.2.2.2.2.2.2.2.2.2.2.1 r1.2.2.2.2.2.2.2.2.2.2.2.2.2.2.2.2.2.1 r1.2.2.2.2.2.2.2.2.2.2.2.2.2.2.2.2.2.2.1 r1.2.2.2.2.2.2.2.2.2.2.2.2.2.2.2.2.2.2.2.1 r1.2.2.2.2.2.2.2.2.2.2.2.2.2.2.2.2.2.2.2.2.1 r1.2.2.2.2.2.2.2.2.2.2.2.2.2.2.2.2.2.2.2.2.2.1 r1.2.2.2.2.2.2.2.2.2.2.2.2.2.2.2.2.2.2.2.2.2.2.1 r1.2.2.2.2.2.2.2.2.2.2.2.2.2.2.2.2.2.2.2.2.2.2.2) fun r6 => (cond r6.2 (Option.bind (uW (aa r5.1 0) (aa r5.1 1) (aa r5.1 2) (aa r5.1 3) (aa r5.1 4) (aa r5.1 5) (aa r5.1 6) (aa r5.1 7) (aa r6.1 0) (aa r6.1 1) (aa r6.1 2) (aa r6.1 3) (aa r6.1 4) (aa r6.1 5) (aa r6.1 6) (aa r6.1 7)) fun r7 => (cond r7.2 (some (aY r7.1 true)) (some (0, 0, 0, 0, 0, 0, 0, 0, false)))) (some (0, 0, 0, 0, 0, 0, 0, 0, false)))) (some (0, 0, 0, 0, 0, 0, 0, 0, false)))) (some (0, 0, 0, 0, 0, 0, 0, 0, false)))) (some (0, 0, 0, 0, 0, 0, 0, 0, false)))) (some (0, 0, 0, 0, 0, 0, 0, 0, false)))))
def lZ : FD where
 X := wZ
 k := 0
 pre := []
 F := fun s => []
 M := .tup [.agg (rl (.int .u64) 8 []), .bool]
 B := []
 toL := fun x => [.I x.1, .I x.2.1, .I x.2.2.1, .I x.2.2.2.1, .I x.s4.1, .I x.s4.2.1, .I x.s4.2.2.1, .I x.s4.2.2.2.1, .B x.s8]
 ofL := fun ls => match ls with
  | [.I x0, .I x1, .I x2, .I x3, .I x4, .I x5, .I x6, .I x7, .B x8] => some (x0, x1, x2, x3, x4, x5, x6, x7, x8)
  | _ => none
 au := fun ls x h => by
  split at h
  ·cases h; rfl
  ·cases h
theorem EB (a0 a1 a2 a3 a4 a5 a6 a7 a8 a9 a10 a11 a12 a13 a14 a15 a16 a17 a18 a19 a20 a21 a22 a23 a24 a25 a26 : Int) (x : wZ) (h : gB a0 a1 a2 a3 a4 a5 a6 a7 a8 a9 a10 a11 a12 a13 a14 a15 a16 a17 a18 a19 a20 a21 a22 a23 a24 a25 a26 = some x) : bg U2 20 0 [.agg (v8 a0 a1 a2 a3 a4 a5 a6 a7 (v8 a8 a9 a10 a11 a12 a13 a14 a15 (v8 a16 a17 a18 a19 a20 a21 a22 a23 []))), .agg [.int .i64 a24, .int .i64 a25, .int .i64 a26]] [] lZ x :=
 FD.Ss (il := fun _ => false) (ch := wm) (A := bD) (fn := Try.f20) (c := bu Try.f20) (fuel := 60) aJ Br mixed bK lZ Try.func20 (by kernel_rfl) (aK (l := []) (by kernel_rfl) trivial)
  (by kernel_rfl) (Eq.trans (by kernel_rfl) h)
def kW : HK where
 call := fun args σ k => match args with
  | [.agg [.int .u64 a0, .int .u64 a1, .int .u64 a2, .int .u64 a3, .int .u64 a4, .int .u64 a5, .int .u64 a6, .int .u64 a7, .int .u64 a8, .int .u64 a9, .int .u64 a10, .int .u64 a11, .int .u64 a12, .int .u64 a13, .int .u64 a14, .int .u64 a15, .int .u64 a16, .int .u64 a17, .int .u64 a18, .int .u64 a19, .int .u64 a20, .int .u64 a21, .int .u64 a22, .int .u64 a23], .agg [.int .i64 a24, .int .i64 a25, .int .i64 a26]] => Option.bind (gB a0 a1 a2 a3 a4 a5 a6 a7 a8 a9 a10 a11 a12 a13 a14 a15 a16 a17 a18 a19 a20 a21 a22 a23 a24 a25 a26) fun y => aC σ 0 (lZ.val y) (lZ.aN y) k
  | _ => none
 nat := fun args σ k => by
  repeat' split
  all_goals simp only [av, ai, UA, Uz, aC, Uy]
 pure := true
 pok := fun _ args σ r σ' h => by
  split at h
  ·exact bq h (fun y => rfl) (fun y f => rfl)
  ·cases h
theorem pk : aX U2 20 kW := by
 intro args σ r σ' h
 simp only [kW] at h
 split at h
 ·rename_i a0 a1 a2 a3 a4 a5 a6 a7 a8 a9 a10 a11 a12 a13 a14 a15 a16 a17 a18 a19 a20 a21 a22 a23 a24 a25 a26
  obtain ⟨y, hy, h⟩ := bE_ h
  exact lifted (xs := []) (ls := []) (cargs := [.agg (v8 a0 a1 a2 a3 a4 a5 a6 a7 (v8 a8 a9 a10 a11 a12 a13 a14 a15 (v8 a16 a17 a18 a19 a20 a21 a22 a23 []))), .agg [.int .i64 a24, .int .i64 a25, .int .i64 a26]]) (bC.of trivial) rfl (EB a0 a1 a2 a3 a4 a5 a6 a7 a8 a9 a10 a11 a12 a13 a14 a15 a16 a17 a18 a19 a20 a21 a22 a23 a24 a25 a26 y hy) rfl rfl rfl rfl h
 ·cases h
abbrev Bv := Int × Int × Int × Int × Int × Int × Int × Int
def IZ : CH := (CH.add 34 rY (CH.add 20 kW CH.none))
theorem EF : aG U2 IZ := (CH.ak uU (CH.ak pk CH.aF))
def po (a0 a1 a2 a3 a4 a5 : Int) : Option (Bv) :=
 (Option.bind (ju a0 a1 a2) fun r1 => (Option.bind (gB r1.1 r1.2.1 r1.2.2.1 r1.2.2.2.1 r1.2.2.2.2.1 r1.2.2.2.2.2.1 r1.2.2.2.2.2.2.1 r1.2.2.2.2.2.2.2.1 r1.2.2.2.2.2.2.2.2.1 r1.2.2.2.2.2.2.2.2.2.1 r1.2.2.2.2.2.2.2.2.2.2.1 r1.2.2.2.2.2.2.2.2.2.2.2.1 r1.2.2.2.2.2.2.2.2.2.2.2.2.1 r1.2.2.2.2.2.2.2.2.2.2.2.2.2.1 r1.2.2.2.2.2.2.2.2.2.2.2.2.2.2.1 r1.2.2.2.2.2.2.2.2.2.2.2.2.2.2.2.1 r1.2.2.2.2.2.2.2.2.2.2.2.2.2.2.2.2.1 r1.2.2.2.2.2.2.2.2.2.2.2.2.2.2.2.2.2.1 r1.2.2.2.2.2.2.2.2.2.2.2.2.2.2.2.2.2.2.1 r1.2.2.2.2.2.2.2.2.2.2.2.2.2.2.2.2.2.2.2.1 r1.2.2.2.2.2.2.2.2.2.2.2.2.2.2.2.2.2.2.2.2.1 r1.2.2.2.2.2.2.2.2.2.2.2.2.2.2.2.2.2.2.2.2.2.1 r1.2.2.2.2.2.2.2.2.2.2.2.2.2.2.2.2.2.2.2.2.2.2.1 r1.2.2.2.2.2.2.2.2.2.2.2.2.2.2.2.2.2.2.2.2.2.2.2 a3 a4 a5) fun r2 => (cond r2.2.2.2.2.2.2.2.2 (some (r2.1, r2.2.1, r2.2.2.1, r2.2.2.2.1, r2.2.2.2.2.1, r2.2.2.2.2.2.1, r2.2.2.2.2.2.2.1, r2.2.2.2.2.2.2.2.1)) (some (r2.1, r2.2.1, r2.2.2.1, r2.2.2.2.1, r2.2.2.2.2.1, r2.2.2.2.2.2.1, r2.2.2.2.2.2.2.1, r2.2.2.2.2.2.2.2.1)))))
def pp : FD where
 X := Bv
 k := 0
 pre := []
 F := fun s => []
 M := .agg (rl (.int .u64) 8 [])
 B := []
 toL := fun x => [.I x.1, .I x.2.1, .I x.2.2.1, .I x.2.2.2.1, .I x.s4.1, .I x.s4.2.1, .I x.s4.2.2.1, .I x.s4.2.2.2]
 ofL := fun ls => match ls with
  | [.I x0, .I x1, .I x2, .I x3, .I x4, .I x5, .I x6, .I x7] => some (x0, x1, x2, x3, x4, x5, x6, x7)
  | _ => none
 au := fun ls x h => by
  split at h
  ·cases h; rfl
  ·cases h
theorem HB (a0 a1 a2 a3 a4 a5 : Int) (x : Bv) (h : po a0 a1 a2 a3 a4 a5 = some x) : bg U2 68 0 [.agg [.int .i64 a0, .int .i64 a1, .int .i64 a2], .agg [.int .i64 a3, .int .i64 a4, .int .i64 a5]] [] pp x :=
 FD.semA pp EF Try.func68 (fuel := 60) (by kernel_rfl) (by kernel_rfl)
  (by kernel_rfl) (Eq.trans (by kernel_rfl) h)
def za : HK where
 call := fun args σ k => match args with
  | [.agg [.int .i64 a0, .int .i64 a1, .int .i64 a2], .agg [.int .i64 a3, .int .i64 a4, .int .i64 a5]] => Option.bind (po a0 a1 a2 a3 a4 a5) fun y => aC σ 0 (pp.val y) (pp.aN y) k
  | _ => none
 nat := fun args σ k => by
  repeat' split
  all_goals simp only [av, ai, UA, Uz, aC, Uy]
 pure := true
 pok := fun _ args σ r σ' h => by
  split at h
  ·exact bq h (fun y => rfl) (fun y f => rfl)
  ·cases h
theorem I0 : aX U2 68 za := by
 intro args σ r σ' h
 simp only [za] at h
 split at h
 ·rename_i a0 a1 a2 a3 a4 a5
  obtain ⟨y, hy, h⟩ := bE_ h
  exact lifted (xs := []) (ls := []) (cargs := [.agg [.int .i64 a0, .int .i64 a1, .int .i64 a2], .agg [.int .i64 a3, .int .i64 a4, .int .i64 a5]]) (bC.of trivial) rfl (HB a0 a1 a2 a3 a4 a5 y hy) rfl rfl rfl rfl h
 ·cases h
abbrev zb := Int × Int × Int × Int × Int × Int × Int × Int
def HC : CH := (CH.add 83 Jl CH.none)
theorem Dr : aG U2 HC := (CH.ak JH CH.aF)
def iG (a0 a1 a2 a3 a4 a5 a6 a7 a8 a9 a10 a11 a12 a13 a14 a15 : Int) : Option (zb) :=
 (Option.bind (Bw a0 a1 a2 a3 a4 a5 a6 a7 a8 a9 a10 a11 a12 a13 a14 a15) fun r1 => (cond r1.2 (some ((aa r1.1 0), (aa r1.1 1), (aa r1.1 2), (aa r1.1 3), (aa r1.1 4), (aa r1.1 5), (aa r1.1 6), (aa r1.1 7))) (some ((aa r1.1 0), (aa r1.1 1), (aa r1.1 2), (aa r1.1 3), (aa r1.1 4), (aa r1.1 5), (aa r1.1 6), (aa r1.1 7)))))
def nB : FD where
 X := zb
 k := 0
 pre := []
 F := fun s => []
 M := .agg (rl (.int .u64) 8 [])
 B := []
 toL := fun x => [.I x.1, .I x.2.1, .I x.2.2.1, .I x.2.2.2.1, .I x.s4.1, .I x.s4.2.1, .I x.s4.2.2.1, .I x.s4.2.2.2]
 ofL := fun ls => match ls with
  | [.I x0, .I x1, .I x2, .I x3, .I x4, .I x5, .I x6, .I x7] => some (x0, x1, x2, x3, x4, x5, x6, x7)
  | _ => none
 au := fun ls x h => by
  split at h
  ·cases h; rfl
  ·cases h
theorem FT (a0 a1 a2 a3 a4 a5 a6 a7 a8 a9 a10 a11 a12 a13 a14 a15 : Int) (x : zb) (h : iG a0 a1 a2 a3 a4 a5 a6 a7 a8 a9 a10 a11 a12 a13 a14 a15 = some x) : bg U2 79 0 [.agg (v8 a0 a1 a2 a3 a4 a5 a6 a7 []), .agg (v8 a8 a9 a10 a11 a12 a13 a14 a15 [])] [] nB x :=
 FD.semA nB Dr Try.func79 (fuel := 60) (by kernel_rfl) (by kernel_rfl)
  (by kernel_rfl) (Eq.trans (by kernel_rfl) h)
def w9 : HK where
 call := fun args σ k => match args with
  | [.agg [.int .u64 a0, .int .u64 a1, .int .u64 a2, .int .u64 a3, .int .u64 a4, .int .u64 a5, .int .u64 a6, .int .u64 a7], .agg [.int .u64 a8, .int .u64 a9, .int .u64 a10, .int .u64 a11, .int .u64 a12, .int .u64 a13, .int .u64 a14, .int .u64 a15]] => Option.bind (iG a0 a1 a2 a3 a4 a5 a6 a7 a8 a9 a10 a11 a12 a13 a14 a15) fun y => aC σ 0 (nB.val y) (nB.aN y) k
  | _ => none
 nat := fun args σ k => by
  repeat' split
  all_goals simp only [av, ai, UA, Uz, aC, Uy]
 pure := true
 pok := fun _ args σ r σ' h => by
  split at h
  ·exact bq h (fun y => rfl) (fun y f => rfl)
  ·cases h
theorem Hz : aX U2 79 w9 := by
 intro args σ r σ' h
 simp only [w9] at h
 split at h
 ·rename_i a0 a1 a2 a3 a4 a5 a6 a7 a8 a9 a10 a11 a12 a13 a14 a15
  obtain ⟨y, hy, h⟩ := bE_ h
  exact lifted (xs := []) (ls := []) (cargs := [.agg (v8 a0 a1 a2 a3 a4 a5 a6 a7 []), .agg (v8 a8 a9 a10 a11 a12 a13 a14 a15 [])]) (bC.of trivial) rfl (FT a0 a1 a2 a3 a4 a5 a6 a7 a8 a9 a10 a11 a12 a13 a14 a15 y hy) rfl rfl rfl rfl h
 ·cases h
end Go.Ev
