import Derived.Test.YtbmjabafceihgaaKah
set_option linter.unusedVariables false
set_option linter.unusedSimpArgs false
set_option maxRecDepth 100000
noncomputable section
namespace Go.Ev
theorem Ay (a : Int) : IntKind.wrap .u64 a = a % 18446744073709551616 := by
 simp [IntKind.wrap, IntKind.signed, IntKind.bits]
theorem cw {a : Int} (h : -9223372036854775808 ≤ a ∧ a < 9223372036854775808) : IntKind.wrap .i64 a = a := by
 simp [IntKind.wrap, IntKind.signed, IntKind.bits]
 omega
theorem Se (a : Int) : aA .u64 a 63 = a / 9223372036854775808 := by
 unfold aA
 rw [Int.fdiv_eq_ediv_of_nonneg _ (by decide)]
 rfl
theorem Sf (a : Int) : aA .i64 a 63 = a / 9223372036854775808 := by
 unfold aA
 rw [Int.fdiv_eq_ediv_of_nonneg _ (by decide)]
 rfl
theorem OR : ∀ (n : Nat) {z : Int}, -18446744073709551616 ≤ z ∧ z < 0 → n ≠ 0 → dv n z = -1
 | 0, z, _, h => absurd rfl h
 | 1, z, h, _ => by show z / _ = -1; omega
 | n + 2, z, h, _ => by show dv (n + 1) z / _ = -1; rw [OR (n + 1) h (by omega)]; rfl
theorem OS : ∀ (n : Nat) {z : Int}, 0 ≤ z ∧ z < 18446744073709551616 → n ≠ 0 → dv n z = 0
 | 0, z, _, h => absurd rfl h
 | 1, z, h, _ => by show z / _ = 0; omega
 | n + 2, z, h, _ => by show dv (n + 1) z / _ = 0; rw [OS (n + 1) h (by omega)]; rfl
theorem Ut {x : Int} (h : aW x = true) : sB x = some (t8 x) := by
 have hr : -9223372036854775808 ≤ x ∧ x < 9223372036854775808 := by simpa [aW] using h
 unfold sB t8
 rw [Sf]
 simp only [Ay]
 have h0 : aa x 0 = x % 18446744073709551616 := rfl
 by_cases hx : x < 0
 ·have e : x / 9223372036854775808 = -1 := by omega
  have l : ∀ n, n ≠ 0 → aa x n = -1 % 18446744073709551616 := fun n hn => by unfold aa; rw [OR n ⟨by omega, hx⟩ hn]
  rw [e, h0, l 1 (by decide), l 2 (by decide), l 3 (by decide), l 4 (by decide), l 5 (by decide), l 6 (by decide), l 7 (by decide)]
 ·have e : x / 9223372036854775808 = 0 := by omega
  have l : ∀ n, n ≠ 0 → aa x n = 0 % 18446744073709551616 := fun n hn => by unfold aa; rw [OS n ⟨by omega, by omega⟩ hn]
  rw [e, h0, l 1 (by decide), l 2 (by decide), l 3 (by decide), l 4 (by decide), l 5 (by decide), l 6 (by decide), l 7 (by decide)]
def xJ (z : Int) : Bool := decide (9223372036854775808 ≤ aa z 7)
theorem lX (z : Int) : ak (aa z 0) (aa z 1) (aa z 2) (aa z 3) (aa z 4) (aa z 5) (aa z 6) (aa z 7) = some (xJ z) := by
 unfold ak xJ
 rw [Se]
 have := ci z 7
 by_cases h : 9223372036854775808 ≤ aa z 7
 ·have e : aa z 7 / 9223372036854775808 = 1 := by omega
  rw [e, UI h]; rfl
 ·have e : aa z 7 / 9223372036854775808 = 0 := by omega
  rw [e, UH h]; rfl
theorem Nl (z : Int) : aa z 7 = z / 18446744073709551616 / 18446744073709551616 / 18446744073709551616 / 18446744073709551616 / 18446744073709551616 / 18446744073709551616 / 18446744073709551616 % 18446744073709551616 := rfl
theorem dE {z : Int} (h : fit z) : xJ z = decide (z < 0) := by
 have e := Nl z
 unfold fit at h
 unfold xJ
 by_cases hz : z < 0
 ·have : 9223372036854775808 ≤ aa z 7 := by omega
  rw [UI hz, UI this]
 ·have : ¬ 9223372036854775808 ≤ aa z 7 := by omega
  rw [UH hz, UH this]
theorem Ip {z : Int} (h : ¬ fit z) (h0 : 0 ≤ z) (h1 : z < 13407807929942597099574024998205846127479365820592393377723561443721764030073546976801874298166903427690031858186486050853753882811946569946433649006084096) : xJ z = true := by
 have e := Nl z
 unfold fit at h
 unfold xJ
 have : 9223372036854775808 ≤ aa z 7 := by omega
 rw [UI this]
theorem Iq {z : Int} (h : ¬ fit z) (h0 : z < 0) (h1 : -13407807929942597099574024998205846127479365820592393377723561443721764030073546976801874298166903427690031858186486050853753882811946569946433649006084096 ≤ z) : xJ z = false := by
 have e := Nl z
 unfold fit at h
 unfold xJ
 have : ¬ 9223372036854775808 ≤ aa z 7 := by omega
 rw [UH this]
theorem lY {X Y S c : Int} (hS : S = X + Y + c) (hc : 0 ≤ c ∧ c ≤ 1) : ∃ d, (0 ≤ d ∧ d ≤ 1) ∧ gS (X % 18446744073709551616) (Y % 18446744073709551616) c = some (S % 18446744073709551616, d) ∧
  S / 18446744073709551616 = X / 18446744073709551616 + Y / 18446744073709551616 + d := by
 refine ⟨(X % 18446744073709551616 + Y % 18446744073709551616 + c) / 18446744073709551616, by omega, ?_, by omega⟩
 have h : (decide (0 ≤ X % 18446744073709551616) && decide (0 ≤ Y % 18446744073709551616) && decide (0 ≤ c) && decide (c ≤ 1)) = true := by
  simp only [UD, UJ]; omega
 have e : (X % 18446744073709551616 + Y % 18446744073709551616 + c) % 18446744073709551616 = S % 18446744073709551616 := by omega
 unfold gS af
 rw [h, e]
theorem yR (x y c : Int) (hc : 0 ≤ c ∧ c ≤ 1) : dq (aa x 0) (aa x 1) (aa x 2) (aa x 3) (aa x 4) (aa x 5) (aa x 6) (aa x 7) (aa y 0) (aa y 1) (aa y 2) (aa y 3) (aa y 4) (aa y 5) (aa y 6) (aa y 7) c = some (t8 (x + y + c)) := by
 obtain ⟨c1, h1, e1, q1⟩ := lY (X := x) (Y := y) (S := x + y + c) rfl hc
 obtain ⟨c2, h2, e2, q2⟩ := lY q1 h1
 obtain ⟨c3, h3, e3, q3⟩ := lY q2 h2
 obtain ⟨c4, h4, e4, q4⟩ := lY q3 h3
 obtain ⟨c5, h5, e5, q5⟩ := lY q4 h4
 obtain ⟨c6, h6, e6, q6⟩ := lY q5 h5
 obtain ⟨c7, h7, e7, q7⟩ := lY q6 h6
 obtain ⟨c8, h8, e8, q8⟩ := lY q7 h7
 simp only [dq, aa, dv, e1, e2, e3, e4, e5, e6, e7, e8, Uz, t8]
theorem Qi {a : Int} (h : 0 ≤ a ∧ a < 18446744073709551616) : xz .u64 18446744073709551615 a = 18446744073709551615 - a := by
 unfold xz
 rw [Ay]
 obtain ⟨n, rfl⟩ := Int.eq_ofNat_of_zero_le h.1
 have hn : n < 2 ^ 64 := by omega
 have e1 : BitVec.ofInt (IntKind.bits .u64) 18446744073709551615 = BitVec.allOnes 64 := by
  show BitVec.ofInt 64 18446744073709551615 = _
  decide
 have e2 : BitVec.ofInt (IntKind.bits .u64) (n : Int) = BitVec.ofNat 64 n := by
  simp [IntKind.bits, BitVec.ofInt_natCast]
 rw [e1, e2]
 have e3 : BitVec.allOnes 64 ^^^ BitVec.ofNat 64 n = ~~~ (BitVec.ofNat 64 n) := by
  rw [BitVec.not_def]
 have e4 : (BitVec.allOnes 64 ^^^ BitVec.ofNat 64 n).toNat = 2 ^ 64 - 1 - n := by
  rw [e3, BitVec.toNat_not, BitVec.toNat_ofNat, Nat.mod_eq_of_lt hn]
 have e5 : ((BitVec.allOnes 64 ^^^ BitVec.ofNat 64 n).toNat : Int) = 18446744073709551615 - n := by
  rw [e4]; omega
 refine Eq.trans (congrArg (fun z : Int => z % 18446744073709551616) e5) ?_
 show (18446744073709551615 - (n : Int)) % 18446744073709551616 = _
 omega
theorem OT : ∀ (n : Nat) (z : Int), dv n (-z - 1) = -(dv n z) - 1
 | 0, z => rfl
 | n + 1, z => by show dv n (-z - 1) / _ = -(dv n z / _) - 1; rw [OT n z]; omega
theorem Qj (z : Int) (n : Nat) : aa (-z - 1) n = 18446744073709551615 - aa z n := by
 unfold aa; rw [OT]; omega
theorem Hj (z : Int) : gf (aa z 0) (aa z 1) (aa z 2) (aa z 3) (aa z 4) (aa z 5) (aa z 6) (aa z 7) = some (t8 (-z - 1)) := by
 unfold gf t8
 simp only [Qi (ci z _), Qj]
theorem Ir (z : Int) : eA (aa z 0) (aa z 1) (aa z 2) (aa z 3) (aa z 4) (aa z 5) (aa z 6) (aa z 7) = some (t8 (-z)) := by
 have h := yR (-z - 1) 0 1 ⟨by decide, by decide⟩
 simp only [fv] at h
 have e : -z - 1 + 0 + 1 = -z := by omega
 rw [e] at h
 simp only [eA, Hj, Uz, t8, h]
theorem Hk {z : Int} (h : fit z) : dr (aa z 0) (aa z 1) (aa z 2) (aa z 3) (aa z 4) (aa z 5) (aa z 6) (aa z 7) = some (t8 (z.natAbs : Int)) := by
 simp only [dr, lX, dE h, Uz, Ir]
 by_cases hz : z < 0
 ·have e : (z.natAbs : Int) = -z := by omega
  rw [UI hz, e]; rfl
 ·have e : (z.natAbs : Int) = z := by omega
  rw [UH hz, e]; rfl
theorem T5 {x y : Int} (hx : fit x) (hy : fit y) :
  pR (aa x 0) (aa x 1) (aa x 2) (aa x 3) (aa x 4) (aa x 5) (aa x 6) (aa x 7) (aa y 0) (aa y 1) (aa y 2) (aa y 3) (aa y 4) (aa y 5) (aa y 6) (aa y 7) =
   some (t9 (fW (x + y)).1 (fW (x + y)).2) := by
 simp only [pR, yR x y 0 ⟨by decide, by decide⟩, Int.add_zero, Uz, t8, lX, dE hx, dE hy]
 by_cases hs : fit (x + y)
 ·rw [dE hs]
  unfold fW
  rw [bR.2 hs]
  by_cases h1 : x < 0 <;> by_cases h2 : y < 0 <;> by_cases h3 : x + y < 0 <;> simp [h1, h2, h3, t9] <;> omega
 ·unfold fW
  rw [qC.2 hs]
  simp only [t9, fv]
  by_cases h1 : x + y < 0
  ·rw [Iq hs h1 (by unfold fit at hx hy; omega)]
   have : x < 0 ∧ y < 0 := by unfold fit at hx hy hs; omega
   simp [this, fv]
  ·rw [Ip hs (by omega) (by unfold fit at hx hy; omega)]
   have : ¬ x < 0 ∧ ¬ y < 0 := by unfold fit at hx hy hs; omega
   simp [this, fv]
theorem QX {x y : Int} (hx : fit x) (hy : fit y) :
  mv (aa x 0) (aa x 1) (aa x 2) (aa x 3) (aa x 4) (aa x 5) (aa x 6) (aa x 7) (aa y 0) (aa y 1) (aa y 2) (aa y 3) (aa y 4) (aa y 5) (aa y 6) (aa y 7) =
   some (t9 (fW (x - y)).1 (fW (x - y)).2) := by
 have h := yR x (-y - 1) 1 ⟨by decide, by decide⟩
 have e : x + (-y - 1) + 1 = x - y := by omega
 rw [e] at h
 simp only [mv, Hj, h, Uz, t8, lX, dE hx, dE hy]
 by_cases hs : fit (x - y)
 ·rw [dE hs]
  unfold fW
  rw [bR.2 hs]
  by_cases h1 : x < 0 <;> by_cases h2 : y < 0 <;> by_cases h3 : x - y < 0 <;> simp [h1, h2, h3, t9] <;> omega
 ·unfold fW
  rw [qC.2 hs]
  simp only [t9, fv]
  by_cases h1 : x - y < 0
  ·rw [Iq hs h1 (by unfold fit at hx hy; omega)]
   have : x < 0 ∧ ¬ y < 0 := by unfold fit at hx hy hs; omega
   simp [this, fv]
  ·rw [Ip hs (by omega) (by unfold fit at hx hy; omega)]
   have : ¬ x < 0 ∧ y < 0 := by unfold fit at hx hy hs; omega
   simp [this, fv]
theorem xH : fit 0 := by unfold fit; omega
theorem T6 {x : Int} (hx : fit x) : p7 (aa x 0) (aa x 1) (aa x 2) (aa x 3) (aa x 4) (aa x 5) (aa x 6) (aa x 7) = some (t9 (fW (0 - x)).1 (fW (0 - x)).2) := by
 have h := QX xH hx
 simp only [fv] at h
 simp only [p7, h, Uz]
 unfold fW
 cases fa (0 - x) <;> rfl
theorem Ig {x y : Int} (hx : fit x) (hy : fit y) : (aa x 0 == aa y 0 && (aa x 1 == aa y 1 && (aa x 2 == aa y 2 && (aa x 3 == aa y 3 && (aa x 4 == aa y 4 && (aa x 5 == aa y 5 && (aa x 6 == aa y 6 && (aa x 7 == aa y 7 && true)))))))) = decide (x = y) := by
 by_cases h : x = y
 ·subst h; simp
 ·rw [UH h]
  apply Bool.eq_false_iff.2
  intro q
  simp only [UD, beq_iff_eq, Bool.and_true] at q
  obtain ⟨h0, h1, h2, h3, h4, h5, h6, h7⟩ := q
  apply h
  rw [← aE hx, ← aE hy, h0, h1, h2, h3, h4, h5, h6, h7]
theorem Lg {x : Int} (hx : fit x) : ky (aa x 0) (aa x 1) (aa x 2) (aa x 3) (aa x 4) (aa x 5) (aa x 6) (aa x 7) = some (sgn x) := by
 have h := Ig hx xH
 simp only [fv] at h
 simp only [ky, lX, dE hx, Uz, h, sgn]
 by_cases h1 : x < 0 <;> by_cases h2 : x = 0 <;> simp [h1, h2]
theorem gt (i : Nat) : decide (0 ≤ (i : Int)) = true := by simp
theorem Nm (i : Nat) : decide ((i : Int) ≥ 0) = true := by simp
theorem xK {i : Nat} (h : i < 8) : decide ((i : Int) < ((8 : Nat) : Int)) = true := UI (by omega)
theorem lZ : ∀ (i : Nat) (l : List Int), lv l = lv (l.take i) + 18446744073709551616 ^ i * lv (l.drop i)
 | 0, l => by simp [lv]
 | i + 1, [] => by simp [lv]
 | i + 1, a :: r => by
  have ih := lZ i r
  simp only [List.take_succ_cons, List.drop_succ_cons, lv, Int.pow_succ]
  rw [ih, Int.mul_add, Int.mul_comm ((18446744073709551616 : Int) ^ i) 18446744073709551616, Int.mul_assoc]
  omega
theorem rL.take {l : List Int} (h : rL l) (i : Nat) : rL (l.take i) := fun x hx => h x (List.mem_of_mem_take hx)
theorem rL.drop {l : List Int} (h : rL l) (i : Nat) : rL (l.drop i) := fun x hx => h x (List.mem_of_mem_drop hx)
theorem oY {l : List Int} {i : Nat} (h : i < l.length) : l.drop i = l.getD i 0 :: l.drop (i + 1) := by
 rw [List.drop_eq_getElem_cons h, UL, UK h]; rfl
theorem FK (i : Nat) : (0 : Int) < 18446744073709551616 ^ i := Int.pow_pos (by decide)
theorem QY {l m : List Int} (h1 : rL l) (h2 : rL m) {i : Nat} (hl : i < l.length) (hm : i < m.length) (hd : l.drop (i + 1) = m.drop (i + 1)) (hi : l.getD i 0 < m.getD i 0) : lv l < lv m := by
 rw [lZ i l, lZ i m, oY hl, oY hm, hd]
 simp only [lv, Int.mul_add]
 have a1 := oF (h1.take i)
 have a2 := oF (h2.take i)
 rw [List.length_take, Nat.min_eq_left (by omega)] at a1 a2
 have p := FK i
 generalize (18446744073709551616 : Int) ^ i = q at *
 have : q * (l.getD i 0 + 1) ≤ q * m.getD i 0 := UV (by omega) (by omega)
 rw [Int.mul_add] at this
 omega
theorem Nn {l m : List Int} (h1 : rL l) (h2 : rL m) (hl : l.length = 8) (hm : m.length = 8) (p q : Nat) :
  ∃ e, wz (LL l, p, LL m, q) 7 = some e ∧ Sum.elim id (fun _ => 0) e = sgn (lv l - lv m) := by
 refine gv (step := ol (LL l, p, LL m, q)) (fun v => ∃ i : Nat, v = (i : Int) - 1 ∧ i ≤ 8 ∧ l.drop i = m.drop i) (fun v => (v + 1).toNat) _ ?_ (by decide)
  ⟨8, rfl, Nat.le_refl _, by rw [List.drop_eq_nil_of_le (by omega), List.drop_eq_nil_of_le (by omega)]⟩
 rintro v ⟨i, rfl, hi, hd⟩
 cases i with
 | zero =>
  refine .inr ⟨.inr (), rfl, ?_⟩
  simp only [List.drop_zero] at hd
  rw [hd, Int.sub_self]; rfl
 | succ i =>
  have e : ((i + 1 : Nat) : Int) - 1 = (i : Int) := by omega
  rw [e]
  have hi8 : i < 8 := by omega
  have h3 : IntKind.wrap .i64 ((i : Int) - 1) = (i : Int) - 1 := cw (by omega)
  simp only [ol, eX, gt, Nm, xK hi8, h3, cond_true, aw, UG, Int.toNat_natCast, Nat.mul_one, Nat.zero_add, Nat.add_zero, rO, ju, hl, hm, UI hi8]
  by_cases hne : l.getD i 0 = m.getD i 0
  ·refine .inl ⟨(i : Int) - 1, ?_, ⟨i, rfl, by omega, ?_⟩, by omega⟩
   ·rw [hne]; simp
   ·rw [oY (by omega), oY (l := m) (by omega), hne, hd]
  ·have hb : (l.getD i 0 != m.getD i 0) = true := by simpa using hne
   rw [hb]
   by_cases hlt : l.getD i 0 < m.getD i 0
   ·refine .inr ⟨.inl (-1), by rw [UI hlt]; rfl, ?_⟩
    have := QY h1 h2 (by omega) (by omega) hd hlt
    have a : lv l - lv m < 0 := by omega
    simp [sgn, Sum.elim, a]
   ·refine .inr ⟨.inl 1, by rw [UH hlt]; rfl, ?_⟩
    have := QY h2 h1 (by omega) (by omega) hd.symm (by omega)
    have a : ¬ lv l - lv m < 0 := by omega
    have b : ¬ lv l - lv m = 0 := by omega
    simp [sgn, Sum.elim, a, b]
def l8 (z : Int) : List Int := [aa z 0, aa z 1, aa z 2, aa z 3, aa z 4, aa z 5, aa z 6, aa z 7]
theorem qD (z : Int) : (l8 z).length = 8 := rfl
theorem Hl (z : Int) : rL (l8 z) := by
 intro x hx
 simp only [l8, List.mem_cons, List.not_mem_nil, or_false] at hx
 rcases hx with h | h | h | h | h | h | h | h <;> rw [h] <;> exact ci _ _
theorem Dh {z : Int} (h0 : 0 ≤ z) (h1 : z < 13407807929942597099574024998205846127479365820592393377723561443721764030073546976801874298166903427690031858186486050853753882811946569946433649006084096) : lv (l8 z) = z := by
 have e := CI z
 have e8 : dv 8 z = 0 := by
  have : dv 8 z = z / 18446744073709551616 / 18446744073709551616 / 18446744073709551616 / 18446744073709551616 / 18446744073709551616 / 18446744073709551616 / 18446744073709551616 / 18446744073709551616 := rfl
  omega
 rw [e8] at e
 rw [l8, lv8]; omega
theorem QZ {l : List Int} (h : rL l) (hl : l.length = 8) : l = l8 (lv l) := by
 match l, hl with
 | [a, b, c, d, e, f, g, k], _ =>
  rw [lv8]
  have h0 := h a (by simp)
  have h1 := h b (by simp)
  have h2 := h c (by simp)
  have h3 := h d (by simp)
  have h4 := h e (by simp)
  have h5 := h f (by simp)
  have h6 := h g (by simp)
  have h7 := h k (by simp)
  have := wV (k := 0) (a := a) (b := b) (c := c) (d := d) (e := e) (f := f) (g := g) (h := k) (by simp [ok8, rng, *]) (oE a b c d e f g k) (by omega)
  obtain ⟨q0, q1, q2, q3, q4, q5, q6, q7, _⟩ := this
  rw [l8, q0, q1, q2, q3, q4, q5, q6, q7]
theorem OU {l : List Int} (h : rL l) (hl : l.length = 8) : 0 ≤ lv l ∧ lv l < 13407807929942597099574024998205846127479365820592393377723561443721764030073546976801874298166903427690031858186486050853753882811946569946433649006084096 := by
 have := oF h
 rw [hl] at this
 exact this
def bV (z : Int) : Prop := 0 ≤ z ∧ z < 13407807929942597099574024998205846127479365820592393377723561443721764030073546976801874298166903427690031858186486050853753882811946569946433649006084096
theorem Is {x y : Int} (hx : bV x) (hy : bV y) : gJ (aa x 0) (aa x 1) (aa x 2) (aa x 3) (aa x 4) (aa x 5) (aa x 6) (aa x 7) (aa y 0) (aa y 1) (aa y 2) (aa y 3) (aa y 4) (aa y 5) (aa y 6) (aa y 7) = some (sgn (x - y)) := by
 obtain ⟨e, h1, h2⟩ := Nn (Hl x) (Hl y) rfl rfl 1 1
 rw [Dh hx.1 hx.2, Dh hy.1 hy.2] at h2
 unfold gJ
 simp only [Ax]
 rw [show [aa x 0, aa x 1, aa x 2, aa x 3, aa x 4, aa x 5, aa x 6, aa x 7] = l8 x from rfl, show [aa y 0, aa y 1, aa y 2, aa y 3, aa y 4, aa y 5, aa y 6, aa y 7] = l8 y from rfl, h1, Uz]
 rw [← h2]
 cases e <;> rfl
theorem cX (z k : Int) : ∀ n, n < 8 → aa (z + 13407807929942597099574024998205846127479365820592393377723561443721764030073546976801874298166903427690031858186486050853753882811946569946433649006084096 * k) n = aa z n := by
 intro n hn
 have e := CI z
 have := wV (k := dv 8 z + k) (bv z) (z + 13407807929942597099574024998205846127479365820592393377723561443721764030073546976801874298166903427690031858186486050853753882811946569946433649006084096 * k) (by rw [Int.mul_add]; omega)
 obtain ⟨q0, q1, q2, q3, q4, q5, q6, q7, _⟩ := this
 match n, hn with
 | 0, _ => exact q0
 | 1, _ => exact q1
 | 2, _ => exact q2
 | 3, _ => exact q3
 | 4, _ => exact q4
 | 5, _ => exact q5
 | 6, _ => exact q6
 | 7, _ => exact q7
theorem T7 {x y : Int} (hx : fit x) (hy : fit y) : pT (aa x 0) (aa x 1) (aa x 2) (aa x 3) (aa x 4) (aa x 5) (aa x 6) (aa x 7) (aa y 0) (aa y 1) (aa y 2) (aa y 3) (aa y 4) (aa y 5) (aa y 6) (aa y 7) = some (sgn (x - y)) := by
 simp only [pT, lX, dE hx, dE hy, Uz]
 by_cases h1 : x < 0 <;> by_cases h2 : y < 0
 ·have ex : ∀ n, n < 8 → aa x n = aa (x + 13407807929942597099574024998205846127479365820592393377723561443721764030073546976801874298166903427690031858186486050853753882811946569946433649006084096 * 1) n := fun n hn => (cX x 1 n hn).symm
  have ey : ∀ n, n < 8 → aa y n = aa (y + 13407807929942597099574024998205846127479365820592393377723561443721764030073546976801874298166903427690031858186486050853753882811946569946433649006084096 * 1) n := fun n hn => (cX y 1 n hn).symm
  have h := Is (x := x + 13407807929942597099574024998205846127479365820592393377723561443721764030073546976801874298166903427690031858186486050853753882811946569946433649006084096 * 1) (y := y + 13407807929942597099574024998205846127479365820592393377723561443721764030073546976801874298166903427690031858186486050853753882811946569946433649006084096 * 1)
   (by unfold fit at hx; unfold bV; omega) (by unfold fit at hy; unfold bV; omega)
  simp only [cX x 1 _ (show 0 < 8 by omega), cX x 1 _ (show 1 < 8 by omega), cX x 1 _ (show 2 < 8 by omega), cX x 1 _ (show 3 < 8 by omega), cX x 1 _ (show 4 < 8 by omega), cX x 1 _ (show 5 < 8 by omega), cX x 1 _ (show 6 < 8 by omega), cX x 1 _ (show 7 < 8 by omega),
   cX y 1 _ (show 0 < 8 by omega), cX y 1 _ (show 1 < 8 by omega), cX y 1 _ (show 2 < 8 by omega), cX y 1 _ (show 3 < 8 by omega), cX y 1 _ (show 4 < 8 by omega), cX y 1 _ (show 5 < 8 by omega), cX y 1 _ (show 6 < 8 by omega), cX y 1 _ (show 7 < 8 by omega)] at h
  simp only [h1, h2, decide_true, cond_true, h, Uz]
  congr 1
  congr 1
  omega
 ·simp only [h1, h2, decide_true, decide_false, cond_true, cond_false]
  have : x - y < 0 := by omega
  simp [sgn, this]
 ·simp only [h1, h2, decide_true, decide_false, cond_true, cond_false]
  have a : ¬ x - y < 0 := by omega
  have b : ¬ x - y = 0 := by omega
  simp [sgn, a, b]
 ·have h := Is (x := x) (y := y) (by unfold fit at hx; unfold bV; omega) (by unfold fit at hy; unfold bV; omega)
  simp only [h1, h2, decide_false, cond_false, h, Uz]
def FL : ByteArray := ⟨#[0, 1, 2, 2, 3, 3, 3, 3, 4, 4, 4, 4, 4, 4, 4, 4, 5, 5, 5, 5, 5, 5, 5, 5, 5, 5, 5, 5, 5, 5, 5, 5, 6, 6, 6, 6, 6, 6, 6, 6, 6, 6, 6, 6, 6, 6, 6, 6, 6, 6, 6, 6, 6, 6, 6, 6, 6, 6, 6, 6, 6, 6, 6, 6, 7, 7, 7, 7, 7, 7, 7, 7, 7, 7, 7, 7, 7, 7, 7, 7, 7, 7, 7, 7, 7, 7, 7, 7, 7, 7, 7, 7, 7, 7, 7, 7, 7, 7, 7, 7, 7, 7, 7, 7, 7, 7, 7, 7, 7, 7, 7, 7, 7, 7, 7, 7, 7, 7, 7, 7, 7, 7, 7, 7, 7, 7, 7, 7, 8, 8, 8, 8, 8, 8, 8, 8, 8, 8, 8, 8, 8, 8, 8, 8, 8, 8, 8, 8, 8, 8, 8, 8, 8, 8, 8, 8, 8, 8, 8, 8, 8, 8, 8, 8, 8, 8, 8, 8, 8, 8, 8, 8, 8, 8, 8, 8, 8, 8, 8, 8, 8, 8, 8, 8, 8, 8, 8, 8, 8, 8, 8, 8, 8, 8, 8, 8, 8, 8, 8, 8, 8, 8, 8, 8, 8, 8, 8, 8, 8, 8, 8, 8, 8, 8, 8, 8, 8, 8, 8, 8, 8, 8, 8, 8, 8, 8, 8, 8, 8, 8, 8, 8, 8, 8, 8, 8, 8, 8, 8, 8, 8, 8, 8, 8, 8, 8, 8, 8, 8, 8, 8, 8, 8, 8, 8, 8]⟩
def OV (T : ByteArray) (a0 : Int) : Option Int :=
 (cond (decide (a0 ≥ 4294967296)) (cond (decide ((aA .u64 a0 32) ≥ 65536)) (cond (decide ((aA .u64 (aA .u64 a0 32) 16) ≥ 256)) (af (decide (0 ≤ (IntKind.wrap .u8 (aA .u64 (aA .u64 (aA .u64 a0 32) 16) 8))) && decide ((IntKind.wrap .u8 (aA .u64 (aA .u64 (aA .u64 a0 32) 16) 8)) < ((ByteArray.size T : Nat) : Int))) (some (IntKind.wrap .i64 (56 + (IntKind.wrap .i64 (dK T (Int.toNat (IntKind.wrap .u8 (aA .u64 (aA .u64 (aA .u64 a0 32) 16) 8))))))))) (af (decide (0 ≤ (IntKind.wrap .u8 (aA .u64 (aA .u64 a0 32) 16))) && decide ((IntKind.wrap .u8 (aA .u64 (aA .u64 a0 32) 16)) < ((ByteArray.size T : Nat) : Int))) (some (IntKind.wrap .i64 (48 + (IntKind.wrap .i64 (dK T (Int.toNat (IntKind.wrap .u8 (aA .u64 (aA .u64 a0 32) 16)))))))))) (cond (decide ((aA .u64 a0 32) ≥ 256)) (af (decide (0 ≤ (IntKind.wrap .u8 (aA .u64 (aA .u64 a0 32) 8))) && decide ((IntKind.wrap .u8 (aA .u64 (aA .u64 a0 32) 8)) < ((ByteArray.size T : Nat) : Int))) (some (IntKind.wrap .i64 (40 + (IntKind.wrap .i64 (dK T (Int.toNat (IntKind.wrap .u8 (aA .u64 (aA .u64 a0 32) 8))))))))) (af (decide (0 ≤ (IntKind.wrap .u8 (aA .u64 a0 32))) && decide ((IntKind.wrap .u8 (aA .u64 a0 32)) < ((ByteArray.size T : Nat) : Int))) (some (IntKind.wrap .i64 (32 + (IntKind.wrap .i64 (dK T (Int.toNat (IntKind.wrap .u8 (aA .u64 a0 32))))))))))) (cond (decide (a0 ≥ 65536)) (cond (decide ((aA .u64 a0 16) ≥ 256)) (af (decide (0 ≤ (IntKind.wrap .u8 (aA .u64 (aA .u64 a0 16) 8))) && decide ((IntKind.wrap .u8 (aA .u64 (aA .u64 a0 16) 8)) < ((ByteArray.size T : Nat) : Int))) (some (IntKind.wrap .i64 (24 + (IntKind.wrap .i64 (dK T (Int.toNat (IntKind.wrap .u8 (aA .u64 (aA .u64 a0 16) 8))))))))) (af (decide (0 ≤ (IntKind.wrap .u8 (aA .u64 a0 16))) && decide ((IntKind.wrap .u8 (aA .u64 a0 16)) < ((ByteArray.size T : Nat) : Int))) (some (IntKind.wrap .i64 (16 + (IntKind.wrap .i64 (dK T (Int.toNat (IntKind.wrap .u8 (aA .u64 a0 16)))))))))) (cond (decide (a0 ≥ 256)) (af (decide (0 ≤ (IntKind.wrap .u8 (aA .u64 a0 8))) && decide ((IntKind.wrap .u8 (aA .u64 a0 8)) < ((ByteArray.size T : Nat) : Int))) (some (IntKind.wrap .i64 (8 + (IntKind.wrap .i64 (dK T (Int.toNat (IntKind.wrap .u8 (aA .u64 a0 8))))))))) (af (decide (0 ≤ (IntKind.wrap .u8 a0)) && decide ((IntKind.wrap .u8 a0) < ((ByteArray.size T : Nat) : Int))) (some (IntKind.wrap .i64 (0 + (IntKind.wrap .i64 (dK T (Int.toNat (IntKind.wrap .u8 a0)))))))))))
theorem Qk (a : Int) : fY a = OV FL a := rfl
theorem Ql : ∀ b : Fin 256, dK FL b.val = eF b.val := by decide
theorem OW : FL.size = 256 := by decide
theorem CJ {a : Int} (k : Nat) (hk : k ≤ 64) : aA .u64 a (k : Int) = a / ((2 ^ k : Nat) : Int) := by
 unfold aA
 have e : min (Int.toNat (k : Int)) (IntKind.bits .u64) = k := by simp [IntKind.bits]; omega
 rw [e, Int.fdiv_eq_ediv_of_nonneg]
 ·congr 1
 ·exact Int.pow_nonneg (by decide)
theorem Ek {n k : Nat} (h1 : 2 ^ k ≤ n) (h2 : n < 2 ^ (k + 1)) : eF n = (k + 1 : Nat) := by
 have h0 : n ≠ 0 := by have := Nat.two_pow_pos k; omega
 have e : Nat.log2 n = k := by
  have a : k ≤ Nat.log2 n := (Nat.le_log2 h0).2 h1
  have b : Nat.log2 n < k + 1 := (Nat.log2_lt h0).2 h2
  omega
 unfold eF
 have : Nat.beq n 0 = false := by cases hb : Nat.beq n 0 with
  | false => rfl
  | true => exact absurd (US hb) h0
 rw [this, e]; rfl
theorem vT {n : Nat} (h0 : n ≠ 0) : ∃ k, eF n = (k + 1 : Nat) ∧ 2 ^ k ≤ n ∧ n < 2 ^ (k + 1) :=
 ⟨Nat.log2 n, Ek ((Nat.le_log2 h0).1 (Nat.le_refl _)) ((Nat.log2_lt h0).1 (Nat.lt_succ_self _)), (Nat.le_log2 h0).1 (Nat.le_refl _), (Nat.log2_lt h0).1 (Nat.lt_succ_self _)⟩
theorem No {n b k : Nat} (h0 : b ≠ 0) (h1 : b * 2 ^ k ≤ n) (h2 : n < (b + 1) * 2 ^ k) : eF n = k + eF b := by
 obtain ⟨j, e, h3, h4⟩ := vT h0
 rw [e, Ek (n := n) (k := k + j)]
 ·omega
 ·rw [Nat.pow_add, Nat.mul_comm]
  exact Nat.le_trans (Nat.mul_le_mul_right _ h3) h1
 ·have : b + 1 ≤ 2 ^ (j + 1) := h4
  refine Nat.lt_of_lt_of_le h2 (Nat.le_trans (Nat.mul_le_mul_right _ this) ?_)
  rw [← Nat.pow_add]
  exact Nat.le_of_eq (congrArg _ (by omega))
theorem Di {n k : Nat} (h : n < 2 ^ k) : 0 ≤ eF n ∧ eF n ≤ k := by
 by_cases h0 : n = 0
 ·subst h0; simp [eF]
 ·obtain ⟨j, e, h3, h4⟩ := vT h0
  rw [e]
  have : j < k := by
   apply Nat.lt_of_not_le
   intro hk
   have := Nat.pow_le_pow_right (n := 2) (by decide) hk
   omega
  omega
theorem T9 {a : Int} (h : 0 ≤ a ∧ a < 256) : IntKind.wrap .u8 a = a := by
 simp [IntKind.wrap, IntKind.signed, IntKind.bits]; omega
theorem l9 (c : Int) {b : Int} (hb : 0 ≤ b ∧ b < 256) (hc : 0 ≤ c ∧ c ≤ 56) : af (decide (0 ≤ (IntKind.wrap .u8 b)) && decide ((IntKind.wrap .u8 b) < ((ByteArray.size FL : Nat) : Int))) (some (IntKind.wrap .i64 (c + (IntKind.wrap .i64 (dK FL (Int.toNat (IntKind.wrap .u8 b))))))) = some (c + eF b.toNat) := by
 have h := Ql ⟨b.toNat, by omega⟩
 have hl := Di (n := b.toNat) (k := 8) (by omega)
 simp only at h
 rw [T9 hb, h, OW, cw (a := eF b.toNat) (by omega), cw (by omega), UI (show 0 ≤ b by omega), UI (show b < ((256 : Nat) : Int) by omega)]
 rfl
theorem OX {b : Int} (hb : 0 ≤ b ∧ b < 256) : af (decide (0 ≤ (IntKind.wrap .u8 b)) && decide ((IntKind.wrap .u8 b) < ((ByteArray.size FL : Nat) : Int))) (some (IntKind.wrap .i64 (0 + (IntKind.wrap .i64 (dK FL (Int.toNat (IntKind.wrap .u8 b))))))) = some (eF b.toNat) := by
 rw [l9 0 hb (by decide), Int.zero_add]
theorem Az {a : Int} : aA .u64 a 32 = a / 4294967296 ∧ aA .u64 a 16 = a / 65536 ∧ aA .u64 a 8 = a / 256 :=
 ⟨CJ 32 (by decide), CJ 16 (by decide), CJ 8 (by decide)⟩
theorem oZ {a b : Int} (k : Nat) (hb : 0 < b) (h1 : b * ((2 ^ k : Nat) : Int) ≤ a) (h2 : a < (b + 1) * ((2 ^ k : Nat) : Int)) : eF a.toNat = (k : Int) + eF b.toNat := by
 have e1 : ((b.toNat : Nat) : Int) = b := by omega
 have hp : (0 : Int) < ((2 ^ k : Nat) : Int) := by have := Nat.two_pow_pos k; omega
 have ha : 0 ≤ a := Int.le_trans (Int.mul_nonneg (by omega) (by omega)) h1
 have e2 : ((a.toNat : Nat) : Int) = a := by omega
 refine No (n := a.toNat) (b := b.toNat) (k := k) (by omega) ?_ ?_
 ·have : ((b.toNat * 2 ^ k : Nat) : Int) ≤ ((a.toNat : Nat) : Int) := by rw [Int.natCast_mul, e1, e2]; exact h1
  omega
 ·have : ((a.toNat : Nat) : Int) < (((b.toNat + 1) * 2 ^ k : Nat) : Int) := by rw [Int.natCast_mul, e2]; push_cast; rw [e1]; push_cast at h2; exact h2
  omega
theorem Sg {a : Int} (h : 0 ≤ a ∧ a < 18446744073709551616) : fY a = some (eF a.toNat) := by
 rw [Qk]
 unfold OV
 simp only [Az.1, Az.2.1, Az.2.2]
 by_cases h1 : a ≥ 4294967296
 ·rw [UI h1, cond_true]
  by_cases h2 : a / 4294967296 ≥ 65536
  ·rw [UI h2, cond_true]
   by_cases h3 : a / 4294967296 / 65536 ≥ 256
   ·rw [UI h3, cond_true, l9 56 (by omega) (by decide), oZ (a := a) (b := a / 4294967296 / 65536 / 256) 56 (by omega) (by omega) (by omega)]; rfl
   ·rw [UH h3, cond_false, l9 48 (by omega) (by decide), oZ (a := a) (b := a / 4294967296 / 65536) 48 (by omega) (by omega) (by omega)]; rfl
  ·rw [UH h2, cond_false]
   by_cases h3 : a / 4294967296 ≥ 256
   ·rw [UI h3, cond_true, l9 40 (by omega) (by decide), oZ (a := a) (b := a / 4294967296 / 256) 40 (by omega) (by omega) (by omega)]; rfl
   ·rw [UH h3, cond_false, l9 32 (by omega) (by decide), oZ (a := a) (b := a / 4294967296) 32 (by omega) (by omega) (by omega)]; rfl
 ·rw [UH h1, cond_false]
  by_cases h2 : a ≥ 65536
  ·rw [UI h2, cond_true]
   by_cases h3 : a / 65536 ≥ 256
   ·rw [UI h3, cond_true, l9 24 (by omega) (by decide), oZ (a := a) (b := a / 65536 / 256) 24 (by omega) (by omega) (by omega)]; rfl
   ·rw [UH h3, cond_false, l9 16 (by omega) (by decide), oZ (a := a) (b := a / 65536) 16 (by omega) (by omega) (by omega)]; rfl
  ·rw [UH h2, cond_false]
   by_cases h3 : a ≥ 256
   ·rw [UI h3, cond_true, l9 8 (by omega) (by decide), oZ (a := a) (b := a / 256) 8 (by omega) (by omega) (by omega)]; rfl
   ·rw [UH h3, cond_false, OX (by omega)]
theorem m2 (i : Nat) : (18446744073709551616 : Int) ^ i = ((2 ^ (64 * i) : Nat) : Int) := by
 rw [Nat.pow_mul, Int.natCast_pow]; rfl
theorem LM {l : List Int} (h1 : rL l) (hl : l.length = 8) (p : Nat) :
  ∃ e, vw (LL l, p) 7 = some e ∧ Sum.elim id (fun _ => 0) e = eF (lv l).toNat := by
 refine gv (step := ni (LL l, p)) (fun v => ∃ i : Nat, v = (i : Int) - 1 ∧ i ≤ 8 ∧ lv (l.drop i) = 0) (fun v => (v + 1).toNat) _ ?_ (by decide)
  ⟨8, rfl, Nat.le_refl _, by rw [List.drop_eq_nil_of_le (by omega)]; rfl⟩
 rintro v ⟨i, rfl, hi, hd⟩
 cases i with
 | zero =>
  refine .inr ⟨.inr (), rfl, ?_⟩
  simp only [List.drop_zero] at hd
  rw [hd]; rfl
 | succ i =>
  have e : ((i + 1 : Nat) : Int) - 1 = (i : Int) := by omega
  rw [e]
  have hi8 : i < 8 := by omega
  have h3 : IntKind.wrap .i64 ((i : Int) - 1) = (i : Int) - 1 := cw (by omega)
  have hg := h1.get i
  have hb := Di (n := (l.getD i 0).toNat) (k := 64) (by omega)
  have h4 : IntKind.wrap .i64 (64 * (i : Int)) = 64 * (i : Int) := cw (by omega)
  have h5 : IntKind.wrap .i64 (64 * (i : Int) + eF (l.getD i 0).toNat) = 64 * (i : Int) + eF (l.getD i 0).toNat := cw (by omega)
  simp only [ni, eK, gt, Nm, xK hi8, h3, cond_true, aw, UG, Int.toNat_natCast, Nat.mul_one, Nat.zero_add, Nat.add_zero, rO, ju, hl, UI hi8, Sg hg, Uz, h4, h5]
  by_cases hne : l.getD i 0 = 0
  ·refine .inl ⟨(i : Int) - 1, ?_, ⟨i, rfl, by omega, ?_⟩, by omega⟩
   ·rw [hne]; rfl
   ·rw [oY (by omega), hne, lv, hd]; rfl
  ·have hb' : (l.getD i 0 != 0) = true := by simpa using hne
   refine .inr ⟨.inl (64 * (i : Int) + eF (l.getD i 0).toNat), by rw [hb']; rfl, ?_⟩
   have hs := lZ i l
   rw [oY (by omega), lv, hd] at hs
   have ht := oF (h1.take i)
   rw [List.length_take, Nat.min_eq_left (by omega), m2] at ht
   rw [m2] at hs
   have e2 : lv l = lv (l.take i) + l.getD i 0 * ((2 ^ (64 * i) : Nat) : Int) := by rw [hs, Int.mul_comm (l.getD i 0)]; simp
   refine Eq.symm ((oZ (a := lv l) (b := l.getD i 0) (64 * i) (by omega) (by omega) (by rw [Int.add_mul]; omega)).trans ?_)
   simp [Sum.elim]
theorem Lh {x : Int} (hx : bV x) : gZ (aa x 0) (aa x 1) (aa x 2) (aa x 3) (aa x 4) (aa x 5) (aa x 6) (aa x 7) = some (eF x.toNat) := by
 obtain ⟨e, h1, h2⟩ := LM (Hl x) rfl 1
 rw [Dh hx.1 hx.2] at h2
 unfold gZ
 simp only [Ax]
 rw [show [aa x 0, aa x 1, aa x 2, aa x 3, aa x 4, aa x 5, aa x 6, aa x 7] = l8 x from rfl, h1, Uz]
 rw [← h2]
 cases e <;> rfl
theorem sb {x : Int} (hx : fit x) : bV (x.natAbs : Int) := by unfold fit at hx; unfold bV; omega
theorem Li {a : Int} (h : 0 ≤ a ∧ a < 18446744073709551616) : ve .u64 a 4294967295 = a % 4294967296 := by
 unfold ve
 rw [Ay]
 obtain ⟨n, rfl⟩ := Int.eq_ofNat_of_zero_le h.1
 have hn : n < 2 ^ 64 := by omega
 have e1 : (BitVec.ofInt (IntKind.bits .u64) 4294967295).toNat = 2 ^ 32 - 1 := by
  show (BitVec.ofInt 64 4294967295).toNat = _
  decide
 have e2 : (BitVec.ofInt (IntKind.bits .u64) (n : Int)).toNat = n := by
  show (BitVec.ofInt 64 (n : Int)).toNat = n
  rw [BitVec.ofInt_natCast, BitVec.toNat_ofNat, Nat.mod_eq_of_lt hn]
 rw [BitVec.toNat_and, e1, e2, Nat.and_two_pow_sub_one_eq_mod]
 omega
theorem Sh {a b : Int} (ha : 0 ≤ a ∧ a < 18446744073709551616) (hb : 0 ≤ b ∧ b < 18446744073709551616) : fZ a b = some (a * b / 18446744073709551616, a * b % 18446744073709551616) := by
 unfold fZ
 have im : ∀ x : Int, ve .u64 (x % 18446744073709551616) 4294967295 = x % 18446744073709551616 % 4294967296 := fun x => Li (by omega)
 simp only [Az.1, Li ha, Li hb, Ay, im]
 have hA : a = a / 4294967296 * 4294967296 + a % 4294967296 := by omega
 have hB : b = b / 4294967296 * 4294967296 + b % 4294967296 := by omega
 have a1 : 0 ≤ a / 4294967296 ∧ a / 4294967296 ≤ 4294967295 := by omega
 have a0 : 0 ≤ a % 4294967296 ∧ a % 4294967296 ≤ 4294967295 := by omega
 have b1 : 0 ≤ b / 4294967296 ∧ b / 4294967296 ≤ 4294967295 := by omega
 have b0 : 0 ≤ b % 4294967296 ∧ b % 4294967296 ≤ 4294967295 := by omega
 generalize a / 4294967296 = x1 at *
 generalize a % 4294967296 = x0 at *
 generalize b / 4294967296 = y1 at *
 generalize b % 4294967296 = y0 at *
 have e : a * b = x1 * y1 * 18446744073709551616 + (x1 * y0 + x0 * y1) * 4294967296 + x0 * y0 := by
  rw [hA, hB]; grind
 rw [e]
 have p : ∀ u v : Int, 0 ≤ u ∧ u ≤ 4294967295 → 0 ≤ v ∧ v ≤ 4294967295 → 0 ≤ u * v ∧ u * v ≤ 18446744065119617025 := fun u v hu hv =>
  ⟨Int.mul_nonneg hu.1 hv.1, Int.le_trans (Int.mul_le_mul hu.2 hv.2 hv.1 (by decide)) (by decide)⟩
 have p11 := p x1 y1 a1 b1
 have p10 := p x1 y0 a1 b0
 have p01 := p x0 y1 a0 b1
 have p00 := p x0 y0 a0 b0
 generalize x1 * y1 = q11 at *
 generalize x1 * y0 = q10 at *
 generalize x0 * y1 = q01 at *
 generalize x0 * y0 = q00 at *
 congr 2
 omega
theorem It {x y m : Int} (k : Nat) (hx : 0 ≤ x ∧ x < ((2 ^ k : Nat) : Int)) (hm : 0 ≤ m) (hy : y = ((2 ^ k : Nat) : Int) * m) (hs : x + y < 18446744073709551616) : ior .u64 x y = x + y := by
 have hy0 : 0 ≤ y := by rw [hy]; exact Int.mul_nonneg (by omega) hm
 obtain ⟨a, rfl⟩ := Int.eq_ofNat_of_zero_le hx.1
 obtain ⟨b, rfl⟩ := Int.eq_ofNat_of_zero_le hm
 have hyn : y = ((2 ^ k * b : Nat) : Int) := by rw [hy, Int.natCast_mul]
 unfold ior
 rw [Ay]
 have hc : 2 ^ k * b + a < 2 ^ 64 := by omega
 have e1 : (BitVec.ofInt (IntKind.bits .u64) (a : Int)).toNat = a := by
  show (BitVec.ofInt 64 (a : Int)).toNat = a
  rw [BitVec.ofInt_natCast, BitVec.toNat_ofNat, Nat.mod_eq_of_lt (by omega)]
 have e2 : (BitVec.ofInt (IntKind.bits .u64) y).toNat = 2 ^ k * b := by
  show (BitVec.ofInt 64 y).toNat = _
  rw [hyn, BitVec.ofInt_natCast, BitVec.toNat_ofNat, Nat.mod_eq_of_lt (by omega)]
 rw [BitVec.toNat_or, e1, e2, Nat.or_comm, ← Nat.two_pow_add_eq_or_of_lt (by omega)]
 omega
theorem CK {a : Int} (k : Nat) (hk : k ≤ 64) : gX .u64 a (k : Int) = a * ((2 ^ k : Nat) : Int) % 18446744073709551616 := by
 unfold gX
 rw [Ay]
 have e : min (Int.toNat (k : Int)) (IntKind.bits .u64) = k := by simp [IntKind.bits]; omega
 rw [e, Int.natCast_pow]; rfl
theorem TE {z : Int} (hz : bV z) : kz (aa z 0) (aa z 1) (aa z 2) (aa z 3) (aa z 4) (aa z 5) (aa z 6) (aa z 7) = some (t8 (z / 2)) := by
 have dvh : ∀ n, dv n (z / 2) = dv n z / 2 := by
  intro n
  induction n with
  | zero => rfl
  | succ n ih => show dv n (z / 2) / _ = dv n z / _ / 2; rw [ih]; omega
 have hl : ∀ n, aa (z / 2) n = aa z n / 2 + aa z (n + 1) % 2 * 9223372036854775808 := by
  intro n
  unfold aa
  rw [dvh]
  show _ = _ + dv n z / 18446744073709551616 % _ % _ * _
  omega
 have h8 : dv 8 z = 0 := by
  have : dv 8 z = z / 18446744073709551616 / 18446744073709551616 / 18446744073709551616 / 18446744073709551616 / 18446744073709551616 / 18446744073709551616 / 18446744073709551616 / 18446744073709551616 := rfl
  unfold bV at hz; omega
 have h7 : aa (z / 2) 7 = aa z 7 / 2 := by
  rw [hl 7]
  show _ + dv 8 z % _ % _ * _ = _
  rw [h8]; omega
 have e1 : ∀ a : Int, aA .u64 a 1 = a / 2 := fun a => CJ 1 (by decide)
 have e2 : ∀ a : Int, gX .u64 a 63 = a * 9223372036854775808 % 18446744073709551616 := fun a => CK 63 (by decide)
 have e3 : ∀ n, ior .u64 (aA .u64 (aa z n) 1) (gX .u64 (aa z (n + 1)) 63) = aa (z / 2) n := by
  intro n
  have r1 := ci z n
  have r2 := ci z (n + 1)
  rw [hl n, e1, e2]
  have e4 : aa z (n + 1) * 9223372036854775808 % 18446744073709551616 = aa z (n + 1) % 2 * 9223372036854775808 := by omega
  rw [e4, It 63 (m := aa z (n + 1) % 2) ⟨by omega, by omega⟩ (by omega) (by rw [Int.mul_comm]; rfl) (by omega)]
 unfold kz t8
 rw [h7, e3 0, e3 1, e3 2, e3 3, e3 4, e3 5, e3 6, e1]
theorem OY : ∀ (j k : Nat) (z : Int), dv (k + j) z = dv j (dv k z)
 | 0, k, z => rfl
 | j + 1, k, z => by show dv (k + j) z / _ = dv j (dv k z) / _; rw [OY j k z]
theorem Iu : ∀ (k : Nat) (y : Int), dv k (y * 18446744073709551616 ^ k) = y
 | 0, y => by show y * 1 = y; omega
 | k + 1, y => by
  show dv k (y * 18446744073709551616 ^ (k + 1)) / _ = y
  have e : y * (18446744073709551616 : Int) ^ (k + 1) = (y * 18446744073709551616) * 18446744073709551616 ^ k := by rw [Int.pow_succ, Int.mul_assoc, Int.mul_comm (18446744073709551616 ^ k)]
  rw [e, Iu k]; omega
theorem Qm (j k : Nat) (z : Int) : aa z (k + j) = aa (dv k z) j := by unfold aa; rw [OY]
theorem Qn {i k : Nat} (h : i < k) (y : Int) : aa (y * 18446744073709551616 ^ k) i = 0 := by
 obtain ⟨r, rfl⟩ : ∃ r, k = i + (r + 1) := ⟨k - i - 1, by omega⟩
 have e : y * (18446744073709551616 : Int) ^ (i + (r + 1)) = (y * 18446744073709551616 ^ r * 18446744073709551616) * 18446744073709551616 ^ i := by
  rw [Int.pow_add, Int.pow_succ]
  grind
 unfold aa
 rw [e, Iu]; omega
theorem sT {s : Nat} (h : s < 64) : ((2 ^ s : Nat) : Int) * ((2 ^ (64 - s) : Nat) : Int) = 18446744073709551616 := by
 rw [← Int.natCast_mul, ← Nat.pow_add]
 have e : s + (64 - s) = 64 := by omega
 rw [e]; rfl
theorem kg (s : Nat) : (0 : Int) < ((2 ^ s : Nat) : Int) := by have := Nat.two_pow_pos s; omega
theorem CL {p q D l c : Int} (hp : 0 < p) (hq : 0 < q) (h : p * q = 18446744073709551616) (hl : 0 ≤ l ∧ l < 18446744073709551616) (hc : 0 ≤ c ∧ c < p) :
  ((l + 18446744073709551616 * D) * p + c) / 18446744073709551616 = D * p + l / q ∧ (l / q < p ∧ 0 ≤ l / q) ∧ ((l + 18446744073709551616 * D) * p + c) % 18446744073709551616 = l * p % 18446744073709551616 + c ∧
  (∃ m, 0 ≤ m ∧ l * p % 18446744073709551616 = p * m) ∧ l * p % 18446744073709551616 + c < 18446744073709551616 := by
 have hlq := Int.mul_ediv_add_emod l q
 have hr0 := Int.emod_nonneg l (show q ≠ 0 by omega)
 have hr1 := Int.emod_lt_of_pos l hq
 have hq0 : 0 ≤ l / q := Int.ediv_nonneg hl.1 (by omega)
 generalize l / q = u at *
 generalize l % q = v at *
 have hu : u < p := by
  apply Int.lt_of_mul_lt_mul_left (a := q) _ (by omega)
  rw [Int.mul_comm q p, h]; omega
 have hv : v * p + p ≤ 18446744073709551616 := by
  have : (v + 1) * p ≤ q * p := UU (by omega) (by omega)
  rw [Int.add_mul, Int.mul_comm q p, h] at this; omega
 have hv0 : 0 ≤ v * p := Int.mul_nonneg hr0 (by omega)
 have e1 : l * p = 18446744073709551616 * u + v * p := by
  rw [← hlq, ← h]; grind
 have e2 : (l + 18446744073709551616 * D) * p = 18446744073709551616 * (D * p) + l * p := by grind
 have e3 : l * p % 18446744073709551616 = v * p := by omega
 refine ⟨?_, ⟨hu, hq0⟩, ?_, ⟨v, hr0, by rw [e3, Int.mul_comm]⟩, by omega⟩
 ·rw [e2, e1]; omega
 ·rw [e2, e3, e1]; omega
def cry (x q : Int) : Nat → Int
 | 0 => 0
 | j + 1 => aa x j / q
theorem Lj {p q : Int} (hp : 0 < p) (hq : 0 < q) (h : p * q = 18446744073709551616) (x : Int) : ∀ j, dv j (x * p) = dv j x * p + cry x q j ∧ (0 ≤ cry x q j ∧ cry x q j < p) ∧ aa (x * p) j = aa x j * p % 18446744073709551616 + cry x q j := by
 have key : ∀ j, dv j (x * p) = dv j x * p + cry x q j ∧ (0 ≤ cry x q j ∧ cry x q j < p) := by
  intro j
  induction j with
  | zero => exact ⟨by show x * p = x * p + 0; omega, ⟨Int.le_refl _, hp⟩⟩
  | succ j ih =>
   have hm := CL (D := dv (j + 1) x) hp hq h (ci x j) ih.2
   rw [← sa j x, ← ih.1] at hm
   exact ⟨hm.1, hm.2.1.2, hm.2.1.1⟩
 intro j
 have k := key j
 refine ⟨k.1, k.2, ?_⟩
 have hm := CL (D := dv (j + 1) x) hp hq h (ci x j) k.2
 rw [← sa j x, ← k.1] at hm
 exact hm.2.2.1
theorem FM {n i : Nat} (x : Int) (hi : n / 64 ≤ i) : aa (x * ((2 ^ n : Nat) : Int)) i = aa x (i - n / 64) * ((2 ^ (n % 64) : Nat) : Int) % 18446744073709551616 + cry x ((2 ^ (64 - n % 64) : Nat) : Int) (i - n / 64) := by
 have hn : 2 ^ n = 2 ^ (n % 64) * 2 ^ (64 * (n / 64)) := by rw [← Nat.pow_add, Nat.add_comm, Nat.div_add_mod]
 have e : x * ((2 ^ n : Nat) : Int) = (x * ((2 ^ (n % 64) : Nat) : Int)) * 18446744073709551616 ^ (n / 64) := by
  rw [hn, m2, Int.natCast_mul, Int.mul_assoc]
 obtain ⟨j, rfl⟩ : ∃ j, i = n / 64 + j := ⟨i - n / 64, by omega⟩
 rw [e, Qm, Iu, Nat.add_sub_cancel_left]
 have h64 : n % 64 < 64 := Nat.mod_lt _ (by decide)
 exact (Lj (kg _) (kg _) (sT h64) x j).2.2
theorem OZ {n i : Nat} (x : Int) (hi : i < n / 64) : aa (x * ((2 ^ n : Nat) : Int)) i = 0 := by
 have hn : 2 ^ n = 2 ^ (n % 64) * 2 ^ (64 * (n / 64)) := by rw [← Nat.pow_add, Nat.add_comm, Nat.div_add_mod]
 have e : x * ((2 ^ n : Nat) : Int) = (x * ((2 ^ (n % 64) : Nat) : Int)) * 18446744073709551616 ^ (n / 64) := by
  rw [hn, m2, Int.natCast_mul, Int.mul_assoc]
 rw [e, Qn hi]
theorem Lk {n i : Nat} (x : Int) (hi : n / 64 ≤ i) : ior .u64 (gX .u64 (aa x (i - n / 64)) ((n % 64 : Nat) : Int)) (cry x ((2 ^ (64 - n % 64) : Nat) : Int) (i - n / 64)) = aa (x * ((2 ^ n : Nat) : Int)) i := by
 have h64 : n % 64 < 64 := Nat.mod_lt _ (by decide)
 have hs := Lj (kg (n % 64)) (kg (64 - n % 64)) (sT h64) x (i - n / 64)
 have hm := CL (D := 0) (kg (n % 64)) (kg (64 - n % 64)) (sT h64) (ci x (i - n / 64)) hs.2.1
 obtain ⟨m, hm0, hm1⟩ := hm.2.2.2.1
 rw [CK _ (by omega), FM x hi]
 have hlt := hm.2.2.2.2
 have hc : ∀ a b : Int, ior .u64 a b = ior .u64 b a := fun a b => by unfold ior; rw [BitVec.or_comm]
 rw [hc, It (n % 64) hs.2.1 hm0 hm1 (by omega)]
 omega
theorem iQ {z : Int} {i : Nat} : (l8 z).getD i 0 = if i < 8 then aa z i else 0 := by
 match i with
 | 0 | 1 | 2 | 3 | 4 | 5 | 6 | 7 => rfl
 | i + 8 => rw [if_neg (by omega)]; rfl
theorem Uu {l m : List Int} (hl : l.length = 8) (hm : m.length = 8) (h : ∀ i, i < 8 → l.getD i 0 = m.getD i 0) : l = m := by
 rw [TD hl, TD hm, h 0 (by decide), h 1 (by decide), h 2 (by decide), h 3 (by decide), h 4 (by decide), h 5 (by decide), h 6 (by decide), h 7 (by decide)]
theorem Ll {l : List Int} {i j : Nat} {v : Int} (h : i < l.length) : (l.set i v).getD j 0 = if j = i then v else l.getD j 0 := by
 rw [UL, List.getElem?_set, UL]
 by_cases hij : i = j
 ·subst hij; simp [h]
 ·rw [if_neg hij, if_neg (fun e => hij e.symm)]
def z8 : List Int := [0, 0, 0, 0, 0, 0, 0, 0]
theorem O0 (j : Nat) : z8.getD j 0 = 0 := by
 match j with
 | 0 | 1 | 2 | 3 | 4 | 5 | 6 | 7 => rfl
 | j + 8 => simp [z8]
theorem uF (x : Int) : [aa x 0, aa x 1, aa x 2, aa x 3, aa x 4, aa x 5, aa x 6, aa x 7] = l8 x := rfl
theorem Mp : ([0, 0, 0, 0, 0, 0, 0, 0] : List Int) = z8 := rfl
theorem O1 : z8.length = 8 := rfl
theorem Lm {l m : List Int} (h : l.length = m.length) : spliced (LL l) 0 (LL m) = LL m := by
 unfold spliced LL
 simp [h, List.drop_eq_nil_of_le]
theorem O2 {x : Int} {n : Nat} (hn : n < 512) (p q r : Nat) (zl : LA_) :
  ∃ e, yn ((n : Int), LL (l8 x), p, zl, q, r) (LL z8, ((n / 64 : Nat) : Int)) = some e ∧ e = LL (l8 (x * ((2 ^ n : Nat) : Int))) := by
 have hz0 : ∀ j, z8.getD j 0 = if j < n / 64 then aa (x * ((2 ^ n : Nat) : Int)) j else 0 := by
  intro j
  rw [O0]
  split
  ·rename_i h; rw [OZ x h]
  ·rfl
 refine gv (step := pW ((n : Int), LL (l8 x), p, zl, q, r))
  (fun v => ∃ (i : Nat) (l : List Int), v = (LL l, (i : Int)) ∧ l.length = 8 ∧ n / 64 ≤ i ∧ i ≤ 8 ∧ ∀ j, l.getD j 0 = if j < i then aa (x * ((2 ^ n : Nat) : Int)) j else 0) (fun v => (8 - v.2).toNat) _ ?_
  (Nat.lt_of_le_of_lt (show (8 - ((n / 64 : Nat) : Int)).toNat ≤ 8 by omega) (by decide))
  ⟨n / 64, z8, rfl, rfl, Nat.le_refl _, by omega, hz0⟩
 rintro v ⟨i, l, rfl, hl, hk, hi, hg⟩
 have t1 : Int.tdiv (n : Int) 64 = ((n / 64 : Nat) : Int) := by rw [Int.tdiv_eq_ediv_of_nonneg (by omega)]; omega
 have t2 : Int.tmod (n : Int) 64 = ((n % 64 : Nat) : Int) := by rw [Int.tmod_eq_emod_of_nonneg (by omega)]; omega
 have w1 : IntKind.wrap .i64 ((n / 64 : Nat) : Int) = ((n / 64 : Nat) : Int) := cw (by omega)
 by_cases h8 : i = 8
 ·subst h8
  refine .inr ⟨LL l, rfl, ?_⟩
  rw [Uu hl (qD _) (fun j hj => by rw [hg j, iQ])]
 ·have hi8 : i < 8 := by omega
  have w2 : IntKind.wrap .i64 ((i : Int) - ((n / 64 : Nat) : Int)) = ((i - n / 64 : Nat) : Int) := by rw [cw (by omega)]; omega
  have w3 : IntKind.wrap .i64 (64 - ((n % 64 : Nat) : Int)) = ((64 - n % 64 : Nat) : Int) := by rw [cw (by omega)]; omega
  have w4 : IntKind.wrap .i64 ((i : Int) + 1) = ((i + 1 : Nat) : Int) := by rw [cw (by omega)]; omega
  have d1 : decide ((i : Int) < 8) = true := UI (by omega)
  have d2 : decide (((n % 64 : Nat) : Int) < 0) = false := UH (by omega)
  have d3 : decide (((64 - n % 64 : Nat) : Int) < 0) = false := UH (by omega)
  have d4 : decide (i + 1 ≤ 8) = true := UI (by omega)
  have hx8 := qD x
  have gx : ∀ j, j < 8 → (l8 x).getD j 0 = aa x j := fun j hj => by rw [iQ, if_pos hj]
  have hset : ∀ v, v = aa (x * ((2 ^ n : Nat) : Int)) i → ∃ v', some (Sum.inl (LL (l.set i v), ((i + 1 : Nat) : Int)) : (LA_ × Int) ⊕ LA_) = some (Sum.inl v') ∧
    (∃ (i : Nat) (l : List Int), v' = (LL l, (i : Int)) ∧ l.length = 8 ∧ n / 64 ≤ i ∧ i ≤ 8 ∧ ∀ j, l.getD j 0 = if j < i then aa (x * ((2 ^ n : Nat) : Int)) j else 0) ∧ (8 - v'.2).toNat < (8 - (i : Int)).toNat := by
   intro v hv
   refine ⟨_, rfl, ⟨i + 1, l.set i v, rfl, by simpa using hl, by omega, by omega, fun j => ?_⟩, by show (8 - ((i + 1 : Nat) : Int)).toNat < _; omega⟩
   rw [Ll (by omega), hg j, hv]
   by_cases e1 : j = i
   ·subst e1; simp
   ·rw [if_neg e1]
    by_cases e2 : j < i
    ·rw [if_pos e2, if_pos (by omega)]
    ·rw [if_neg e2, if_neg (by omega)]
  left
  simp only [pW, fM, t1, t2, w1, w2, w3, w4, d1, d2, d3, d4, gt, xK hi8, xK (show i - n / 64 < 8 by omega), cond_true, aw, UG, Bool.not_false, Int.toNat_natCast, Nat.mul_one, Nat.zero_add, Nat.add_zero, rO, ju, hl, hx8,
   UI (show i - n / 64 < 8 by omega), UI hi8, vS, gx _ (show i - n / 64 < 8 by omega)]
  by_cases hs : n % 64 = 0
  ·have d5 : decide (((n % 64 : Nat) : Int) > 0) = false := UH (by omega)
   rw [d5]
   simp only [cond_false]
   rw [uE (by omega)]
   refine hset _ ?_
   rw [CK _ (by omega), FM x hk]
   have c0 : cry x ((2 ^ (64 - n % 64) : Nat) : Int) (i - n / 64) = 0 := by
    cases i - n / 64 with
    | zero => rfl
    | succ j =>
     have := ci x j
     show aa x j / _ = 0
     rw [hs]
     have e : ((2 ^ (64 - 0) : Nat) : Int) = 18446744073709551616 := by decide
     rw [e]; omega
   rw [c0]; omega
  ·have d5 : decide (((n % 64 : Nat) : Int) > 0) = true := UI (by omega)
   rw [d5]
   simp only [cond_true]
   by_cases hik : (i : Int) > ((n / 64 : Nat) : Int)
   ·rw [UI hik]
    have w5 : IntKind.wrap .i64 (((i - n / 64 : Nat) : Int) - 1) = ((i - n / 64 - 1 : Nat) : Int) := by rw [cw (by omega)]; omega
    simp only [cond_true, w5, gt, xK (show i - n / 64 - 1 < 8 by omega), UG, aw, Int.toNat_natCast, UI (show i - n / 64 - 1 < 8 by omega), gx _ (show i - n / 64 - 1 < 8 by omega)]
    rw [uE (by omega)]
    simp only [rO, ju, vS, List.length_set, hl, UI hi8, d4, aw]
    rw [Ll (by omega), if_pos rfl, uE (by simpa using (by omega : i < l.length)), List.set_set]
    refine hset _ ?_
    rw [← Lk x hk]
    have e : i - n / 64 = (i - n / 64 - 1) + 1 := by omega
    rw [e, Nat.add_sub_cancel]
    congr 1
    show _ = aa x (i - n / 64 - 1) / _
    rw [CJ _ (by omega)]
   ·rw [UH hik]
    simp only [cond_false]
    rw [uE (by omega)]
    refine hset _ ?_
    have e : i - n / 64 = 0 := by omega
    rw [FM x hk, e, CK _ (by omega)]
    show _ = _ + 0
    omega
theorem TF {x : Int} {n : Nat} (hn : n < 512) : nD (aa x 0) (aa x 1) (aa x 2) (aa x 3) (aa x 4) (aa x 5) (aa x 6) (aa x 7) (n : Int) = some (t8 (x * ((2 ^ n : Nat) : Int))) := by
 obtain ⟨e, h1, h2⟩ := O2 (x := x) hn 1 1 1 (LL z8)
 subst h2
 have t1 : Int.tdiv (n : Int) 64 = ((n / 64 : Nat) : Int) := by rw [Int.tdiv_eq_ediv_of_nonneg (by omega)]; omega
 have w1 : IntKind.wrap .i64 ((n / 64 : Nat) : Int) = ((n / 64 : Nat) : Int) := cw (by omega)
 have g8 : ∀ j, j < 8 → (l8 (x * ((2 ^ n : Nat) : Int))).getD j 0 = aa (x * ((2 ^ n : Nat) : Int)) j := fun j hj => by rw [iQ, if_pos hj]
 unfold nD
 simp only [Ax, t1, w1, uF, Mp, h1, Uz, yQ (qD _), aw, vS, O1, ju, g8 _ (show 0 < 8 by omega), g8 _ (show 1 < 8 by omega), g8 _ (show 2 < 8 by omega), g8 _ (show 3 < 8 by omega), g8 _ (show 4 < 8 by omega), g8 _ (show 5 < 8 by omega), g8 _ (show 6 < 8 by omega), g8 _ (show 7 < 8 by omega), Lm (show z8.length = (l8 (x * ((2 ^ n : Nat) : Int))).length from rfl)]
 rfl
theorem sV {l : List Int} (h : rL l) : 0 ≤ lv l := (oF h).1
theorem Qo {l : List Int} (h : rL l) {i s : Nat} (hi : i < l.length) (hs : s < 64) {t : Int} (e : lv l = ((2 ^ (64 * i + s + 1) : Nat) : Int) * t) : ∃ u, 0 ≤ u ∧ l.getD i 0 = ((2 ^ (s + 1) : Nat) : Int) * u := by
 have hsp := lZ i l
 rw [oY hi, lv] at hsp
 have ht := oF (h.take i)
 rw [List.length_take, Nat.min_eq_left (by omega)] at ht
 have hg := h.get i
 have e1 : ((2 ^ (64 * i + s + 1) : Nat) : Int) = 18446744073709551616 ^ i * ((2 ^ (s + 1) : Nat) : Int) := by rw [m2, ← Int.natCast_mul, ← Nat.pow_add]; rfl
 have hp := FK i
 have e2 : (18446744073709551616 : Int) = ((2 ^ (s + 1) : Nat) : Int) * ((2 ^ (63 - s) : Nat) : Int) := by
  rw [← Int.natCast_mul, ← Nat.pow_add, show s + 1 + (63 - s) = 64 by omega]; rfl
 rw [e1] at e
 generalize (18446744073709551616 : Int) ^ i = p at *
 generalize hP : ((2 ^ (s + 1) : Nat) : Int) = P at *
 generalize ((2 ^ (63 - s) : Nat) : Int) = Q at *
 generalize lv (l.take i) = x at *
 generalize lv (l.drop (i + 1)) = y at *
 generalize l.getD i 0 = g at *
 have hP0 : 0 < P := by rw [← hP]; exact kg _
 have e3 : x = p * (P * t - (g + 18446744073709551616 * y)) := by rw [Int.mul_sub, ← Int.mul_assoc]; omega
 have e4 : P * t - (g + 18446744073709551616 * y) = 0 := by
  rcases Int.lt_trichotomy (P * t - (g + 18446744073709551616 * y)) 0 with h1 | h1 | h1
  ·have : p * (P * t - (g + 18446744073709551616 * y)) ≤ p * (-1) := UV (by omega) (by omega)
   omega
  ·exact h1
  ·have : p * 1 ≤ p * (P * t - (g + 18446744073709551616 * y)) := UV (by omega) (by omega)
   omega
 refine ⟨t - Q * y, ?_, ?_⟩
 ·have e5 : g = P * (t - Q * y) := by rw [Int.mul_sub, ← Int.mul_assoc, ← e2]; omega
  rcases Int.lt_or_le (t - Q * y) 0 with h1 | h1
  ·have : P * (t - Q * y) ≤ P * (-1) := UV (by omega) (by omega)
   omega
  ·exact h1
 ·rw [Int.mul_sub, ← Int.mul_assoc, ← e2]; omega
theorem Si {l : List Int} (h : rL l) (hl : l.length = 8) {k : Nat} (hk : k < 512) {t : Int} (e : lv l = ((2 ^ (k + 1) : Nat) : Int) * t) :
  rL (l.set (k / 64) (ior .u64 (l.getD (k / 64) 0) (gX .u64 1 ((k % 64 : Nat) : Int)))) ∧ lv (l.set (k / 64) (ior .u64 (l.getD (k / 64) 0) (gX .u64 1 ((k % 64 : Nat) : Int)))) = lv l + ((2 ^ k : Nat) : Int) := by
 have h64 : k % 64 < 64 := Nat.mod_lt _ (by decide)
 have hi : k / 64 < l.length := by omega
 have ek : 64 * (k / 64) + k % 64 + 1 = k + 1 := by rw [Nat.div_add_mod]
 obtain ⟨u, hu0, hu⟩ := Qo h hi h64 (t := t) (by rw [ek]; exact e)
 have hg := h.get (k / 64)
 have hps := kg (k % 64)
 have hP : ((2 ^ (k % 64 + 1) : Nat) : Int) = 2 * ((2 ^ (k % 64) : Nat) : Int) := by rw [Nat.pow_succ]; push_cast; omega
 have hlt : ((2 ^ (k % 64) : Nat) : Int) < 18446744073709551616 := by
  have := sT h64
  have hq := kg (64 - k % 64)
  have hq2 : (2 : Int) ≤ ((2 ^ (64 - k % 64) : Nat) : Int) := by
   have : 2 ^ 1 ≤ 2 ^ (64 - k % 64) := Nat.pow_le_pow_right (by decide) (by omega)
   omega
  have : ((2 ^ (k % 64) : Nat) : Int) * 2 ≤ ((2 ^ (k % 64) : Nat) : Int) * ((2 ^ (64 - k % 64) : Nat) : Int) := UV hq2 (by omega)
  omega
 have hsum : ((2 ^ (k % 64) : Nat) : Int) + l.getD (k / 64) 0 < 18446744073709551616 := by
  have hm := sT (s := k % 64 + 1 - 1) (by omega)
  have e2 : (18446744073709551616 : Int) = ((2 ^ (k % 64 + 1) : Nat) : Int) * ((2 ^ (63 - k % 64) : Nat) : Int) := by
   rw [← Int.natCast_mul, ← Nat.pow_add, show k % 64 + 1 + (63 - k % 64) = 64 by omega]; rfl
  have hu1 : u < ((2 ^ (63 - k % 64) : Nat) : Int) := by
   apply Int.lt_of_mul_lt_mul_left (a := ((2 ^ (k % 64 + 1) : Nat) : Int)) _ (by omega)
   rw [← hu, ← e2]; exact hg.2
  have : ((2 ^ (k % 64 + 1) : Nat) : Int) * (u + 1) ≤ ((2 ^ (k % 64 + 1) : Nat) : Int) * ((2 ^ (63 - k % 64) : Nat) : Int) := UV (by omega) (by omega)
  rw [Int.mul_add, ← hu, ← e2] at this
  omega
 have hc : ∀ a b : Int, ior .u64 a b = ior .u64 b a := fun a b => by unfold ior; rw [BitVec.or_comm]
 have hv : ior .u64 (l.getD (k / 64) 0) (gX .u64 1 ((k % 64 : Nat) : Int)) = ((2 ^ (k % 64) : Nat) : Int) + l.getD (k / 64) 0 := by
  rw [CK _ (by omega), Int.one_mul, Int.emod_eq_of_lt (by omega) hlt, hc, It (k % 64 + 1) ⟨by omega, by omega⟩ hu0 hu hsum]
 rw [hv]
 refine ⟨h.set ⟨by omega, hsum⟩ _, ?_⟩
 rw [Ld _ hi]
 have e3 : ((2 ^ k : Nat) : Int) = ((2 ^ (k % 64) : Nat) : Int) * 18446744073709551616 ^ (k / 64) := by
  rw [m2, ← Int.natCast_mul, ← Nat.pow_add, Nat.add_comm, Nat.div_add_mod]
 rw [e3]
 congr 1
 congr 1
 omega
def Qp (a b : Int) (v : LA_ × LA_ × Int × LA_ × Nat) : Prop :=
 ∃ (m : Nat) (q : List Int) (r s t : Int), v = (LL q, LL (l8 r), (m : Int) - 1, LL (l8 s), 1) ∧ q.length = 8 ∧ rL q ∧ m ≤ 512 ∧ a = lv q * b + r ∧ 0 ≤ r ∧ r < b * ((2 ^ m : Nat) : Int) ∧ (m ≠ 0 → s = b * ((2 ^ (m - 1) : Nat) : Int)) ∧ bV s ∧
  lv q = ((2 ^ m : Nat) : Int) * t ∧ r ≤ a
theorem Np {a b : Int} (ha : bV a) (hb : 0 < b) {v : LA_ × LA_ × Int × LA_ × Nat} (hv : Qp a b v) :
  ∃ e, wC (1, 1) v = some e ∧ e = (LL (l8 (a / b)), LL (l8 (a % b))) := by
 obtain ⟨m0, _, _, _, _, hv0, _, _, hm0, _⟩ := id hv
 refine gv (step := ox (1, 1)) (Qp a b) (fun v => (v.2.2.1 + 1).toNat) _ ?_
  (Nat.lt_of_le_of_lt (show (v.2.2.1 + 1).toNat ≤ 512 by subst hv0; show (((m0 : Int) - 1) + 1).toNat ≤ 512; omega) (by decide)) hv
 rintro v ⟨m, q, r, s, t, rfl, hq, hrq, hm, hab, hr0, hr1, hs, hsu, ht, hra⟩
 cases m with
 | zero =>
  refine .inr ⟨(LL q, LL (l8 r)), rfl, ?_⟩
  have h1 : r < b := by simpa using hr1
  have e1 : a / b = lv q := by
   rw [hab, Int.add_comm, Int.add_mul_ediv_right _ _ (by omega), Int.ediv_eq_zero_of_lt hr0 h1]; omega
  have e2 : a % b = r := by
   have := Int.mul_ediv_add_emod a b
   rw [e1, Int.mul_comm] at this; omega
  rw [e1, e2, ← QZ hrq hq]
 | succ k =>
  left
  have e : ((k + 1 : Nat) : Int) - 1 = (k : Int) := by omega
  have es := hs (by omega)
  rw [Nat.add_sub_cancel] at es
  have hk : k < 512 := by omega
  have t1 : Int.tdiv (k : Int) 64 = ((k / 64 : Nat) : Int) := by rw [Int.tdiv_eq_ediv_of_nonneg (by omega)]; omega
  have t2 : Int.tmod (k : Int) 64 = ((k % 64 : Nat) : Int) := by rw [Int.tmod_eq_emod_of_nonneg (by omega)]; omega
  have w1 : IntKind.wrap .i64 ((k / 64 : Nat) : Int) = ((k / 64 : Nat) : Int) := cw (by omega)
  have w2 : IntKind.wrap .i64 ((k : Int) - 1) = (k : Int) - 1 := cw (by omega)
  have d2 : decide (((k % 64 : Nat) : Int) < 0) = false := UH (by omega)
  have hk8 : k / 64 < 8 := by omega
  have d4 : decide (k / 64 + 1 ≤ 8) = true := UI (by omega)
  have hru : bV r := ⟨hr0, Int.lt_of_le_of_lt hra ha.2⟩
  have gr : ∀ j, j < 8 → (l8 r).getD j 0 = aa r j := fun j hj => by rw [iQ, if_pos hj]
  have gs : ∀ j, j < 8 → (l8 s).getD j 0 = aa s j := fun j hj => by rw [iQ, if_pos hj]
  have hp := yR r (-s - 1) 1 ⟨by decide, by decide⟩
  rw [show r + (-s - 1) + 1 = r - s by omega] at hp
  have gh : ∀ j, j < 8 → (l8 (s / 2)).getD j 0 = aa (s / 2) j := fun j hj => by rw [iQ, if_pos hj]
  have hp1 : ((2 ^ (k + 1) : Nat) : Int) = 2 * ((2 ^ k : Nat) : Int) := by rw [Nat.pow_succ]; push_cast; omega
  have hs2 : k ≠ 0 → s / 2 = b * ((2 ^ (k - 1) : Nat) : Int) := by
   intro hk0
   have : ((2 ^ k : Nat) : Int) = 2 * ((2 ^ (k - 1) : Nat) : Int) := by
    conv => lhs; rw [show k = k - 1 + 1 by omega, Nat.pow_succ]
    push_cast; omega
   rw [es, this, Int.mul_left_comm]; omega
  have hsu2 : bV (s / 2) := by unfold bV at *; omega
  rw [e]
  simp only [ox, eY, Nm, cond_true, yQ (qD _), aw, ju, gr _ (show 0 < 8 by omega), gr _ (show 1 < 8 by omega), gr _ (show 2 < 8 by omega), gr _ (show 3 < 8 by omega), gr _ (show 4 < 8 by omega), gr _ (show 5 < 8 by omega), gr _ (show 6 < 8 by omega), gr _ (show 7 < 8 by omega),
   gs _ (show 0 < 8 by omega), gs _ (show 1 < 8 by omega), gs _ (show 2 < 8 by omega), gs _ (show 3 < 8 by omega), gs _ (show 4 < 8 by omega), gs _ (show 5 < 8 by omega), gs _ (show 6 < 8 by omega), gs _ (show 7 < 8 by omega), Is hru hsu, Uz, Hj, hp, t8, TE hsu, t1, t2, w1, w2, d2, d4, Bool.not_false, gt, xK hk8, UG, Int.toNat_natCast, Nat.mul_one, Nat.zero_add, Nat.add_zero,
   rO, vS, qD, hq, UI hk8, Ax, uF, Lm (show (l8 s).length = (l8 (s / 2)).length from rfl), Lm (show (l8 r).length = (l8 (r - s)).length from rfl), gh _ (show 0 < 8 by omega), gh _ (show 1 < 8 by omega), gh _ (show 2 < 8 by omega), gh _ (show 3 < 8 by omega), gh _ (show 4 < 8 by omega), gh _ (show 5 < 8 by omega), gh _ (show 6 < 8 by omega), gh _ (show 7 < 8 by omega), Nat.le_refl, decide_true]
  by_cases hge : s ≤ r
  ·have hd : decide (sgn (r - s) ≥ 0) = true := by
    have a1 : ¬ r - s < 0 := by omega
    unfold sgn
    rw [UH a1, cond_false]
    cases decide (r - s = 0) <;> rfl
   obtain ⟨hb1, hb2⟩ := Si hrq hq hk ht
   rw [hd]
   simp only [cond_true]
   rw [uE (by omega)]
   refine ⟨_, rfl, ⟨k, _, r - s, s / 2, 2 * t + 1, rfl, by simpa using hq, hb1, by omega, ?_, by omega, ?_, hs2, hsu2, ?_, by unfold bV at hsu; omega⟩, ?_⟩
   ·rw [hb2, Int.add_mul, es]
    rw [Int.mul_comm b] at *; omega
   ·rw [hp1, Int.mul_left_comm] at hr1; omega
   ·rw [hb2, ht, hp1, Int.mul_add, Int.mul_one, Int.mul_comm 2, Int.mul_assoc]
   ·show (((k : Int) - 1) + 1).toNat < ((k : Int) + 1).toNat; omega
  ·have hd : decide (sgn (r - s) ≥ 0) = false := by
    have a1 : r - s < 0 := by omega
    unfold sgn
    rw [UI a1]; rfl
   rw [hd]
   simp only [cond_false]
   refine ⟨_, rfl, ⟨k, q, r, s / 2, 2 * t, rfl, hq, hrq, by omega, hab, hr0, by omega, hs2, hsu2, ?_, hra⟩, ?_⟩
   ·rw [ht, hp1, Int.mul_comm 2, Int.mul_assoc]
   ·show (((k : Int) - 1) + 1).toNat < ((k : Int) + 1).toNat; omega
abbrev T16 := (I8 (Int × Int × Int × Int × Int × Int × Int × Int))
def t16 (x y : Int) : T16 := (aa x 0, aa x 1, aa x 2, aa x 3, aa x 4, aa x 5, aa x 6, aa x 7, aa y 0, aa y 1, aa y 2, aa y 3, aa y 4, aa y 5, aa y 6, aa y 7)
theorem lvz : lv z8 = 0 := by decide
theorem rLz : rL z8 := by
 intro x hx
 simp only [z8, List.mem_cons, List.not_mem_nil, or_false, or_self] at hx
 subst hx; decide
theorem Ua (n m : Nat) (h : n = m + m) (hm : m = 256) : (2 : Nat) ^ n = 13407807929942597099574024998205846127479365820592393377723561443721764030073546976801874298166903427690031858186486050853753882811946569946433649006084096 := by
 rw [h, Nat.pow_add, hm]
theorem Qq : (2 : Nat) ^ 512 = 13407807929942597099574024998205846127479365820592393377723561443721764030073546976801874298166903427690031858186486050853753882811946569946433649006084096 := Ua 512 256 rfl rfl
theorem Sj {a b : Int} (ha : bV a) (hb : bV b) (hb0 : 0 < b) : lE (aa a 0) (aa a 1) (aa a 2) (aa a 3) (aa a 4) (aa a 5) (aa a 6) (aa a 7) (aa b 0) (aa b 1) (aa b 2) (aa b 3) (aa b 4) (aa b 5) (aa b 6) (aa b 7) = some (t16 (a / b) (a % b)) := by
 have hap : a.toNat < 2 ^ 512 := by rw [Qq]; unfold bV at ha; omega
 have hbp : b.toNat < 2 ^ 512 := by rw [Qq]; unfold bV at hb; omega
 have la := Di hap
 have lb := Di hbp
 clear hap hbp
 obtain ⟨kb, eb, b1, b2⟩ := vT (n := b.toNat) (by omega)
 have w0 : IntKind.wrap .i64 (eF a.toNat - eF b.toNat) = eF a.toNat - eF b.toNat := cw (by omega)
 unfold lE
 simp only [Lh ha, Lh hb, Uz, w0]
 by_cases hlt : eF a.toNat - eF b.toNat < 0
 ·have hab : a < b := by
   by_cases ha0 : a.toNat = 0
   ·omega
   ·obtain ⟨ka, ea, a1, a2⟩ := vT ha0
    have : 2 ^ (ka + 1) ≤ 2 ^ kb := Nat.pow_le_pow_right (by decide) (by omega)
    omega
  rw [UI hlt, Int.ediv_eq_zero_of_lt ha.1 hab, Int.emod_eq_of_lt ha.1 hab]
  simp only [cond_true, t16, fv]
 ·obtain ⟨n, hn⟩ := Int.eq_ofNat_of_zero_le (show 0 ≤ eF a.toNat - eF b.toNat by omega)
  have ha0 : a.toNat ≠ 0 := by
   intro h0
   have : eF a.toNat = 0 := by rw [h0]; rfl
   omega
  obtain ⟨ka, ea, a1, a2⟩ := vT ha0
  have hkn : ka = kb + n := by omega
  have hl : bV (b * ((2 ^ n : Nat) : Int)) := by
   have key : ∀ N, kb + 1 + n ≤ N → b.toNat * 2 ^ n < 2 ^ N := by
    intro N hN
    have : b.toNat * 2 ^ n < 2 ^ (kb + 1) * 2 ^ n := Nat.mul_lt_mul_of_pos_right b2 (Nat.two_pow_pos n)
    rw [← Nat.pow_add] at this
    exact Nat.lt_of_lt_of_le this (Nat.pow_le_pow_right (by decide) hN)
   have h1 := key 512 (by omega)
   have h2 : b * ((2 ^ n : Nat) : Int) = ((b.toNat * 2 ^ n : Nat) : Int) := by rw [Int.natCast_mul]; congr 1; omega
   rw [Qq] at h1
   unfold bV; rw [h2]; omega
  have hinv : Qp a b (LL z8, LL (l8 a), (n : Int), LL (l8 (b * ((2 ^ n : Nat) : Int))), 1) := by
   refine ⟨n + 1, z8, a, b * ((2 ^ n : Nat) : Int), 0, by rw [show ((n + 1 : Nat) : Int) - 1 = (n : Int) by omega], rfl, rLz, by omega, by rw [lvz]; omega, ha.1, ?_, fun _ => by rw [Nat.add_sub_cancel], hl, by rw [lvz]; omega, Int.le_refl _⟩
   have h1 : a.toNat < b.toNat * 2 ^ (n + 1) := by
    refine Nat.lt_of_lt_of_le a2 ?_
    rw [hkn, Nat.add_assoc, Nat.pow_add]
    exact Nat.mul_le_mul_right _ b1
   have h2 : b * ((2 ^ (n + 1) : Nat) : Int) = ((b.toNat * 2 ^ (n + 1) : Nat) : Int) := by rw [Int.natCast_mul]; congr 1; omega
   rw [h2]; omega
  obtain ⟨e, h1, h2⟩ := Np ha hb0 hinv
  subst h2
  have gq : ∀ z j, j < 8 → (l8 z).getD j 0 = aa z j := fun z j hj => by rw [iQ, if_pos hj]
  rw [UH hlt, hn]
  simp only [cond_false, TF (show n < 512 by omega), Uz, t8, Ax, uF, Mp, h1, yQ (qD _), aw, vS, qD, ju, gq _ _ (show 0 < 8 by omega), gq _ _ (show 1 < 8 by omega), gq _ _ (show 2 < 8 by omega), gq _ _ (show 3 < 8 by omega), gq _ _ (show 4 < 8 by omega), gq _ _ (show 5 < 8 by omega), gq _ _ (show 6 < 8 by omega), gq _ _ (show 7 < 8 by omega), Lm, t16]
  rfl
theorem Nj {x : Int} (hx : fit x) : (aa x 0 == 0 && (aa x 1 == 0 && (aa x 2 == 0 && (aa x 3 == 0 && (aa x 4 == 0 && (aa x 5 == 0 && (aa x 6 == 0 && (aa x 7 == 0 && true)))))))) = decide (x = 0) := by
 have h := Ig hx xH
 simpa only [fv] using h
theorem JL {x : Int} (hx : bV x) : (aa x 0 == 0 && (aa x 1 == 0 && (aa x 2 == 0 && (aa x 3 == 0 && (aa x 4 == 0 && (aa x 5 == 0 && (aa x 6 == 0 && (aa x 7 == 0 && true)))))))) = decide (x = 0) := by
 by_cases h : x = 0
 ·subst h; simp [fv]
 ·rw [UH h]
  apply Bool.eq_false_iff.2
  intro q
  simp only [UD, beq_iff_eq, Bool.and_true] at q
  obtain ⟨h0, h1, h2, h3, h4, h5, h6, h7⟩ := q
  apply h
  have e := Dh hx.1 hx.2
  rw [l8, h0, h1, h2, h3, h4, h5, h6, h7] at e
  rw [← e]; decide
theorem Q0 {x : Int} (hx : bV x) : (aa (-x) 0 == 0 && (aa (-x) 1 == 0 && (aa (-x) 2 == 0 && (aa (-x) 3 == 0 && (aa (-x) 4 == 0 && (aa (-x) 5 == 0 && (aa (-x) 6 == 0 && (aa (-x) 7 == 0 && true)))))))) = decide (x = 0) := by
 by_cases h : x = 0
 ·subst h; simp [fv]
 ·have e : ∀ n, n < 8 → aa (-x) n = aa (-x + 13407807929942597099574024998205846127479365820592393377723561443721764030073546976801874298166903427690031858186486050853753882811946569946433649006084096 * 1) n := fun n hn => (cX _ 1 n hn).symm
  have hu : bV (-x + 13407807929942597099574024998205846127479365820592393377723561443721764030073546976801874298166903427690031858186486050853753882811946569946433649006084096 * 1) := by unfold bV at *; omega
  have hz := JL hu
  rw [← e 0 (by omega), ← e 1 (by omega), ← e 2 (by omega), ← e 3 (by omega), ← e 4 (by omega), ← e 5 (by omega), ← e 6 (by omega), ← e 7 (by omega)] at hz
  rw [hz, UH h]
  apply UH
  unfold bV at hx; omega
theorem TG {x : Int} (hx : bV x) (h0 : x ≠ 0) : xJ (-x) = fa (-x) := by
 by_cases h : fit (-x)
 ·rw [dE h, bR.2 h, UI]; unfold bV at hx; omega
 ·rw [qC.2 h, Iq h (by unfold bV at hx; omega) (by unfold bV at hx; omega)]
theorem TH {x : Int} (hx : bV x) : xJ x = !fa x := by
 by_cases h : fit x
 ·rw [dE h, bR.2 h, UH]; · rfl
  unfold bV at hx; omega
 ·rw [qC.2 h, Ip h hx.1 hx.2]; rfl
theorem fX {x : Int} (hx : bV x) (b : Bool) (hf : fit (cond b (-x) x)) : bh (aa x 0) (aa x 1) (aa x 2) (aa x 3) (aa x 4) (aa x 5) (aa x 6) (aa x 7) b = some (t8 (cond b (-x) x)) := by
 unfold bh
 cases b with
 | true =>
  simp only [cond_true, Ir, Uz, t8, Q0 hx, lX] at hf ⊢
  by_cases h0 : x = 0
  ·rw [UI h0]; rfl
  ·rw [UH h0, TG hx h0, bR.2 hf]; rfl
 | false =>
  simp only [cond_false, JL hx, lX, Uz] at hf ⊢
  by_cases h0 : x = 0
  ·rw [UI h0]; rfl
  ·rw [UH h0, TH hx, bR.2 hf]; rfl
def t17 (x y : Int) (b : Bool) : (I8 (I8 Bool)) := (aa x 0, aa x 1, aa x 2, aa x 3, aa x 4, aa x 5, aa x 6, aa x 7, aa y 0, aa y 1, aa y 2, aa y 3, aa y 4, aa y 5, aa y 6, aa y 7, b)
theorem kG {a b q r : Int} (h : a = b * q + r) (hr : (0 ≤ r ∧ r < b) ∨ (b < r ∧ r ≤ 0)) : a.fdiv b = q ∧ a.fmod b = r := by
 have hb : b ≠ 0 := by omega
 have e : a.fdiv b = q := by
  rcases hr with ⟨h1, h2⟩ | ⟨h1, h2⟩
  ·rw [Int.fdiv_eq_ediv_of_nonneg _ (by omega), h, Int.mul_comm, Int.add_comm, Int.add_mul_ediv_right _ _ hb, Int.ediv_eq_zero_of_lt h1 h2]; omega
  ·have : a.fdiv b = (-a).fdiv (-b) := by rw [Int.neg_fdiv_neg]
   rw [this, Int.fdiv_eq_ediv_of_nonneg _ (by omega)]
   have e2 : -a = -r + q * (-b) := by rw [h, Int.mul_neg, Int.mul_comm q]; omega
   rw [e2, Int.add_mul_ediv_right _ _ (by omega), Int.ediv_eq_zero_of_lt (by omega) (by omega)]; omega
 refine ⟨e, ?_⟩
 rw [Int.fmod_def, e]; omega
theorem TI {a b : Int} (hb : fit b) (h0 : b = 0) : jV (aa a 0) (aa a 1) (aa a 2) (aa a 3) (aa a 4) (aa a 5) (aa a 6) (aa a 7) (aa b 0) (aa b 1) (aa b 2) (aa b 3) (aa b 4) (aa b 5) (aa b 6) (aa b 7) = some (t17 0 0 false) := by
 unfold jV
 rw [Lg hb, Uz, h0]
 simp [sgn, t17, fv]
theorem Ub {a b : Int} (ha : fit a) (hb : fit b) (h0 : b ≠ 0) (hf : fit (a.fdiv b)) : jV (aa a 0) (aa a 1) (aa a 2) (aa a 3) (aa a 4) (aa a 5) (aa a 6) (aa a 7) (aa b 0) (aa b 1) (aa b 2) (aa b 3) (aa b 4) (aa b 5) (aa b 6) (aa b 7) = some (t17 (a.fdiv b) (a.fmod b) true) := by
 have hs : (sgn b == 0) = false := by
  unfold sgn
  rw [UH h0]
  cases decide (b < 0) <;> rfl
 have hA := sb ha
 have hB := sb hb
 have hB0 : 0 < (b.natAbs : Int) := by omega
 have hdm := Int.mul_ediv_add_emod (a.natAbs : Int) (b.natAbs : Int)
 have hr0 := Int.emod_nonneg (a.natAbs : Int) (show (b.natAbs : Int) ≠ 0 by omega)
 have hr1 := Int.emod_lt_of_pos (a.natAbs : Int) hB0
 have hq0 : 0 ≤ (a.natAbs : Int) / (b.natAbs : Int) := Int.ediv_nonneg hA.1 hB.1
 have hqa : (a.natAbs : Int) / (b.natAbs : Int) ≤ (a.natAbs : Int) := Int.ediv_le_self _ hA.1
 unfold jV
 simp only [Lg hb, Uz, hs, cond_false, Hk ha, Hk hb, t8, Sj hA hB hB0, t16, lX, dE ha, dE hb]
 generalize (a.natAbs : Int) / (b.natAbs : Int) = x at *
 generalize (a.natAbs : Int) % (b.natAbs : Int) = y at *
 have hx : bV x := by unfold bV at *; omega
 have hy : bV y := by unfold bV at *; omega
 simp only [JL hy]
 have hp1 := yR x 0 1 ⟨by decide, by decide⟩
 simp only [fv, Int.add_zero] at hp1
 have hp2 := yR (b.natAbs : Int) (-y - 1) 1 ⟨by decide, by decide⟩
 rw [show (b.natAbs : Int) + (-y - 1) + 1 = (b.natAbs : Int) - y by omega] at hp2
 by_cases h1 : a < 0 <;> by_cases h2 : b < 0
 ·have e := kG (a := a) (b := b) (q := x) (r := -y) (by rw [show b = -(b.natAbs : Int) by omega, Int.neg_mul]; omega) (.inr ⟨by omega, by omega⟩)
  rw [e.1] at hf
  have s1 := fX hx false hf
  have s2 := fX hy true (by show fit (-y); unfold fit; unfold fit at hb; omega)
  simp only [UI h1, UI h2, cond_true, Uz, s1, s2, t8, e.1, e.2, t17, cond_false]
 ·by_cases hy0 : y = 0
  ·have e := kG (a := a) (b := b) (q := -x) (r := 0) (by rw [show b = (b.natAbs : Int) by omega, Int.mul_neg]; omega) (.inl ⟨by omega, by omega⟩)
   rw [e.1] at hf
   have s1 := fX hx true hf
   have s2 := fX hy false (by show fit y; rw [hy0]; exact xH)
   simp only [UI h1, UH h2, UI hy0, Bool.not_true, cond_true, cond_false, Uz, s1, s2, t8, e.1, e.2, t17]
   rw [hy0]
  ·have e := kG (a := a) (b := b) (q := -(x + 1)) (r := (b.natAbs : Int) - y) (by rw [show b * -(x + 1) = -((b.natAbs : Int) * x + (b.natAbs : Int)) by rw [show (b.natAbs : Int) = b by omega, Int.mul_neg, Int.mul_add]; omega]; omega) (.inl ⟨by omega, by omega⟩)
   rw [e.1] at hf
   have hx1 : bV (x + 1) := by unfold fit at hf; unfold bV; omega
   have hb1 : bV ((b.natAbs : Int) - y) := by unfold bV at *; omega
   have s1 := fX hx1 true hf
   have s2 := fX hb1 false (by show fit ((b.natAbs : Int) - y); unfold fit at *; omega)
   simp only [UI h1, UH h2, UH hy0, Bool.not_false, cond_true, cond_false, Uz, hp1, Hj, hp2, s1, s2, t8, e.1, e.2, t17]
 ·by_cases hy0 : y = 0
  ·have e := kG (a := a) (b := b) (q := -x) (r := 0) (by rw [show b = -(b.natAbs : Int) by omega, Int.neg_mul_neg]; omega) (.inr ⟨by omega, by omega⟩)
   rw [e.1] at hf
   have s1 := fX hx true hf
   have s2 := fX hy true (by show fit (-y); rw [hy0]; exact xH)
   simp only [UH h1, UI h2, UI hy0, Bool.not_true, cond_true, cond_false, Uz, s1, s2, t8, e.1, e.2, t17]
   rw [hy0]; rfl
  ·have e := kG (a := a) (b := b) (q := -(x + 1)) (r := -((b.natAbs : Int) - y)) (by rw [show b * -(x + 1) = (b.natAbs : Int) * x + (b.natAbs : Int) by rw [show (b.natAbs : Int) = -b by omega, Int.mul_neg, Int.mul_add, Int.neg_mul]; omega]; omega) (.inr ⟨by omega, by omega⟩)
   rw [e.1] at hf
   have hx1 : bV (x + 1) := by unfold fit at hf; unfold bV; omega
   have hb1 : bV ((b.natAbs : Int) - y) := by unfold bV at *; omega
   have s1 := fX hx1 true hf
   have s2 := fX hb1 true (by show fit (-((b.natAbs : Int) - y)); unfold fit at *; omega)
   simp only [UH h1, UI h2, UH hy0, Bool.not_false, cond_true, cond_false, Uz, hp1, Hj, hp2, s1, s2, t8, e.1, e.2, t17]
 ·have e := kG (a := a) (b := b) (q := x) (r := y) (by rw [show b = (b.natAbs : Int) by omega]; omega) (.inl ⟨by omega, by omega⟩)
  rw [e.1] at hf
  have s1 := fX hx false hf
  have s2 := fX hy false (by show fit y; unfold fit at *; omega)
  simp only [UH h1, UH h2, cond_true, Uz, s1, s2, t8, e.1, e.2, t17, cond_false]
theorem Mq {l : List Int} {i : Nat} (h : i < l.length) : lv (l.take (i + 1)) = lv (l.take i) + l.getD i 0 * 18446744073709551616 ^ i := by
 have e := lZ i (l.take (i + 1))
 rw [List.take_take, Nat.min_eq_left (by omega), List.drop_take, show i + 1 - i = 1 by omega, oY h] at e
 rw [e]
 simp [lv, Int.mul_comm]
theorem O3 {x y l0 : List Int} (hx : rL x) (hy : rL y) (hxl : x.length = 8) (hyl : y.length = 8) (h0 : rL l0) (hl0 : l0.length = 8) {i : Nat} (hi : i < 8) (a b c : LA_) (n1 n2 n3 n4 n5 n6 : Nat) :
  ∃ e, yq (a, n1, b, n2, c, n3, LL x, n4, LL y, n5, n6, (i : Int), (i : Int)) (LL l0, 0, 0) = some e ∧
   match e with
   | .inl () => 18446744073709551616 ^ 8 ≤ lv l0 + x.getD i 0 * lv y * 18446744073709551616 ^ i
   | .inr (r, k) => ∃ l, r = LL l ∧ l.length = 8 ∧ rL l ∧ 0 ≤ k ∧ lv l + k * 18446744073709551616 ^ (i + 8) = lv l0 + x.getD i 0 * lv y * 18446744073709551616 ^ i ∧ (0 < i → k = 0) := by
 refine gv (step := pZ (a, n1, b, n2, c, n3, LL x, n4, LL y, n5, n6, (i : Int), (i : Int)))
  (fun v => ∃ (k : Nat) (l : List Int) (w : Int), v = (LL l, w, (k : Int)) ∧ l.length = 8 ∧ rL l ∧ k ≤ 8 ∧ (0 ≤ w ∧ w < 18446744073709551616) ∧
   lv l + w * 18446744073709551616 ^ (i + k) = lv l0 + x.getD i 0 * lv (y.take k) * 18446744073709551616 ^ i ∧ (8 < i + k → w = 0)) (fun v => (8 - v.2.2).toNat) _ ?_ (show (8 - (0 : Int)).toNat < 18446744073709551616 by decide)
  ⟨0, l0, 0, rfl, hl0, h0, by omega, by decide, by simp [lv], by omega⟩
 rintro v ⟨k, l, w, rfl, hl, hr, hk, hw, he, hc⟩
 have xg := hx.get i
 generalize hX : x.getD i 0 = xi at *
 by_cases h8 : k = 8
 ·subst h8
  refine .inr ⟨.inr (LL l, w), rfl, l, rfl, hl, hr, hw.1, ?_, fun h => hc (by omega)⟩
  rw [he, List.take_of_length_le (by omega)]
 ·have hk8 : k < 8 := by omega
  have yg := hy.get k
  have hta := Mq (l := y) (i := k) (by omega)
  have hsp := lZ (k + 1) y
  generalize hY : y.getD k 0 = yk at *
  have d1 : decide ((k : Int) < 8) = true := UI (by omega)
  have w1 : IntKind.wrap .i64 ((i : Int) + (k : Int)) = ((i + k : Nat) : Int) := by rw [cw (by omega)]; omega
  have w2 : IntKind.wrap .i64 ((k : Int) + 1) = ((k + 1 : Nat) : Int) := by rw [cw (by omega)]; omega
  have hpn : 0 ≤ xi * yk := Int.mul_nonneg xg.1 yg.1
  have hpm : xi * yk ≤ 18446744073709551615 * 18446744073709551615 := Int.mul_le_mul (by omega) (by omega) yg.1 (by decide)
  have hlo := Int.emod_nonneg (xi * yk) (show (18446744073709551616 : Int) ≠ 0 by decide)
  have hlo2 := Int.emod_lt_of_pos (xi * yk) (show (0 : Int) < 18446744073709551616 by decide)
  have ad : gS (xi * yk % 18446744073709551616) w 0 = some ((xi * yk % 18446744073709551616 + w + 0) % 18446744073709551616, (xi * yk % 18446744073709551616 + w + 0) / 18446744073709551616) := by
   unfold gS
   rw [UI hlo, UI hw.1]; rfl
  have hmul : xi * lv (y.take (k + 1)) * 18446744073709551616 ^ i = xi * lv (y.take k) * 18446744073709551616 ^ i + xi * yk * 18446744073709551616 ^ (i + k) := by
   rw [hta, Int.pow_add]; grind
  have hbig : xi * lv (y.take (k + 1)) * 18446744073709551616 ^ i ≤ xi * lv y * 18446744073709551616 ^ i := by
   have h2 : 0 ≤ 18446744073709551616 ^ (k + 1) * lv (y.drop (k + 1)) := Int.mul_nonneg (Int.le_of_lt (FK _)) (sV (hy.drop _))
   exact UU (UV (by omega) xg.1) (Int.le_of_lt (FK i))
  simp only [pZ, fN, d1, w1, w2, cond_true, gt, xK hi, xK hk8, UG, aw, Int.toNat_natCast, Nat.mul_one, Nat.zero_add, Nat.add_zero, rO, ju, hxl, hyl, hl, UI hi, UI hk8, hX, hY, Sh xg yg, Uz, ad, Ay]
  by_cases hik : i + k < 8
  ·have d2 : decide (((i + k : Nat) : Int) ≥ 8) = false := UH (by omega)
   have d3 : decide (i + k + 1 ≤ 8) = true := UI (by omega)
   have lg := hr.get (i + k)
   have hlen : i + k < l.length := by omega
   have hset := Ld (l := l) (i := i + k)
   generalize hL : l.getD (i + k) 0 = lk at *
   have ad2 : ∀ u, 0 ≤ u → gS lk u 0 = some ((lk + u + 0) % 18446744073709551616, (lk + u + 0) / 18446744073709551616) := fun u hu => by
    unfold gS
    rw [UI lg.1, UI hu]; rfl
   have hlo3 := Int.emod_nonneg (xi * yk % 18446744073709551616 + w + 0) (show (18446744073709551616 : Int) ≠ 0 by decide)
   simp only [d2, cond_false, d3, vS, hl, xK hik, gt, UG, aw, UI hik, ad2 _ hlo3, Uz]
   rw [uE hlen]
   refine .inl ⟨_, rfl, ⟨k + 1, _, _, rfl, by simpa using hl, hr.set (by omega) _, by omega, by omega, ?_, by omega⟩, by show (8 - ((k + 1 : Nat) : Int)).toNat < (8 - (k : Int)).toNat; omega⟩
   rw [hset _ hlen, hmul, ← Int.add_assoc (lv l0), ← he, show i + (k + 1) = i + k + 1 by omega, Int.pow_succ]
   have key : ((lk + (xi * yk % 18446744073709551616 + w + 0) % 18446744073709551616 + 0) % 18446744073709551616 - lk) + ((xi * yk / 18446744073709551616 + (xi * yk % 18446744073709551616 + w + 0) / 18446744073709551616) % 18446744073709551616 + (lk + (xi * yk % 18446744073709551616 + w + 0) % 18446744073709551616 + 0) / 18446744073709551616) % 18446744073709551616 * 18446744073709551616 = w + xi * yk := by
    generalize xi * yk = p at *
    omega
   generalize ((lk + (xi * yk % 18446744073709551616 + w + 0) % 18446744073709551616 + 0) % 18446744073709551616 - lk) = u1 at *
   generalize ((xi * yk / 18446744073709551616 + (xi * yk % 18446744073709551616 + w + 0) / 18446744073709551616) % 18446744073709551616 + (lk + (xi * yk % 18446744073709551616 + w + 0) % 18446744073709551616 + 0) / 18446744073709551616) % 18446744073709551616 = u2 at *
   generalize (18446744073709551616 : Int) ^ (i + k) = p at *
   have : u1 * p + u2 * (p * 18446744073709551616) = (u1 + u2 * 18446744073709551616) * p := by grind
   rw [Int.add_assoc, this, key]; grind
  ·have d2 : decide (((i + k : Nat) : Int) ≥ 8) = true := UI (by omega)
   simp only [d2, cond_true]
   have hover : 0 < xi * yk + w → 18446744073709551616 ^ 8 ≤ lv l0 + xi * lv y * 18446744073709551616 ^ i := by
    intro hpos
    have h1 : lv l + (w + xi * yk) * 18446744073709551616 ^ (i + k) = lv l0 + xi * lv (y.take (k + 1)) * 18446744073709551616 ^ i := by
     rw [hmul, ← Int.add_assoc (lv l0), ← he, Int.add_mul, Int.add_assoc]
    have h2 : (18446744073709551616 : Int) ^ 8 ≤ 18446744073709551616 ^ (i + k) := by
     rw [m2, m2]
     have := Nat.pow_le_pow_right (n := 2) (by decide) (show 64 * 8 ≤ 64 * (i + k) by omega)
     omega
    have h3 : 1 * (18446744073709551616 : Int) ^ (i + k) ≤ (w + xi * yk) * 18446744073709551616 ^ (i + k) := UU (by omega) (Int.le_of_lt (FK _))
    have h4 := sV hr
    omega
   generalize hq : xi * yk = p at *
   by_cases e1 : (p % 18446744073709551616 + w + 0) % 18446744073709551616 = 0
   ·have b1 : ((p % 18446744073709551616 + w + 0) % 18446744073709551616 != 0) = false := by rw [e1]; rfl
    rw [b1]
    simp only [cond_false]
    by_cases e2 : (p / 18446744073709551616 + (p % 18446744073709551616 + w + 0) / 18446744073709551616) % 18446744073709551616 = 0
    ·have b2 : ((p / 18446744073709551616 + (p % 18446744073709551616 + w + 0) / 18446744073709551616) % 18446744073709551616 != 0) = false := by rw [e2]; rfl
     rw [b2]
     have hz : p = 0 ∧ w = 0 := by omega
     refine .inl ⟨_, rfl, ⟨k + 1, l, 0, rfl, hl, hr, by omega, by decide, ?_, fun _ => rfl⟩, by show (8 - ((k + 1 : Nat) : Int)).toNat < (8 - (k : Int)).toNat; omega⟩
     rw [hmul, hz.1]
     rw [hz.2] at he
     simpa using he
    ·have b2 : ((p / 18446744073709551616 + (p % 18446744073709551616 + w + 0) / 18446744073709551616) % 18446744073709551616 != 0) = true := by simpa using e2
     rw [b2]
     exact .inr ⟨.inl (), rfl, hover (by omega)⟩
   ·have b1 : ((p % 18446744073709551616 + w + 0) % 18446744073709551616 != 0) = true := by simpa using e1
    rw [b1]
    exact .inr ⟨.inl (), rfl, hover (by omega)⟩
theorem O4 {x y : List Int} (hx : rL x) (hy : rL y) (hxl : x.length = 8) (hyl : y.length = 8) (a b c : LA_) (n1 n2 n3 n4 n5 n6 : Nat) :
  ∃ e, tu (a, n1, b, n2, c, n3, LL x, n4, LL y, n5, n6) (LL z8, 0) = some e ∧
   match e with
   | .inl () => 18446744073709551616 ^ 8 ≤ lv x * lv y
   | .inr r => r = LL (l8 (lv x * lv y)) ∧ bV (lv x * lv y) := by
 refine gv (step := rA (a, n1, b, n2, c, n3, LL x, n4, LL y, n5, n6))
  (fun v => ∃ (i : Nat) (l : List Int), v = (LL l, (i : Int)) ∧ l.length = 8 ∧ rL l ∧ i ≤ 8 ∧ lv l = lv (x.take i) * lv y) (fun v => (8 - v.2).toNat) _ ?_ (show (8 - (0 : Int)).toNat < 18446744073709551616 by decide)
  ⟨0, z8, rfl, rfl, rLz, by omega, by simp [lvz, lv]⟩
 rintro v ⟨i, l, rfl, hl, hr, hi, he⟩
 by_cases h8 : i = 8
 ·subst h8
  rw [List.take_of_length_le (by omega)] at he
  refine .inr ⟨.inr (LL l), rfl, ?_, ?_⟩
  ·rw [← he, ← QZ hr hl]
  ·have := OU hr hl
   rw [he] at this; exact this
 ·have hi8 : i < 8 := by omega
  have hta := Mq (l := x) (i := i) (by omega)
  have xg := hx.get i
  have d1 : decide ((i : Int) < 8) = true := UI (by omega)
  have w2 : IntKind.wrap .i64 ((i : Int) + 1) = ((i + 1 : Nat) : Int) := by rw [cw (by omega)]; omega
  obtain ⟨e, h1, h2⟩ := O3 hx hy hxl hyl hr hl hi8 a b c n1 n2 n3 n4 n5 n6
  simp only [rA, gy, d1, w2, cond_true, gt, xK hi8, UG, aw, Int.toNat_natCast, Nat.mul_one, Nat.zero_add, Nat.add_zero, rO, ju, hxl, UI hi8, h1, Uz]
  generalize hX : x.getD i 0 = xi at *
  have hsum : lv l + xi * lv y * 18446744073709551616 ^ i = lv (x.take (i + 1)) * lv y := by rw [he, hta]; grind
  have hle : lv (x.take (i + 1)) * lv y ≤ lv x * lv y := by
   have hsp := lZ (i + 1) x
   have h2 : 0 ≤ 18446744073709551616 ^ (i + 1) * lv (x.drop (i + 1)) := Int.mul_nonneg (Int.le_of_lt (FK _)) (sV (hx.drop _))
   exact UU (by omega) (sV hy)
  by_cases hx0 : xi = 0
  ·have b1 : (xi == 0) = true := by simp [hx0]
   rw [b1]
   refine .inl ⟨_, rfl, ⟨i + 1, l, rfl, hl, hr, by omega, ?_⟩, by show (8 - ((i + 1 : Nat) : Int)).toNat < (8 - (i : Int)).toNat; omega⟩
   rw [← hsum, hx0]; simp
  ·have b1 : (xi == 0) = false := by simpa using hx0
   rw [b1]
   simp only [cond_false]
   rw [hsum] at h2
   match e, h2 with
   | .inl (), h2 => exact .inr ⟨.inl (), rfl, Int.le_trans h2 hle⟩
   | .inr (r, k), ⟨l2, hr2, hl2, hrl2, hk0, he2, hki⟩ =>
    subst hr2
    by_cases hk : k = 0
    ·have b2 : (k != 0) = false := by simp [hk]
     refine .inl ⟨(LL l2, ((i + 1 : Nat) : Int)), by simp only [Sum.elim, b2, cond_false], ⟨i + 1, l2, rfl, hl2, hrl2, by omega, ?_⟩, by show (8 - ((i + 1 : Nat) : Int)).toNat < (8 - (i : Int)).toNat; omega⟩
     rw [hk] at he2; simpa using he2
    ·have b2 : (k != 0) = true := by simpa using hk
     refine .inr ⟨.inl (), by simp only [Sum.elim, b2, cond_true], ?_⟩
     have hi0 : i = 0 := by
      rcases Nat.eq_zero_or_pos i with h | h
      ·exact h
      ·exact absurd (hki h) hk
     subst hi0
     have h3 : 1 * (18446744073709551616 : Int) ^ 8 ≤ k * 18446744073709551616 ^ 8 := UU (by omega) (Int.le_of_lt (FK _))
     have h4 := sV hrl2
     simp only [Nat.zero_add] at he2 hle
     exact Int.le_trans (by omega) hle
def K8v : List TK := [.int .u64, .int .u64, .int .u64, .int .u64, .int .u64, .int .u64, .int .u64, .int .u64]
abbrev R9 := (I8 Bool)
def xL (e : LA_) (ok : Bool) : Option R9 :=
 af (decide (0 + 8 ≤ List.length (LL z8))) (af (aq K8v (spliced (LL z8) 0 e) 0) (some (ac (spliced (LL z8) 0 e) 0, ac (spliced (LL z8) 0 e) 1, ac (spliced (LL z8) 0 e) 2, ac (spliced (LL z8) 0 e) 3, ac (spliced (LL z8) 0 e) 4, ac (spliced (LL z8) 0 e) 5, ac (spliced (LL z8) 0 e) 6, ac (spliced (LL z8) 0 e) 7, ok)))
def zr (a b c d e f g h : Int) : Bool := a == 0 && (b == 0 && (c == 0 && (d == 0 && (e == 0 && (f == 0 && (g == 0 && (h == 0 && true)))))))
def JM (e : LA_) : Option R9 :=
 cond (!(zr (ac e 0) (ac e 1) (ac e 2) (ac e 3) (ac e 4) (ac e 5) (ac e 6) (ac e 7))) (Option.bind (ak (ac e 0) (ac e 1) (ac e 2) (ac e 3) (ac e 4) (ac e 5) (ac e 6) (ac e 7)) fun n => cond n (xL (LL z8) false) (xL [.int .u64 (ac e 0), .int .u64 (ac e 1), .int .u64 (ac e 2), .int .u64 (ac e 3), .int .u64 (ac e 4), .int .u64 (ac e 5), .int .u64 (ac e 6), .int .u64 (ac e 7)] true)) (xL [.int .u64 (ac e 0), .int .u64 (ac e 1), .int .u64 (ac e 2), .int .u64 (ac e 3), .int .u64 (ac e 4), .int .u64 (ac e 5), .int .u64 (ac e 6), .int .u64 (ac e 7)] true)
def Hm (e : LA_) : Option R9 :=
 Option.bind (eA (ac e 0) (ac e 1) (ac e 2) (ac e 3) (ac e 4) (ac e 5) (ac e 6) (ac e 7)) fun r => cond (!(zr r.1 r.2.1 r.2.2.1 r.2.2.2.1 r.2.2.2.2.1 r.2.2.2.2.2.1 r.2.2.2.2.2.2.1 r.2.2.2.2.2.2.2)) (Option.bind (ak r.1 r.2.1 r.2.2.1 r.2.2.2.1 r.2.2.2.2.1 r.2.2.2.2.2.1 r.2.2.2.2.2.2.1 r.2.2.2.2.2.2.2) fun n => cond n (xL [.int .u64 r.1, .int .u64 r.2.1, .int .u64 r.2.2.1, .int .u64 r.2.2.2.1, .int .u64 r.2.2.2.2.1, .int .u64 r.2.2.2.2.2.1, .int .u64 r.2.2.2.2.2.2.1, .int .u64 r.2.2.2.2.2.2.2] true) (xL (LL z8) false)) (xL [.int .u64 r.1, .int .u64 r.2.1, .int .u64 r.2.2.1, .int .u64 r.2.2.2.1, .int .u64 r.2.2.2.2.1, .int .u64 r.2.2.2.2.2.1, .int .u64 r.2.2.2.2.2.2.1, .int .u64 r.2.2.2.2.2.2.2] true)
def JN (a b e : LA_) : Option R9 :=
 af (aq K8v e 0) (af (aq K8v a 0) (Option.bind (ak (ac a 0) (ac a 1) (ac a 2) (ac a 3) (ac a 4) (ac a 5) (ac a 6) (ac a 7)) fun n => cond n
  (af (aq K8v b 0) (Option.bind (ak (ac b 0) (ac b 1) (ac b 2) (ac b 3) (ac b 4) (ac b 5) (ac b 6) (ac b 7)) fun m => cond m (JM e) (Hm e)))
  (af (aq K8v b 0) (Option.bind (ak (ac b 0) (ac b 1) (ac b 2) (ac b 3) (ac b 4) (ac b 5) (ac b 6) (ac b 7)) fun m => cond m (Hm e) (JM e)))))
theorem LN (x y : Int) : p5 (aa x 0) (aa x 1) (aa x 2) (aa x 3) (aa x 4) (aa x 5) (aa x 6) (aa x 7) (aa y 0) (aa y 1) (aa y 2) (aa y 3) (aa y 4) (aa y 5) (aa y 6) (aa y 7) =
  Option.bind (dr (aa x 0) (aa x 1) (aa x 2) (aa x 3) (aa x 4) (aa x 5) (aa x 6) (aa x 7)) fun r1 => Option.bind (dr (aa y 0) (aa y 1) (aa y 2) (aa y 3) (aa y 4) (aa y 5) (aa y 6) (aa y 7)) fun r2 =>
   Option.bind (tu (LL (l8 x), 1, LL (l8 y), 1, LL z8, 1, LL [r1.1, r1.2.1, r1.2.2.1, r1.2.2.2.1, r1.2.2.2.2.1, r1.2.2.2.2.2.1, r1.2.2.2.2.2.2.1, r1.2.2.2.2.2.2.2], 1, LL [r2.1, r2.2.1, r2.2.2.1, r2.2.2.2.1, r2.2.2.2.2.1, r2.2.2.2.2.2.1, r2.2.2.2.2.2.2.1, r2.2.2.2.2.2.2.2], 1, 1) (LL z8, 0)) (Sum.elim (fun _ => xL (LL z8) false) fun e => JN (LL (l8 x)) (LL (l8 y)) e) := rfl
theorem g8 (z : Int) {j : Nat} (hj : j < 8) : ac (LL (l8 z)) j = aa z j := by rw [ju, iQ, if_pos hj]
theorem Iv (z : Int) (ok : Bool) : xL (LL (l8 z)) ok = some (t9 z ok) := by
 unfold xL
 simp only [K8v, vS, O1, Lm (show z8.length = (l8 z).length from rfl), yQ (qD _), ju, iQ]
 rfl
theorem Ln : xL (LL z8) false = some (t9 0 false) := by
 have := Iv 0 false
 rw [show l8 0 = z8 by unfold l8; simp only [fv]; rfl] at this
 exact this
theorem Qr {z : Int} (h : bV z) : JM (LL (l8 z)) = some (cond (fa z) (t9 z true) (t9 0 false)) := by
 unfold JM zr
 simp only [g8 z (show 0 < 8 by omega), g8 z (show 1 < 8 by omega), g8 z (show 2 < 8 by omega), g8 z (show 3 < 8 by omega), g8 z (show 4 < 8 by omega), g8 z (show 5 < 8 by omega), g8 z (show 6 < 8 by omega), g8 z (show 7 < 8 by omega), JL h, lX, Uz, Ax, uF, Iv, Ln, TH h]
 by_cases h0 : z = 0
 ·subst h0; rw [bR.2 xH]; rfl
 ·rw [UH h0]; cases fa z <;> rfl
theorem O5 {z : Int} (h : bV z) : Hm (LL (l8 z)) = some (cond (fa (-z)) (t9 (-z) true) (t9 0 false)) := by
 unfold Hm zr
 simp only [g8 z (show 0 < 8 by omega), g8 z (show 1 < 8 by omega), g8 z (show 2 < 8 by omega), g8 z (show 3 < 8 by omega), g8 z (show 4 < 8 by omega), g8 z (show 5 < 8 by omega), g8 z (show 6 < 8 by omega), g8 z (show 7 < 8 by omega), Ir, t8, Q0 h, lX, Uz, Ax, uF, Iv, Ln]
 by_cases h0 : z = 0
 ·subst h0; rw [Int.neg_zero, bR.2 xH]; rfl
 ·rw [UH h0, TG h h0]; cases fa (-z) <;> rfl
theorem Qs {x y z : Int} (hx : fit x) (hy : fit y) (h : bV z) : JN (LL (l8 x)) (LL (l8 y)) (LL (l8 z)) = cond (decide (x < 0) == decide (y < 0)) (some (cond (fa z) (t9 z true) (t9 0 false))) (some (cond (fa (-z)) (t9 (-z) true) (t9 0 false))) := by
 unfold JN
 simp only [K8v, yQ (qD _), aw, g8 x (show 0 < 8 by omega), g8 x (show 1 < 8 by omega), g8 x (show 2 < 8 by omega), g8 x (show 3 < 8 by omega), g8 x (show 4 < 8 by omega), g8 x (show 5 < 8 by omega), g8 x (show 6 < 8 by omega), g8 x (show 7 < 8 by omega),
  g8 y (show 0 < 8 by omega), g8 y (show 1 < 8 by omega), g8 y (show 2 < 8 by omega), g8 y (show 3 < 8 by omega), g8 y (show 4 < 8 by omega), g8 y (show 5 < 8 by omega), g8 y (show 6 < 8 by omega), g8 y (show 7 < 8 by omega), lX, Uz, dE hx, dE hy, Qr h, O5 h]
 cases decide (x < 0) <;> cases decide (y < 0) <;> rfl
theorem TJ {p q : Prop} [Decidable p] [Decidable q] (h : p ≠ q) : (decide p == decide q) = false := by
 by_cases a : p <;> by_cases b : q <;> simp_all
theorem TL {p q : Prop} [Decidable p] [Decidable q] (h : ¬ p ≠ q) : (decide p == decide q) = true := by
 by_cases a : p <;> by_cases b : q <;> simp_all
theorem Uc {x y : Int} (hx : fit x) (hy : fit y) :
  p5 (aa x 0) (aa x 1) (aa x 2) (aa x 3) (aa x 4) (aa x 5) (aa x 6) (aa x 7) (aa y 0) (aa y 1) (aa y 2) (aa y 3) (aa y 4) (aa y 5) (aa y 6) (aa y 7) =
   some (t9 (fW (x * y)).1 (fW (x * y)).2) := by
 have hA := sb hx
 have hB := sb hy
 obtain ⟨e, h1, h2⟩ := O4 (x := l8 (x.natAbs : Int)) (y := l8 (y.natAbs : Int)) (Hl _) (Hl _) rfl rfl (LL (l8 x)) (LL (l8 y)) (LL z8) 1 1 1 1 1 1
 rw [Dh hA.1 hA.2, Dh hB.1 hB.2] at h2
 have gq : ∀ z j, j < 8 → (l8 z).getD j 0 = aa z j := fun z j hj => by rw [iQ, if_pos hj]
 have gz : ∀ j, z8.getD j 0 = 0 := O0
 have hab : (x * y).natAbs = x.natAbs * y.natAbs := Int.natAbs_mul x y
 have hP : ((x.natAbs : Int) * (y.natAbs : Int)) = ((x * y).natAbs : Int) := by rw [hab]; push_cast; rfl
 rw [hP] at h2
 have hsg : x * y < 0 ↔ (x * y ≠ 0 ∧ ((x < 0) ≠ (y < 0))) := by
  rcases Int.lt_trichotomy x 0 with a | a | a <;> rcases Int.lt_trichotomy y 0 with b | b | b
  ·have := Int.mul_pos_of_neg_of_neg a b; simp [a, b]; omega
  ·subst b; simp
  ·have := Int.mul_neg_of_neg_of_pos a b
   have hb : ¬ y < 0 := by omega
   simp [a, hb, this]; omega
  ·subst a; simp
  ·subst a; simp
  ·subst a; simp
  ·have := Int.mul_neg_of_pos_of_neg a b
   have ha : ¬ x < 0 := by omega
   simp [ha, b, this]; omega
  ·subst b; simp
  ·have := Int.mul_pos a b
   have ha : ¬ x < 0 := by omega
   have hb : ¬ y < 0 := by omega
   simp [ha, hb]; omega
 rw [LN, Hk hx, Uz, Hk hy, Uz]
 simp only [t8, uF, h1, Uz]
 match e, h2 with
 | .inl (), h2 =>
  have hnf : ¬ fit (x * y) := by
   have : (18446744073709551616 : Int) ^ 8 = 13407807929942597099574024998205846127479365820592393377723561443721764030073546976801874298166903427690031858186486050853753882811946569946433649006084096 := by decide
   unfold fit; omega
  unfold fW
  rw [qC.2 hnf]
  exact Ln
 | .inr r, ⟨h2, h3⟩ =>
  subst h2
  show JN _ _ _ = _
  rw [Qs hx hy h3]
  generalize hz : x * y = z at *
  unfold fW
  by_cases hn : (x < 0) ≠ (y < 0)
  ·have hb : (decide (x < 0) == decide (y < 0)) = false := TJ hn
   rw [hb]
   have e : -(z.natAbs : Int) = z := by
    by_cases h0 : z = 0
    ·omega
    ·have := hsg.2 ⟨h0, hn⟩; omega
   rw [cond_false, e]; cases fa z <;> rfl
  ·have hb : (decide (x < 0) == decide (y < 0)) = true := TL hn
   rw [hb]
   have e : (z.natAbs : Int) = z := by
    have : ¬ z < 0 := fun h => hn (hsg.1 h).2
    omega
   rw [cond_true, e]; cases fa z <;> rfl
end Go.Ev
namespace Go.Ev
open Go.Proofs
theorem aU.cJ {P : Program} {g : FuncId} {h c : HK} (hk : aU P g h) (e : ∀ args σ x, (c.call args σ fun r σ' => some (r, σ')) = some x → (h.call args σ fun r σ' => some (r, σ')) = some x) : aU P g c := fun args σ r σ' q => hk args σ r σ' (e args σ _ q)
theorem Ud {a0 : Int} {r} (h : cOf a0 = some r) : sB a0 = some (t8 r) := by
 unfold cOf at h
 obtain ⟨h1, h2⟩ := aF h
 simp only [UC] at h2
 subst h2
 exact Ut h1
def HL : HK where
 call := fun args σ k => match args with
  | [.int .i64 a0] => Option.bind (cOf a0) fun r => k (.ret (.agg [.int .u64 (aa r 0), .int .u64 (aa r 1), .int .u64 (aa r 2), .int .u64 (aa r 3), .int .u64 (aa r 4), .int .u64 (aa r 5), .int .u64 (aa r 6), .int .u64 (aa r 7)])) σ
  | _ => none
 nat := fun args σ k => by
  repeat' split
  all_goals simp only [UB, UA, Uz]
 pure := true
 pok := fun _ args σ r σ' h => by
  split at h
  ·obtain ⟨q, h1, h2⟩ := bE_ h
   simp only [UC, UE] at h2
   obtain ⟨rfl, rfl⟩ := h2
   exact ⟨rfl, ⟨_, rfl⟩, fun σ2 => by simp only [h1, Uz]⟩
  ·cases h
theorem CM : aU U3 19 HL := JU.cJ fun args σ x h => by
 simp only [HL] at h
 split at h
 ·rename_i a0
  obtain ⟨r, h1, h2⟩ := bE_ h
  simp only [B4, Ud h1, Uz]
  exact h2
 ·cases h
theorem Sk {a0 a1 a2 a3 a4 a5 a6 a7 : Int} {r} (h : pA a0 a1 a2 a3 a4 a5 a6 a7 = some r) : ky a0 a1 a2 a3 a4 a5 a6 a7 = some (r) := by
 unfold pA at h
 obtain ⟨h1, h2⟩ := aF h
 simp only [UC] at h2
 subst h2
 have hf := fb h1
 have q := Lg hf
 obtain ⟨e0, e1, e2, e3, e4, e5, e6, e7⟩ := aN h1
 rw [e0, e1, e2, e3, e4, e5, e6, e7] at q
 exact q
def ya : HK where
 call := fun args σ k => match args with
  | [.agg [.int .u64 a0, .int .u64 a1, .int .u64 a2, .int .u64 a3, .int .u64 a4, .int .u64 a5, .int .u64 a6, .int .u64 a7]] => Option.bind (pA a0 a1 a2 a3 a4 a5 a6 a7) fun r => k (.ret (.int .i64 r)) σ
  | _ => none
 nat := fun args σ k => by
  repeat' split
  all_goals simp only [UB, UA, Uz]
 pure := true
 pok := fun _ args σ r σ' h => by
  split at h
  ·obtain ⟨q, h1, h2⟩ := bE_ h
   simp only [UC, UE] at h2
   obtain ⟨rfl, rfl⟩ := h2
   exact ⟨rfl, ⟨_, rfl⟩, fun σ2 => by simp only [h1, Uz]⟩
  ·cases h
theorem ww : aU U3 28 ya := yl.cJ fun args σ x h => by
 simp only [ya] at h
 split at h
 ·rename_i a0 a1 a2 a3 a4 a5 a6 a7
  obtain ⟨r, h1, h2⟩ := bE_ h
  simp only [rR, Sk h1, Uz]
  exact h2
 ·cases h
theorem TM {a0 a1 a2 a3 a4 a5 a6 a7 a8 a9 a10 a11 a12 a13 a14 a15 : Int} {r} (h : EF a0 a1 a2 a3 a4 a5 a6 a7 a8 a9 a10 a11 a12 a13 a14 a15 = some r) : pT a0 a1 a2 a3 a4 a5 a6 a7 a8 a9 a10 a11 a12 a13 a14 a15 = some (r) := by
 unfold EF at h
 obtain ⟨h1, h2⟩ := aF h
 simp only [UC] at h2
 subst h2
 rw [UD] at h1
 obtain ⟨h1, h3⟩ := h1
 have hf := fb h1
 have hg := fb h3
 obtain ⟨e0, e1, e2, e3, e4, e5, e6, e7⟩ := aN h1
 obtain ⟨d0, d1, d2, d3, d4, d5, d6, d7⟩ := aN h3
 have q := T7 hf hg
 rw [e0, e1, e2, e3, e4, e5, e6, e7, d0, d1, d2, d3, d4, d5, d6, d7] at q
 exact q
def F0 : HK where
 call := fun args σ k => match args with
  | [.agg [.int .u64 a0, .int .u64 a1, .int .u64 a2, .int .u64 a3, .int .u64 a4, .int .u64 a5, .int .u64 a6, .int .u64 a7], .agg [.int .u64 a8, .int .u64 a9, .int .u64 a10, .int .u64 a11, .int .u64 a12, .int .u64 a13, .int .u64 a14, .int .u64 a15]] => Option.bind (EF a0 a1 a2 a3 a4 a5 a6 a7 a8 a9 a10 a11 a12 a13 a14 a15) fun r => k (.ret (.int .i64 r)) σ
  | _ => none
 nat := fun args σ k => by
  repeat' split
  all_goals simp only [UB, UA, Uz]
 pure := true
 pok := fun _ args σ r σ' h => by
  split at h
  ·obtain ⟨q, h1, h2⟩ := bE_ h
   simp only [UC, UE] at h2
   obtain ⟨rfl, rfl⟩ := h2
   exact ⟨rfl, ⟨_, rfl⟩, fun σ2 => by simp only [h1, Uz]⟩
  ·cases h
theorem EE : aU U3 21 F0 := Jg.cJ fun args σ x h => by
 simp only [F0] at h
 split at h
 ·rename_i a0 a1 a2 a3 a4 a5 a6 a7 a8 a9 a10 a11 a12 a13 a14 a15
  obtain ⟨r, h1, h2⟩ := bE_ h
  simp only [zG, TM h1, Uz]
  exact h2
 ·cases h
theorem TN {a0 a1 a2 a3 a4 a5 a6 a7 : Int} {r} (h : Le a0 a1 a2 a3 a4 a5 a6 a7 = some r) : p7 a0 a1 a2 a3 a4 a5 a6 a7 = some (t9 r.1 r.2) := by
 unfold Le at h
 obtain ⟨h1, h2⟩ := aF h
 simp only [UC] at h2
 subst h2
 have hf := fb h1
 have q := T6 hf
 obtain ⟨e0, e1, e2, e3, e4, e5, e6, e7⟩ := aN h1
 rw [e0, e1, e2, e3, e4, e5, e6, e7] at q
 exact q
def Nq : HK where
 call := fun args σ k => match args with
  | [.agg [.int .u64 a0, .int .u64 a1, .int .u64 a2, .int .u64 a3, .int .u64 a4, .int .u64 a5, .int .u64 a6, .int .u64 a7]] => Option.bind (Le a0 a1 a2 a3 a4 a5 a6 a7) fun r => k (.ret (.tup [.agg [.int .u64 (aa r.1 0), .int .u64 (aa r.1 1), .int .u64 (aa r.1 2), .int .u64 (aa r.1 3), .int .u64 (aa r.1 4), .int .u64 (aa r.1 5), .int .u64 (aa r.1 6), .int .u64 (aa r.1 7)], .bool r.2])) σ
  | _ => none
 nat := fun args σ k => by
  repeat' split
  all_goals simp only [UB, UA, Uz]
 pure := true
 pok := fun _ args σ r σ' h => by
  split at h
  ·obtain ⟨q, h1, h2⟩ := bE_ h
   simp only [UC, UE] at h2
   obtain ⟨rfl, rfl⟩ := h2
   exact ⟨rfl, ⟨_, rfl⟩, fun σ2 => by simp only [h1, Uz]⟩
  ·cases h
theorem Qt : aU U3 67 Nq := Jk.cJ fun args σ x h => by
 simp only [Nq] at h
 split at h
 ·rename_i a0 a1 a2 a3 a4 a5 a6 a7
  obtain ⟨r, h1, h2⟩ := bE_ h
  simp only [zN, TN h1, Uz]
  exact h2
 ·cases h
theorem TO {a0 a1 a2 a3 a4 a5 a6 a7 a8 a9 a10 a11 a12 a13 a14 a15 : Int} {r} (h : vc a0 a1 a2 a3 a4 a5 a6 a7 a8 a9 a10 a11 a12 a13 a14 a15 = some r) : pR a0 a1 a2 a3 a4 a5 a6 a7 a8 a9 a10 a11 a12 a13 a14 a15 = some (t9 r.1 r.2) := by
 unfold vc at h
 obtain ⟨h1, h2⟩ := aF h
 simp only [UC] at h2
 subst h2
 rw [UD] at h1
 obtain ⟨h1, h3⟩ := h1
 have hf := fb h1
 have hg := fb h3
 obtain ⟨e0, e1, e2, e3, e4, e5, e6, e7⟩ := aN h1
 obtain ⟨d0, d1, d2, d3, d4, d5, d6, d7⟩ := aN h3
 have q := T5 hf hg
 rw [e0, e1, e2, e3, e4, e5, e6, e7, d0, d1, d2, d3, d4, d5, d6, d7] at q
 exact q
def Jt : HK where
 call := fun args σ k => match args with
  | [.agg [.int .u64 a0, .int .u64 a1, .int .u64 a2, .int .u64 a3, .int .u64 a4, .int .u64 a5, .int .u64 a6, .int .u64 a7], .agg [.int .u64 a8, .int .u64 a9, .int .u64 a10, .int .u64 a11, .int .u64 a12, .int .u64 a13, .int .u64 a14, .int .u64 a15]] => Option.bind (vc a0 a1 a2 a3 a4 a5 a6 a7 a8 a9 a10 a11 a12 a13 a14 a15) fun r => k (.ret (.tup [.agg [.int .u64 (aa r.1 0), .int .u64 (aa r.1 1), .int .u64 (aa r.1 2), .int .u64 (aa r.1 3), .int .u64 (aa r.1 4), .int .u64 (aa r.1 5), .int .u64 (aa r.1 6), .int .u64 (aa r.1 7)], .bool r.2])) σ
  | _ => none
 nat := fun args σ k => by
  repeat' split
  all_goals simp only [UB, UA, Uz]
 pure := true
 pok := fun _ args σ r σ' h => by
  split at h
  ·obtain ⟨q, h1, h2⟩ := bE_ h
   simp only [UC, UE] at h2
   obtain ⟨rfl, rfl⟩ := h2
   exact ⟨rfl, ⟨_, rfl⟩, fun σ2 => by simp only [h1, Uz]⟩
  ·cases h
theorem JO : aU U3 36 Jt := Je.cJ fun args σ x h => by
 simp only [Jt] at h
 split at h
 ·rename_i a0 a1 a2 a3 a4 a5 a6 a7 a8 a9 a10 a11 a12 a13 a14 a15
  obtain ⟨r, h1, h2⟩ := bE_ h
  simp only [zF, TO h1, Uz]
  exact h2
 ·cases h
theorem TP {a0 a1 a2 a3 a4 a5 a6 a7 a8 a9 a10 a11 a12 a13 a14 a15 : Int} {r} (h : Bw a0 a1 a2 a3 a4 a5 a6 a7 a8 a9 a10 a11 a12 a13 a14 a15 = some r) : mv a0 a1 a2 a3 a4 a5 a6 a7 a8 a9 a10 a11 a12 a13 a14 a15 = some (t9 r.1 r.2) := by
 unfold Bw at h
 obtain ⟨h1, h2⟩ := aF h
 simp only [UC] at h2
 subst h2
 rw [UD] at h1
 obtain ⟨h1, h3⟩ := h1
 have hf := fb h1
 have hg := fb h3
 obtain ⟨e0, e1, e2, e3, e4, e5, e6, e7⟩ := aN h1
 obtain ⟨d0, d1, d2, d3, d4, d5, d6, d7⟩ := aN h3
 have q := QX hf hg
 rw [e0, e1, e2, e3, e4, e5, e6, e7, d0, d1, d2, d3, d4, d5, d6, d7] at q
 exact q
def Ju : HK where
 call := fun args σ k => match args with
  | [.agg [.int .u64 a0, .int .u64 a1, .int .u64 a2, .int .u64 a3, .int .u64 a4, .int .u64 a5, .int .u64 a6, .int .u64 a7], .agg [.int .u64 a8, .int .u64 a9, .int .u64 a10, .int .u64 a11, .int .u64 a12, .int .u64 a13, .int .u64 a14, .int .u64 a15]] => Option.bind (Bw a0 a1 a2 a3 a4 a5 a6 a7 a8 a9 a10 a11 a12 a13 a14 a15) fun r => k (.ret (.tup [.agg [.int .u64 (aa r.1 0), .int .u64 (aa r.1 1), .int .u64 (aa r.1 2), .int .u64 (aa r.1 3), .int .u64 (aa r.1 4), .int .u64 (aa r.1 5), .int .u64 (aa r.1 6), .int .u64 (aa r.1 7)], .bool r.2])) σ
  | _ => none
 nat := fun args σ k => by
  repeat' split
  all_goals simp only [UB, UA, Uz]
 pure := true
 pok := fun _ args σ r σ' h => by
  split at h
  ·obtain ⟨q, h1, h2⟩ := bE_ h
   simp only [UC, UE] at h2
   obtain ⟨rfl, rfl⟩ := h2
   exact ⟨rfl, ⟨_, rfl⟩, fun σ2 => by simp only [h1, Uz]⟩
  ·cases h
theorem JP : aU U3 83 Ju := AF.cJ fun args σ x h => by
 simp only [Ju] at h
 split at h
 ·rename_i a0 a1 a2 a3 a4 a5 a6 a7 a8 a9 a10 a11 a12 a13 a14 a15
  obtain ⟨r, h1, h2⟩ := bE_ h
  simp only [un, TP h1, Uz]
  exact h2
 ·cases h
theorem TQ {a0 a1 a2 a3 a4 a5 a6 a7 a8 a9 a10 a11 a12 a13 a14 a15 : Int} {r} (h : vb a0 a1 a2 a3 a4 a5 a6 a7 a8 a9 a10 a11 a12 a13 a14 a15 = some r) : p5 a0 a1 a2 a3 a4 a5 a6 a7 a8 a9 a10 a11 a12 a13 a14 a15 = some (t9 r.1 r.2) := by
 unfold vb at h
 obtain ⟨h1, h2⟩ := aF h
 simp only [UC] at h2
 subst h2
 rw [UD] at h1
 obtain ⟨h1, h3⟩ := h1
 have hf := fb h1
 have hg := fb h3
 obtain ⟨e0, e1, e2, e3, e4, e5, e6, e7⟩ := aN h1
 obtain ⟨d0, d1, d2, d3, d4, d5, d6, d7⟩ := aN h3
 have q := Uc hf hg
 rw [e0, e1, e2, e3, e4, e5, e6, e7, d0, d1, d2, d3, d4, d5, d6, d7] at q
 exact q
def F1 : HK where
 call := fun args σ k => match args with
  | [.agg [.int .u64 a0, .int .u64 a1, .int .u64 a2, .int .u64 a3, .int .u64 a4, .int .u64 a5, .int .u64 a6, .int .u64 a7], .agg [.int .u64 a8, .int .u64 a9, .int .u64 a10, .int .u64 a11, .int .u64 a12, .int .u64 a13, .int .u64 a14, .int .u64 a15]] => Option.bind (vb a0 a1 a2 a3 a4 a5 a6 a7 a8 a9 a10 a11 a12 a13 a14 a15) fun r => k (.ret (.tup [.agg [.int .u64 (aa r.1 0), .int .u64 (aa r.1 1), .int .u64 (aa r.1 2), .int .u64 (aa r.1 3), .int .u64 (aa r.1 4), .int .u64 (aa r.1 5), .int .u64 (aa r.1 6), .int .u64 (aa r.1 7)], .bool r.2])) σ
  | _ => none
 nat := fun args σ k => by
  repeat' split
  all_goals simp only [UB, UA, Uz]
 pure := true
 pok := fun _ args σ r σ' h => by
  split at h
  ·obtain ⟨q, h1, h2⟩ := bE_ h
   simp only [UC, UE] at h2
   obtain ⟨rfl, rfl⟩ := h2
   exact ⟨rfl, ⟨_, rfl⟩, fun σ2 => by simp only [h1, Uz]⟩
  ·cases h
theorem EG : aU U3 35 F1 := Ji.cJ fun args σ x h => by
 simp only [F1] at h
 split at h
 ·rename_i a0 a1 a2 a3 a4 a5 a6 a7 a8 a9 a10 a11 a12 a13 a14 a15
  obtain ⟨r, h1, h2⟩ := bE_ h
  simp only [zM, TQ h1, Uz]
  exact h2
 ·cases h
theorem TR {a0 a1 a2 a3 a4 a5 a6 a7 a8 a9 a10 a11 a12 a13 a14 a15 : Int} {r} (h : Lf a0 a1 a2 a3 a4 a5 a6 a7 a8 a9 a10 a11 a12 a13 a14 a15 = some r) : jV a0 a1 a2 a3 a4 a5 a6 a7 a8 a9 a10 a11 a12 a13 a14 a15 = some (t17 r.1 r.2.1 r.2.2) := by
 unfold Lf at h
 obtain ⟨h1, h2⟩ := aF h
 simp only [UC] at h2
 subst h2
 simp only [UD] at h1
 obtain ⟨h1, h3⟩ := h1
 obtain ⟨h1, h4⟩ := h1
 have hf := fb h1
 have hg := fb h4
 obtain ⟨e0, e1, e2, e3, e4, e5, e6, e7⟩ := aN h1
 obtain ⟨d0, d1, d2, d3, d4, d5, d6, d7⟩ := aN h4
 by_cases h0 : num a8 a9 a10 a11 a12 a13 a14 a15 = 0
 ·have q := TI (a := num a0 a1 a2 a3 a4 a5 a6 a7) hg h0
  rw [e0, e1, e2, e3, e4, e5, e6, e7, d0, d1, d2, d3, d4, d5, d6, d7] at q
  unfold Nk
  rw [UI h0]
  exact q
 ·rw [UH h0, Bool.false_or] at h3
  have q := Ub hf hg h0 (bR.1 h3)
  rw [e0, e1, e2, e3, e4, e5, e6, e7, d0, d1, d2, d3, d4, d5, d6, d7] at q
  unfold Nk
  rw [UH h0, h3]
  exact q
def Ns : HK where
 call := fun args σ k => match args with
  | [.agg [.int .u64 a0, .int .u64 a1, .int .u64 a2, .int .u64 a3, .int .u64 a4, .int .u64 a5, .int .u64 a6, .int .u64 a7], .agg [.int .u64 a8, .int .u64 a9, .int .u64 a10, .int .u64 a11, .int .u64 a12, .int .u64 a13, .int .u64 a14, .int .u64 a15]] => Option.bind (Lf a0 a1 a2 a3 a4 a5 a6 a7 a8 a9 a10 a11 a12 a13 a14 a15) fun r => k (.ret (.tup [.agg [.int .u64 (aa r.1 0), .int .u64 (aa r.1 1), .int .u64 (aa r.1 2), .int .u64 (aa r.1 3), .int .u64 (aa r.1 4), .int .u64 (aa r.1 5), .int .u64 (aa r.1 6), .int .u64 (aa r.1 7)], .agg [.int .u64 (aa r.2.1 0), .int .u64 (aa r.2.1 1), .int .u64 (aa r.2.1 2), .int .u64 (aa r.2.1 3), .int .u64 (aa r.2.1 4), .int .u64 (aa r.2.1 5), .int .u64 (aa r.2.1 6), .int .u64 (aa r.2.1 7)], .bool r.2.2])) σ
  | _ => none
 nat := fun args σ k => by
  repeat' split
  all_goals simp only [UB, UA, Uz]
 pure := true
 pok := fun _ args σ r σ' h => by
  split at h
  ·obtain ⟨q, h1, h2⟩ := bE_ h
   simp only [UC, UE] at h2
   obtain ⟨rfl, rfl⟩ := h2
   exact ⟨rfl, ⟨_, rfl⟩, fun σ2 => by simp only [h1, Uz]⟩
  ·cases h
theorem Qu : aU U3 27 Ns := Jh.cJ fun args σ x h => by
 simp only [Ns] at h
 split at h
 ·rename_i a0 a1 a2 a3 a4 a5 a6 a7 a8 a9 a10 a11 a12 a13 a14 a15
  obtain ⟨r, h1, h2⟩ := bE_ h
  simp only [zH, TR h1, Uz]
  exact h2
 ·cases h
def wu : CH := CH.none
theorem Bs : aD U3 wu := CH.aB
def gB (a0 a1 a2 : Int) : Option (Int) :=
 (cond (decide (a0 < (-268435456))) (some 7) (cond (decide (a0 > 268435456)) (some 7) (cond (decide (a1 < (-268435456))) (some 7) (cond (decide (a1 > 268435456)) (some 7) (cond (decide (a2 < (-268435456))) (some 7) (cond (decide (a2 > 268435456)) (some 7) (some 0)))))))
def mh : FD where
 X := Int
 k := 0
 pre := []
 F := fun s => []
 M := .int .i64
 B := []
 toL := fun x => [.I x]
 ofL := fun ls => match ls with
  | [.I x0] => some x0
  | _ => none
 ar := fun ls x h => by
  split at h
  ·cases h; rfl
  ·cases h
theorem EI (a0 a1 a2 x : Int) (h : gB a0 a1 a2 = some x) : ba U3 14 0 [.agg [.int .i64 a0, .int .i64 a1, .int .i64 a2]] [] mh x :=
 FD.sem (ch := wu) (A := bz) (fn := Try.f14) (c := bn Try.f14) (fuel := 60) aH Bs mixed bF mh Try.func14 (by kernel_rfl) (aG (l := [aI Try.f14 0]) (by kernel_rfl) ⟨(dY (by kernel_rfl)), trivial⟩)
  (by kernel_rfl) (Eq.trans (by kernel_rfl) h)
def lc : HK where
 call := fun args σ k => match args with
  | [.agg [.int .i64 a0, .int .i64 a1, .int .i64 a2]] => Option.bind (gB a0 a1 a2) fun y => az σ 0 (mh.val y) (mh.aJ y) k
  | _ => none
 nat := fun args σ k => by
  repeat' split
  all_goals simp only [av, aj, UB, UA, az, Uz]
 pure := true
 pok := fun _ args σ r σ' h => by
  split at h
  ·exact bo h (fun y => rfl) (fun y f => rfl)
  ·cases h
theorem pd : aU U3 14 lc := by
 intro args σ r σ' h
 simp only [lc] at h
 split at h
 ·rename_i a0 a1 a2
  obtain ⟨y, hy, h⟩ := bE_ h
  exact lifted (xs := []) (ls := []) (cargs := [.agg [.int .i64 a0, .int .i64 a1, .int .i64 a2]]) (bA.of trivial) rfl (EI a0 a1 a2 y hy) rfl rfl rfl rfl h
 ·cases h
end Go.Ev
namespace Go.Ev
open Go.Proofs
abbrev li8 (x : Int) (r : LA_) : LA_ := .int .u64 (aa x 0) :: .int .u64 (aa x 1) :: .int .u64 (aa x 2) :: .int .u64 (aa x 3) :: .int .u64 (aa x 4) :: .int .u64 (aa x 5) :: .int .u64 (aa x 6) :: .int .u64 (aa x 7) :: r
abbrev aV {R : Type} (x : Int) (r : R) : Int × Int × Int × Int × Int × Int × Int × Int × R := (aa x 0, aa x 1, aa x 2, aa x 3, aa x 4, aa x 5, aa x 6, aa x 7, r)
end Go.Ev
namespace Go.Ev
open Go.Proofs
abbrev EM := (I8 (I8 (Int × Int × Int × Int × Int × Int × Int × Int)))
def JQ : CH := (CH.add 19 HL CH.none)
theorem F5 : aD U3 JQ := (CH.ai CM CH.aB)
def jv (a0 a1 a2 : Int) : Option (EM) :=
 (Option.bind (cOf a0) fun r1 => (Option.bind (cOf a1) fun r2 => (Option.bind (cOf a2) fun r3 => (some ((aa r1 0), (aa r1 1), (aa r1 2), (aa r1 3), (aa r1 4), (aa r1 5), (aa r1 6), (aa r1 7), (aa r2 0), (aa r2 1), (aa r2 2), (aa r2 3), (aa r2 4), (aa r2 5), (aa r2 6), (aa r2 7), (aa r3 0), (aa r3 1), (aa r3 2), (aa r3 3), (aa r3 4), (aa r3 5), (aa r3 6), (aa r3 7))))))
def rP : FD where
 X := EM
 k := 0
 pre := []
 F := fun s => []
 M := .agg (rl (.int .u64) 24 [])
 B := []
 toL := fun x => [.I x.1, .I x.2.1, .I x.2.2.1, .I x.2.2.2.1, .I x.s4.1, .I x.s4.2.1, .I x.s4.2.2.1, .I x.s4.2.2.2.1, .I x.s8.1, .I x.s8.2.1, .I x.s8.2.2.1, .I x.s8.2.2.2.1, .I x.s8.s4.1, .I x.s8.s4.2.1, .I x.s8.s4.2.2.1, .I x.s8.s4.2.2.2.1, .I x.s16.1, .I x.s16.2.1, .I x.s16.2.2.1, .I x.s16.2.2.2.1, .I x.s16.s4.1, .I x.s16.s4.2.1, .I x.s16.s4.2.2.1, .I x.s16.s4.2.2.2]
 ofL := fun ls => match ls with
  | [.I x0, .I x1, .I x2, .I x3, .I x4, .I x5, .I x6, .I x7, .I x8, .I x9, .I x10, .I x11, .I x12, .I x13, .I x14, .I x15, .I x16, .I x17, .I x18, .I x19, .I x20, .I x21, .I x22, .I x23] => some (x0, x1, x2, x3, x4, x5, x6, x7, x8, x9, x10, x11, x12, x13, x14, x15, x16, x17, x18, x19, x20, x21, x22, x23)
  | _ => none
 ar := fun ls x h => by
  split at h
  ·cases h; rfl
  ·cases h
theorem Jc (a0 a1 a2 : Int) (x : EM) (h : jv a0 a1 a2 = some x) : ba U3 34 0 [.agg [.int .i64 a0, .int .i64 a1, .int .i64 a2]] [] rP x :=
 FD.semA rP F5 Try.func34 (fuel := 60) (by kernel_rfl) (by kernel_rfl)
  (by kernel_rfl) (Eq.trans (by kernel_rfl) h)
def se : HK where
 call := fun args σ k => match args with
  | [.agg [.int .i64 a0, .int .i64 a1, .int .i64 a2]] => Option.bind (jv a0 a1 a2) fun y => az σ 0 (rP.val y) (rP.aJ y) k
  | _ => none
 nat := fun args σ k => by
  repeat' split
  all_goals simp only [av, aj, UB, UA, az, Uz]
 pure := true
 pok := fun _ args σ r σ' h => by
  split at h
  ·exact bo h (fun y => rfl) (fun y f => rfl)
  ·cases h
theorem uZ : aU U3 34 se := by
 intro args σ r σ' h
 simp only [se] at h
 split at h
 ·rename_i a0 a1 a2
  obtain ⟨y, hy, h⟩ := bE_ h
  exact lifted (xs := []) (ls := []) (cargs := [.agg [.int .i64 a0, .int .i64 a1, .int .i64 a2]]) (bA.of trivial) rfl (Jc a0 a1 a2 y hy) rfl rfl rfl rfl h
 ·cases h
abbrev w9 := (I8 Bool)
def uY : CH := (CH.add 34 se (CH.add 36 Jt (CH.add 35 F1 CH.none)))
def wq : CH := uO U3 iS [33] 60 uY 2
theorem AT : aD U3 uY := (CH.ai uZ (CH.ai JO (CH.ai EG CH.aB)))
theorem Br : aD U3 wq := iq aH mixed bF AT 2
def gC (a0 a1 a2 a3 a4 a5 a6 a7 a8 a9 a10 a11 a12 a13 a14 a15 a16 a17 a18 a19 a20 a21 a22 a23 a24 a25 a26 : Int) : Option (w9) :=
 (Option.bind (jv a24 a25 a26) fun r1 => (Option.bind (vb a0 a1 a2 a3 a4 a5 a6 a7 r1.1 r1.2.1 r1.2.2.1 r1.2.2.2.1 r1.2.2.2.2.1 r1.2.2.2.2.2.1 r1.2.2.2.2.2.2.1 r1.2.2.2.2.2.2.2.1) fun r2 => (cond r2.2 (Option.bind (vc 0 0 0 0 0 0 0 0 (aa r2.1 0) (aa r2.1 1) (aa r2.1 2) (aa r2.1 3) (aa r2.1 4) (aa r2.1 5) (aa r2.1 6) (aa r2.1 7)) fun r3 => (cond r3.2 (Option.bind (vb a8 a9 a10 a11 a12 a13 a14 a15 r1.2.2.2.2.2.2.2.2.1 r1.2.2.2.2.2.2.2.2.2.1 r1.2.2.2.2.2.2.2.2.2.2.1 r1.2.2.2.2.2.2.2.2.2.2.2.1 r1.2.2.2.2.2.2.2.2.2.2.2.2.1 r1.2.2.2.2.2.2.2.2.2.2.2.2.2.1 r1.2.2.2.2.2.2.2.2.2.2.2.2.2.2.1 r1.2.2.2.2.2.2.2.2.2.2.2.2.2.2.2.1) fun r4 => (cond r4.2 (Option.bind (vc (aa r3.1 0) (aa r3.1 1) (aa r3.1 2) (aa r3.1 3) (aa r3.1 4) (aa r3.1 5) (aa r3.1 6) (aa r3.1 7) (aa r4.1 0) (aa r4.1 1) (aa r4.1 2) (aa r4.1 3) (aa r4.1 4) (aa r4.1 5) (aa r4.1 6) (aa r4.1 7)) fun r5 => (cond r5.2 (Option.bind (vb a16 a17 a18 a19 a20 a21 a22 a23 r1.2.2.2.2.2.2.2.2.2.2.2.2.2.2.2.2.1 r1.2.2.2.2.2.2.2.2.2.2.2.2.2.2.2.2.2.1 r1.2.2.2.2.2.2.2.2.2.2.2.2.2.2.2.2.2.2.1 r1.2.2.2.2.2.2.2.2.2.2.2.2.2.2.2.2.2.2.2.1 r1.2.2.2.2.2.2.2.2.2.2.2.2.2.2.2.2.2.2.2.2.1 r1.2.2.2.2.2.2.2.2.2.2.2.2.2.2.2.2.2.2.2.2.2.1 r1.2.2.2.2.2.2.2.2.2.2.2.2.2.2.2.2.2.2.2.2.2.2.1 r1.2.2.2.2.2.2.2.2.2.2.2.2.2.2.2.2.2.2.2.2.2.2.2) fun r6 => (cond r6.2 (Option.bind (vc (aa r5.1 0) (aa r5.1 1) (aa r5.1 2) (aa r5.1 3) (aa r5.1 4) (aa r5.1 5) (aa r5.1 6) (aa r5.1 7) (aa r6.1 0) (aa r6.1 1) (aa r6.1 2) (aa r6.1 3) (aa r6.1 4) (aa r6.1 5) (aa r6.1 6) (aa r6.1 7)) fun r7 => (cond r7.2 (some (aV r7.1 true)) (some (0, 0, 0, 0, 0, 0, 0, 0, false)))) (some (0, 0, 0, 0, 0, 0, 0, 0, false)))) (some (0, 0, 0, 0, 0, 0, 0, 0, false)))) (some (0, 0, 0, 0, 0, 0, 0, 0, false)))) (some (0, 0, 0, 0, 0, 0, 0, 0, false)))) (some (0, 0, 0, 0, 0, 0, 0, 0, false)))))
def mg : FD where
 X := w9
 k := 0
 pre := []
 F := fun s => []
 M := .tup [.agg (rl (.int .u64) 8 []), .bool]
 B := []
 toL := fun x => [.I x.1, .I x.2.1, .I x.2.2.1, .I x.2.2.2.1, .I x.s4.1, .I x.s4.2.1, .I x.s4.2.2.1, .I x.s4.2.2.2.1, .B x.s8]
 ofL := fun ls => match ls with
  | [.I x0, .I x1, .I x2, .I x3, .I x4, .I x5, .I x6, .I x7, .B x8] => some (x0, x1, x2, x3, x4, x5, x6, x7, x8)
  | _ => none
 ar := fun ls x h => by
  split at h
  ·cases h; rfl
  ·cases h
theorem EH (a0 a1 a2 a3 a4 a5 a6 a7 a8 a9 a10 a11 a12 a13 a14 a15 a16 a17 a18 a19 a20 a21 a22 a23 a24 a25 a26 : Int) (x : w9) (h : gC a0 a1 a2 a3 a4 a5 a6 a7 a8 a9 a10 a11 a12 a13 a14 a15 a16 a17 a18 a19 a20 a21 a22 a23 a24 a25 a26 = some x) : ba U3 20 0 [.agg (v8 a0 a1 a2 a3 a4 a5 a6 a7 (v8 a8 a9 a10 a11 a12 a13 a14 a15 (v8 a16 a17 a18 a19 a20 a21 a22 a23 []))), .agg [.int .i64 a24, .int .i64 a25, .int .i64 a26]] [] mg x :=
 FD.Sr (il := fun _ => false) (ch := wq) (A := bz) (fn := Try.f20) (c := bn Try.f20) (fuel := 60) aH Br mixed bF mg Try.func20 (by kernel_rfl) (aG (l := []) (by kernel_rfl) trivial)
  (by kernel_rfl) (Eq.trans (by kernel_rfl) h)
def lh : HK where
 call := fun args σ k => match args with
  | [.agg [.int .u64 a0, .int .u64 a1, .int .u64 a2, .int .u64 a3, .int .u64 a4, .int .u64 a5, .int .u64 a6, .int .u64 a7, .int .u64 a8, .int .u64 a9, .int .u64 a10, .int .u64 a11, .int .u64 a12, .int .u64 a13, .int .u64 a14, .int .u64 a15, .int .u64 a16, .int .u64 a17, .int .u64 a18, .int .u64 a19, .int .u64 a20, .int .u64 a21, .int .u64 a22, .int .u64 a23], .agg [.int .i64 a24, .int .i64 a25, .int .i64 a26]] => Option.bind (gC a0 a1 a2 a3 a4 a5 a6 a7 a8 a9 a10 a11 a12 a13 a14 a15 a16 a17 a18 a19 a20 a21 a22 a23 a24 a25 a26) fun y => az σ 0 (mg.val y) (mg.aJ y) k
  | _ => none
 nat := fun args σ k => by
  repeat' split
  all_goals simp only [av, aj, UB, UA, az, Uz]
 pure := true
 pok := fun _ args σ r σ' h => by
  split at h
  ·exact bo h (fun y => rfl) (fun y f => rfl)
  ·cases h
theorem pp : aU U3 20 lh := by
 intro args σ r σ' h
 simp only [lh] at h
 split at h
 ·rename_i a0 a1 a2 a3 a4 a5 a6 a7 a8 a9 a10 a11 a12 a13 a14 a15 a16 a17 a18 a19 a20 a21 a22 a23 a24 a25 a26
  obtain ⟨y, hy, h⟩ := bE_ h
  exact lifted (xs := []) (ls := []) (cargs := [.agg (v8 a0 a1 a2 a3 a4 a5 a6 a7 (v8 a8 a9 a10 a11 a12 a13 a14 a15 (v8 a16 a17 a18 a19 a20 a21 a22 a23 []))), .agg [.int .i64 a24, .int .i64 a25, .int .i64 a26]]) (bA.of trivial) rfl (EH a0 a1 a2 a3 a4 a5 a6 a7 a8 a9 a10 a11 a12 a13 a14 a15 a16 a17 a18 a19 a20 a21 a22 a23 a24 a25 a26 y hy) rfl rfl rfl rfl h
 ·cases h
abbrev Bv := Int × Int × Int × Int × Int × Int × Int × Int
def Ja : CH := (CH.add 34 se (CH.add 20 lh CH.none))
theorem EL : aD U3 Ja := (CH.ai uZ (CH.ai pp CH.aB))
def pu (a0 a1 a2 a3 a4 a5 : Int) : Option (Bv) :=
 (Option.bind (jv a0 a1 a2) fun r1 => (Option.bind (gC r1.1 r1.2.1 r1.2.2.1 r1.2.2.2.1 r1.2.2.2.2.1 r1.2.2.2.2.2.1 r1.2.2.2.2.2.2.1 r1.2.2.2.2.2.2.2.1 r1.2.2.2.2.2.2.2.2.1 r1.2.2.2.2.2.2.2.2.2.1 r1.2.2.2.2.2.2.2.2.2.2.1 r1.2.2.2.2.2.2.2.2.2.2.2.1 r1.2.2.2.2.2.2.2.2.2.2.2.2.1 r1.2.2.2.2.2.2.2.2.2.2.2.2.2.1 r1.2.2.2.2.2.2.2.2.2.2.2.2.2.2.1 r1.2.2.2.2.2.2.2.2.2.2.2.2.2.2.2.1 r1.2.2.2.2.2.2.2.2.2.2.2.2.2.2.2.2.1 r1.2.2.2.2.2.2.2.2.2.2.2.2.2.2.2.2.2.1 r1.2.2.2.2.2.2.2.2.2.2.2.2.2.2.2.2.2.2.1 r1.2.2.2.2.2.2.2.2.2.2.2.2.2.2.2.2.2.2.2.1 r1.2.2.2.2.2.2.2.2.2.2.2.2.2.2.2.2.2.2.2.2.1 r1.2.2.2.2.2.2.2.2.2.2.2.2.2.2.2.2.2.2.2.2.2.1 r1.2.2.2.2.2.2.2.2.2.2.2.2.2.2.2.2.2.2.2.2.2.2.1 r1.2.2.2.2.2.2.2.2.2.2.2.2.2.2.2.2.2.2.2.2.2.2.2 a3 a4 a5) fun r2 => (cond r2.2.2.2.2.2.2.2.2 (some (r2.1, r2.2.1, r2.2.2.1, r2.2.2.2.1, r2.2.2.2.2.1, r2.2.2.2.2.2.1, r2.2.2.2.2.2.2.1, r2.2.2.2.2.2.2.2.1)) (some (r2.1, r2.2.1, r2.2.2.1, r2.2.2.2.1, r2.2.2.2.2.1, r2.2.2.2.2.2.1, r2.2.2.2.2.2.2.1, r2.2.2.2.2.2.2.2.1)))))
def pv : FD where
 X := Bv
 k := 0
 pre := []
 F := fun s => []
 M := .agg (rl (.int .u64) 8 [])
 B := []
 toL := fun x => [.I x.1, .I x.2.1, .I x.2.2.1, .I x.2.2.2.1, .I x.s4.1, .I x.s4.2.1, .I x.s4.2.2.1, .I x.s4.2.2.2]
 ofL := fun ls => match ls with
  | [.I x0, .I x1, .I x2, .I x3, .I x4, .I x5, .I x6, .I x7] => some (x0, x1, x2, x3, x4, x5, x6, x7)
  | _ => none
 ar := fun ls x h => by
  split at h
  ·cases h; rfl
  ·cases h
theorem HI (a0 a1 a2 a3 a4 a5 : Int) (x : Bv) (h : pu a0 a1 a2 a3 a4 a5 = some x) : ba U3 68 0 [.agg [.int .i64 a0, .int .i64 a1, .int .i64 a2], .agg [.int .i64 a3, .int .i64 a4, .int .i64 a5]] [] pv x :=
 FD.semA pv EL Try.func68 (fuel := 60) (by kernel_rfl) (by kernel_rfl)
  (by kernel_rfl) (Eq.trans (by kernel_rfl) h)
def zb : HK where
 call := fun args σ k => match args with
  | [.agg [.int .i64 a0, .int .i64 a1, .int .i64 a2], .agg [.int .i64 a3, .int .i64 a4, .int .i64 a5]] => Option.bind (pu a0 a1 a2 a3 a4 a5) fun y => az σ 0 (pv.val y) (pv.aJ y) k
  | _ => none
 nat := fun args σ k => by
  repeat' split
  all_goals simp only [av, aj, UB, UA, az, Uz]
 pure := true
 pok := fun _ args σ r σ' h => by
  split at h
  ·exact bo h (fun y => rfl) (fun y f => rfl)
  ·cases h
theorem Jb : aU U3 68 zb := by
 intro args σ r σ' h
 simp only [zb] at h
 split at h
 ·rename_i a0 a1 a2 a3 a4 a5
  obtain ⟨y, hy, h⟩ := bE_ h
  exact lifted (xs := []) (ls := []) (cargs := [.agg [.int .i64 a0, .int .i64 a1, .int .i64 a2], .agg [.int .i64 a3, .int .i64 a4, .int .i64 a5]]) (bA.of trivial) rfl (HI a0 a1 a2 a3 a4 a5 y hy) rfl rfl rfl rfl h
 ·cases h
abbrev zc := Int × Int × Int × Int × Int × Int × Int × Int
def HJ : CH := (CH.add 83 Ju CH.none)
theorem Dx : aD U3 HJ := (CH.ai JP CH.aB)
def iI (a0 a1 a2 a3 a4 a5 a6 a7 a8 a9 a10 a11 a12 a13 a14 a15 : Int) : Option (zc) :=
 (Option.bind (Bw a0 a1 a2 a3 a4 a5 a6 a7 a8 a9 a10 a11 a12 a13 a14 a15) fun r1 => (cond r1.2 (some ((aa r1.1 0), (aa r1.1 1), (aa r1.1 2), (aa r1.1 3), (aa r1.1 4), (aa r1.1 5), (aa r1.1 6), (aa r1.1 7))) (some ((aa r1.1 0), (aa r1.1 1), (aa r1.1 2), (aa r1.1 3), (aa r1.1 4), (aa r1.1 5), (aa r1.1 6), (aa r1.1 7)))))
def nJ : FD where
 X := zc
 k := 0
 pre := []
 F := fun s => []
 M := .agg (rl (.int .u64) 8 [])
 B := []
 toL := fun x => [.I x.1, .I x.2.1, .I x.2.2.1, .I x.2.2.2.1, .I x.s4.1, .I x.s4.2.1, .I x.s4.2.2.1, .I x.s4.2.2.2]
 ofL := fun ls => match ls with
  | [.I x0, .I x1, .I x2, .I x3, .I x4, .I x5, .I x6, .I x7] => some (x0, x1, x2, x3, x4, x5, x6, x7)
  | _ => none
 ar := fun ls x h => by
  split at h
  ·cases h; rfl
  ·cases h
theorem F4 (a0 a1 a2 a3 a4 a5 a6 a7 a8 a9 a10 a11 a12 a13 a14 a15 : Int) (x : zc) (h : iI a0 a1 a2 a3 a4 a5 a6 a7 a8 a9 a10 a11 a12 a13 a14 a15 = some x) : ba U3 79 0 [.agg (v8 a0 a1 a2 a3 a4 a5 a6 a7 []), .agg (v8 a8 a9 a10 a11 a12 a13 a14 a15 [])] [] nJ x :=
 FD.semA nJ Dx Try.func79 (fuel := 60) (by kernel_rfl) (by kernel_rfl)
  (by kernel_rfl) (Eq.trans (by kernel_rfl) h)
def xb : HK where
 call := fun args σ k => match args with
  | [.agg [.int .u64 a0, .int .u64 a1, .int .u64 a2, .int .u64 a3, .int .u64 a4, .int .u64 a5, .int .u64 a6, .int .u64 a7], .agg [.int .u64 a8, .int .u64 a9, .int .u64 a10, .int .u64 a11, .int .u64 a12, .int .u64 a13, .int .u64 a14, .int .u64 a15]] => Option.bind (iI a0 a1 a2 a3 a4 a5 a6 a7 a8 a9 a10 a11 a12 a13 a14 a15) fun y => az σ 0 (nJ.val y) (nJ.aJ y) k
  | _ => none
 nat := fun args σ k => by
  repeat' split
  all_goals simp only [av, aj, UB, UA, az, Uz]
 pure := true
 pok := fun _ args σ r σ' h => by
  split at h
  ·exact bo h (fun y => rfl) (fun y f => rfl)
  ·cases h
theorem HG : aU U3 79 xb := by
 intro args σ r σ' h
 simp only [xb] at h
 split at h
 ·rename_i a0 a1 a2 a3 a4 a5 a6 a7 a8 a9 a10 a11 a12 a13 a14 a15
  obtain ⟨y, hy, h⟩ := bE_ h
  exact lifted (xs := []) (ls := []) (cargs := [.agg (v8 a0 a1 a2 a3 a4 a5 a6 a7 []), .agg (v8 a8 a9 a10 a11 a12 a13 a14 a15 [])]) (bA.of trivial) rfl (F4 a0 a1 a2 a3 a4 a5 a6 a7 a8 a9 a10 a11 a12 a13 a14 a15 y hy) rfl rfl rfl rfl h
 ·cases h
end Go.Ev
