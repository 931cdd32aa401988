import Derived.Test.YtcgajpdhbanhaaaGreatWdA
import Derived.Test.YtcgajpdhbanhaaaGreatWideA
import Derived.Test.YtcgajpdhbanhaaaGreatWideB
import Derived.Test.YtcgajpdhbanhaaaGreatWideC
namespace Go.Ev
set_option linter.unusedVariables false
set_option linter.unusedSimpArgs false
set_option maxRecDepth 100000
theorem wrapu (a : Int) : IntKind.wrap .u64 a = a % 18446744073709551616 := by
  simp [IntKind.wrap, IntKind.signed, IntKind.bits]
theorem wrapi {a : Int} (h : -9223372036854775808 ≤ a ∧ a < 9223372036854775808) : IntKind.wrap .i64 a = a := by
  simp [IntKind.wrap, IntKind.signed, IntKind.bits]
  omega
theorem ishr63u (a : Int) : ishr .u64 a 63 = a / 9223372036854775808 := by
  unfold ishr
  rw [Int.fdiv_eq_ediv_of_nonneg _ (by decide)]
  rfl
theorem ishr63i (a : Int) : ishr .i64 a 63 = a / 9223372036854775808 := by
  unfold ishr
  rw [Int.fdiv_eq_ediv_of_nonneg _ (by decide)]
  rfl
theorem dv_neg : ∀ (n : Nat) {z : Int}, -18446744073709551616 ≤ z ∧ z < 0 → n ≠ 0 → dv n z = -1
  | 0, z, _, h => absurd rfl h
  | 1, z, h, _ => by show z / _ = -1; omega
  | n + 2, z, h, _ => by show dv (n + 1) z / _ = -1; rw [dv_neg (n + 1) h (by omega)]; rfl
theorem dv_pos : ∀ (n : Nat) {z : Int}, 0 ≤ z ∧ z < 18446744073709551616 → n ≠ 0 → dv n z = 0
  | 0, z, _, h => absurd rfl h
  | 1, z, h, _ => by show z / _ = 0; omega
  | n + 2, z, h, _ => by show dv (n + 1) z / _ = 0; rw [dv_pos (n + 1) h (by omega)]; rfl
theorem f_Of {x : Int} (h : rng63 x = true) : f_wide_Of x = some (t8 x) := by
  have hr : -9223372036854775808 ≤ x ∧ x < 9223372036854775808 := by simpa [rng63] using h
  unfold f_wide_Of t8
  rw [ishr63i]
  simp only [wrapu]
  have h0 : limb x 0 = x % 18446744073709551616 := rfl
  by_cases hx : x < 0
  · have e : x / 9223372036854775808 = -1 := by omega
    have l : ∀ n, n ≠ 0 → limb x n = -1 % 18446744073709551616 := fun n hn => by unfold limb; rw [dv_neg n ⟨by omega, hx⟩ hn]
    rw [e, h0, l 1 (by decide), l 2 (by decide), l 3 (by decide), l 4 (by decide), l 5 (by decide), l 6 (by decide), l 7 (by decide)]
  · have e : x / 9223372036854775808 = 0 := by omega
    have l : ∀ n, n ≠ 0 → limb x n = 0 % 18446744073709551616 := fun n hn => by unfold limb; rw [dv_pos n ⟨by omega, by omega⟩ hn]
    rw [e, h0, l 1 (by decide), l 2 (by decide), l 3 (by decide), l 4 (by decide), l 5 (by decide), l 6 (by decide), l 7 (by decide)]
def negB (z : Int) : Bool := decide (9223372036854775808 ≤ limb z 7)
theorem f_negB (z : Int) : f_wide_negative (limb z 0) (limb z 1) (limb z 2) (limb z 3) (limb z 4) (limb z 5) (limb z 6) (limb z 7) = some (negB z) := by
  unfold f_wide_negative negB
  rw [ishr63u]
  have := limb_range z 7
  by_cases h : 9223372036854775808 ≤ limb z 7
  · have e : limb z 7 / 9223372036854775808 = 1 := by omega
    rw [e, decide_eq_true h]; rfl
  · have e : limb z 7 / 9223372036854775808 = 0 := by omega
    rw [e, decide_eq_false h]; rfl
theorem limb7 (z : Int) : limb z 7 = z / 18446744073709551616 / 18446744073709551616 / 18446744073709551616 / 18446744073709551616 / 18446744073709551616 / 18446744073709551616 / 18446744073709551616 % 18446744073709551616 := rfl
theorem negB_fit {z : Int} (h : fit z) : negB z = decide (z < 0) := by
  have e := limb7 z
  unfold fit at h
  unfold negB
  by_cases hz : z < 0
  · have : 9223372036854775808 ≤ limb z 7 := by omega
    rw [decide_eq_true hz, decide_eq_true this]
  · have : ¬ 9223372036854775808 ≤ limb z 7 := by omega
    rw [decide_eq_false hz, decide_eq_false this]
theorem negB_hi {z : Int} (h : ¬ fit z) (h0 : 0 ≤ z) (h1 : z < 13407807929942597099574024998205846127479365820592393377723561443721764030073546976801874298166903427690031858186486050853753882811946569946433649006084096) : negB z = true := by
  have e := limb7 z
  unfold fit at h
  unfold negB
  have : 9223372036854775808 ≤ limb z 7 := by omega
  rw [decide_eq_true this]
theorem negB_lo {z : Int} (h : ¬ fit z) (h0 : z < 0) (h1 : -13407807929942597099574024998205846127479365820592393377723561443721764030073546976801874298166903427690031858186486050853753882811946569946433649006084096 ≤ z) : negB z = false := by
  have e := limb7 z
  unfold fit at h
  unfold negB
  have : ¬ 9223372036854775808 ≤ limb z 7 := by omega
  rw [decide_eq_false this]
theorem add_step {X Y S c : Int} (hS : S = X + Y + c) (hc : 0 ≤ c ∧ c ≤ 1) : ∃ d, (0 ≤ d ∧ d ≤ 1) ∧ add64 (X % 18446744073709551616) (Y % 18446744073709551616) c = some (S % 18446744073709551616, d) ∧
    S / 18446744073709551616 = X / 18446744073709551616 + Y / 18446744073709551616 + d := by
  refine ⟨(X % 18446744073709551616 + Y % 18446744073709551616 + c) / 18446744073709551616, by omega, ?_, by omega⟩
  have h : (decide (0 ≤ X % 18446744073709551616) && decide (0 ≤ Y % 18446744073709551616) && decide (0 ≤ c) && decide (c ≤ 1)) = true := by
    simp only [Bool.and_eq_true, decide_eq_true_eq]; omega
  have e : (X % 18446744073709551616 + Y % 18446744073709551616 + c) % 18446744073709551616 = S % 18446744073709551616 := by omega
  unfold add64 need
  rw [h, e]
theorem f_plus (x y c : Int) (hc : 0 ≤ c ∧ c ≤ 1) : f_wide_plus (limb x 0) (limb x 1) (limb x 2) (limb x 3) (limb x 4) (limb x 5) (limb x 6) (limb x 7) (limb y 0) (limb y 1) (limb y 2) (limb y 3) (limb y 4) (limb y 5) (limb y 6) (limb y 7) c = some (t8 (x + y + c)) := by
  obtain ⟨c1, h1, e1, q1⟩ := add_step (X := x) (Y := y) (S := x + y + c) rfl hc
  obtain ⟨c2, h2, e2, q2⟩ := add_step q1 h1
  obtain ⟨c3, h3, e3, q3⟩ := add_step q2 h2
  obtain ⟨c4, h4, e4, q4⟩ := add_step q3 h3
  obtain ⟨c5, h5, e5, q5⟩ := add_step q4 h4
  obtain ⟨c6, h6, e6, q6⟩ := add_step q5 h5
  obtain ⟨c7, h7, e7, q7⟩ := add_step q6 h6
  obtain ⟨c8, h8, e8, q8⟩ := add_step q7 h7
  simp only [f_wide_plus, limb, dv, e1, e2, e3, e4, e5, e6, e7, e8, Option.bind_some, t8]
theorem ixor_not {a : Int} (h : 0 ≤ a ∧ a < 18446744073709551616) : ixor .u64 18446744073709551615 a = 18446744073709551615 - a := by
  unfold ixor
  rw [wrapu]
  obtain ⟨n, rfl⟩ := Int.eq_ofNat_of_zero_le h.1
  have hn : n < 2 ^ 64 := by omega
  have e1 : BitVec.ofInt (IntKind.bits .u64) 18446744073709551615 = BitVec.allOnes 64 := by
    show BitVec.ofInt 64 18446744073709551615 = _
    decide
  have e2 : BitVec.ofInt (IntKind.bits .u64) (n : Int) = BitVec.ofNat 64 n := by
    simp [IntKind.bits, BitVec.ofInt_natCast]
  rw [e1, e2]
  have e3 : BitVec.allOnes 64 ^^^ BitVec.ofNat 64 n = ~~~ (BitVec.ofNat 64 n) := by
    rw [BitVec.not_def]
  have e4 : (BitVec.allOnes 64 ^^^ BitVec.ofNat 64 n).toNat = 2 ^ 64 - 1 - n := by
    rw [e3, BitVec.toNat_not, BitVec.toNat_ofNat, Nat.mod_eq_of_lt hn]
  have e5 : ((BitVec.allOnes 64 ^^^ BitVec.ofNat 64 n).toNat : Int) = 18446744073709551615 - n := by
    rw [e4]; omega
  refine Eq.trans (congrArg (fun z : Int => z % 18446744073709551616) e5) ?_
  show (18446744073709551615 - (n : Int)) % 18446744073709551616 = _
  omega
theorem dv_not : ∀ (n : Nat) (z : Int), dv n (-z - 1) = -(dv n z) - 1
  | 0, z => rfl
  | n + 1, z => by show dv n (-z - 1) / _ = -(dv n z / _) - 1; rw [dv_not n z]; omega
theorem limb_not (z : Int) (n : Nat) : limb (-z - 1) n = 18446744073709551615 - limb z n := by
  unfold limb; rw [dv_not]; omega
theorem f_not (z : Int) : f_wide_not (limb z 0) (limb z 1) (limb z 2) (limb z 3) (limb z 4) (limb z 5) (limb z 6) (limb z 7) = some (t8 (-z - 1)) := by
  unfold f_wide_not t8
  simp only [ixor_not (limb_range z _), limb_not]
theorem f_minus (z : Int) : f_wide_minus (limb z 0) (limb z 1) (limb z 2) (limb z 3) (limb z 4) (limb z 5) (limb z 6) (limb z 7) = some (t8 (-z)) := by
  have h := f_plus (-z - 1) 0 1 ⟨by decide, by decide⟩
  simp only [limb0] at h
  have e : -z - 1 + 0 + 1 = -z := by omega
  rw [e] at h
  simp only [f_wide_minus, f_not, Option.bind_some, t8, h]
theorem f_size {z : Int} (h : fit z) : f_wide_size (limb z 0) (limb z 1) (limb z 2) (limb z 3) (limb z 4) (limb z 5) (limb z 6) (limb z 7) = some (t8 (z.natAbs : Int)) := by
  simp only [f_wide_size, f_negB, negB_fit h, Option.bind_some, f_minus]
  by_cases hz : z < 0
  · have e : (z.natAbs : Int) = -z := by omega
    rw [decide_eq_true hz, e]; rfl
  · have e : (z.natAbs : Int) = z := by omega
    rw [decide_eq_false hz, e]; rfl
theorem f_Add {x y : Int} (hx : fit x) (hy : fit y) :
    f_wide_Add (limb x 0) (limb x 1) (limb x 2) (limb x 3) (limb x 4) (limb x 5) (limb x 6) (limb x 7) (limb y 0) (limb y 1) (limb y 2) (limb y 3) (limb y 4) (limb y 5) (limb y 6) (limb y 7) =
      some (t9 (fitR (x + y)).1 (fitR (x + y)).2) := by
  simp only [f_wide_Add, f_plus x y 0 ⟨by decide, by decide⟩, Int.add_zero, Option.bind_some, t8, f_negB, negB_fit hx, negB_fit hy]
  by_cases hs : fit (x + y)
  · rw [negB_fit hs]
    unfold fitR
    rw [fitB_iff.2 hs]
    by_cases h1 : x < 0 <;> by_cases h2 : y < 0 <;> by_cases h3 : x + y < 0 <;> simp [h1, h2, h3, t9] <;> omega
  · unfold fitR
    rw [fitB_false.2 hs]
    simp only [t9, limb0]
    by_cases h1 : x + y < 0
    · rw [negB_lo hs h1 (by unfold fit at hx hy; omega)]
      have : x < 0 ∧ y < 0 := by unfold fit at hx hy hs; omega
      simp [this, limb0]
    · rw [negB_hi hs (by omega) (by unfold fit at hx hy; omega)]
      have : ¬ x < 0 ∧ ¬ y < 0 := by unfold fit at hx hy hs; omega
      simp [this, limb0]
theorem fit0 : fit 0 := by unfold fit; omega
theorem eqL_iff {x y : Int} (hx : fit x) (hy : fit y) : (limb x 0 == limb y 0 && (limb x 1 == limb y 1 && (limb x 2 == limb y 2 && (limb x 3 == limb y 3 && (limb x 4 == limb y 4 && (limb x 5 == limb y 5 && (limb x 6 == limb y 6 && (limb x 7 == limb y 7 && true)))))))) = decide (x = y) := by
  by_cases h : x = y
  · subst h; simp
  · rw [decide_eq_false h]
    apply Bool.eq_false_iff.2
    intro q
    simp only [Bool.and_eq_true, beq_iff_eq, Bool.and_true] at q
    obtain ⟨h0, h1, h2, h3, h4, h5, h6, h7⟩ := q
    apply h
    rw [← num_limb hx, ← num_limb hy, h0, h1, h2, h3, h4, h5, h6, h7]
theorem f_Sign {x : Int} (hx : fit x) : f_wide_Sign (limb x 0) (limb x 1) (limb x 2) (limb x 3) (limb x 4) (limb x 5) (limb x 6) (limb x 7) = some (sgn x) := by
  have h := eqL_iff hx fit0
  simp only [limb0] at h
  simp only [f_wide_Sign, f_negB, negB_fit hx, Option.bind_some, h, sgn]
  by_cases h1 : x < 0 <;> by_cases h2 : x = 0 <;> simp [h1, h2]
theorem dec0 (i : Nat) : decide (0 ≤ (i : Int)) = true := by simp
theorem dec0' (i : Nat) : decide ((i : Int) ≥ 0) = true := by simp
theorem dec8 {i : Nat} (h : i < 8) : decide ((i : Int) < ((8 : Nat) : Int)) = true := decide_eq_true (by omega)
theorem lv_split : ∀ (i : Nat) (l : List Int), lv l = lv (l.take i) + 18446744073709551616 ^ i * lv (l.drop i)
  | 0, l => by simp [lv]
  | i + 1, [] => by simp [lv]
  | i + 1, a :: r => by
    have ih := lv_split i r
    simp only [List.take_succ_cons, List.drop_succ_cons, lv, Int.pow_succ]
    rw [ih, Int.mul_add, Int.mul_comm ((18446744073709551616 : Int) ^ i) 18446744073709551616, Int.mul_assoc]
    omega
theorem rL.take {l : List Int} (h : rL l) (i : Nat) : rL (l.take i) := fun x hx => h x (List.mem_of_mem_take hx)
theorem rL.drop {l : List Int} (h : rL l) (i : Nat) : rL (l.drop i) := fun x hx => h x (List.mem_of_mem_drop hx)
theorem drop_at {l : List Int} {i : Nat} (h : i < l.length) : l.drop i = l.getD i 0 :: l.drop (i + 1) := by
  rw [List.drop_eq_getElem_cons h, List.getD_eq_getElem?_getD, List.getElem?_eq_getElem h]; rfl
theorem mpos (i : Nat) : (0 : Int) < 18446744073709551616 ^ i := Int.pow_pos (by decide)
theorem lv_lt {l m : List Int} (h1 : rL l) (h2 : rL m) {i : Nat} (hl : i < l.length) (hm : i < m.length) (hd : l.drop (i + 1) = m.drop (i + 1)) (hi : l.getD i 0 < m.getD i 0) : lv l < lv m := by
  rw [lv_split i l, lv_split i m, drop_at hl, drop_at hm, hd]
  simp only [lv, Int.mul_add]
  have a1 := lv_range (h1.take i)
  have a2 := lv_range (h2.take i)
  rw [List.length_take, Nat.min_eq_left (by omega)] at a1 a2
  have p := mpos i
  generalize (18446744073709551616 : Int) ^ i = q at *
  have : q * (l.getD i 0 + 1) ≤ q * m.getD i 0 := Int.mul_le_mul_of_nonneg_left (by omega) (by omega)
  rw [Int.mul_add] at this
  omega
theorem above_loop {l m : List Int} (h1 : rL l) (h2 : rL m) (hl : l.length = 8) (hm : m.length = 8) (p q : Nat) :
    ∃ e, f_wide_above_L2 (LL l, p, LL m, q) 7 = some e ∧ Sum.elim id (fun _ => 0) e = sgn (lv l - lv m) := by
  refine loop_rule (step := f_wide_above_L2s (LL l, p, LL m, q)) (fun v => ∃ i : Nat, v = (i : Int) - 1 ∧ i ≤ 8 ∧ l.drop i = m.drop i) (fun v => (v + 1).toNat) _ ?_ (by decide)
    ⟨8, rfl, Nat.le_refl _, by rw [List.drop_eq_nil_of_le (by omega), List.drop_eq_nil_of_le (by omega)]⟩
  rintro v ⟨i, rfl, hi, hd⟩
  cases i with
  | zero =>
    refine .inr ⟨.inr (), rfl, ?_⟩
    simp only [List.drop_zero] at hd
    rw [hd, Int.sub_self]; rfl
  | succ i =>
    have e : ((i + 1 : Nat) : Int) - 1 = (i : Int) := by omega
    rw [e]
    have hi8 : i < 8 := by omega
    have h3 : IntKind.wrap .i64 ((i : Int) - 1) = (i : Int) - 1 := wrapi (by omega)
    simp only [f_wide_above_L2s, f_wide_above_L2k, dec0, dec0', dec8 hi8, h3, cond_true, need_true, Bool.and_self, Int.toNat_natCast, Nat.mul_one, Nat.zero_add, Nat.add_zero, row1_LL, geti_LL, hl, hm, decide_eq_true hi8]
    by_cases hne : l.getD i 0 = m.getD i 0
    · refine .inl ⟨(i : Int) - 1, ?_, ⟨i, rfl, by omega, ?_⟩, by omega⟩
      · rw [hne]; simp
      · rw [drop_at (by omega), drop_at (l := m) (by omega), hne, hd]
    · have hb : (l.getD i 0 != m.getD i 0) = true := by simpa using hne
      rw [hb]
      by_cases hlt : l.getD i 0 < m.getD i 0
      · refine .inr ⟨.inl (-1), by rw [decide_eq_true hlt]; rfl, ?_⟩
        have := lv_lt h1 h2 (by omega) (by omega) hd hlt
        have a : lv l - lv m < 0 := by omega
        simp [sgn, Sum.elim, a]
      · refine .inr ⟨.inl 1, by rw [decide_eq_false hlt]; rfl, ?_⟩
        have := lv_lt h2 h1 (by omega) (by omega) hd.symm (by omega)
        have a : ¬ lv l - lv m < 0 := by omega
        have b : ¬ lv l - lv m = 0 := by omega
        simp [sgn, Sum.elim, a, b]
def l8 (z : Int) : List Int := [limb z 0, limb z 1, limb z 2, limb z 3, limb z 4, limb z 5, limb z 6, limb z 7]
theorem l8_len (z : Int) : (l8 z).length = 8 := rfl
theorem l8_rL (z : Int) : rL (l8 z) := by
  intro x hx
  simp only [l8, List.mem_cons, List.not_mem_nil, or_false] at hx
  rcases hx with h | h | h | h | h | h | h | h <;> rw [h] <;> exact limb_range _ _
theorem l8_lv {z : Int} (h0 : 0 ≤ z) (h1 : z < 13407807929942597099574024998205846127479365820592393377723561443721764030073546976801874298166903427690031858186486050853753882811946569946433649006084096) : lv (l8 z) = z := by
  have e := unum_limb z
  have e8 : dv 8 z = 0 := by
    have : dv 8 z = z / 18446744073709551616 / 18446744073709551616 / 18446744073709551616 / 18446744073709551616 / 18446744073709551616 / 18446744073709551616 / 18446744073709551616 / 18446744073709551616 := rfl
    omega
  rw [e8] at e
  rw [l8, lv8]; omega
theorem l8_of {l : List Int} (h : rL l) (hl : l.length = 8) : l = l8 (lv l) := by
  match l, hl with
  | [a, b, c, d, e, f, g, k], _ =>
    rw [lv8]
    have h0 := h a (by simp)
    have h1 := h b (by simp)
    have h2 := h c (by simp)
    have h3 := h d (by simp)
    have h4 := h e (by simp)
    have h5 := h f (by simp)
    have h6 := h g (by simp)
    have h7 := h k (by simp)
    have := limb_unum (k := 0) (a := a) (b := b) (c := c) (d := d) (e := e) (f := f) (g := g) (h := k) (by simp [ok8, rng, *]) (unum a b c d e f g k) (by omega)
    obtain ⟨q0, q1, q2, q3, q4, q5, q6, q7, _⟩ := this
    rw [l8, q0, q1, q2, q3, q4, q5, q6, q7]
theorem lv8_range {l : List Int} (h : rL l) (hl : l.length = 8) : 0 ≤ lv l ∧ lv l < 13407807929942597099574024998205846127479365820592393377723561443721764030073546976801874298166903427690031858186486050853753882811946569946433649006084096 := by
  have := lv_range h
  rw [hl] at this
  exact this
def ufit (z : Int) : Prop := 0 ≤ z ∧ z < 13407807929942597099574024998205846127479365820592393377723561443721764030073546976801874298166903427690031858186486050853753882811946569946433649006084096
theorem f_above {x y : Int} (hx : ufit x) (hy : ufit y) : f_wide_above (limb x 0) (limb x 1) (limb x 2) (limb x 3) (limb x 4) (limb x 5) (limb x 6) (limb x 7) (limb y 0) (limb y 1) (limb y 2) (limb y 3) (limb y 4) (limb y 5) (limb y 6) (limb y 7) = some (sgn (x - y)) := by
  obtain ⟨e, h1, h2⟩ := above_loop (l8_rL x) (l8_rL y) rfl rfl 1 1
  rw [l8_lv hx.1 hx.2, l8_lv hy.1 hy.2] at h2
  unfold f_wide_above
  simp only [mk_LL]
  rw [show [limb x 0, limb x 1, limb x 2, limb x 3, limb x 4, limb x 5, limb x 6, limb x 7] = l8 x from rfl, show [limb y 0, limb y 1, limb y 2, limb y 3, limb y 4, limb y 5, limb y 6, limb y 7] = l8 y from rfl, h1, Option.bind_some]
  rw [← h2]
  cases e <;> rfl
theorem limb_mod (z k : Int) : ∀ n, n < 8 → limb (z + 13407807929942597099574024998205846127479365820592393377723561443721764030073546976801874298166903427690031858186486050853753882811946569946433649006084096 * k) n = limb z n := by
  intro n hn
  have e := unum_limb z
  have := limb_unum (k := dv 8 z + k) (ok8_limb z) (z + 13407807929942597099574024998205846127479365820592393377723561443721764030073546976801874298166903427690031858186486050853753882811946569946433649006084096 * k) (by rw [Int.mul_add]; omega)
  obtain ⟨q0, q1, q2, q3, q4, q5, q6, q7, _⟩ := this
  match n, hn with
  | 0, _ => exact q0
  | 1, _ => exact q1
  | 2, _ => exact q2
  | 3, _ => exact q3
  | 4, _ => exact q4
  | 5, _ => exact q5
  | 6, _ => exact q6
  | 7, _ => exact q7
theorem f_Cmp {x y : Int} (hx : fit x) (hy : fit y) : f_wide_Cmp (limb x 0) (limb x 1) (limb x 2) (limb x 3) (limb x 4) (limb x 5) (limb x 6) (limb x 7) (limb y 0) (limb y 1) (limb y 2) (limb y 3) (limb y 4) (limb y 5) (limb y 6) (limb y 7) = some (sgn (x - y)) := by
  simp only [f_wide_Cmp, f_negB, negB_fit hx, negB_fit hy, Option.bind_some]
  by_cases h1 : x < 0 <;> by_cases h2 : y < 0
  · have ex : ∀ n, n < 8 → limb x n = limb (x + 13407807929942597099574024998205846127479365820592393377723561443721764030073546976801874298166903427690031858186486050853753882811946569946433649006084096 * 1) n := fun n hn => (limb_mod x 1 n hn).symm
    have ey : ∀ n, n < 8 → limb y n = limb (y + 13407807929942597099574024998205846127479365820592393377723561443721764030073546976801874298166903427690031858186486050853753882811946569946433649006084096 * 1) n := fun n hn => (limb_mod y 1 n hn).symm
    have h := f_above (x := x + 13407807929942597099574024998205846127479365820592393377723561443721764030073546976801874298166903427690031858186486050853753882811946569946433649006084096 * 1) (y := y + 13407807929942597099574024998205846127479365820592393377723561443721764030073546976801874298166903427690031858186486050853753882811946569946433649006084096 * 1)
      (by unfold fit at hx; unfold ufit; omega) (by unfold fit at hy; unfold ufit; omega)
    simp only [limb_mod x 1 _ (show 0 < 8 by omega), limb_mod x 1 _ (show 1 < 8 by omega), limb_mod x 1 _ (show 2 < 8 by omega), limb_mod x 1 _ (show 3 < 8 by omega), limb_mod x 1 _ (show 4 < 8 by omega), limb_mod x 1 _ (show 5 < 8 by omega), limb_mod x 1 _ (show 6 < 8 by omega), limb_mod x 1 _ (show 7 < 8 by omega),
      limb_mod y 1 _ (show 0 < 8 by omega), limb_mod y 1 _ (show 1 < 8 by omega), limb_mod y 1 _ (show 2 < 8 by omega), limb_mod y 1 _ (show 3 < 8 by omega), limb_mod y 1 _ (show 4 < 8 by omega), limb_mod y 1 _ (show 5 < 8 by omega), limb_mod y 1 _ (show 6 < 8 by omega), limb_mod y 1 _ (show 7 < 8 by omega)] at h
    simp only [h1, h2, decide_true, cond_true, h, Option.bind_some]
    congr 1
    congr 1
    omega
  · simp only [h1, h2, decide_true, decide_false, cond_true, cond_false]
    have : x - y < 0 := by omega
    simp [sgn, this]
  · simp only [h1, h2, decide_true, decide_false, cond_true, cond_false]
    have a : ¬ x - y < 0 := by omega
    have b : ¬ x - y = 0 := by omega
    simp [sgn, a, b]
  · have h := f_above (x := x) (y := y) (by unfold fit at hx; unfold ufit; omega) (by unfold fit at hy; unfold ufit; omega)
    simp only [h1, h2, decide_false, cond_false, h, Option.bind_some]
set_option linter.unusedVariables false
set_option linter.unusedSimpArgs false
set_option maxRecDepth 100000
def len8 : ByteArray := ⟨#[0, 1, 2, 2, 3, 3, 3, 3, 4, 4, 4, 4, 4, 4, 4, 4, 5, 5, 5, 5, 5, 5, 5, 5, 5, 5, 5, 5, 5, 5, 5, 5, 6, 6, 6, 6, 6, 6, 6, 6, 6, 6, 6, 6, 6, 6, 6, 6, 6, 6, 6, 6, 6, 6, 6, 6, 6, 6, 6, 6, 6, 6, 6, 6, 7, 7, 7, 7, 7, 7, 7, 7, 7, 7, 7, 7, 7, 7, 7, 7, 7, 7, 7, 7, 7, 7, 7, 7, 7, 7, 7, 7, 7, 7, 7, 7, 7, 7, 7, 7, 7, 7, 7, 7, 7, 7, 7, 7, 7, 7, 7, 7, 7, 7, 7, 7, 7, 7, 7, 7, 7, 7, 7, 7, 7, 7, 7, 7, 8, 8, 8, 8, 8, 8, 8, 8, 8, 8, 8, 8, 8, 8, 8, 8, 8, 8, 8, 8, 8, 8, 8, 8, 8, 8, 8, 8, 8, 8, 8, 8, 8, 8, 8, 8, 8, 8, 8, 8, 8, 8, 8, 8, 8, 8, 8, 8, 8, 8, 8, 8, 8, 8, 8, 8, 8, 8, 8, 8, 8, 8, 8, 8, 8, 8, 8, 8, 8, 8, 8, 8, 8, 8, 8, 8, 8, 8, 8, 8, 8, 8, 8, 8, 8, 8, 8, 8, 8, 8, 8, 8, 8, 8, 8, 8, 8, 8, 8, 8, 8, 8, 8, 8, 8, 8, 8, 8, 8, 8, 8, 8, 8, 8, 8, 8, 8, 8, 8, 8, 8, 8, 8, 8, 8, 8, 8, 8]⟩
def len64F (T : ByteArray) (a0 : Int) : Option Int :=
  (cond (decide (a0 ≥ 4294967296)) (cond (decide ((ishr .u64 a0 32) ≥ 65536)) (cond (decide ((ishr .u64 (ishr .u64 a0 32) 16) ≥ 256)) (need (decide (0 ≤ (IntKind.wrap .u8 (ishr .u64 (ishr .u64 (ishr .u64 a0 32) 16) 8))) && decide ((IntKind.wrap .u8 (ishr .u64 (ishr .u64 (ishr .u64 a0 32) 16) 8)) < ((ByteArray.size T : Nat) : Int))) (some (IntKind.wrap .i64 (56 + (IntKind.wrap .i64 (byteAt T (Int.toNat (IntKind.wrap .u8 (ishr .u64 (ishr .u64 (ishr .u64 a0 32) 16) 8))))))))) (need (decide (0 ≤ (IntKind.wrap .u8 (ishr .u64 (ishr .u64 a0 32) 16))) && decide ((IntKind.wrap .u8 (ishr .u64 (ishr .u64 a0 32) 16)) < ((ByteArray.size T : Nat) : Int))) (some (IntKind.wrap .i64 (48 + (IntKind.wrap .i64 (byteAt T (Int.toNat (IntKind.wrap .u8 (ishr .u64 (ishr .u64 a0 32) 16)))))))))) (cond (decide ((ishr .u64 a0 32) ≥ 256)) (need (decide (0 ≤ (IntKind.wrap .u8 (ishr .u64 (ishr .u64 a0 32) 8))) && decide ((IntKind.wrap .u8 (ishr .u64 (ishr .u64 a0 32) 8)) < ((ByteArray.size T : Nat) : Int))) (some (IntKind.wrap .i64 (40 + (IntKind.wrap .i64 (byteAt T (Int.toNat (IntKind.wrap .u8 (ishr .u64 (ishr .u64 a0 32) 8))))))))) (need (decide (0 ≤ (IntKind.wrap .u8 (ishr .u64 a0 32))) && decide ((IntKind.wrap .u8 (ishr .u64 a0 32)) < ((ByteArray.size T : Nat) : Int))) (some (IntKind.wrap .i64 (32 + (IntKind.wrap .i64 (byteAt T (Int.toNat (IntKind.wrap .u8 (ishr .u64 a0 32))))))))))) (cond (decide (a0 ≥ 65536)) (cond (decide ((ishr .u64 a0 16) ≥ 256)) (need (decide (0 ≤ (IntKind.wrap .u8 (ishr .u64 (ishr .u64 a0 16) 8))) && decide ((IntKind.wrap .u8 (ishr .u64 (ishr .u64 a0 16) 8)) < ((ByteArray.size T : Nat) : Int))) (some (IntKind.wrap .i64 (24 + (IntKind.wrap .i64 (byteAt T (Int.toNat (IntKind.wrap .u8 (ishr .u64 (ishr .u64 a0 16) 8))))))))) (need (decide (0 ≤ (IntKind.wrap .u8 (ishr .u64 a0 16))) && decide ((IntKind.wrap .u8 (ishr .u64 a0 16)) < ((ByteArray.size T : Nat) : Int))) (some (IntKind.wrap .i64 (16 + (IntKind.wrap .i64 (byteAt T (Int.toNat (IntKind.wrap .u8 (ishr .u64 a0 16)))))))))) (cond (decide (a0 ≥ 256)) (need (decide (0 ≤ (IntKind.wrap .u8 (ishr .u64 a0 8))) && decide ((IntKind.wrap .u8 (ishr .u64 a0 8)) < ((ByteArray.size T : Nat) : Int))) (some (IntKind.wrap .i64 (8 + (IntKind.wrap .i64 (byteAt T (Int.toNat (IntKind.wrap .u8 (ishr .u64 a0 8))))))))) (need (decide (0 ≤ (IntKind.wrap .u8 a0)) && decide ((IntKind.wrap .u8 a0) < ((ByteArray.size T : Nat) : Int))) (some (IntKind.wrap .i64 (0 + (IntKind.wrap .i64 (byteAt T (Int.toNat (IntKind.wrap .u8 a0)))))))))))
theorem len64_eq (a : Int) : f_math_bits_Len64 a = len64F len8 a := rfl
theorem len8_tab : ∀ b : Fin 256, byteAt len8 b.val = blen b.val := by decide
theorem len8_size : len8.size = 256 := by decide
theorem ishr_u {a : Int} (k : Nat) (hk : k ≤ 64) : ishr .u64 a (k : Int) = a / ((2 ^ k : Nat) : Int) := by
  unfold ishr
  have e : min (Int.toNat (k : Int)) (IntKind.bits .u64) = k := by simp [IntKind.bits]; omega
  rw [e, Int.fdiv_eq_ediv_of_nonneg]
  · congr 1
  · exact Int.pow_nonneg (by decide)
theorem blen_unique {n k : Nat} (h1 : 2 ^ k ≤ n) (h2 : n < 2 ^ (k + 1)) : blen n = (k + 1 : Nat) := by
  have h0 : n ≠ 0 := by have := Nat.two_pow_pos k; omega
  have e : Nat.log2 n = k := by
    have a : k ≤ Nat.log2 n := (Nat.le_log2 h0).2 h1
    have b : Nat.log2 n < k + 1 := (Nat.log2_lt h0).2 h2
    omega
  unfold blen
  have : Nat.beq n 0 = false := by cases hb : Nat.beq n 0 with
    | false => rfl
    | true => exact absurd (Nat.eq_of_beq_eq_true hb) h0
  rw [this, e]; rfl
theorem blen_pos {n : Nat} (h0 : n ≠ 0) : ∃ k, blen n = (k + 1 : Nat) ∧ 2 ^ k ≤ n ∧ n < 2 ^ (k + 1) :=
  ⟨Nat.log2 n, blen_unique ((Nat.le_log2 h0).1 (Nat.le_refl _)) ((Nat.log2_lt h0).1 (Nat.lt_succ_self _)), (Nat.le_log2 h0).1 (Nat.le_refl _), (Nat.log2_lt h0).1 (Nat.lt_succ_self _)⟩
theorem blen_shift {n b k : Nat} (h0 : b ≠ 0) (h1 : b * 2 ^ k ≤ n) (h2 : n < (b + 1) * 2 ^ k) : blen n = k + blen b := by
  obtain ⟨j, e, h3, h4⟩ := blen_pos h0
  rw [e, blen_unique (n := n) (k := k + j)]
  · omega
  · rw [Nat.pow_add, Nat.mul_comm]
    exact Nat.le_trans (Nat.mul_le_mul_right _ h3) h1
  · have : b + 1 ≤ 2 ^ (j + 1) := h4
    refine Nat.lt_of_lt_of_le h2 (Nat.le_trans (Nat.mul_le_mul_right _ this) ?_)
    rw [← Nat.pow_add]
    exact Nat.le_of_eq (congrArg _ (by omega))
theorem blen_le {n k : Nat} (h : n < 2 ^ k) : 0 ≤ blen n ∧ blen n ≤ k := by
  by_cases h0 : n = 0
  · subst h0; simp [blen]
  · obtain ⟨j, e, h3, h4⟩ := blen_pos h0
    rw [e]
    have : j < k := by
      apply Nat.lt_of_not_le
      intro hk
      have := Nat.pow_le_pow_right (n := 2) (by decide) hk
      omega
    omega
theorem wrap8 {a : Int} (h : 0 ≤ a ∧ a < 256) : IntKind.wrap .u8 a = a := by
  simp [IntKind.wrap, IntKind.signed, IntKind.bits]; omega
theorem len_leaf (c : Int) {b : Int} (hb : 0 ≤ b ∧ b < 256) (hc : 0 ≤ c ∧ c ≤ 56) : need (decide (0 ≤ (IntKind.wrap .u8 b)) && decide ((IntKind.wrap .u8 b) < ((ByteArray.size len8 : Nat) : Int))) (some (IntKind.wrap .i64 (c + (IntKind.wrap .i64 (byteAt len8 (Int.toNat (IntKind.wrap .u8 b))))))) = some (c + blen b.toNat) := by
  have h := len8_tab ⟨b.toNat, by omega⟩
  have hl := blen_le (n := b.toNat) (k := 8) (by omega)
  simp only at h
  rw [wrap8 hb, h, len8_size, wrapi (a := blen b.toNat) (by omega), wrapi (by omega), decide_eq_true (show 0 ≤ b by omega), decide_eq_true (show b < ((256 : Nat) : Int) by omega)]
  rfl
theorem len_leaf0 {b : Int} (hb : 0 ≤ b ∧ b < 256) : need (decide (0 ≤ (IntKind.wrap .u8 b)) && decide ((IntKind.wrap .u8 b) < ((ByteArray.size len8 : Nat) : Int))) (some (IntKind.wrap .i64 (0 + (IntKind.wrap .i64 (byteAt len8 (Int.toNat (IntKind.wrap .u8 b))))))) = some (blen b.toNat) := by
  rw [len_leaf 0 hb (by decide), Int.zero_add]
theorem ishr_lit {a : Int} : ishr .u64 a 32 = a / 4294967296 ∧ ishr .u64 a 16 = a / 65536 ∧ ishr .u64 a 8 = a / 256 :=
  ⟨ishr_u 32 (by decide), ishr_u 16 (by decide), ishr_u 8 (by decide)⟩
theorem blen_sh {a b : Int} (k : Nat) (hb : 0 < b) (h1 : b * ((2 ^ k : Nat) : Int) ≤ a) (h2 : a < (b + 1) * ((2 ^ k : Nat) : Int)) : blen a.toNat = (k : Int) + blen b.toNat := by
  have e1 : ((b.toNat : Nat) : Int) = b := by omega
  have hp : (0 : Int) < ((2 ^ k : Nat) : Int) := by have := Nat.two_pow_pos k; omega
  have ha : 0 ≤ a := Int.le_trans (Int.mul_nonneg (by omega) (by omega)) h1
  have e2 : ((a.toNat : Nat) : Int) = a := by omega
  refine blen_shift (n := a.toNat) (b := b.toNat) (k := k) (by omega) ?_ ?_
  · have : ((b.toNat * 2 ^ k : Nat) : Int) ≤ ((a.toNat : Nat) : Int) := by rw [Int.natCast_mul, e1, e2]; exact h1
    omega
  · have : ((a.toNat : Nat) : Int) < (((b.toNat + 1) * 2 ^ k : Nat) : Int) := by rw [Int.natCast_mul, e2]; push_cast; rw [e1]; push_cast at h2; exact h2
    omega
theorem f_Len64 {a : Int} (h : 0 ≤ a ∧ a < 18446744073709551616) : f_math_bits_Len64 a = some (blen a.toNat) := by
  rw [len64_eq]
  unfold len64F
  simp only [ishr_lit.1, ishr_lit.2.1, ishr_lit.2.2]
  by_cases h1 : a ≥ 4294967296
  · rw [decide_eq_true h1, cond_true]
    by_cases h2 : a / 4294967296 ≥ 65536
    · rw [decide_eq_true h2, cond_true]
      by_cases h3 : a / 4294967296 / 65536 ≥ 256
      · rw [decide_eq_true h3, cond_true, len_leaf 56 (by omega) (by decide), blen_sh (a := a) (b := a / 4294967296 / 65536 / 256) 56 (by omega) (by omega) (by omega)]; rfl
      · rw [decide_eq_false h3, cond_false, len_leaf 48 (by omega) (by decide), blen_sh (a := a) (b := a / 4294967296 / 65536) 48 (by omega) (by omega) (by omega)]; rfl
    · rw [decide_eq_false h2, cond_false]
      by_cases h3 : a / 4294967296 ≥ 256
      · rw [decide_eq_true h3, cond_true, len_leaf 40 (by omega) (by decide), blen_sh (a := a) (b := a / 4294967296 / 256) 40 (by omega) (by omega) (by omega)]; rfl
      · rw [decide_eq_false h3, cond_false, len_leaf 32 (by omega) (by decide), blen_sh (a := a) (b := a / 4294967296) 32 (by omega) (by omega) (by omega)]; rfl
  · rw [decide_eq_false h1, cond_false]
    by_cases h2 : a ≥ 65536
    · rw [decide_eq_true h2, cond_true]
      by_cases h3 : a / 65536 ≥ 256
      · rw [decide_eq_true h3, cond_true, len_leaf 24 (by omega) (by decide), blen_sh (a := a) (b := a / 65536 / 256) 24 (by omega) (by omega) (by omega)]; rfl
      · rw [decide_eq_false h3, cond_false, len_leaf 16 (by omega) (by decide), blen_sh (a := a) (b := a / 65536) 16 (by omega) (by omega) (by omega)]; rfl
    · rw [decide_eq_false h2, cond_false]
      by_cases h3 : a ≥ 256
      · rw [decide_eq_true h3, cond_true, len_leaf 8 (by omega) (by decide), blen_sh (a := a) (b := a / 256) 8 (by omega) (by omega) (by omega)]; rfl
      · rw [decide_eq_false h3, cond_false, len_leaf0 (by omega)]
theorem m2 (i : Nat) : (18446744073709551616 : Int) ^ i = ((2 ^ (64 * i) : Nat) : Int) := by
  rw [Nat.pow_mul, Int.natCast_pow]; rfl
theorem length_loop {l : List Int} (h1 : rL l) (hl : l.length = 8) (p : Nat) :
    ∃ e, f_wide_length_L2 (LL l, p) 7 = some e ∧ Sum.elim id (fun _ => 0) e = blen (lv l).toNat := by
  refine loop_rule (step := f_wide_length_L2s (LL l, p)) (fun v => ∃ i : Nat, v = (i : Int) - 1 ∧ i ≤ 8 ∧ lv (l.drop i) = 0) (fun v => (v + 1).toNat) _ ?_ (by decide)
    ⟨8, rfl, Nat.le_refl _, by rw [List.drop_eq_nil_of_le (by omega)]; rfl⟩
  rintro v ⟨i, rfl, hi, hd⟩
  cases i with
  | zero =>
    refine .inr ⟨.inr (), rfl, ?_⟩
    simp only [List.drop_zero] at hd
    rw [hd]; rfl
  | succ i =>
    have e : ((i + 1 : Nat) : Int) - 1 = (i : Int) := by omega
    rw [e]
    have hi8 : i < 8 := by omega
    have h3 : IntKind.wrap .i64 ((i : Int) - 1) = (i : Int) - 1 := wrapi (by omega)
    have hg := h1.get i
    have hb := blen_le (n := (l.getD i 0).toNat) (k := 64) (by omega)
    have h4 : IntKind.wrap .i64 (64 * (i : Int)) = 64 * (i : Int) := wrapi (by omega)
    have h5 : IntKind.wrap .i64 (64 * (i : Int) + blen (l.getD i 0).toNat) = 64 * (i : Int) + blen (l.getD i 0).toNat := wrapi (by omega)
    simp only [f_wide_length_L2s, f_wide_length_L2k, dec0, dec0', dec8 hi8, h3, cond_true, need_true, Bool.and_self, Int.toNat_natCast, Nat.mul_one, Nat.zero_add, Nat.add_zero, row1_LL, geti_LL, hl, decide_eq_true hi8, f_Len64 hg, Option.bind_some, h4, h5]
    by_cases hne : l.getD i 0 = 0
    · refine .inl ⟨(i : Int) - 1, ?_, ⟨i, rfl, by omega, ?_⟩, by omega⟩
      · rw [hne]; rfl
      · rw [drop_at (by omega), hne, lv, hd]; rfl
    · have hb' : (l.getD i 0 != 0) = true := by simpa using hne
      refine .inr ⟨.inl (64 * (i : Int) + blen (l.getD i 0).toNat), by rw [hb']; rfl, ?_⟩
      have hs := lv_split i l
      rw [drop_at (by omega), lv, hd] at hs
      have ht := lv_range (h1.take i)
      rw [List.length_take, Nat.min_eq_left (by omega), m2] at ht
      rw [m2] at hs
      have e2 : lv l = lv (l.take i) + l.getD i 0 * ((2 ^ (64 * i) : Nat) : Int) := by rw [hs, Int.mul_comm (l.getD i 0)]; simp
      refine Eq.symm ((blen_sh (a := lv l) (b := l.getD i 0) (64 * i) (by omega) (by omega) (by rw [Int.add_mul]; omega)).trans ?_)
      simp [Sum.elim]
theorem f_length {x : Int} (hx : ufit x) : f_wide_length (limb x 0) (limb x 1) (limb x 2) (limb x 3) (limb x 4) (limb x 5) (limb x 6) (limb x 7) = some (blen x.toNat) := by
  obtain ⟨e, h1, h2⟩ := length_loop (l8_rL x) rfl 1
  rw [l8_lv hx.1 hx.2] at h2
  unfold f_wide_length
  simp only [mk_LL]
  rw [show [limb x 0, limb x 1, limb x 2, limb x 3, limb x 4, limb x 5, limb x 6, limb x 7] = l8 x from rfl, h1, Option.bind_some]
  rw [← h2]
  cases e <;> rfl
theorem natAbs_ufit {x : Int} (hx : fit x) : ufit (x.natAbs : Int) := by unfold fit at hx; unfold ufit; omega
theorem iand32 {a : Int} (h : 0 ≤ a ∧ a < 18446744073709551616) : iand .u64 a 4294967295 = a % 4294967296 := by
  unfold iand
  rw [wrapu]
  obtain ⟨n, rfl⟩ := Int.eq_ofNat_of_zero_le h.1
  have hn : n < 2 ^ 64 := by omega
  have e1 : (BitVec.ofInt (IntKind.bits .u64) 4294967295).toNat = 2 ^ 32 - 1 := by
    show (BitVec.ofInt 64 4294967295).toNat = _
    decide
  have e2 : (BitVec.ofInt (IntKind.bits .u64) (n : Int)).toNat = n := by
    show (BitVec.ofInt 64 (n : Int)).toNat = n
    rw [BitVec.ofInt_natCast, BitVec.toNat_ofNat, Nat.mod_eq_of_lt hn]
  rw [BitVec.toNat_and, e1, e2, Nat.and_two_pow_sub_one_eq_mod]
  omega
theorem f_Mul64 {a b : Int} (ha : 0 ≤ a ∧ a < 18446744073709551616) (hb : 0 ≤ b ∧ b < 18446744073709551616) : f_math_bits_Mul64 a b = some (a * b / 18446744073709551616, a * b % 18446744073709551616) := by
  unfold f_math_bits_Mul64
  have im : ∀ x : Int, iand .u64 (x % 18446744073709551616) 4294967295 = x % 18446744073709551616 % 4294967296 := fun x => iand32 (by omega)
  simp only [ishr_lit.1, iand32 ha, iand32 hb, wrapu, im]
  have hA : a = a / 4294967296 * 4294967296 + a % 4294967296 := by omega
  have hB : b = b / 4294967296 * 4294967296 + b % 4294967296 := by omega
  have a1 : 0 ≤ a / 4294967296 ∧ a / 4294967296 ≤ 4294967295 := by omega
  have a0 : 0 ≤ a % 4294967296 ∧ a % 4294967296 ≤ 4294967295 := by omega
  have b1 : 0 ≤ b / 4294967296 ∧ b / 4294967296 ≤ 4294967295 := by omega
  have b0 : 0 ≤ b % 4294967296 ∧ b % 4294967296 ≤ 4294967295 := by omega
  generalize a / 4294967296 = x1 at *
  generalize a % 4294967296 = x0 at *
  generalize b / 4294967296 = y1 at *
  generalize b % 4294967296 = y0 at *
  have e : a * b = x1 * y1 * 18446744073709551616 + (x1 * y0 + x0 * y1) * 4294967296 + x0 * y0 := by
    rw [hA, hB]; grind
  rw [e]
  have p : ∀ u v : Int, 0 ≤ u ∧ u ≤ 4294967295 → 0 ≤ v ∧ v ≤ 4294967295 → 0 ≤ u * v ∧ u * v ≤ 18446744065119617025 := fun u v hu hv =>
    ⟨Int.mul_nonneg hu.1 hv.1, Int.le_trans (Int.mul_le_mul hu.2 hv.2 hv.1 (by decide)) (by decide)⟩
  have p11 := p x1 y1 a1 b1
  have p10 := p x1 y0 a1 b0
  have p01 := p x0 y1 a0 b1
  have p00 := p x0 y0 a0 b0
  generalize x1 * y1 = q11 at *
  generalize x1 * y0 = q10 at *
  generalize x0 * y1 = q01 at *
  generalize x0 * y0 = q00 at *
  congr 2
  omega
set_option linter.unusedVariables false
set_option linter.unusedSimpArgs false
set_option maxRecDepth 100000
theorem ior_add {x y m : Int} (k : Nat) (hx : 0 ≤ x ∧ x < ((2 ^ k : Nat) : Int)) (hm : 0 ≤ m) (hy : y = ((2 ^ k : Nat) : Int) * m) (hs : x + y < 18446744073709551616) : ior .u64 x y = x + y := by
  have hy0 : 0 ≤ y := by rw [hy]; exact Int.mul_nonneg (by omega) hm
  obtain ⟨a, rfl⟩ := Int.eq_ofNat_of_zero_le hx.1
  obtain ⟨b, rfl⟩ := Int.eq_ofNat_of_zero_le hm
  have hyn : y = ((2 ^ k * b : Nat) : Int) := by rw [hy, Int.natCast_mul]
  unfold ior
  rw [wrapu]
  have hc : 2 ^ k * b + a < 2 ^ 64 := by omega
  have e1 : (BitVec.ofInt (IntKind.bits .u64) (a : Int)).toNat = a := by
    show (BitVec.ofInt 64 (a : Int)).toNat = a
    rw [BitVec.ofInt_natCast, BitVec.toNat_ofNat, Nat.mod_eq_of_lt (by omega)]
  have e2 : (BitVec.ofInt (IntKind.bits .u64) y).toNat = 2 ^ k * b := by
    show (BitVec.ofInt 64 y).toNat = _
    rw [hyn, BitVec.ofInt_natCast, BitVec.toNat_ofNat, Nat.mod_eq_of_lt (by omega)]
  rw [BitVec.toNat_or, e1, e2, Nat.or_comm, ← Nat.two_pow_add_eq_or_of_lt (by omega)]
  omega
theorem ishl_u {a : Int} (k : Nat) (hk : k ≤ 64) : ishl .u64 a (k : Int) = a * ((2 ^ k : Nat) : Int) % 18446744073709551616 := by
  unfold ishl
  rw [wrapu]
  have e : min (Int.toNat (k : Int)) (IntKind.bits .u64) = k := by simp [IntKind.bits]; omega
  rw [e, Int.natCast_pow]; rfl
theorem f_half {z : Int} (hz : ufit z) : f_wide_half (limb z 0) (limb z 1) (limb z 2) (limb z 3) (limb z 4) (limb z 5) (limb z 6) (limb z 7) = some (t8 (z / 2)) := by
  have dvh : ∀ n, dv n (z / 2) = dv n z / 2 := by
    intro n
    induction n with
    | zero => rfl
    | succ n ih => show dv n (z / 2) / _ = dv n z / _ / 2; rw [ih]; omega
  have hl : ∀ n, limb (z / 2) n = limb z n / 2 + limb z (n + 1) % 2 * 9223372036854775808 := by
    intro n
    unfold limb
    rw [dvh]
    show _ = _ + dv n z / 18446744073709551616 % _ % _ * _
    omega
  have h8 : dv 8 z = 0 := by
    have : dv 8 z = z / 18446744073709551616 / 18446744073709551616 / 18446744073709551616 / 18446744073709551616 / 18446744073709551616 / 18446744073709551616 / 18446744073709551616 / 18446744073709551616 := rfl
    unfold ufit at hz; omega
  have h7 : limb (z / 2) 7 = limb z 7 / 2 := by
    rw [hl 7]
    show _ + dv 8 z % _ % _ * _ = _
    rw [h8]; omega
  have e1 : ∀ a : Int, ishr .u64 a 1 = a / 2 := fun a => ishr_u 1 (by decide)
  have e2 : ∀ a : Int, ishl .u64 a 63 = a * 9223372036854775808 % 18446744073709551616 := fun a => ishl_u 63 (by decide)
  have e3 : ∀ n, ior .u64 (ishr .u64 (limb z n) 1) (ishl .u64 (limb z (n + 1)) 63) = limb (z / 2) n := by
    intro n
    have r1 := limb_range z n
    have r2 := limb_range z (n + 1)
    rw [hl n, e1, e2]
    have e4 : limb z (n + 1) * 9223372036854775808 % 18446744073709551616 = limb z (n + 1) % 2 * 9223372036854775808 := by omega
    rw [e4, ior_add 63 (m := limb z (n + 1) % 2) ⟨by omega, by omega⟩ (by omega) (by rw [Int.mul_comm]; rfl) (by omega)]
  unfold f_wide_half t8
  rw [h7, e3 0, e3 1, e3 2, e3 3, e3 4, e3 5, e3 6, e1]
theorem dv_add : ∀ (j k : Nat) (z : Int), dv (k + j) z = dv j (dv k z)
  | 0, k, z => rfl
  | j + 1, k, z => by show dv (k + j) z / _ = dv j (dv k z) / _; rw [dv_add j k z]
theorem dv_mulM : ∀ (k : Nat) (y : Int), dv k (y * 18446744073709551616 ^ k) = y
  | 0, y => by show y * 1 = y; omega
  | k + 1, y => by
    show dv k (y * 18446744073709551616 ^ (k + 1)) / _ = y
    have e : y * (18446744073709551616 : Int) ^ (k + 1) = (y * 18446744073709551616) * 18446744073709551616 ^ k := by rw [Int.pow_succ, Int.mul_assoc, Int.mul_comm (18446744073709551616 ^ k)]
    rw [e, dv_mulM k]; omega
theorem limb_add (j k : Nat) (z : Int) : limb z (k + j) = limb (dv k z) j := by unfold limb; rw [dv_add]
theorem limb_low {i k : Nat} (h : i < k) (y : Int) : limb (y * 18446744073709551616 ^ k) i = 0 := by
  obtain ⟨r, rfl⟩ : ∃ r, k = i + (r + 1) := ⟨k - i - 1, by omega⟩
  have e : y * (18446744073709551616 : Int) ^ (i + (r + 1)) = (y * 18446744073709551616 ^ r * 18446744073709551616) * 18446744073709551616 ^ i := by
    rw [Int.pow_add, Int.pow_succ]
    grind
  unfold limb
  rw [e, dv_mulM]; omega
theorem pow_split {s : Nat} (h : s < 64) : ((2 ^ s : Nat) : Int) * ((2 ^ (64 - s) : Nat) : Int) = 18446744073709551616 := by
  rw [← Int.natCast_mul, ← Nat.pow_add]
  have e : s + (64 - s) = 64 := by omega
  rw [e]; rfl
theorem pow_pos' (s : Nat) : (0 : Int) < ((2 ^ s : Nat) : Int) := by have := Nat.two_pow_pos s; omega
theorem mul_carry {p q D l c : Int} (hp : 0 < p) (hq : 0 < q) (h : p * q = 18446744073709551616) (hl : 0 ≤ l ∧ l < 18446744073709551616) (hc : 0 ≤ c ∧ c < p) :
    ((l + 18446744073709551616 * D) * p + c) / 18446744073709551616 = D * p + l / q ∧ (l / q < p ∧ 0 ≤ l / q) ∧ ((l + 18446744073709551616 * D) * p + c) % 18446744073709551616 = l * p % 18446744073709551616 + c ∧
    (∃ m, 0 ≤ m ∧ l * p % 18446744073709551616 = p * m) ∧ l * p % 18446744073709551616 + c < 18446744073709551616 := by
  have hlq := Int.mul_ediv_add_emod l q
  have hr0 := Int.emod_nonneg l (show q ≠ 0 by omega)
  have hr1 := Int.emod_lt_of_pos l hq
  have hq0 : 0 ≤ l / q := Int.ediv_nonneg hl.1 (by omega)
  generalize l / q = u at *
  generalize l % q = v at *
  have hu : u < p := by
    apply Int.lt_of_mul_lt_mul_left (a := q) _ (by omega)
    rw [Int.mul_comm q p, h]; omega
  have hv : v * p + p ≤ 18446744073709551616 := by
    have : (v + 1) * p ≤ q * p := Int.mul_le_mul_of_nonneg_right (by omega) (by omega)
    rw [Int.add_mul, Int.mul_comm q p, h] at this; omega
  have hv0 : 0 ≤ v * p := Int.mul_nonneg hr0 (by omega)
  have e1 : l * p = 18446744073709551616 * u + v * p := by
    rw [← hlq, ← h]; grind
  have e2 : (l + 18446744073709551616 * D) * p = 18446744073709551616 * (D * p) + l * p := by grind
  have e3 : l * p % 18446744073709551616 = v * p := by omega
  refine ⟨?_, ⟨hu, hq0⟩, ?_, ⟨v, hr0, by rw [e3, Int.mul_comm]⟩, by omega⟩
  · rw [e2, e1]; omega
  · rw [e2, e3, e1]; omega
def cry (x q : Int) : Nat → Int
  | 0 => 0
  | j + 1 => limb x j / q
theorem shl_limb {p q : Int} (hp : 0 < p) (hq : 0 < q) (h : p * q = 18446744073709551616) (x : Int) : ∀ j, dv j (x * p) = dv j x * p + cry x q j ∧ (0 ≤ cry x q j ∧ cry x q j < p) ∧ limb (x * p) j = limb x j * p % 18446744073709551616 + cry x q j := by
  have key : ∀ j, dv j (x * p) = dv j x * p + cry x q j ∧ (0 ≤ cry x q j ∧ cry x q j < p) := by
    intro j
    induction j with
    | zero => exact ⟨by show x * p = x * p + 0; omega, ⟨Int.le_refl _, hp⟩⟩
    | succ j ih =>
      have hm := mul_carry (D := dv (j + 1) x) hp hq h (limb_range x j) ih.2
      rw [← dvmod j x, ← ih.1] at hm
      exact ⟨hm.1, hm.2.1.2, hm.2.1.1⟩
  intro j
  have k := key j
  refine ⟨k.1, k.2, ?_⟩
  have hm := mul_carry (D := dv (j + 1) x) hp hq h (limb_range x j) k.2
  rw [← dvmod j x, ← k.1] at hm
  exact hm.2.2.1
theorem limb_shl {n i : Nat} (x : Int) (hi : n / 64 ≤ i) : limb (x * ((2 ^ n : Nat) : Int)) i = limb x (i - n / 64) * ((2 ^ (n % 64) : Nat) : Int) % 18446744073709551616 + cry x ((2 ^ (64 - n % 64) : Nat) : Int) (i - n / 64) := by
  have hn : 2 ^ n = 2 ^ (n % 64) * 2 ^ (64 * (n / 64)) := by rw [← Nat.pow_add, Nat.add_comm, Nat.div_add_mod]
  have e : x * ((2 ^ n : Nat) : Int) = (x * ((2 ^ (n % 64) : Nat) : Int)) * 18446744073709551616 ^ (n / 64) := by
    rw [hn, m2, Int.natCast_mul, Int.mul_assoc]
  obtain ⟨j, rfl⟩ : ∃ j, i = n / 64 + j := ⟨i - n / 64, by omega⟩
  rw [e, limb_add, dv_mulM, Nat.add_sub_cancel_left]
  have h64 : n % 64 < 64 := Nat.mod_lt _ (by decide)
  exact (shl_limb (pow_pos' _) (pow_pos' _) (pow_split h64) x j).2.2
theorem limb_shl0 {n i : Nat} (x : Int) (hi : i < n / 64) : limb (x * ((2 ^ n : Nat) : Int)) i = 0 := by
  have hn : 2 ^ n = 2 ^ (n % 64) * 2 ^ (64 * (n / 64)) := by rw [← Nat.pow_add, Nat.add_comm, Nat.div_add_mod]
  have e : x * ((2 ^ n : Nat) : Int) = (x * ((2 ^ (n % 64) : Nat) : Int)) * 18446744073709551616 ^ (n / 64) := by
    rw [hn, m2, Int.natCast_mul, Int.mul_assoc]
  rw [e, limb_low hi]
theorem limb_shl_ior {n i : Nat} (x : Int) (hi : n / 64 ≤ i) : ior .u64 (ishl .u64 (limb x (i - n / 64)) ((n % 64 : Nat) : Int)) (cry x ((2 ^ (64 - n % 64) : Nat) : Int) (i - n / 64)) = limb (x * ((2 ^ n : Nat) : Int)) i := by
  have h64 : n % 64 < 64 := Nat.mod_lt _ (by decide)
  have hs := shl_limb (pow_pos' (n % 64)) (pow_pos' (64 - n % 64)) (pow_split h64) x (i - n / 64)
  have hm := mul_carry (D := 0) (pow_pos' (n % 64)) (pow_pos' (64 - n % 64)) (pow_split h64) (limb_range x (i - n / 64)) hs.2.1
  obtain ⟨m, hm0, hm1⟩ := hm.2.2.2.1
  rw [ishl_u _ (by omega), limb_shl x hi]
  have hlt := hm.2.2.2.2
  have hc : ∀ a b : Int, ior .u64 a b = ior .u64 b a := fun a b => by unfold ior; rw [BitVec.or_comm]
  rw [hc, ior_add (n % 64) hs.2.1 hm0 hm1 (by omega)]
  omega
theorem shr_limb {p q : Int} (hp : 0 < p) (hq : 0 < q) (h : p * q = 18446744073709551616) (z : Int) : ∀ j, dv j (z / p) = dv j z / p ∧ limb (z / p) j = limb z j / p + limb z (j + 1) * q % 18446744073709551616 ∧
    (0 ≤ limb z j / p ∧ limb z j / p < q) ∧ (∃ m, 0 ≤ m ∧ limb z (j + 1) * q % 18446744073709551616 = q * m) ∧ limb z j / p + limb z (j + 1) * q % 18446744073709551616 < 18446744073709551616 := by
  have key : ∀ j, dv j (z / p) = dv j z / p := by
    intro j
    induction j with
    | zero => rfl
    | succ j ih =>
      show dv j (z / p) / _ = dv j z / _ / p
      rw [ih, Int.ediv_ediv_of_nonneg (by omega), Int.ediv_ediv_of_nonneg (by omega), Int.mul_comm p]
  intro j
  have r := limb_range z j
  have hd := dvmod j z
  have hm := mul_carry (D := dv (j + 2) z) (l := limb z (j + 1)) (c := 0) hq hp (by rw [Int.mul_comm, h]) (limb_range z (j + 1)) ⟨Int.le_refl _, hq⟩
  have hm2 := mul_carry (D := 0) (l := limb z j) (c := 0) hq hp (by rw [Int.mul_comm, h]) r ⟨Int.le_refl _, hq⟩
  have e1 : dv j z / p = limb z j / p + q * dv (j + 1) z := by
    rw [hd, ← h, Int.mul_assoc, Int.add_mul_ediv_left _ _ (by omega)]
  have hq1 : 0 ≤ limb z j / p ∧ limb z j / p < q := ⟨hm2.2.1.2, hm2.2.1.1⟩
  obtain ⟨m, hm0, hm1⟩ := hm.2.2.2.1
  have e2 : q * dv (j + 1) z % 18446744073709551616 = limb z (j + 1) * q % 18446744073709551616 := by
    rw [dvmod (j + 1) z, Int.mul_comm q]
    have := hm.2.2.1
    simp only [Int.add_zero] at this
    rw [this]
  have hb : limb z j / p + limb z (j + 1) * q % 18446744073709551616 < 18446744073709551616 := by
    have hmp : m < p := by
      apply Int.lt_of_mul_lt_mul_left (a := q) _ (by omega)
      rw [← hm1, Int.mul_comm q p, h]
      omega
    have : q * (m + 1) ≤ q * p := Int.mul_le_mul_of_nonneg_left (by omega) (by omega)
    rw [Int.mul_add, ← hm1, Int.mul_comm q p, h] at this
    omega
  refine ⟨key j, ?_, hq1, ⟨m, hm0, hm1⟩, hb⟩
  show dv j (z / p) % _ = _
  rw [key j, e1]
  have hmm := Int.emod_nonneg (limb z (j + 1) * q) (show (18446744073709551616 : Int) ≠ 0 by decide)
  omega
theorem dv_ediv (n : Nat) (z : Int) : z / 18446744073709551616 ^ n = dv n z := by
  induction n with
  | zero => show z / 1 = z; omega
  | succ n ih =>
    rw [Int.pow_succ, ← Int.ediv_ediv_of_nonneg (Int.le_of_lt (mpos n)), ih]; rfl
theorem limb_shr_ior {n i : Nat} (z : Int) : ior .u64 (ishr .u64 (limb z (i + n / 64)) ((n % 64 : Nat) : Int)) (ishl .u64 (limb z (i + n / 64 + 1)) ((64 - n % 64 : Nat) : Int)) = limb (z / ((2 ^ n : Nat) : Int)) i := by
  have h64 : n % 64 < 64 := Nat.mod_lt _ (by decide)
  have hn : 2 ^ n = 2 ^ (64 * (n / 64)) * 2 ^ (n % 64) := by rw [← Nat.pow_add, Nat.div_add_mod]
  have e : z / ((2 ^ n : Nat) : Int) = dv (n / 64) z / ((2 ^ (n % 64) : Nat) : Int) := by
    rw [hn, Int.natCast_mul, ← m2, ← Int.ediv_ediv_of_nonneg (Int.le_of_lt (mpos _)), dv_ediv]
  have hs := shr_limb (pow_pos' (n % 64)) (pow_pos' (64 - n % 64)) (pow_split h64) (dv (n / 64) z) i
  rw [e, hs.2.1]
  rw [← limb_add, ← limb_add, show n / 64 + i = i + n / 64 by omega, show n / 64 + (i + 1) = i + n / 64 + 1 by omega] at hs ⊢
  obtain ⟨m, hm0, hm1⟩ := hs.2.2.2.1
  rw [ishl_u _ (by omega), ishr_u _ (by omega), ior_add (64 - n % 64) hs.2.2.1 hm0 hm1 hs.2.2.2.2]
theorem limb_shr0 {n i : Nat} (h : n % 64 = 0) (z : Int) : ishr .u64 (limb z (i + n / 64)) ((n % 64 : Nat) : Int) = limb (z / ((2 ^ n : Nat) : Int)) i := by
  have := limb_shr_ior (n := n) (i := i) z
  rw [← this, h, ishl_u _ (by decide), ishr_u _ (by decide)]
  have e0 : limb z (i + n / 64 + 1) * ((2 ^ (64 - 0) : Nat) : Int) % 18446744073709551616 = 0 := by
    have : ((2 ^ (64 - 0) : Nat) : Int) = 18446744073709551616 := by decide
    rw [this]; omega
  have r := limb_range z (i + n / 64)
  rw [e0]
  have : ((2 ^ 0 : Nat) : Int) = 1 := by decide
  rw [this, Int.ediv_one, ior_add 64 (m := 0) ⟨r.1, r.2⟩ (Int.le_refl _) (by simp) (by omega)]
  omega
set_option linter.unusedVariables false
set_option linter.unusedSimpArgs false
set_option maxRecDepth 100000
theorem ufit_get {z : Int} {i : Nat} : (l8 z).getD i 0 = if i < 8 then limb z i else 0 := by
  match i with
  | 0 | 1 | 2 | 3 | 4 | 5 | 6 | 7 => rfl
  | i + 8 => rw [if_neg (by omega)]; rfl
theorem ext8 {l m : List Int} (hl : l.length = 8) (hm : m.length = 8) (h : ∀ i, i < 8 → l.getD i 0 = m.getD i 0) : l = m := by
  rw [eta8 hl, eta8 hm, h 0 (by decide), h 1 (by decide), h 2 (by decide), h 3 (by decide), h 4 (by decide), h 5 (by decide), h 6 (by decide), h 7 (by decide)]
theorem getD_set {l : List Int} {i j : Nat} {v : Int} (h : i < l.length) : (l.set i v).getD j 0 = if j = i then v else l.getD j 0 := by
  rw [List.getD_eq_getElem?_getD, List.getElem?_set, List.getD_eq_getElem?_getD]
  by_cases hij : i = j
  · subst hij; simp [h]
  · rw [if_neg hij, if_neg (fun e => hij e.symm)]
def z8 : List Int := [0, 0, 0, 0, 0, 0, 0, 0]
theorem z8_get (j : Nat) : z8.getD j 0 = 0 := by
  match j with
  | 0 | 1 | 2 | 3 | 4 | 5 | 6 | 7 => rfl
  | j + 8 => simp [z8]
theorem l8_fold (x : Int) : [limb x 0, limb x 1, limb x 2, limb x 3, limb x 4, limb x 5, limb x 6, limb x 7] = l8 x := rfl
theorem z8_fold : ([0, 0, 0, 0, 0, 0, 0, 0] : List Int) = z8 := rfl
theorem z8_len : z8.length = 8 := rfl
theorem splA {l m : List Int} (h : l.length = m.length) : spliced (LL l) 0 (LL m) = LL m := by
  unfold spliced LL
  simp [h, List.drop_eq_nil_of_le]
theorem left_loop {x : Int} {n : Nat} (hn : n < 512) (p q r : Nat) (zl : List AVal) :
    ∃ e, f_wide_left_L3 ((n : Int), LL (l8 x), p, zl, q, r) (LL z8, ((n / 64 : Nat) : Int)) = some e ∧ e = LL (l8 (x * ((2 ^ n : Nat) : Int))) := by
  have hz0 : ∀ j, z8.getD j 0 = if j < n / 64 then limb (x * ((2 ^ n : Nat) : Int)) j else 0 := by
    intro j
    rw [z8_get]
    split
    · rename_i h; rw [limb_shl0 x h]
    · rfl
  refine loop_rule (step := f_wide_left_L3s ((n : Int), LL (l8 x), p, zl, q, r))
    (fun v => ∃ (i : Nat) (l : List Int), v = (LL l, (i : Int)) ∧ l.length = 8 ∧ n / 64 ≤ i ∧ i ≤ 8 ∧ ∀ j, l.getD j 0 = if j < i then limb (x * ((2 ^ n : Nat) : Int)) j else 0) (fun v => (8 - v.2).toNat) _ ?_
    (Nat.lt_of_le_of_lt (show (8 - ((n / 64 : Nat) : Int)).toNat ≤ 8 by omega) (by decide))
    ⟨n / 64, z8, rfl, rfl, Nat.le_refl _, by omega, hz0⟩
  rintro v ⟨i, l, rfl, hl, hk, hi, hg⟩
  have t1 : Int.tdiv (n : Int) 64 = ((n / 64 : Nat) : Int) := by rw [Int.tdiv_eq_ediv_of_nonneg (by omega)]; omega
  have t2 : Int.tmod (n : Int) 64 = ((n % 64 : Nat) : Int) := by rw [Int.tmod_eq_emod_of_nonneg (by omega)]; omega
  have w1 : IntKind.wrap .i64 ((n / 64 : Nat) : Int) = ((n / 64 : Nat) : Int) := wrapi (by omega)
  by_cases h8 : i = 8
  · subst h8
    refine .inr ⟨LL l, rfl, ?_⟩
    rw [ext8 hl (l8_len _) (fun j hj => by rw [hg j, ufit_get])]
  · have hi8 : i < 8 := by omega
    have w2 : IntKind.wrap .i64 ((i : Int) - ((n / 64 : Nat) : Int)) = ((i - n / 64 : Nat) : Int) := by rw [wrapi (by omega)]; omega
    have w3 : IntKind.wrap .i64 (64 - ((n % 64 : Nat) : Int)) = ((64 - n % 64 : Nat) : Int) := by rw [wrapi (by omega)]; omega
    have w4 : IntKind.wrap .i64 ((i : Int) + 1) = ((i + 1 : Nat) : Int) := by rw [wrapi (by omega)]; omega
    have d1 : decide ((i : Int) < 8) = true := decide_eq_true (by omega)
    have d2 : decide (((n % 64 : Nat) : Int) < 0) = false := decide_eq_false (by omega)
    have d3 : decide (((64 - n % 64 : Nat) : Int) < 0) = false := decide_eq_false (by omega)
    have d4 : decide (i + 1 ≤ 8) = true := decide_eq_true (by omega)
    have hx8 := l8_len x
    have gx : ∀ j, j < 8 → (l8 x).getD j 0 = limb x j := fun j hj => by rw [ufit_get, if_pos hj]
    have hset : ∀ v, v = limb (x * ((2 ^ n : Nat) : Int)) i → ∃ v', some (Sum.inl (LL (l.set i v), ((i + 1 : Nat) : Int)) : (List AVal × Int) ⊕ List AVal) = some (Sum.inl v') ∧
        (∃ (i : Nat) (l : List Int), v' = (LL l, (i : Int)) ∧ l.length = 8 ∧ n / 64 ≤ i ∧ i ≤ 8 ∧ ∀ j, l.getD j 0 = if j < i then limb (x * ((2 ^ n : Nat) : Int)) j else 0) ∧ (8 - v'.2).toNat < (8 - (i : Int)).toNat := by
      intro v hv
      refine ⟨_, rfl, ⟨i + 1, l.set i v, rfl, by simpa using hl, by omega, by omega, fun j => ?_⟩, by show (8 - ((i + 1 : Nat) : Int)).toNat < _; omega⟩
      rw [getD_set (by omega), hg j, hv]
      by_cases e1 : j = i
      · subst e1; simp
      · rw [if_neg e1]
        by_cases e2 : j < i
        · rw [if_pos e2, if_pos (by omega)]
        · rw [if_neg e2, if_neg (by omega)]
    left
    simp only [f_wide_left_L3s, f_wide_left_L3k, t1, t2, w1, w2, w3, w4, d1, d2, d3, d4, dec0, dec8 hi8, dec8 (show i - n / 64 < 8 by omega), cond_true, need_true, Bool.and_self, Bool.not_false, Int.toNat_natCast, Nat.mul_one, Nat.zero_add, Nat.add_zero, row1_LL, geti_LL, hl, hx8,
      decide_eq_true (show i - n / 64 < 8 by omega), decide_eq_true hi8, len_LL, gx _ (show i - n / 64 < 8 by omega)]
    by_cases hs : n % 64 = 0
    · have d5 : decide (((n % 64 : Nat) : Int) > 0) = false := decide_eq_false (by omega)
      rw [d5]
      simp only [cond_false]
      rw [spl1_LL (by omega)]
      refine hset _ ?_
      rw [ishl_u _ (by omega), limb_shl x hk]
      have c0 : cry x ((2 ^ (64 - n % 64) : Nat) : Int) (i - n / 64) = 0 := by
        cases i - n / 64 with
        | zero => rfl
        | succ j =>
          have := limb_range x j
          show limb x j / _ = 0
          rw [hs]
          have e : ((2 ^ (64 - 0) : Nat) : Int) = 18446744073709551616 := by decide
          rw [e]; omega
      rw [c0]; omega
    · have d5 : decide (((n % 64 : Nat) : Int) > 0) = true := decide_eq_true (by omega)
      rw [d5]
      simp only [cond_true]
      by_cases hik : (i : Int) > ((n / 64 : Nat) : Int)
      · rw [decide_eq_true hik]
        have w5 : IntKind.wrap .i64 (((i - n / 64 : Nat) : Int) - 1) = ((i - n / 64 - 1 : Nat) : Int) := by rw [wrapi (by omega)]; omega
        simp only [cond_true, w5, dec0, dec8 (show i - n / 64 - 1 < 8 by omega), Bool.and_self, need_true, Int.toNat_natCast, decide_eq_true (show i - n / 64 - 1 < 8 by omega), gx _ (show i - n / 64 - 1 < 8 by omega)]
        rw [spl1_LL (by omega)]
        simp only [row1_LL, geti_LL, len_LL, List.length_set, hl, decide_eq_true hi8, d4, need_true]
        rw [getD_set (by omega), if_pos rfl, spl1_LL (by simpa using (by omega : i < l.length)), List.set_set]
        refine hset _ ?_
        rw [← limb_shl_ior x hk]
        have e : i - n / 64 = (i - n / 64 - 1) + 1 := by omega
        rw [e, Nat.add_sub_cancel]
        congr 1
        show _ = limb x (i - n / 64 - 1) / _
        rw [ishr_u _ (by omega)]
      · rw [decide_eq_false hik]
        simp only [cond_false]
        rw [spl1_LL (by omega)]
        refine hset _ ?_
        have e : i - n / 64 = 0 := by omega
        rw [limb_shl x hk, e, ishl_u _ (by omega)]
        show _ = _ + 0
        omega
theorem f_left {x : Int} {n : Nat} (hn : n < 512) : f_wide_left (limb x 0) (limb x 1) (limb x 2) (limb x 3) (limb x 4) (limb x 5) (limb x 6) (limb x 7) (n : Int) = some (t8 (x * ((2 ^ n : Nat) : Int))) := by
  obtain ⟨e, h1, h2⟩ := left_loop (x := x) hn 1 1 1 (LL z8)
  subst h2
  have t1 : Int.tdiv (n : Int) 64 = ((n / 64 : Nat) : Int) := by rw [Int.tdiv_eq_ediv_of_nonneg (by omega)]; omega
  have w1 : IntKind.wrap .i64 ((n / 64 : Nat) : Int) = ((n / 64 : Nat) : Int) := wrapi (by omega)
  have g8 : ∀ j, j < 8 → (l8 (x * ((2 ^ n : Nat) : Int))).getD j 0 = limb (x * ((2 ^ n : Nat) : Int)) j := fun j hj => by rw [ufit_get, if_pos hj]
  unfold f_wide_left
  simp only [mk_LL, t1, w1, l8_fold, z8_fold, h1, Option.bind_some, row8_LL (l8_len _), need_true, len_LL, z8_len, geti_LL, g8 _ (show 0 < 8 by omega), g8 _ (show 1 < 8 by omega), g8 _ (show 2 < 8 by omega), g8 _ (show 3 < 8 by omega), g8 _ (show 4 < 8 by omega), g8 _ (show 5 < 8 by omega), g8 _ (show 6 < 8 by omega), g8 _ (show 7 < 8 by omega), splA (show z8.length = (l8 (x * ((2 ^ n : Nat) : Int))).length from rfl)]
  rfl
set_option linter.unusedVariables false
set_option linter.unusedSimpArgs false
set_option maxRecDepth 100000
theorem lv_nonneg {l : List Int} (h : rL l) : 0 ≤ lv l := (lv_range h).1
theorem limb_dvd {l : List Int} (h : rL l) {i s : Nat} (hi : i < l.length) (hs : s < 64) {t : Int} (e : lv l = ((2 ^ (64 * i + s + 1) : Nat) : Int) * t) : ∃ u, 0 ≤ u ∧ l.getD i 0 = ((2 ^ (s + 1) : Nat) : Int) * u := by
  have hsp := lv_split i l
  rw [drop_at hi, lv] at hsp
  have ht := lv_range (h.take i)
  rw [List.length_take, Nat.min_eq_left (by omega)] at ht
  have hg := h.get i
  have e1 : ((2 ^ (64 * i + s + 1) : Nat) : Int) = 18446744073709551616 ^ i * ((2 ^ (s + 1) : Nat) : Int) := by rw [m2, ← Int.natCast_mul, ← Nat.pow_add]; rfl
  have hp := mpos i
  have e2 : (18446744073709551616 : Int) = ((2 ^ (s + 1) : Nat) : Int) * ((2 ^ (63 - s) : Nat) : Int) := by
    rw [← Int.natCast_mul, ← Nat.pow_add, show s + 1 + (63 - s) = 64 by omega]; rfl
  rw [e1] at e
  generalize (18446744073709551616 : Int) ^ i = p at *
  generalize hP : ((2 ^ (s + 1) : Nat) : Int) = P at *
  generalize ((2 ^ (63 - s) : Nat) : Int) = Q at *
  generalize lv (l.take i) = x at *
  generalize lv (l.drop (i + 1)) = y at *
  generalize l.getD i 0 = g at *
  have hP0 : 0 < P := by rw [← hP]; exact pow_pos' _
  have e3 : x = p * (P * t - (g + 18446744073709551616 * y)) := by rw [Int.mul_sub, ← Int.mul_assoc]; omega
  have e4 : P * t - (g + 18446744073709551616 * y) = 0 := by
    rcases Int.lt_trichotomy (P * t - (g + 18446744073709551616 * y)) 0 with h1 | h1 | h1
    · have : p * (P * t - (g + 18446744073709551616 * y)) ≤ p * (-1) := Int.mul_le_mul_of_nonneg_left (by omega) (by omega)
      omega
    · exact h1
    · have : p * 1 ≤ p * (P * t - (g + 18446744073709551616 * y)) := Int.mul_le_mul_of_nonneg_left (by omega) (by omega)
      omega
  refine ⟨t - Q * y, ?_, ?_⟩
  · have e5 : g = P * (t - Q * y) := by rw [Int.mul_sub, ← Int.mul_assoc, ← e2]; omega
    rcases Int.lt_or_le (t - Q * y) 0 with h1 | h1
    · have : P * (t - Q * y) ≤ P * (-1) := Int.mul_le_mul_of_nonneg_left (by omega) (by omega)
      omega
    · exact h1
  · rw [Int.mul_sub, ← Int.mul_assoc, ← e2]; omega
theorem set_bit {l : List Int} (h : rL l) (hl : l.length = 8) {k : Nat} (hk : k < 512) {t : Int} (e : lv l = ((2 ^ (k + 1) : Nat) : Int) * t) :
    rL (l.set (k / 64) (ior .u64 (l.getD (k / 64) 0) (ishl .u64 1 ((k % 64 : Nat) : Int)))) ∧ lv (l.set (k / 64) (ior .u64 (l.getD (k / 64) 0) (ishl .u64 1 ((k % 64 : Nat) : Int)))) = lv l + ((2 ^ k : Nat) : Int) := by
  have h64 : k % 64 < 64 := Nat.mod_lt _ (by decide)
  have hi : k / 64 < l.length := by omega
  have ek : 64 * (k / 64) + k % 64 + 1 = k + 1 := by rw [Nat.div_add_mod]
  obtain ⟨u, hu0, hu⟩ := limb_dvd h hi h64 (t := t) (by rw [ek]; exact e)
  have hg := h.get (k / 64)
  have hps := pow_pos' (k % 64)
  have hP : ((2 ^ (k % 64 + 1) : Nat) : Int) = 2 * ((2 ^ (k % 64) : Nat) : Int) := by rw [Nat.pow_succ]; push_cast; omega
  have hlt : ((2 ^ (k % 64) : Nat) : Int) < 18446744073709551616 := by
    have := pow_split h64
    have hq := pow_pos' (64 - k % 64)
    have hq2 : (2 : Int) ≤ ((2 ^ (64 - k % 64) : Nat) : Int) := by
      have : 2 ^ 1 ≤ 2 ^ (64 - k % 64) := Nat.pow_le_pow_right (by decide) (by omega)
      omega
    have : ((2 ^ (k % 64) : Nat) : Int) * 2 ≤ ((2 ^ (k % 64) : Nat) : Int) * ((2 ^ (64 - k % 64) : Nat) : Int) := Int.mul_le_mul_of_nonneg_left hq2 (by omega)
    omega
  have hsum : ((2 ^ (k % 64) : Nat) : Int) + l.getD (k / 64) 0 < 18446744073709551616 := by
    have hm := pow_split (s := k % 64 + 1 - 1) (by omega)
    have e2 : (18446744073709551616 : Int) = ((2 ^ (k % 64 + 1) : Nat) : Int) * ((2 ^ (63 - k % 64) : Nat) : Int) := by
      rw [← Int.natCast_mul, ← Nat.pow_add, show k % 64 + 1 + (63 - k % 64) = 64 by omega]; rfl
    have hu1 : u < ((2 ^ (63 - k % 64) : Nat) : Int) := by
      apply Int.lt_of_mul_lt_mul_left (a := ((2 ^ (k % 64 + 1) : Nat) : Int)) _ (by omega)
      rw [← hu, ← e2]; exact hg.2
    have : ((2 ^ (k % 64 + 1) : Nat) : Int) * (u + 1) ≤ ((2 ^ (k % 64 + 1) : Nat) : Int) * ((2 ^ (63 - k % 64) : Nat) : Int) := Int.mul_le_mul_of_nonneg_left (by omega) (by omega)
    rw [Int.mul_add, ← hu, ← e2] at this
    omega
  have hc : ∀ a b : Int, ior .u64 a b = ior .u64 b a := fun a b => by unfold ior; rw [BitVec.or_comm]
  have hv : ior .u64 (l.getD (k / 64) 0) (ishl .u64 1 ((k % 64 : Nat) : Int)) = ((2 ^ (k % 64) : Nat) : Int) + l.getD (k / 64) 0 := by
    rw [ishl_u _ (by omega), Int.one_mul, Int.emod_eq_of_lt (by omega) hlt, hc, ior_add (k % 64 + 1) ⟨by omega, by omega⟩ hu0 hu hsum]
  rw [hv]
  refine ⟨h.set ⟨by omega, hsum⟩ _, ?_⟩
  rw [lv_set _ hi]
  have e3 : ((2 ^ k : Nat) : Int) = ((2 ^ (k % 64) : Nat) : Int) * 18446744073709551616 ^ (k / 64) := by
    rw [m2, ← Int.natCast_mul, ← Nat.pow_add, Nat.add_comm, Nat.div_add_mod]
  rw [e3]
  congr 1
  congr 1
  omega
def PInv (a b : Int) (v : List AVal × List AVal × Int × List AVal × Nat) : Prop :=
  ∃ (m : Nat) (q : List Int) (r s t : Int), v = (LL q, LL (l8 r), (m : Int) - 1, LL (l8 s), 1) ∧ q.length = 8 ∧ rL q ∧ m ≤ 512 ∧ a = lv q * b + r ∧ 0 ≤ r ∧ r < b * ((2 ^ m : Nat) : Int) ∧ (m ≠ 0 → s = b * ((2 ^ (m - 1) : Nat) : Int)) ∧ ufit s ∧
    lv q = ((2 ^ m : Nat) : Int) * t ∧ r ≤ a
theorem parts_loop {a b : Int} (ha : ufit a) (hb : 0 < b) {v : List AVal × List AVal × Int × List AVal × Nat} (hv : PInv a b v) :
    ∃ e, f_wide_parts_L6 (1, 1) v = some e ∧ e = (LL (l8 (a / b)), LL (l8 (a % b))) := by
  obtain ⟨m0, _, _, _, _, hv0, _, _, hm0, _⟩ := id hv
  refine loop_rule (step := f_wide_parts_L6s (1, 1)) (PInv a b) (fun v => (v.2.2.1 + 1).toNat) _ ?_
    (Nat.lt_of_le_of_lt (show (v.2.2.1 + 1).toNat ≤ 512 by subst hv0; show (((m0 : Int) - 1) + 1).toNat ≤ 512; omega) (by decide)) hv
  rintro v ⟨m, q, r, s, t, rfl, hq, hrq, hm, hab, hr0, hr1, hs, hsu, ht, hra⟩
  cases m with
  | zero =>
    refine .inr ⟨(LL q, LL (l8 r)), rfl, ?_⟩
    have h1 : r < b := by simpa using hr1
    have e1 : a / b = lv q := by
      rw [hab, Int.add_comm, Int.add_mul_ediv_right _ _ (by omega), Int.ediv_eq_zero_of_lt hr0 h1]; omega
    have e2 : a % b = r := by
      have := Int.mul_ediv_add_emod a b
      rw [e1, Int.mul_comm] at this; omega
    rw [e1, e2, ← l8_of hrq hq]
  | succ k =>
    left
    have e : ((k + 1 : Nat) : Int) - 1 = (k : Int) := by omega
    have es := hs (by omega)
    rw [Nat.add_sub_cancel] at es
    have hk : k < 512 := by omega
    have t1 : Int.tdiv (k : Int) 64 = ((k / 64 : Nat) : Int) := by rw [Int.tdiv_eq_ediv_of_nonneg (by omega)]; omega
    have t2 : Int.tmod (k : Int) 64 = ((k % 64 : Nat) : Int) := by rw [Int.tmod_eq_emod_of_nonneg (by omega)]; omega
    have w1 : IntKind.wrap .i64 ((k / 64 : Nat) : Int) = ((k / 64 : Nat) : Int) := wrapi (by omega)
    have w2 : IntKind.wrap .i64 ((k : Int) - 1) = (k : Int) - 1 := wrapi (by omega)
    have d2 : decide (((k % 64 : Nat) : Int) < 0) = false := decide_eq_false (by omega)
    have hk8 : k / 64 < 8 := by omega
    have d4 : decide (k / 64 + 1 ≤ 8) = true := decide_eq_true (by omega)
    have hru : ufit r := ⟨hr0, Int.lt_of_le_of_lt hra ha.2⟩
    have gr : ∀ j, j < 8 → (l8 r).getD j 0 = limb r j := fun j hj => by rw [ufit_get, if_pos hj]
    have gs : ∀ j, j < 8 → (l8 s).getD j 0 = limb s j := fun j hj => by rw [ufit_get, if_pos hj]
    have hp := f_plus r (-s - 1) 1 ⟨by decide, by decide⟩
    rw [show r + (-s - 1) + 1 = r - s by omega] at hp
    have gh : ∀ j, j < 8 → (l8 (s / 2)).getD j 0 = limb (s / 2) j := fun j hj => by rw [ufit_get, if_pos hj]
    have hp1 : ((2 ^ (k + 1) : Nat) : Int) = 2 * ((2 ^ k : Nat) : Int) := by rw [Nat.pow_succ]; push_cast; omega
    have hs2 : k ≠ 0 → s / 2 = b * ((2 ^ (k - 1) : Nat) : Int) := by
      intro hk0
      have : ((2 ^ k : Nat) : Int) = 2 * ((2 ^ (k - 1) : Nat) : Int) := by
        conv => lhs; rw [show k = k - 1 + 1 by omega, Nat.pow_succ]
        push_cast; omega
      rw [es, this, Int.mul_left_comm]; omega
    have hsu2 : ufit (s / 2) := by unfold ufit at *; omega
    rw [e]
    simp only [f_wide_parts_L6s, f_wide_parts_L6k, dec0', cond_true, row8_LL (l8_len _), need_true, geti_LL, gr _ (show 0 < 8 by omega), gr _ (show 1 < 8 by omega), gr _ (show 2 < 8 by omega), gr _ (show 3 < 8 by omega), gr _ (show 4 < 8 by omega), gr _ (show 5 < 8 by omega), gr _ (show 6 < 8 by omega), gr _ (show 7 < 8 by omega),
      gs _ (show 0 < 8 by omega), gs _ (show 1 < 8 by omega), gs _ (show 2 < 8 by omega), gs _ (show 3 < 8 by omega), gs _ (show 4 < 8 by omega), gs _ (show 5 < 8 by omega), gs _ (show 6 < 8 by omega), gs _ (show 7 < 8 by omega), f_above hru hsu, Option.bind_some, f_not, hp, t8, f_half hsu, t1, t2, w1, w2, d2, d4, Bool.not_false, dec0, dec8 hk8, Bool.and_self, Int.toNat_natCast, Nat.mul_one, Nat.zero_add, Nat.add_zero,
      row1_LL, len_LL, l8_len, hq, decide_eq_true hk8, mk_LL, l8_fold, splA (show (l8 s).length = (l8 (s / 2)).length from rfl), splA (show (l8 r).length = (l8 (r - s)).length from rfl), gh _ (show 0 < 8 by omega), gh _ (show 1 < 8 by omega), gh _ (show 2 < 8 by omega), gh _ (show 3 < 8 by omega), gh _ (show 4 < 8 by omega), gh _ (show 5 < 8 by omega), gh _ (show 6 < 8 by omega), gh _ (show 7 < 8 by omega), Nat.le_refl, decide_true]
    by_cases hge : s ≤ r
    · have hd : decide (sgn (r - s) ≥ 0) = true := by
        have a1 : ¬ r - s < 0 := by omega
        unfold sgn
        rw [decide_eq_false a1, cond_false]
        cases decide (r - s = 0) <;> rfl
      obtain ⟨hb1, hb2⟩ := set_bit hrq hq hk ht
      rw [hd]
      simp only [cond_true]
      rw [spl1_LL (by omega)]
      refine ⟨_, rfl, ⟨k, _, r - s, s / 2, 2 * t + 1, rfl, by simpa using hq, hb1, by omega, ?_, by omega, ?_, hs2, hsu2, ?_, by unfold ufit at hsu; omega⟩, ?_⟩
      · rw [hb2, Int.add_mul, es]
        rw [Int.mul_comm b] at *; omega
      · rw [hp1, Int.mul_left_comm] at hr1; omega
      · rw [hb2, ht, hp1, Int.mul_add, Int.mul_one, Int.mul_comm 2, Int.mul_assoc]
      · show (((k : Int) - 1) + 1).toNat < ((k : Int) + 1).toNat; omega
    · have hd : decide (sgn (r - s) ≥ 0) = false := by
        have a1 : r - s < 0 := by omega
        unfold sgn
        rw [decide_eq_true a1]; rfl
      rw [hd]
      simp only [cond_false]
      refine ⟨_, rfl, ⟨k, q, r, s / 2, 2 * t, rfl, hq, hrq, by omega, hab, hr0, by omega, hs2, hsu2, ?_, hra⟩, ?_⟩
      · rw [ht, hp1, Int.mul_comm 2, Int.mul_assoc]
      · show (((k : Int) - 1) + 1).toNat < ((k : Int) + 1).toNat; omega
abbrev T16 := Int × Int × Int × Int × Int × Int × Int × Int × Int × Int × Int × Int × Int × Int × Int × Int
def t16 (x y : Int) : T16 := (limb x 0, limb x 1, limb x 2, limb x 3, limb x 4, limb x 5, limb x 6, limb x 7, limb y 0, limb y 1, limb y 2, limb y 3, limb y 4, limb y 5, limb y 6, limb y 7)
theorem lvz : lv z8 = 0 := by decide
theorem rLz : rL z8 := by
  intro x hx
  simp only [z8, List.mem_cons, List.not_mem_nil, or_false, or_self] at hx
  subst hx; decide
theorem p512' (n m : Nat) (h : n = m + m) (hm : m = 256) : (2 : Nat) ^ n = 13407807929942597099574024998205846127479365820592393377723561443721764030073546976801874298166903427690031858186486050853753882811946569946433649006084096 := by
  rw [h, Nat.pow_add, hm]
theorem p512 : (2 : Nat) ^ 512 = 13407807929942597099574024998205846127479365820592393377723561443721764030073546976801874298166903427690031858186486050853753882811946569946433649006084096 := p512' 512 256 rfl rfl
theorem f_parts {a b : Int} (ha : ufit a) (hb : ufit b) (hb0 : 0 < b) : f_wide_parts (limb a 0) (limb a 1) (limb a 2) (limb a 3) (limb a 4) (limb a 5) (limb a 6) (limb a 7) (limb b 0) (limb b 1) (limb b 2) (limb b 3) (limb b 4) (limb b 5) (limb b 6) (limb b 7) = some (t16 (a / b) (a % b)) := by
  have hap : a.toNat < 2 ^ 512 := by rw [p512]; unfold ufit at ha; omega
  have hbp : b.toNat < 2 ^ 512 := by rw [p512]; unfold ufit at hb; omega
  have la := blen_le hap
  have lb := blen_le hbp
  clear hap hbp
  obtain ⟨kb, eb, b1, b2⟩ := blen_pos (n := b.toNat) (by omega)
  have w0 : IntKind.wrap .i64 (blen a.toNat - blen b.toNat) = blen a.toNat - blen b.toNat := wrapi (by omega)
  unfold f_wide_parts
  simp only [f_length ha, f_length hb, Option.bind_some, w0]
  by_cases hlt : blen a.toNat - blen b.toNat < 0
  · have hab : a < b := by
      by_cases ha0 : a.toNat = 0
      · omega
      · obtain ⟨ka, ea, a1, a2⟩ := blen_pos ha0
        have : 2 ^ (ka + 1) ≤ 2 ^ kb := Nat.pow_le_pow_right (by decide) (by omega)
        omega
    rw [decide_eq_true hlt, Int.ediv_eq_zero_of_lt ha.1 hab, Int.emod_eq_of_lt ha.1 hab]
    simp only [cond_true, t16, limb0]
  · obtain ⟨n, hn⟩ := Int.eq_ofNat_of_zero_le (show 0 ≤ blen a.toNat - blen b.toNat by omega)
    have ha0 : a.toNat ≠ 0 := by
      intro h0
      have : blen a.toNat = 0 := by rw [h0]; rfl
      omega
    obtain ⟨ka, ea, a1, a2⟩ := blen_pos ha0
    have hkn : ka = kb + n := by omega
    have hl : ufit (b * ((2 ^ n : Nat) : Int)) := by
      have key : ∀ N, kb + 1 + n ≤ N → b.toNat * 2 ^ n < 2 ^ N := by
        intro N hN
        have : b.toNat * 2 ^ n < 2 ^ (kb + 1) * 2 ^ n := Nat.mul_lt_mul_of_pos_right b2 (Nat.two_pow_pos n)
        rw [← Nat.pow_add] at this
        exact Nat.lt_of_lt_of_le this (Nat.pow_le_pow_right (by decide) hN)
      have h1 := key 512 (by omega)
      have h2 : b * ((2 ^ n : Nat) : Int) = ((b.toNat * 2 ^ n : Nat) : Int) := by rw [Int.natCast_mul]; congr 1; omega
      rw [p512] at h1
      unfold ufit; rw [h2]; omega
    have hinv : PInv a b (LL z8, LL (l8 a), (n : Int), LL (l8 (b * ((2 ^ n : Nat) : Int))), 1) := by
      refine ⟨n + 1, z8, a, b * ((2 ^ n : Nat) : Int), 0, by rw [show ((n + 1 : Nat) : Int) - 1 = (n : Int) by omega], rfl, rLz, by omega, by rw [lvz]; omega, ha.1, ?_, fun _ => by rw [Nat.add_sub_cancel], hl, by rw [lvz]; omega, Int.le_refl _⟩
      have h1 : a.toNat < b.toNat * 2 ^ (n + 1) := by
        refine Nat.lt_of_lt_of_le a2 ?_
        rw [hkn, Nat.add_assoc, Nat.pow_add]
        exact Nat.mul_le_mul_right _ b1
      have h2 : b * ((2 ^ (n + 1) : Nat) : Int) = ((b.toNat * 2 ^ (n + 1) : Nat) : Int) := by rw [Int.natCast_mul]; congr 1; omega
      rw [h2]; omega
    obtain ⟨e, h1, h2⟩ := parts_loop ha hb0 hinv
    subst h2
    have gq : ∀ z j, j < 8 → (l8 z).getD j 0 = limb z j := fun z j hj => by rw [ufit_get, if_pos hj]
    rw [decide_eq_false hlt, hn]
    simp only [cond_false, f_left (show n < 512 by omega), Option.bind_some, t8, mk_LL, l8_fold, z8_fold, h1, row8_LL (l8_len _), need_true, len_LL, l8_len, geti_LL, gq _ _ (show 0 < 8 by omega), gq _ _ (show 1 < 8 by omega), gq _ _ (show 2 < 8 by omega), gq _ _ (show 3 < 8 by omega), gq _ _ (show 4 < 8 by omega), gq _ _ (show 5 < 8 by omega), gq _ _ (show 6 < 8 by omega), gq _ _ (show 7 < 8 by omega), splA, t16]
    rfl
set_option linter.unusedVariables false
set_option linter.unusedSimpArgs false
set_option maxRecDepth 100000
theorem zeroL {x : Int} (hx : fit x) : (limb x 0 == 0 && (limb x 1 == 0 && (limb x 2 == 0 && (limb x 3 == 0 && (limb x 4 == 0 && (limb x 5 == 0 && (limb x 6 == 0 && (limb x 7 == 0 && true)))))))) = decide (x = 0) := by
  have h := eqL_iff hx fit0
  simpa only [limb0] using h
theorem zeroU {x : Int} (hx : ufit x) : (limb x 0 == 0 && (limb x 1 == 0 && (limb x 2 == 0 && (limb x 3 == 0 && (limb x 4 == 0 && (limb x 5 == 0 && (limb x 6 == 0 && (limb x 7 == 0 && true)))))))) = decide (x = 0) := by
  by_cases h : x = 0
  · subst h; simp [limb0]
  · rw [decide_eq_false h]
    apply Bool.eq_false_iff.2
    intro q
    simp only [Bool.and_eq_true, beq_iff_eq, Bool.and_true] at q
    obtain ⟨h0, h1, h2, h3, h4, h5, h6, h7⟩ := q
    apply h
    have e := l8_lv hx.1 hx.2
    rw [l8, h0, h1, h2, h3, h4, h5, h6, h7] at e
    rw [← e]; decide
theorem zeroM {x : Int} (hx : ufit x) : (limb (-x) 0 == 0 && (limb (-x) 1 == 0 && (limb (-x) 2 == 0 && (limb (-x) 3 == 0 && (limb (-x) 4 == 0 && (limb (-x) 5 == 0 && (limb (-x) 6 == 0 && (limb (-x) 7 == 0 && true)))))))) = decide (x = 0) := by
  by_cases h : x = 0
  · subst h; simp [limb0]
  · have e : ∀ n, n < 8 → limb (-x) n = limb (-x + 13407807929942597099574024998205846127479365820592393377723561443721764030073546976801874298166903427690031858186486050853753882811946569946433649006084096 * 1) n := fun n hn => (limb_mod _ 1 n hn).symm
    have hu : ufit (-x + 13407807929942597099574024998205846127479365820592393377723561443721764030073546976801874298166903427690031858186486050853753882811946569946433649006084096 * 1) := by unfold ufit at *; omega
    have hz := zeroU hu
    rw [← e 0 (by omega), ← e 1 (by omega), ← e 2 (by omega), ← e 3 (by omega), ← e 4 (by omega), ← e 5 (by omega), ← e 6 (by omega), ← e 7 (by omega)] at hz
    rw [hz, decide_eq_false h]
    apply decide_eq_false
    unfold ufit at hx; omega
theorem negM {x : Int} (hx : ufit x) (h0 : x ≠ 0) : negB (-x) = fitB (-x) := by
  by_cases h : fit (-x)
  · rw [negB_fit h, fitB_iff.2 h, decide_eq_true]; unfold ufit at hx; omega
  · rw [fitB_false.2 h, negB_lo h (by unfold ufit at hx; omega) (by unfold ufit at hx; omega)]
theorem negU {x : Int} (hx : ufit x) : negB x = !fitB x := by
  by_cases h : fit x
  · rw [negB_fit h, fitB_iff.2 h, decide_eq_false]; · rfl
    unfold ufit at hx; omega
  · rw [fitB_false.2 h, negB_hi h hx.1 hx.2]; rfl
theorem f_signed {x : Int} (hx : ufit x) (b : Bool) (hf : fit (cond b (-x) x)) : f_wide_signed (limb x 0) (limb x 1) (limb x 2) (limb x 3) (limb x 4) (limb x 5) (limb x 6) (limb x 7) b = some (t8 (cond b (-x) x)) := by
  unfold f_wide_signed
  cases b with
  | true =>
    simp only [cond_true, f_minus, Option.bind_some, t8, zeroM hx, f_negB] at hf ⊢
    by_cases h0 : x = 0
    · rw [decide_eq_true h0]; rfl
    · rw [decide_eq_false h0, negM hx h0, fitB_iff.2 hf]; rfl
  | false =>
    simp only [cond_false, zeroU hx, f_negB, Option.bind_some] at hf ⊢
    by_cases h0 : x = 0
    · rw [decide_eq_true h0]; rfl
    · rw [decide_eq_false h0, negU hx, fitB_iff.2 hf]; rfl
def t17 (x y : Int) (b : Bool) : Int × Int × Int × Int × Int × Int × Int × Int × Int × Int × Int × Int × Int × Int × Int × Int × Bool := (limb x 0, limb x 1, limb x 2, limb x 3, limb x 4, limb x 5, limb x 6, limb x 7, limb y 0, limb y 1, limb y 2, limb y 3, limb y 4, limb y 5, limb y 6, limb y 7, b)
theorem fdiv_unique {a b q r : Int} (h : a = b * q + r) (hr : (0 ≤ r ∧ r < b) ∨ (b < r ∧ r ≤ 0)) : a.fdiv b = q ∧ a.fmod b = r := by
  have hb : b ≠ 0 := by omega
  have e : a.fdiv b = q := by
    rcases hr with ⟨h1, h2⟩ | ⟨h1, h2⟩
    · rw [Int.fdiv_eq_ediv_of_nonneg _ (by omega), h, Int.mul_comm, Int.add_comm, Int.add_mul_ediv_right _ _ hb, Int.ediv_eq_zero_of_lt h1 h2]; omega
    · have : a.fdiv b = (-a).fdiv (-b) := by rw [Int.neg_fdiv_neg]
      rw [this, Int.fdiv_eq_ediv_of_nonneg _ (by omega)]
      have e2 : -a = -r + q * (-b) := by rw [h, Int.mul_neg, Int.mul_comm q]; omega
      rw [e2, Int.add_mul_ediv_right _ _ (by omega), Int.ediv_eq_zero_of_lt (by omega) (by omega)]; omega
  refine ⟨e, ?_⟩
  rw [Int.fmod_def, e]; omega
theorem f_Div0 {a b : Int} (hb : fit b) (h0 : b = 0) : f_wide_Div (limb a 0) (limb a 1) (limb a 2) (limb a 3) (limb a 4) (limb a 5) (limb a 6) (limb a 7) (limb b 0) (limb b 1) (limb b 2) (limb b 3) (limb b 4) (limb b 5) (limb b 6) (limb b 7) = some (t17 0 0 false) := by
  unfold f_wide_Div
  rw [f_Sign hb, Option.bind_some, h0]
  simp [sgn, t17, limb0]
theorem f_Div {a b : Int} (ha : fit a) (hb : fit b) (h0 : b ≠ 0) (hf : fit (a.fdiv b)) : f_wide_Div (limb a 0) (limb a 1) (limb a 2) (limb a 3) (limb a 4) (limb a 5) (limb a 6) (limb a 7) (limb b 0) (limb b 1) (limb b 2) (limb b 3) (limb b 4) (limb b 5) (limb b 6) (limb b 7) = some (t17 (a.fdiv b) (a.fmod b) true) := by
  have hs : (sgn b == 0) = false := by
    unfold sgn
    rw [decide_eq_false h0]
    cases decide (b < 0) <;> rfl
  have hA := natAbs_ufit ha
  have hB := natAbs_ufit hb
  have hB0 : 0 < (b.natAbs : Int) := by omega
  have hdm := Int.mul_ediv_add_emod (a.natAbs : Int) (b.natAbs : Int)
  have hr0 := Int.emod_nonneg (a.natAbs : Int) (show (b.natAbs : Int) ≠ 0 by omega)
  have hr1 := Int.emod_lt_of_pos (a.natAbs : Int) hB0
  have hq0 : 0 ≤ (a.natAbs : Int) / (b.natAbs : Int) := Int.ediv_nonneg hA.1 hB.1
  have hqa : (a.natAbs : Int) / (b.natAbs : Int) ≤ (a.natAbs : Int) := Int.ediv_le_self _ hA.1
  unfold f_wide_Div
  simp only [f_Sign hb, Option.bind_some, hs, cond_false, f_size ha, f_size hb, t8, f_parts hA hB hB0, t16, f_negB, negB_fit ha, negB_fit hb]
  generalize (a.natAbs : Int) / (b.natAbs : Int) = x at *
  generalize (a.natAbs : Int) % (b.natAbs : Int) = y at *
  have hx : ufit x := by unfold ufit at *; omega
  have hy : ufit y := by unfold ufit at *; omega
  simp only [zeroU hy]
  have hp1 := f_plus x 0 1 ⟨by decide, by decide⟩
  simp only [limb0, Int.add_zero] at hp1
  have hp2 := f_plus (b.natAbs : Int) (-y - 1) 1 ⟨by decide, by decide⟩
  rw [show (b.natAbs : Int) + (-y - 1) + 1 = (b.natAbs : Int) - y by omega] at hp2
  by_cases h1 : a < 0 <;> by_cases h2 : b < 0
  · have e := fdiv_unique (a := a) (b := b) (q := x) (r := -y) (by rw [show b = -(b.natAbs : Int) by omega, Int.neg_mul]; omega) (.inr ⟨by omega, by omega⟩)
    rw [e.1] at hf
    have s1 := f_signed hx false hf
    have s2 := f_signed hy true (by show fit (-y); unfold fit; unfold fit at hb; omega)
    simp only [decide_eq_true h1, decide_eq_true h2, cond_true, Option.bind_some, s1, s2, t8, e.1, e.2, t17, cond_false]
  · by_cases hy0 : y = 0
    · have e := fdiv_unique (a := a) (b := b) (q := -x) (r := 0) (by rw [show b = (b.natAbs : Int) by omega, Int.mul_neg]; omega) (.inl ⟨by omega, by omega⟩)
      rw [e.1] at hf
      have s1 := f_signed hx true hf
      have s2 := f_signed hy false (by show fit y; rw [hy0]; exact fit0)
      simp only [decide_eq_true h1, decide_eq_false h2, decide_eq_true hy0, Bool.not_true, cond_true, cond_false, Option.bind_some, s1, s2, t8, e.1, e.2, t17]
      rw [hy0]
    · have e := fdiv_unique (a := a) (b := b) (q := -(x + 1)) (r := (b.natAbs : Int) - y) (by rw [show b * -(x + 1) = -((b.natAbs : Int) * x + (b.natAbs : Int)) by rw [show (b.natAbs : Int) = b by omega, Int.mul_neg, Int.mul_add]; omega]; omega) (.inl ⟨by omega, by omega⟩)
      rw [e.1] at hf
      have hx1 : ufit (x + 1) := by unfold fit at hf; unfold ufit; omega
      have hb1 : ufit ((b.natAbs : Int) - y) := by unfold ufit at *; omega
      have s1 := f_signed hx1 true hf
      have s2 := f_signed hb1 false (by show fit ((b.natAbs : Int) - y); unfold fit at *; omega)
      simp only [decide_eq_true h1, decide_eq_false h2, decide_eq_false hy0, Bool.not_false, cond_true, cond_false, Option.bind_some, hp1, f_not, hp2, s1, s2, t8, e.1, e.2, t17]
  · by_cases hy0 : y = 0
    · have e := fdiv_unique (a := a) (b := b) (q := -x) (r := 0) (by rw [show b = -(b.natAbs : Int) by omega, Int.neg_mul_neg]; omega) (.inr ⟨by omega, by omega⟩)
      rw [e.1] at hf
      have s1 := f_signed hx true hf
      have s2 := f_signed hy true (by show fit (-y); rw [hy0]; exact fit0)
      simp only [decide_eq_false h1, decide_eq_true h2, decide_eq_true hy0, Bool.not_true, cond_true, cond_false, Option.bind_some, s1, s2, t8, e.1, e.2, t17]
      rw [hy0]; rfl
    · have e := fdiv_unique (a := a) (b := b) (q := -(x + 1)) (r := -((b.natAbs : Int) - y)) (by rw [show b * -(x + 1) = (b.natAbs : Int) * x + (b.natAbs : Int) by rw [show (b.natAbs : Int) = -b by omega, Int.mul_neg, Int.mul_add, Int.neg_mul]; omega]; omega) (.inr ⟨by omega, by omega⟩)
      rw [e.1] at hf
      have hx1 : ufit (x + 1) := by unfold fit at hf; unfold ufit; omega
      have hb1 : ufit ((b.natAbs : Int) - y) := by unfold ufit at *; omega
      have s1 := f_signed hx1 true hf
      have s2 := f_signed hb1 true (by show fit (-((b.natAbs : Int) - y)); unfold fit at *; omega)
      simp only [decide_eq_false h1, decide_eq_true h2, decide_eq_false hy0, Bool.not_false, cond_true, cond_false, Option.bind_some, hp1, f_not, hp2, s1, s2, t8, e.1, e.2, t17]
  · have e := fdiv_unique (a := a) (b := b) (q := x) (r := y) (by rw [show b = (b.natAbs : Int) by omega]; omega) (.inl ⟨by omega, by omega⟩)
    rw [e.1] at hf
    have s1 := f_signed hx false hf
    have s2 := f_signed hy false (by show fit y; unfold fit at *; omega)
    simp only [decide_eq_false h1, decide_eq_false h2, cond_true, Option.bind_some, s1, s2, t8, e.1, e.2, t17, cond_false]
set_option linter.unusedVariables false
set_option linter.unusedSimpArgs false
set_option maxRecDepth 100000
theorem take_at {l : List Int} {i : Nat} (h : i < l.length) : lv (l.take (i + 1)) = lv (l.take i) + l.getD i 0 * 18446744073709551616 ^ i := by
  have e := lv_split i (l.take (i + 1))
  rw [List.take_take, Nat.min_eq_left (by omega), List.drop_take, show i + 1 - i = 1 by omega, drop_at h] at e
  rw [e]
  simp [lv, Int.mul_comm]
theorem mul_inner {x y l0 : List Int} (hx : rL x) (hy : rL y) (hxl : x.length = 8) (hyl : y.length = 8) (h0 : rL l0) (hl0 : l0.length = 8) {i : Nat} (hi : i < 8) (a b c : List AVal) (n1 n2 n3 n4 n5 n6 : Nat) :
    ∃ e, f_wide_Mul_L10 (a, n1, b, n2, c, n3, LL x, n4, LL y, n5, n6, (i : Int), (i : Int)) (LL l0, 0, 0) = some e ∧
      match e with
      | .inl () => 18446744073709551616 ^ 8 ≤ lv l0 + x.getD i 0 * lv y * 18446744073709551616 ^ i
      | .inr (r, k) => ∃ l, r = LL l ∧ l.length = 8 ∧ rL l ∧ 0 ≤ k ∧ lv l + k * 18446744073709551616 ^ (i + 8) = lv l0 + x.getD i 0 * lv y * 18446744073709551616 ^ i ∧ (0 < i → k = 0) := by
  refine loop_rule (step := f_wide_Mul_L10s (a, n1, b, n2, c, n3, LL x, n4, LL y, n5, n6, (i : Int), (i : Int)))
    (fun v => ∃ (k : Nat) (l : List Int) (w : Int), v = (LL l, w, (k : Int)) ∧ l.length = 8 ∧ rL l ∧ k ≤ 8 ∧ (0 ≤ w ∧ w < 18446744073709551616) ∧
      lv l + w * 18446744073709551616 ^ (i + k) = lv l0 + x.getD i 0 * lv (y.take k) * 18446744073709551616 ^ i ∧ (8 < i + k → w = 0)) (fun v => (8 - v.2.2).toNat) _ ?_ (show (8 - (0 : Int)).toNat < 18446744073709551616 by decide)
    ⟨0, l0, 0, rfl, hl0, h0, by omega, by decide, by simp [lv], by omega⟩
  rintro v ⟨k, l, w, rfl, hl, hr, hk, hw, he, hc⟩
  have xg := hx.get i
  generalize hX : x.getD i 0 = xi at *
  by_cases h8 : k = 8
  · subst h8
    refine .inr ⟨.inr (LL l, w), rfl, l, rfl, hl, hr, hw.1, ?_, fun h => hc (by omega)⟩
    rw [he, List.take_of_length_le (by omega)]
  · have hk8 : k < 8 := by omega
    have yg := hy.get k
    have hta := take_at (l := y) (i := k) (by omega)
    have hsp := lv_split (k + 1) y
    generalize hY : y.getD k 0 = yk at *
    have d1 : decide ((k : Int) < 8) = true := decide_eq_true (by omega)
    have w1 : IntKind.wrap .i64 ((i : Int) + (k : Int)) = ((i + k : Nat) : Int) := by rw [wrapi (by omega)]; omega
    have w2 : IntKind.wrap .i64 ((k : Int) + 1) = ((k + 1 : Nat) : Int) := by rw [wrapi (by omega)]; omega
    have hpn : 0 ≤ xi * yk := Int.mul_nonneg xg.1 yg.1
    have hpm : xi * yk ≤ 18446744073709551615 * 18446744073709551615 := Int.mul_le_mul (by omega) (by omega) yg.1 (by decide)
    have hlo := Int.emod_nonneg (xi * yk) (show (18446744073709551616 : Int) ≠ 0 by decide)
    have hlo2 := Int.emod_lt_of_pos (xi * yk) (show (0 : Int) < 18446744073709551616 by decide)
    have ad : add64 (xi * yk % 18446744073709551616) w 0 = some ((xi * yk % 18446744073709551616 + w + 0) % 18446744073709551616, (xi * yk % 18446744073709551616 + w + 0) / 18446744073709551616) := by
      unfold add64
      rw [decide_eq_true hlo, decide_eq_true hw.1]; rfl
    have hmul : xi * lv (y.take (k + 1)) * 18446744073709551616 ^ i = xi * lv (y.take k) * 18446744073709551616 ^ i + xi * yk * 18446744073709551616 ^ (i + k) := by
      rw [hta, Int.pow_add]; grind
    have hbig : xi * lv (y.take (k + 1)) * 18446744073709551616 ^ i ≤ xi * lv y * 18446744073709551616 ^ i := by
      have h2 : 0 ≤ 18446744073709551616 ^ (k + 1) * lv (y.drop (k + 1)) := Int.mul_nonneg (Int.le_of_lt (mpos _)) (lv_nonneg (hy.drop _))
      exact Int.mul_le_mul_of_nonneg_right (Int.mul_le_mul_of_nonneg_left (by omega) xg.1) (Int.le_of_lt (mpos i))
    simp only [f_wide_Mul_L10s, f_wide_Mul_L10k, d1, w1, w2, cond_true, dec0, dec8 hi, dec8 hk8, Bool.and_self, need_true, Int.toNat_natCast, Nat.mul_one, Nat.zero_add, Nat.add_zero, row1_LL, geti_LL, hxl, hyl, hl, decide_eq_true hi, decide_eq_true hk8, hX, hY, f_Mul64 xg yg, Option.bind_some, ad, wrapu]
    by_cases hik : i + k < 8
    · have d2 : decide (((i + k : Nat) : Int) ≥ 8) = false := decide_eq_false (by omega)
      have d3 : decide (i + k + 1 ≤ 8) = true := decide_eq_true (by omega)
      have lg := hr.get (i + k)
      have hlen : i + k < l.length := by omega
      have hset := lv_set (l := l) (i := i + k)
      generalize hL : l.getD (i + k) 0 = lk at *
      have ad2 : ∀ u, 0 ≤ u → add64 lk u 0 = some ((lk + u + 0) % 18446744073709551616, (lk + u + 0) / 18446744073709551616) := fun u hu => by
        unfold add64
        rw [decide_eq_true lg.1, decide_eq_true hu]; rfl
      have hlo3 := Int.emod_nonneg (xi * yk % 18446744073709551616 + w + 0) (show (18446744073709551616 : Int) ≠ 0 by decide)
      simp only [d2, cond_false, d3, len_LL, hl, dec8 hik, dec0, Bool.and_self, need_true, decide_eq_true hik, ad2 _ hlo3, Option.bind_some]
      rw [spl1_LL hlen]
      refine .inl ⟨_, rfl, ⟨k + 1, _, _, rfl, by simpa using hl, hr.set (by omega) _, by omega, by omega, ?_, by omega⟩, by show (8 - ((k + 1 : Nat) : Int)).toNat < (8 - (k : Int)).toNat; omega⟩
      rw [hset _ hlen, hmul, ← Int.add_assoc (lv l0), ← he, show i + (k + 1) = i + k + 1 by omega, Int.pow_succ]
      have key : ((lk + (xi * yk % 18446744073709551616 + w + 0) % 18446744073709551616 + 0) % 18446744073709551616 - lk) + ((xi * yk / 18446744073709551616 + (xi * yk % 18446744073709551616 + w + 0) / 18446744073709551616) % 18446744073709551616 + (lk + (xi * yk % 18446744073709551616 + w + 0) % 18446744073709551616 + 0) / 18446744073709551616) % 18446744073709551616 * 18446744073709551616 = w + xi * yk := by
        generalize xi * yk = p at *
        omega
      generalize ((lk + (xi * yk % 18446744073709551616 + w + 0) % 18446744073709551616 + 0) % 18446744073709551616 - lk) = u1 at *
      generalize ((xi * yk / 18446744073709551616 + (xi * yk % 18446744073709551616 + w + 0) / 18446744073709551616) % 18446744073709551616 + (lk + (xi * yk % 18446744073709551616 + w + 0) % 18446744073709551616 + 0) / 18446744073709551616) % 18446744073709551616 = u2 at *
      generalize (18446744073709551616 : Int) ^ (i + k) = p at *
      have : u1 * p + u2 * (p * 18446744073709551616) = (u1 + u2 * 18446744073709551616) * p := by grind
      rw [Int.add_assoc, this, key]; grind
    · have d2 : decide (((i + k : Nat) : Int) ≥ 8) = true := decide_eq_true (by omega)
      simp only [d2, cond_true]
      have hover : 0 < xi * yk + w → 18446744073709551616 ^ 8 ≤ lv l0 + xi * lv y * 18446744073709551616 ^ i := by
        intro hpos
        have h1 : lv l + (w + xi * yk) * 18446744073709551616 ^ (i + k) = lv l0 + xi * lv (y.take (k + 1)) * 18446744073709551616 ^ i := by
          rw [hmul, ← Int.add_assoc (lv l0), ← he, Int.add_mul, Int.add_assoc]
        have h2 : (18446744073709551616 : Int) ^ 8 ≤ 18446744073709551616 ^ (i + k) := by
          rw [m2, m2]
          have := Nat.pow_le_pow_right (n := 2) (by decide) (show 64 * 8 ≤ 64 * (i + k) by omega)
          omega
        have h3 : 1 * (18446744073709551616 : Int) ^ (i + k) ≤ (w + xi * yk) * 18446744073709551616 ^ (i + k) := Int.mul_le_mul_of_nonneg_right (by omega) (Int.le_of_lt (mpos _))
        have h4 := lv_nonneg hr
        omega
      generalize hq : xi * yk = p at *
      by_cases e1 : (p % 18446744073709551616 + w + 0) % 18446744073709551616 = 0
      · have b1 : ((p % 18446744073709551616 + w + 0) % 18446744073709551616 != 0) = false := by rw [e1]; rfl
        rw [b1]
        simp only [cond_false]
        by_cases e2 : (p / 18446744073709551616 + (p % 18446744073709551616 + w + 0) / 18446744073709551616) % 18446744073709551616 = 0
        · have b2 : ((p / 18446744073709551616 + (p % 18446744073709551616 + w + 0) / 18446744073709551616) % 18446744073709551616 != 0) = false := by rw [e2]; rfl
          rw [b2]
          have hz : p = 0 ∧ w = 0 := by omega
          refine .inl ⟨_, rfl, ⟨k + 1, l, 0, rfl, hl, hr, by omega, by decide, ?_, fun _ => rfl⟩, by show (8 - ((k + 1 : Nat) : Int)).toNat < (8 - (k : Int)).toNat; omega⟩
          rw [hmul, hz.1]
          rw [hz.2] at he
          simpa using he
        · have b2 : ((p / 18446744073709551616 + (p % 18446744073709551616 + w + 0) / 18446744073709551616) % 18446744073709551616 != 0) = true := by simpa using e2
          rw [b2]
          exact .inr ⟨.inl (), rfl, hover (by omega)⟩
      · have b1 : ((p % 18446744073709551616 + w + 0) % 18446744073709551616 != 0) = true := by simpa using e1
        rw [b1]
        exact .inr ⟨.inl (), rfl, hover (by omega)⟩
theorem mul_outer {x y : List Int} (hx : rL x) (hy : rL y) (hxl : x.length = 8) (hyl : y.length = 8) (a b c : List AVal) (n1 n2 n3 n4 n5 n6 : Nat) :
    ∃ e, f_wide_Mul_L5 (a, n1, b, n2, c, n3, LL x, n4, LL y, n5, n6) (LL z8, 0) = some e ∧
      match e with
      | .inl () => 18446744073709551616 ^ 8 ≤ lv x * lv y
      | .inr r => r = LL (l8 (lv x * lv y)) ∧ ufit (lv x * lv y) := by
  refine loop_rule (step := f_wide_Mul_L5s (a, n1, b, n2, c, n3, LL x, n4, LL y, n5, n6))
    (fun v => ∃ (i : Nat) (l : List Int), v = (LL l, (i : Int)) ∧ l.length = 8 ∧ rL l ∧ i ≤ 8 ∧ lv l = lv (x.take i) * lv y) (fun v => (8 - v.2).toNat) _ ?_ (show (8 - (0 : Int)).toNat < 18446744073709551616 by decide)
    ⟨0, z8, rfl, rfl, rLz, by omega, by simp [lvz, lv]⟩
  rintro v ⟨i, l, rfl, hl, hr, hi, he⟩
  by_cases h8 : i = 8
  · subst h8
    rw [List.take_of_length_le (by omega)] at he
    refine .inr ⟨.inr (LL l), rfl, ?_, ?_⟩
    · rw [← he, ← l8_of hr hl]
    · have := lv8_range hr hl
      rw [he] at this; exact this
  · have hi8 : i < 8 := by omega
    have hta := take_at (l := x) (i := i) (by omega)
    have xg := hx.get i
    have d1 : decide ((i : Int) < 8) = true := decide_eq_true (by omega)
    have w2 : IntKind.wrap .i64 ((i : Int) + 1) = ((i + 1 : Nat) : Int) := by rw [wrapi (by omega)]; omega
    obtain ⟨e, h1, h2⟩ := mul_inner hx hy hxl hyl hr hl hi8 a b c n1 n2 n3 n4 n5 n6
    simp only [f_wide_Mul_L5s, f_wide_Mul_L5k, d1, w2, cond_true, dec0, dec8 hi8, Bool.and_self, need_true, Int.toNat_natCast, Nat.mul_one, Nat.zero_add, Nat.add_zero, row1_LL, geti_LL, hxl, decide_eq_true hi8, h1, Option.bind_some]
    generalize hX : x.getD i 0 = xi at *
    have hsum : lv l + xi * lv y * 18446744073709551616 ^ i = lv (x.take (i + 1)) * lv y := by rw [he, hta]; grind
    have hle : lv (x.take (i + 1)) * lv y ≤ lv x * lv y := by
      have hsp := lv_split (i + 1) x
      have h2 : 0 ≤ 18446744073709551616 ^ (i + 1) * lv (x.drop (i + 1)) := Int.mul_nonneg (Int.le_of_lt (mpos _)) (lv_nonneg (hx.drop _))
      exact Int.mul_le_mul_of_nonneg_right (by omega) (lv_nonneg hy)
    by_cases hx0 : xi = 0
    · have b1 : (xi == 0) = true := by simp [hx0]
      rw [b1]
      refine .inl ⟨_, rfl, ⟨i + 1, l, rfl, hl, hr, by omega, ?_⟩, by show (8 - ((i + 1 : Nat) : Int)).toNat < (8 - (i : Int)).toNat; omega⟩
      rw [← hsum, hx0]; simp
    · have b1 : (xi == 0) = false := by simpa using hx0
      rw [b1]
      simp only [cond_false]
      rw [hsum] at h2
      match e, h2 with
      | .inl (), h2 => exact .inr ⟨.inl (), rfl, Int.le_trans h2 hle⟩
      | .inr (r, k), ⟨l2, hr2, hl2, hrl2, hk0, he2, hki⟩ =>
        subst hr2
        by_cases hk : k = 0
        · have b2 : (k != 0) = false := by simp [hk]
          refine .inl ⟨(LL l2, ((i + 1 : Nat) : Int)), by simp only [Sum.elim, b2, cond_false], ⟨i + 1, l2, rfl, hl2, hrl2, by omega, ?_⟩, by show (8 - ((i + 1 : Nat) : Int)).toNat < (8 - (i : Int)).toNat; omega⟩
          rw [hk] at he2; simpa using he2
        · have b2 : (k != 0) = true := by simpa using hk
          refine .inr ⟨.inl (), by simp only [Sum.elim, b2, cond_true], ?_⟩
          have hi0 : i = 0 := by
            rcases Nat.eq_zero_or_pos i with h | h
            · exact h
            · exact absurd (hki h) hk
          subst hi0
          have h3 : 1 * (18446744073709551616 : Int) ^ 8 ≤ k * 18446744073709551616 ^ 8 := Int.mul_le_mul_of_nonneg_right (by omega) (Int.le_of_lt (mpos _))
          have h4 := lv_nonneg hrl2
          simp only [Nat.zero_add] at he2 hle
          exact Int.le_trans (by omega) hle
def K8v : List TK := [.int .u64, .int .u64, .int .u64, .int .u64, .int .u64, .int .u64, .int .u64, .int .u64]
abbrev R9 := Int × Int × Int × Int × Int × Int × Int × Int × Bool
def fin9 (e : List AVal) (ok : Bool) : Option R9 :=
  need (decide (0 + 8 ≤ List.length (LL z8))) (need (rowOk K8v (spliced (LL z8) 0 e) 0) (some (geti (spliced (LL z8) 0 e) 0, geti (spliced (LL z8) 0 e) 1, geti (spliced (LL z8) 0 e) 2, geti (spliced (LL z8) 0 e) 3, geti (spliced (LL z8) 0 e) 4, geti (spliced (LL z8) 0 e) 5, geti (spliced (LL z8) 0 e) 6, geti (spliced (LL z8) 0 e) 7, ok)))
def zr (a b c d e f g h : Int) : Bool := a == 0 && (b == 0 && (c == 0 && (d == 0 && (e == 0 && (f == 0 && (g == 0 && (h == 0 && true)))))))
noncomputable def plusT (e : List AVal) : Option R9 :=
  cond (!(zr (geti e 0) (geti e 1) (geti e 2) (geti e 3) (geti e 4) (geti e 5) (geti e 6) (geti e 7))) (Option.bind (f_wide_negative (geti e 0) (geti e 1) (geti e 2) (geti e 3) (geti e 4) (geti e 5) (geti e 6) (geti e 7)) fun n => cond n (fin9 (LL z8) false) (fin9 [.int .u64 (geti e 0), .int .u64 (geti e 1), .int .u64 (geti e 2), .int .u64 (geti e 3), .int .u64 (geti e 4), .int .u64 (geti e 5), .int .u64 (geti e 6), .int .u64 (geti e 7)] true)) (fin9 [.int .u64 (geti e 0), .int .u64 (geti e 1), .int .u64 (geti e 2), .int .u64 (geti e 3), .int .u64 (geti e 4), .int .u64 (geti e 5), .int .u64 (geti e 6), .int .u64 (geti e 7)] true)
noncomputable def minusT (e : List AVal) : Option R9 :=
  Option.bind (f_wide_minus (geti e 0) (geti e 1) (geti e 2) (geti e 3) (geti e 4) (geti e 5) (geti e 6) (geti e 7)) fun r => cond (!(zr r.1 r.2.1 r.2.2.1 r.2.2.2.1 r.2.2.2.2.1 r.2.2.2.2.2.1 r.2.2.2.2.2.2.1 r.2.2.2.2.2.2.2)) (Option.bind (f_wide_negative r.1 r.2.1 r.2.2.1 r.2.2.2.1 r.2.2.2.2.1 r.2.2.2.2.2.1 r.2.2.2.2.2.2.1 r.2.2.2.2.2.2.2) fun n => cond n (fin9 [.int .u64 r.1, .int .u64 r.2.1, .int .u64 r.2.2.1, .int .u64 r.2.2.2.1, .int .u64 r.2.2.2.2.1, .int .u64 r.2.2.2.2.2.1, .int .u64 r.2.2.2.2.2.2.1, .int .u64 r.2.2.2.2.2.2.2] true) (fin9 (LL z8) false)) (fin9 [.int .u64 r.1, .int .u64 r.2.1, .int .u64 r.2.2.1, .int .u64 r.2.2.2.1, .int .u64 r.2.2.2.2.1, .int .u64 r.2.2.2.2.2.1, .int .u64 r.2.2.2.2.2.2.1, .int .u64 r.2.2.2.2.2.2.2] true)
noncomputable def tailM (a b e : List AVal) : Option R9 :=
  need (rowOk K8v e 0) (need (rowOk K8v a 0) (Option.bind (f_wide_negative (geti a 0) (geti a 1) (geti a 2) (geti a 3) (geti a 4) (geti a 5) (geti a 6) (geti a 7)) fun n => cond n
    (need (rowOk K8v b 0) (Option.bind (f_wide_negative (geti b 0) (geti b 1) (geti b 2) (geti b 3) (geti b 4) (geti b 5) (geti b 6) (geti b 7)) fun m => cond m (plusT e) (minusT e)))
    (need (rowOk K8v b 0) (Option.bind (f_wide_negative (geti b 0) (geti b 1) (geti b 2) (geti b 3) (geti b 4) (geti b 5) (geti b 6) (geti b 7)) fun m => cond m (minusT e) (plusT e)))))
theorem f_Mul_shape (x y : Int) : f_wide_Mul (limb x 0) (limb x 1) (limb x 2) (limb x 3) (limb x 4) (limb x 5) (limb x 6) (limb x 7) (limb y 0) (limb y 1) (limb y 2) (limb y 3) (limb y 4) (limb y 5) (limb y 6) (limb y 7) =
    Option.bind (f_wide_size (limb x 0) (limb x 1) (limb x 2) (limb x 3) (limb x 4) (limb x 5) (limb x 6) (limb x 7)) fun r1 => Option.bind (f_wide_size (limb y 0) (limb y 1) (limb y 2) (limb y 3) (limb y 4) (limb y 5) (limb y 6) (limb y 7)) fun r2 =>
      Option.bind (f_wide_Mul_L5 (LL (l8 x), 1, LL (l8 y), 1, LL z8, 1, LL [r1.1, r1.2.1, r1.2.2.1, r1.2.2.2.1, r1.2.2.2.2.1, r1.2.2.2.2.2.1, r1.2.2.2.2.2.2.1, r1.2.2.2.2.2.2.2], 1, LL [r2.1, r2.2.1, r2.2.2.1, r2.2.2.2.1, r2.2.2.2.2.1, r2.2.2.2.2.2.1, r2.2.2.2.2.2.2.1, r2.2.2.2.2.2.2.2], 1, 1) (LL z8, 0)) (Sum.elim (fun _ => fin9 (LL z8) false) fun e => tailM (LL (l8 x)) (LL (l8 y)) e) := rfl
theorem g8 (z : Int) {j : Nat} (hj : j < 8) : geti (LL (l8 z)) j = limb z j := by rw [geti_LL, ufit_get, if_pos hj]
theorem fin9_eq (z : Int) (ok : Bool) : fin9 (LL (l8 z)) ok = some (t9 z ok) := by
  unfold fin9
  simp only [K8v, len_LL, z8_len, splA (show z8.length = (l8 z).length from rfl), row8_LL (l8_len _), geti_LL, ufit_get]
  rfl
theorem fin9_z : fin9 (LL z8) false = some (t9 0 false) := by
  have := fin9_eq 0 false
  rw [show l8 0 = z8 by unfold l8; simp only [limb0]; rfl] at this
  exact this
theorem plusT_eq {z : Int} (h : ufit z) : plusT (LL (l8 z)) = some (cond (fitB z) (t9 z true) (t9 0 false)) := by
  unfold plusT zr
  simp only [g8 z (show 0 < 8 by omega), g8 z (show 1 < 8 by omega), g8 z (show 2 < 8 by omega), g8 z (show 3 < 8 by omega), g8 z (show 4 < 8 by omega), g8 z (show 5 < 8 by omega), g8 z (show 6 < 8 by omega), g8 z (show 7 < 8 by omega), zeroU h, f_negB, Option.bind_some, mk_LL, l8_fold, fin9_eq, fin9_z, negU h]
  by_cases h0 : z = 0
  · subst h0; rw [fitB_iff.2 fit0]; rfl
  · rw [decide_eq_false h0]; cases fitB z <;> rfl
theorem minusT_eq {z : Int} (h : ufit z) : minusT (LL (l8 z)) = some (cond (fitB (-z)) (t9 (-z) true) (t9 0 false)) := by
  unfold minusT zr
  simp only [g8 z (show 0 < 8 by omega), g8 z (show 1 < 8 by omega), g8 z (show 2 < 8 by omega), g8 z (show 3 < 8 by omega), g8 z (show 4 < 8 by omega), g8 z (show 5 < 8 by omega), g8 z (show 6 < 8 by omega), g8 z (show 7 < 8 by omega), f_minus, t8, zeroM h, f_negB, Option.bind_some, mk_LL, l8_fold, fin9_eq, fin9_z]
  by_cases h0 : z = 0
  · subst h0; rw [Int.neg_zero, fitB_iff.2 fit0]; rfl
  · rw [decide_eq_false h0, negM h h0]; cases fitB (-z) <;> rfl
theorem tailM_eq {x y z : Int} (hx : fit x) (hy : fit y) (h : ufit z) : tailM (LL (l8 x)) (LL (l8 y)) (LL (l8 z)) = cond (decide (x < 0) == decide (y < 0)) (some (cond (fitB z) (t9 z true) (t9 0 false))) (some (cond (fitB (-z)) (t9 (-z) true) (t9 0 false))) := by
  unfold tailM
  simp only [K8v, row8_LL (l8_len _), need_true, g8 x (show 0 < 8 by omega), g8 x (show 1 < 8 by omega), g8 x (show 2 < 8 by omega), g8 x (show 3 < 8 by omega), g8 x (show 4 < 8 by omega), g8 x (show 5 < 8 by omega), g8 x (show 6 < 8 by omega), g8 x (show 7 < 8 by omega),
    g8 y (show 0 < 8 by omega), g8 y (show 1 < 8 by omega), g8 y (show 2 < 8 by omega), g8 y (show 3 < 8 by omega), g8 y (show 4 < 8 by omega), g8 y (show 5 < 8 by omega), g8 y (show 6 < 8 by omega), g8 y (show 7 < 8 by omega), f_negB, Option.bind_some, negB_fit hx, negB_fit hy, plusT_eq h, minusT_eq h]
  cases decide (x < 0) <;> cases decide (y < 0) <;> rfl
theorem dec_ne {p q : Prop} [Decidable p] [Decidable q] (h : p ≠ q) : (decide p == decide q) = false := by
  by_cases a : p <;> by_cases b : q <;> simp_all
theorem dec_eq {p q : Prop} [Decidable p] [Decidable q] (h : ¬ p ≠ q) : (decide p == decide q) = true := by
  by_cases a : p <;> by_cases b : q <;> simp_all
theorem f_Mul {x y : Int} (hx : fit x) (hy : fit y) :
    f_wide_Mul (limb x 0) (limb x 1) (limb x 2) (limb x 3) (limb x 4) (limb x 5) (limb x 6) (limb x 7) (limb y 0) (limb y 1) (limb y 2) (limb y 3) (limb y 4) (limb y 5) (limb y 6) (limb y 7) =
      some (t9 (fitR (x * y)).1 (fitR (x * y)).2) := by
  have hA := natAbs_ufit hx
  have hB := natAbs_ufit hy
  obtain ⟨e, h1, h2⟩ := mul_outer (x := l8 (x.natAbs : Int)) (y := l8 (y.natAbs : Int)) (l8_rL _) (l8_rL _) rfl rfl (LL (l8 x)) (LL (l8 y)) (LL z8) 1 1 1 1 1 1
  rw [l8_lv hA.1 hA.2, l8_lv hB.1 hB.2] at h2
  have gq : ∀ z j, j < 8 → (l8 z).getD j 0 = limb z j := fun z j hj => by rw [ufit_get, if_pos hj]
  have gz : ∀ j, z8.getD j 0 = 0 := z8_get
  have hab : (x * y).natAbs = x.natAbs * y.natAbs := Int.natAbs_mul x y
  have hP : ((x.natAbs : Int) * (y.natAbs : Int)) = ((x * y).natAbs : Int) := by rw [hab]; push_cast; rfl
  rw [hP] at h2
  have hsg : x * y < 0 ↔ (x * y ≠ 0 ∧ ((x < 0) ≠ (y < 0))) := by
    rcases Int.lt_trichotomy x 0 with a | a | a <;> rcases Int.lt_trichotomy y 0 with b | b | b
    · have := Int.mul_pos_of_neg_of_neg a b; simp [a, b]; omega
    · subst b; simp
    · have := Int.mul_neg_of_neg_of_pos a b
      have hb : ¬ y < 0 := by omega
      simp [a, hb, this]; omega
    · subst a; simp
    · subst a; simp
    · subst a; simp
    · have := Int.mul_neg_of_pos_of_neg a b
      have ha : ¬ x < 0 := by omega
      simp [ha, b, this]; omega
    · subst b; simp
    · have := Int.mul_pos a b
      have ha : ¬ x < 0 := by omega
      have hb : ¬ y < 0 := by omega
      simp [ha, hb]; omega
  rw [f_Mul_shape, f_size hx, Option.bind_some, f_size hy, Option.bind_some]
  simp only [t8, l8_fold, h1, Option.bind_some]
  match e, h2 with
  | .inl (), h2 =>
    have hnf : ¬ fit (x * y) := by
      have : (18446744073709551616 : Int) ^ 8 = 13407807929942597099574024998205846127479365820592393377723561443721764030073546976801874298166903427690031858186486050853753882811946569946433649006084096 := by decide
      unfold fit; omega
    unfold fitR
    rw [fitB_false.2 hnf]
    exact fin9_z
  | .inr r, ⟨h2, h3⟩ =>
    subst h2
    show tailM _ _ _ = _
    rw [tailM_eq hx hy h3]
    generalize hz : x * y = z at *
    unfold fitR
    by_cases hn : (x < 0) ≠ (y < 0)
    · have hb : (decide (x < 0) == decide (y < 0)) = false := dec_ne hn
      rw [hb]
      have e : -(z.natAbs : Int) = z := by
        by_cases h0 : z = 0
        · omega
        · have := hsg.2 ⟨h0, hn⟩; omega
      rw [cond_false, e]; cases fitB z <;> rfl
    · have hb : (decide (x < 0) == decide (y < 0)) = true := dec_eq hn
      rw [hb]
      have e : (z.natAbs : Int) = z := by
        have : ¬ z < 0 := fun h => hn (hsg.1 h).2
        omega
      rw [cond_true, e]; cases fitB z <;> rfl
end Go.Ev

