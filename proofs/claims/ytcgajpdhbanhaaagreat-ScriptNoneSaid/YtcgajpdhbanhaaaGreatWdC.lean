import Derived.Test.YtcgajpdhbanhaaaGreatWdB
import Derived.Test.YtcgajpdhbanhaaaGreatWideD
namespace Go.Ev
set_option linter.unusedVariables false
set_option linter.unusedSimpArgs false
set_option maxRecDepth 100000
theorem f_Int {x : Int} (hx : fit x) : f_wide_Int (limb x 0) (limb x 1) (limb x 2) (limb x 3) (limb x 4) (limb x 5) (limb x 6) (limb x 7) = some (cond (rng63 x) (x, true) (0, false)) := by
  have hr := limb_range x 0
  have hw : IntKind.wrap .i64 (limb x 0) = cond (decide (limb x 0 < 9223372036854775808)) (limb x 0) (limb x 0 - 18446744073709551616) := by
    by_cases h : limb x 0 < 9223372036854775808
    · rw [decide_eq_true h]; exact wrapi ⟨by omega, h⟩
    · rw [decide_eq_false h]
      simp [IntKind.wrap, IntKind.signed, IntKind.bits]
      omega
  have hw2 : rng63 (IntKind.wrap .i64 (limb x 0)) = true := by
    rw [hw]
    by_cases h : limb x 0 < 9223372036854775808
    · rw [decide_eq_true h]; simp [rng63]; omega
    · rw [decide_eq_false h]; simp [rng63]; omega
  unfold f_wide_Int
  rw [f_Of hw2, Option.bind_some]
  generalize hg : IntKind.wrap .i64 (limb x 0) = y at hw hw2
  by_cases hxy : x = y
  · subst hxy
    rw [hw2]
    simp [t8]
  · have hn : rng63 x = false := by
      cases h : rng63 x with
      | false => rfl
      | true =>
        have h1 : -9223372036854775808 ≤ x ∧ x < 9223372036854775808 := by simpa [rng63] using h
        have h0 : limb x 0 = x % 18446744073709551616 := rfl
        exfalso
        apply hxy
        rw [hw]
        by_cases h : limb x 0 < 9223372036854775808
        · rw [decide_eq_true h]; simp only [cond_true]; omega
        · rw [decide_eq_false h]; simp only [cond_false]; omega
    rw [hn]
    have hy : fit y := by
      have : -9223372036854775808 ≤ y ∧ y < 9223372036854775808 := by simpa [rng63] using hw2
      unfold fit; omega
    have hne : (limb y 0 == limb x 0 && (limb y 1 == limb x 1 && (limb y 2 == limb x 2 && (limb y 3 == limb x 3 && (limb y 4 == limb x 4 && (limb y 5 == limb x 5 && (limb y 6 == limb x 6 && (limb y 7 == limb x 7 && true)))))))) = false := by
      apply Bool.eq_false_iff.2
      intro h
      simp only [Bool.and_eq_true, beq_iff_eq, Bool.and_true] at h
      obtain ⟨h0, h1, h2, h3, h4, h5, h6, h7⟩ := h
      apply hxy
      rw [← num_limb hx, ← num_limb hy, h0, h1, h2, h3, h4, h5, h6, h7]
    simp only [t8, hne, Bool.not_false, cond_true, cond_false]
set_option linter.unusedVariables false
set_option linter.unusedSimpArgs false
set_option maxRecDepth 100000
theorem getD_ge {x : Int} {i : Nat} (h : 8 ≤ i) (hf : fit x) : limb x i = limb x 7 / 9223372036854775808 * 18446744073709551615 := by
  have e7 := limb7 x
  have hd : dv 8 x = if x < 0 then -1 else 0 := by
    have : dv 8 x = x / 18446744073709551616 / 18446744073709551616 / 18446744073709551616 / 18446744073709551616 / 18446744073709551616 / 18446744073709551616 / 18446744073709551616 / 18446744073709551616 := rfl
    unfold fit at hf
    split <;> omega
  obtain ⟨j, rfl⟩ : ∃ j, i = 8 + j := ⟨i - 8, by omega⟩
  rw [limb_add]
  have hn := negB_fit hf
  unfold negB at hn
  have r7 := limb_range x 7
  by_cases hx : x < 0
  · rw [hd, if_pos hx]
    rw [decide_eq_true hx] at hn
    have h7 := of_decide_eq_true hn
    have hl : limb (-1) j = 18446744073709551615 := by
      unfold limb
      cases j with
      | zero => rfl
      | succ j => rw [dv_neg _ (by decide) (by omega)]; rfl
    rw [hl]; omega
  · rw [hd, if_neg hx]
    rw [decide_eq_false hx] at hn
    have h7 := of_decide_eq_false hn
    rw [limb0]; omega
theorem fill_eq {x : Int} (hf : fit x) : IntKind.wrap .u64 (ishr .i64 (IntKind.wrap .i64 (limb x 7)) 63) = limb x 8 := by
  rw [getD_ge (Nat.le_refl 8) hf, wrapu, ishr63i]
  have r := limb_range x 7
  by_cases h : limb x 7 < 9223372036854775808
  · rw [wrapi ⟨by omega, h⟩]; omega
  · have : IntKind.wrap .i64 (limb x 7) = limb x 7 - 18446744073709551616 := by
      simp [IntKind.wrap, IntKind.signed, IntKind.bits]; omega
    rw [this]; omega
theorem limb_hi {x : Int} (hf : fit x) {i : Nat} (h : 8 ≤ i) : limb x i = limb x 8 := by rw [getD_ge h hf, getD_ge (Nat.le_refl 8) hf]
theorem shr_loop {x : Int} (hf : fit x) {n : Nat} (hn : n < 512) (p q r : Nat) (zl : List AVal) :
    ∃ e, f_wide_Shr_L9 ((n : Int), zl, p, LL (l8 x), q, limb x 8, r) (LL z8, 0) = some e ∧ e = LL (l8 (x / ((2 ^ n : Nat) : Int))) := by
  refine loop_rule (step := f_wide_Shr_L9s ((n : Int), zl, p, LL (l8 x), q, limb x 8, r))
    (fun v => ∃ (i : Nat) (l : List Int), v = (LL l, (i : Int)) ∧ l.length = 8 ∧ i ≤ 8 ∧ ∀ j, j < i → l.getD j 0 = limb (x / ((2 ^ n : Nat) : Int)) j) (fun v => (8 - v.2).toNat) _ ?_
    (show (8 - (0 : Int)).toNat < 18446744073709551616 by decide)
    ⟨0, z8, rfl, rfl, by omega, fun j hj => by omega⟩
  rintro v ⟨i, l, rfl, hl, hi, hg⟩
  have t1 : Int.tdiv (n : Int) 64 = ((n / 64 : Nat) : Int) := by rw [Int.tdiv_eq_ediv_of_nonneg (by omega)]; omega
  have t2 : Int.tmod (n : Int) 64 = ((n % 64 : Nat) : Int) := by rw [Int.tmod_eq_emod_of_nonneg (by omega)]; omega
  have w1 : IntKind.wrap .i64 ((n / 64 : Nat) : Int) = ((n / 64 : Nat) : Int) := wrapi (by omega)
  by_cases h8 : i = 8
  · subst h8
    refine .inr ⟨LL l, rfl, ?_⟩
    rw [ext8 hl (l8_len _) (fun j hj => by rw [hg j hj, ufit_get, if_pos hj])]
  · have hi8 : i < 8 := by omega
    have w2 : IntKind.wrap .i64 ((i : Int) + ((n / 64 : Nat) : Int)) = ((i + n / 64 : Nat) : Int) := by rw [wrapi (by omega)]; omega
    have w3 : IntKind.wrap .i64 (64 - ((n % 64 : Nat) : Int)) = ((64 - n % 64 : Nat) : Int) := by rw [wrapi (by omega)]; omega
    have w4 : IntKind.wrap .i64 ((i : Int) + 1) = ((i + 1 : Nat) : Int) := by rw [wrapi (by omega)]; omega
    have w5 : IntKind.wrap .i64 (((i + n / 64 : Nat) : Int) + 1) = ((i + n / 64 + 1 : Nat) : Int) := by rw [wrapi (by omega)]; omega
    have d1 : decide ((i : Int) < 8) = true := decide_eq_true (by omega)
    have d2 : decide (((n % 64 : Nat) : Int) < 0) = false := decide_eq_false (by omega)
    have d3 : decide (((64 - n % 64 : Nat) : Int) < 0) = false := decide_eq_false (by omega)
    have d4 : decide (i + 1 ≤ 8) = true := decide_eq_true (by omega)
    have hx8 := l8_len x
    have gx : ∀ j, j < 8 → (l8 x).getD j 0 = limb x j := fun j hj => by rw [ufit_get, if_pos hj]
    have hset : ∀ v, v = limb (x / ((2 ^ n : Nat) : Int)) i → ∃ v', some (Sum.inl (LL (l.set i v), ((i + 1 : Nat) : Int)) : (List AVal × Int) ⊕ List AVal) = some (Sum.inl v') ∧
        (∃ (i : Nat) (l : List Int), v' = (LL l, (i : Int)) ∧ l.length = 8 ∧ i ≤ 8 ∧ ∀ j, j < i → l.getD j 0 = limb (x / ((2 ^ n : Nat) : Int)) j) ∧ (8 - v'.2).toNat < (8 - (i : Int)).toNat := by
      intro v hv
      refine ⟨_, rfl, ⟨i + 1, l.set i v, rfl, by simpa using hl, by omega, fun j hj => ?_⟩, by show (8 - ((i + 1 : Nat) : Int)).toNat < _; omega⟩
      rw [getD_set (by omega), hv]
      by_cases e1 : j = i
      · rw [if_pos e1, e1]
      · rw [if_neg e1, hg j (by omega)]
    have sp2 : ∀ u v : Int, spliced (LL (l.set i u)) i [.int .u64 v] = LL (l.set i v) := fun u v => by rw [spl1_LL (by rw [List.length_set]; omega), List.set_set]
    left
    have at1 : ∀ {R : Type} (f : Int → Option R), (cond (decide (((i + n / 64 : Nat) : Int) < 8)) (need (decide (((i + n / 64 : Nat) : Int) < ((8 : Nat) : Int))) (need (decide (i + n / 64 < 8)) (f ((l8 x).getD (i + n / 64) 0)))) (f (limb x 8))) = f (limb x (i + n / 64)) := by
      intro R f
      by_cases h : i + n / 64 < 8
      · rw [decide_eq_true (show ((i + n / 64 : Nat) : Int) < 8 by omega), cond_true, dec8 h, need_true, decide_eq_true h, need_true, gx _ h]
      · rw [decide_eq_false (show ¬ ((i + n / 64 : Nat) : Int) < 8 by omega), cond_false, limb_hi hf (show 8 ≤ i + n / 64 by omega)]
    have at2 : ∀ {R : Type} (f : Int → Option R), (cond (decide (((i + n / 64 + 1 : Nat) : Int) < 8)) (need (decide (((i + n / 64 + 1 : Nat) : Int) < ((8 : Nat) : Int))) (need (decide (i + n / 64 + 1 < 8)) (f ((l8 x).getD (i + n / 64 + 1) 0)))) (f (limb x 8))) = f (limb x (i + n / 64 + 1)) := by
      intro R f
      by_cases h : i + n / 64 + 1 < 8
      · rw [decide_eq_true (show ((i + n / 64 + 1 : Nat) : Int) < 8 by omega), cond_true, dec8 h, need_true, decide_eq_true h, need_true, gx _ h]
      · rw [decide_eq_false (show ¬ ((i + n / 64 + 1 : Nat) : Int) < 8 by omega), cond_false, limb_hi hf (show 8 ≤ i + n / 64 + 1 by omega)]
    simp only [f_wide_Shr_L9s, f_wide_Shr_L9k, t1, t2, w1, w2, w3, w4, w5, d1, d2, d3, d4, dec0, dec8 hi8, cond_true, need_true, Bool.and_self, Bool.true_and, Bool.not_false, Int.toNat_natCast, Nat.mul_one, Nat.zero_add, Nat.add_zero, row1_LL, geti_LL, hl, hx8,
      decide_eq_true hi8, len_LL, spl1_LL (show i < l.length by omega), List.length_set, getD_set (show i < l.length by omega), if_true, sp2]
    by_cases hs : n % 64 = 0
    · have d5 : decide (((n % 64 : Nat) : Int) > 0) = false := decide_eq_false (by omega)
      simp only [d5, cond_false]
      refine cast ?_ (hset (ishr .u64 (limb x (i + n / 64)) ((n % 64 : Nat) : Int)) (limb_shr0 hs x))
      rw [at1 fun u => some (Sum.inl (LL (l.set i (ishr .u64 u ((n % 64 : Nat) : Int))), ((i + 1 : Nat) : Int)))]
    · have d5 : decide (((n % 64 : Nat) : Int) > 0) = true := decide_eq_true (by omega)
      simp only [d5, cond_true]
      refine cast ?_ (hset (ior .u64 (ishr .u64 (limb x (i + n / 64)) ((n % 64 : Nat) : Int)) (ishl .u64 (limb x (i + n / 64 + 1)) ((64 - n % 64 : Nat) : Int))) (limb_shr_ior x))
      have := at1 fun u => cond (decide (((i + n / 64 + 1 : Nat) : Int) < 8)) (need (decide (((i + n / 64 + 1 : Nat) : Int) < ((8 : Nat) : Int))) (need (decide (i + n / 64 + 1 < 8)) (some (Sum.inl (LL (l.set i (ior .u64 (ishr .u64 u ((n % 64 : Nat) : Int)) (ishl .u64 ((l8 x).getD (i + n / 64 + 1) 0) ((64 - n % 64 : Nat) : Int)))), ((i + 1 : Nat) : Int)) : (List AVal × Int) ⊕ List AVal))))
        (some (Sum.inl (LL (l.set i (ior .u64 (ishr .u64 u ((n % 64 : Nat) : Int)) (ishl .u64 (limb x 8) ((64 - n % 64 : Nat) : Int)))), ((i + 1 : Nat) : Int))))
      rw [this]
      have := at2 fun u => some (Sum.inl (LL (l.set i (ior .u64 (ishr .u64 (limb x (i + n / 64)) ((n % 64 : Nat) : Int)) (ishl .u64 u ((64 - n % 64 : Nat) : Int)))), ((i + 1 : Nat) : Int)) : (List AVal × Int) ⊕ List AVal)
      rw [this]
theorem f_Shr {x n : Int} (hf : fit x) (hn : rng63 n = true) : f_wide_Shr (limb x 0) (limb x 1) (limb x 2) (limb x 3) (limb x 4) (limb x 5) (limb x 6) (limb x 7) n = some (t8 (shrR x n)) := by
  have gq : ∀ z j, j < 8 → (l8 z).getD j 0 = limb z j := fun z j hj => by rw [ufit_get, if_pos hj]
  unfold f_wide_Shr shrR
  by_cases h0 : n < 0
  · rw [decide_eq_true h0]; rfl
  · rw [decide_eq_false h0]
    simp only [cond_false, mk_LL, l8_fold, z8_fold, fill_eq hf]
    by_cases h1 : n > 511
    · obtain ⟨e, h2, h3⟩ := shr_loop hf (n := 511) (by decide) 1 1 1 (LL z8)
      subst h3
      rw [decide_eq_true h1, show min n.toNat 511 = 511 by omega]
      rw [show ((511 : Nat) : Int) = 511 from rfl] at h2
      simp only [cond_true, h2, Option.bind_some, row8_LL (l8_len _), need_true, len_LL, z8_len, geti_LL, gq _ _ (show 0 < 8 by omega), gq _ _ (show 1 < 8 by omega), gq _ _ (show 2 < 8 by omega), gq _ _ (show 3 < 8 by omega), gq _ _ (show 4 < 8 by omega), gq _ _ (show 5 < 8 by omega), gq _ _ (show 6 < 8 by omega), gq _ _ (show 7 < 8 by omega), l8_fold, splA (show z8.length = (l8 (x / ((2 ^ 511 : Nat) : Int))).length from rfl)]
      rfl
    · obtain ⟨k, rfl⟩ := Int.eq_ofNat_of_zero_le (show 0 ≤ n by omega)
      obtain ⟨e, h2, h3⟩ := shr_loop hf (n := k) (by omega) 1 1 1 (LL z8)
      subst h3
      rw [decide_eq_false h1, show min ((k : Int)).toNat 511 = k by omega]
      simp only [cond_false, h2, Option.bind_some, row8_LL (l8_len _), need_true, len_LL, z8_len, geti_LL, gq _ _ (show 0 < 8 by omega), gq _ _ (show 1 < 8 by omega), gq _ _ (show 2 < 8 by omega), gq _ _ (show 3 < 8 by omega), gq _ _ (show 4 < 8 by omega), gq _ _ (show 5 < 8 by omega), gq _ _ (show 6 < 8 by omega), gq _ _ (show 7 < 8 by omega), l8_fold, splA (show z8.length = (l8 (x / ((2 ^ k : Nat) : Int))).length from rfl)]
      rfl
theorem shl_loop {x : Int} {n : Nat} (hn : n < 512) (p q r : Nat) (zl : List AVal) :
    ∃ e, f_wide_Shl_L9 ((n : Int), LL (l8 x), p, zl, q, r) (LL z8, 7) = some e ∧ e = LL (l8 (x * ((2 ^ n : Nat) : Int))) := by
  refine loop_rule (step := f_wide_Shl_L9s ((n : Int), LL (l8 x), p, zl, q, r))
    (fun v => ∃ (i : Nat) (l : List Int), v = (LL l, (i : Int) - 1) ∧ l.length = 8 ∧ i ≤ 8 ∧ ∀ j, j < 8 → l.getD j 0 = if i ≤ j then limb (x * ((2 ^ n : Nat) : Int)) j else 0) (fun v => (v.2 + 1).toNat) _ ?_
    (show ((7 : Int) + 1).toNat < 18446744073709551616 by decide)
    ⟨8, z8, rfl, rfl, by omega, fun j hj => by rw [z8_get, if_neg (by omega)]⟩
  rintro v ⟨i, l, rfl, hl, hi, hg⟩
  have t1 : Int.tdiv (n : Int) 64 = ((n / 64 : Nat) : Int) := by rw [Int.tdiv_eq_ediv_of_nonneg (by omega)]; omega
  have t2 : Int.tmod (n : Int) 64 = ((n % 64 : Nat) : Int) := by rw [Int.tmod_eq_emod_of_nonneg (by omega)]; omega
  have w1 : IntKind.wrap .i64 ((n / 64 : Nat) : Int) = ((n / 64 : Nat) : Int) := wrapi (by omega)
  cases i with
  | zero =>
    refine .inr ⟨LL l, rfl, ?_⟩
    rw [ext8 hl (l8_len _) (fun j hj => by rw [hg j hj, ufit_get, if_pos hj, if_pos (by omega)])]
  | succ i =>
    have e : ((i + 1 : Nat) : Int) - 1 = (i : Int) := by omega
    rw [e]
    have hi8 : i < 8 := by omega
    have w4 : IntKind.wrap .i64 ((i : Int) - 1) = (i : Int) - 1 := wrapi (by omega)
    have w3 : IntKind.wrap .i64 (64 - ((n % 64 : Nat) : Int)) = ((64 - n % 64 : Nat) : Int) := by rw [wrapi (by omega)]; omega
    have d2 : decide (((n % 64 : Nat) : Int) < 0) = false := decide_eq_false (by omega)
    have d3 : decide (((64 - n % 64 : Nat) : Int) < 0) = false := decide_eq_false (by omega)
    have d4 : decide (i + 1 ≤ 8) = true := decide_eq_true (by omega)
    have hx8 := l8_len x
    have gx : ∀ j, j < 8 → (l8 x).getD j 0 = limb x j := fun j hj => by rw [ufit_get, if_pos hj]
    have hnext : ∀ m : List Int, m.length = 8 → (∀ j, j < 8 → m.getD j 0 = if i ≤ j then limb (x * ((2 ^ n : Nat) : Int)) j else 0) → ∃ v', some (Sum.inl (LL m, (i : Int) - 1) : (List AVal × Int) ⊕ List AVal) = some (Sum.inl v') ∧
        (∃ (i : Nat) (l : List Int), v' = (LL l, (i : Int) - 1) ∧ l.length = 8 ∧ i ≤ 8 ∧ ∀ j, j < 8 → l.getD j 0 = if i ≤ j then limb (x * ((2 ^ n : Nat) : Int)) j else 0) ∧ (v'.2 + 1).toNat < ((i : Int) + 1).toNat := by
      intro m hm hg
      exact ⟨_, rfl, ⟨i, m, rfl, hm, by omega, hg⟩, by show (((i : Int) - 1) + 1).toNat < _; omega⟩
    have hset : ∀ v, v = limb (x * ((2 ^ n : Nat) : Int)) i → ∀ j, j < 8 → (l.set i v).getD j 0 = if i ≤ j then limb (x * ((2 ^ n : Nat) : Int)) j else 0 := by
      intro v hv j hj
      rw [getD_set (by omega), hg j hj, hv]
      by_cases e1 : j = i
      · rw [if_pos e1, if_pos (by omega), e1]
      · rw [if_neg e1]
        by_cases e2 : i ≤ j
        · rw [if_pos (by omega), if_pos e2]
        · rw [if_neg (by omega), if_neg e2]
    left
    by_cases hk : n / 64 ≤ i
    · have w2 : IntKind.wrap .i64 ((i : Int) - ((n / 64 : Nat) : Int)) = ((i - n / 64 : Nat) : Int) := by rw [wrapi (by omega)]; omega
      have d6 : decide (((i - n / 64 : Nat) : Int) ≥ 0) = true := decide_eq_true (by omega)
      simp only [f_wide_Shl_L9s, f_wide_Shl_L9k, t1, t2, w1, w2, w3, w4, d2, d3, d4, d6, dec0, dec0', dec8 hi8, dec8 (show i - n / 64 < 8 by omega), cond_true, need_true, Bool.and_self, Bool.not_false, Int.toNat_natCast, Nat.mul_one, Nat.zero_add, Nat.add_zero, row1_LL, geti_LL, hl, hx8,
        decide_eq_true (show i - n / 64 < 8 by omega), decide_eq_true hi8, len_LL, gx _ (show i - n / 64 < 8 by omega)]
      by_cases hs : n % 64 = 0
      · have d5 : decide (((n % 64 : Nat) : Int) > 0) = false := decide_eq_false (by omega)
        rw [d5]
        simp only [cond_false]
        rw [spl1_LL (by omega)]
        refine hnext _ (by simpa using hl) (hset _ ?_)
        rw [ishl_u _ (by omega), limb_shl x hk]
        have c0 : cry x ((2 ^ (64 - n % 64) : Nat) : Int) (i - n / 64) = 0 := by
          cases i - n / 64 with
          | zero => rfl
          | succ j =>
            have := limb_range x j
            show limb x j / _ = 0
            rw [hs]
            have e : ((2 ^ (64 - 0) : Nat) : Int) = 18446744073709551616 := by decide
            rw [e]; omega
        rw [c0]; omega
      · have d5 : decide (((n % 64 : Nat) : Int) > 0) = true := decide_eq_true (by omega)
        rw [d5]
        simp only [cond_true]
        by_cases hik : ((i - n / 64 : Nat) : Int) > 0
        · rw [decide_eq_true hik]
          have w5 : IntKind.wrap .i64 (((i - n / 64 : Nat) : Int) - 1) = ((i - n / 64 - 1 : Nat) : Int) := by rw [wrapi (by omega)]; omega
          simp only [cond_true, w5, dec0, dec8 (show i - n / 64 - 1 < 8 by omega), Bool.and_self, need_true, Int.toNat_natCast, decide_eq_true (show i - n / 64 - 1 < 8 by omega), gx _ (show i - n / 64 - 1 < 8 by omega)]
          rw [spl1_LL (by omega)]
          simp only [row1_LL, geti_LL, len_LL, List.length_set, hl, decide_eq_true hi8, d4, need_true]
          rw [getD_set (by omega), if_pos rfl, spl1_LL (by simpa using (by omega : i < l.length)), List.set_set]
          refine hnext _ (by simpa using hl) (hset _ ?_)
          rw [← limb_shl_ior x hk]
          have e : i - n / 64 = (i - n / 64 - 1) + 1 := by omega
          rw [e, Nat.add_sub_cancel]
          congr 1
          show _ = limb x (i - n / 64 - 1) / _
          rw [ishr_u _ (by omega)]
        · rw [decide_eq_false hik]
          simp only [cond_false]
          rw [spl1_LL (by omega)]
          refine hnext _ (by simpa using hl) (hset _ ?_)
          have e : i - n / 64 = 0 := by omega
          rw [limb_shl x hk, e, ishl_u _ (by omega)]
          show _ = _ + 0
          omega
    · have w2 : IntKind.wrap .i64 ((i : Int) - ((n / 64 : Nat) : Int)) = (i : Int) - ((n / 64 : Nat) : Int) := wrapi (by omega)
      have d6 : decide ((i : Int) - ((n / 64 : Nat) : Int) ≥ 0) = false := decide_eq_false (by omega)
      simp only [f_wide_Shl_L9s, f_wide_Shl_L9k, t1, t2, w1, w2, w4, d6, dec0', cond_true, cond_false]
      refine hnext _ hl (fun j hj => ?_)
      rw [hg j hj]
      by_cases e1 : j = i
      · subst e1
        rw [if_neg (by omega), if_pos (Nat.le_refl _), limb_shl0 x (by omega)]
      · by_cases e2 : i ≤ j
        · rw [if_pos (by omega), if_pos e2]
        · rw [if_neg (by omega), if_neg e2]
theorem signed_of (z : Int) : ∃ y k, fit y ∧ z = y + 13407807929942597099574024998205846127479365820592393377723561443721764030073546976801874298166903427690031858186486050853753882811946569946433649006084096 * k := by
  refine ⟨num (limb z 0) (limb z 1) (limb z 2) (limb z 3) (limb z 4) (limb z 5) (limb z 6) (limb z 7), (z - num (limb z 0) (limb z 1) (limb z 2) (limb z 3) (limb z 4) (limb z 5) (limb z 6) (limb z 7)) / 13407807929942597099574024998205846127479365820592393377723561443721764030073546976801874298166903427690031858186486050853753882811946569946433649006084096, num_fit (ok8_limb z), ?_⟩
  have e := unum_limb z
  unfold num
  by_cases q : limb z 7 < 9223372036854775808
  · rw [decide_eq_true q]; simp only [cond_true]; omega
  · rw [decide_eq_false q]; simp only [cond_false]; omega
theorem f_Shl {x n : Int} (hf : fit x) (hn : rng63 n = true) : f_wide_Shl (limb x 0) (limb x 1) (limb x 2) (limb x 3) (limb x 4) (limb x 5) (limb x 6) (limb x 7) n = some (t9 (shlR x n).1 (shlR x n).2) := by
  have gq : ∀ z j, j < 8 → (l8 z).getD j 0 = limb z j := fun z j hj => by rw [ufit_get, if_pos hj]
  unfold f_wide_Shl shlR
  rw [zeroL hf]
  by_cases h0 : n < 0
  · rw [decide_eq_true h0]; simp only [cond_true, t9, limb0]
  · rw [decide_eq_false h0]
    by_cases hx : x = 0
    · rw [decide_eq_true hx, hx]; rfl
    · rw [decide_eq_false hx]
      by_cases h1 : n > 511
      · rw [decide_eq_true h1]; simp only [cond_true, cond_false, t9, limb0]
      · obtain ⟨k, rfl⟩ := Int.eq_ofNat_of_zero_le (show 0 ≤ n by omega)
        obtain ⟨e, h2, h3⟩ := shl_loop (x := x) (n := k) (by omega) 1 1 1 (LL z8)
        subst h3
        obtain ⟨y, m, hy, hym⟩ := signed_of (x * ((2 ^ k : Nat) : Int))
        have hl : ∀ j, j < 8 → limb (x * ((2 ^ k : Nat) : Int)) j = limb y j := fun j hj => by rw [hym, limb_mod y m j hj]
        have hl8 : l8 (x * ((2 ^ k : Nat) : Int)) = l8 y := by
          unfold l8
          rw [hl 0 (by omega), hl 1 (by omega), hl 2 (by omega), hl 3 (by omega), hl 4 (by omega), hl 5 (by omega), hl 6 (by omega), hl 7 (by omega)]
        rw [hl8] at h2
        have hs := f_Shr hy hn
        have hsh : shrR y (k : Int) = y / ((2 ^ k : Nat) : Int) := by
          unfold shrR
          rw [decide_eq_false (by omega), show min ((k : Int)).toNat 511 = k by omega]; rfl
        have hp := pow_pos' k
        have hle : ((2 ^ k : Nat) : Int) ≤ 6703903964971298549787012499102923063739682910296196688861780721860882015036773488400937149083451713845015929093243025426876941405973284973216824503042048 := by
          have := Nat.pow_le_pow_right (n := 2) (by decide) (show k ≤ 511 by omega)
          omega
        have hyf : fit (y / ((2 ^ k : Nat) : Int)) := by
          have h1 := Int.mul_ediv_add_emod y ((2 ^ k : Nat) : Int)
          have h2 := Int.emod_nonneg y (show ((2 ^ k : Nat) : Int) ≠ 0 by omega)
          have h3 := Int.emod_lt_of_pos y hp
          generalize y / ((2 ^ k : Nat) : Int) = d at *
          generalize y % ((2 ^ k : Nat) : Int) = r at *
          generalize ((2 ^ k : Nat) : Int) = p at *
          unfold fit at *
          rcases Int.lt_or_le d 0 with hd | hd
          · have : p * (d + 1) ≤ 1 * (d + 1) := by
              have h4 : (d + 1) * p ≤ (d + 1) * 1 := Int.mul_le_mul_of_nonpos_left (by omega) (by omega)
              rw [Int.mul_comm p, Int.one_mul]; omega
            rw [Int.mul_add] at this; omega
          · have : 1 * d ≤ p * d := Int.mul_le_mul_of_nonneg_right (by omega) hd
            omega
        have hq := eqL_iff hyf hf
        rw [decide_eq_false h1]
        simp only [cond_false, mk_LL, l8_fold, z8_fold, h2, Option.bind_some, row8_LL (l8_len _), need_true, len_LL, z8_len, geti_LL, gq _ _ (show 0 < 8 by omega), gq _ _ (show 1 < 8 by omega), gq _ _ (show 2 < 8 by omega), gq _ _ (show 3 < 8 by omega), gq _ _ (show 4 < 8 by omega), gq _ _ (show 5 < 8 by omega), gq _ _ (show 6 < 8 by omega), gq _ _ (show 7 < 8 by omega),
          hs, t8, hsh, hq, z8_get, splA (show z8.length = (l8 y).length from rfl), splA (show z8.length = z8.length from rfl), row8_LL z8_len, Int.toNat_natCast, Nat.zero_add, Nat.le_refl, decide_true]
        have hiff : y / ((2 ^ k : Nat) : Int) = x ↔ fit (x * ((2 ^ k : Nat) : Int)) := by
          constructor
          · intro h
            have h1 := Int.mul_ediv_add_emod y ((2 ^ k : Nat) : Int)
            have h2 := Int.emod_nonneg y (show ((2 ^ k : Nat) : Int) ≠ 0 by omega)
            have h3 := Int.emod_lt_of_pos y hp
            rw [h, Int.mul_comm] at h1
            have : m = 0 := by omega
            rw [hym, this]; simpa using hy
          · intro h
            have : m = 0 := by unfold fit at h hy; omega
            rw [this] at hym
            have hyx : y = x * ((2 ^ k : Nat) : Int) := by omega
            rw [hyx, Int.mul_ediv_cancel _ (by omega)]
        unfold fitR
        by_cases hft : fit (x * ((2 ^ k : Nat) : Int))
        · rw [decide_eq_true (hiff.2 hft), fitB_iff.2 hft]
          simp only [Bool.not_true, cond_false, cond_true, t9, hl _ (show 0 < 8 by omega), hl _ (show 1 < 8 by omega), hl _ (show 2 < 8 by omega), hl _ (show 3 < 8 by omega), hl _ (show 4 < 8 by omega), hl _ (show 5 < 8 by omega), hl _ (show 6 < 8 by omega), hl _ (show 7 < 8 by omega)]
        · rw [decide_eq_false (fun h => hft (hiff.1 h)), fitB_false.2 hft]
          simp only [Bool.not_false, cond_false, cond_true, t9, limb0]
end Go.Ev

