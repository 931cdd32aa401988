import Derived.Test.YtdooglicnibhlaaGreatWdH
import Derived.Test.YtdooglicnibhlaaGreatWideE
namespace Go.Ev
open Go.Proofs
set_option linter.unusedVariables false
set_option linter.unusedSimpArgs false
set_option maxRecDepth 100000
theorem cMulL {x y : Int} (hx : fit x) (hy : fit y) : cMul (limb x 0) (limb x 1) (limb x 2) (limb x 3) (limb x 4) (limb x 5) (limb x 6) (limb x 7) (limb y 0) (limb y 1) (limb y 2) (limb y 3) (limb y 4) (limb y 5) (limb y 6) (limb y 7) = some (fitR (x * y)) := by
  unfold cMul; rw [ok8_limb, ok8_limb, num_limb hx, num_limb hy]; rfl
theorem cCmpL {x y : Int} (hx : fit x) (hy : fit y) : cCmp (limb x 0) (limb x 1) (limb x 2) (limb x 3) (limb x 4) (limb x 5) (limb x 6) (limb x 7) (limb y 0) (limb y 1) (limb y 2) (limb y 3) (limb y 4) (limb y 5) (limb y 6) (limb y 7) = some (sgn (x - y)) := by
  unfold cCmp; rw [ok8_limb, ok8_limb, num_limb hx, num_limb hy]; rfl
theorem cBitsL {x : Int} (hx : fit x) : cBits (limb x 0) (limb x 1) (limb x 2) (limb x 3) (limb x 4) (limb x 5) (limb x 6) (limb x 7) = some (blen x.natAbs) := by
  unfold cBits; rw [ok8_limb, num_limb hx]; rfl
def SInv (a : Int) (v : List AVal × Int) : Prop :=
  ∃ (m : Nat) (r t : Int), v = (LL (l8 r), (m : Int) - 1) ∧ m ≤ 257 ∧ 0 ≤ r ∧ r = ((2 ^ m : Nat) : Int) * t ∧ r * r ≤ a ∧ a < (r + ((2 ^ m : Nat) : Int)) * (r + ((2 ^ m : Nat) : Int))
theorem sqrt_lt {a r : Int} {n : Nat} (h0 : 0 ≤ r) (h : r * r ≤ a) (ha : a < ((2 ^ n : Nat) : Int) * ((2 ^ n : Nat) : Int)) : r < ((2 ^ n : Nat) : Int) := by
  apply Int.lt_of_not_ge
  intro hge
  have hp := pow_pos' n
  have : ((2 ^ n : Nat) : Int) * ((2 ^ n : Nat) : Int) ≤ r * r := Int.mul_le_mul hge hge (by omega) h0
  omega
theorem fit_lt {a : Int} (h : fit a) {n : Nat} (hn : n = 256) : a < ((2 ^ n : Nat) : Int) * ((2 ^ n : Nat) : Int) := by
  rw [hn]
  unfold fit at h; omega
theorem sqrt_loop {a : Int} (ha : fit a) (ha0 : 0 ≤ a) {v : List AVal × Int} (hv : SInv a v) (p q s : Nat) (zl : List AVal) :
    ∃ e, f_wide_Sqrt_L5 (LL (l8 a), p, zl, q, s) v = some e ∧ ∃ r, e = LL (l8 r) ∧ 0 ≤ r ∧ r * r ≤ a ∧ a < (r + 1) * (r + 1) := by
  obtain ⟨m0, _, _, hv0, hm0, _⟩ := id hv
  refine loop_rule (step := f_wide_Sqrt_L5s (LL (l8 a), p, zl, q, s)) (SInv a) (fun v => (v.2 + 1).toNat) _ ?_
    (Nat.lt_of_le_of_lt (show (v.2 + 1).toNat ≤ 512 by subst hv0; show (((m0 : Int) - 1) + 1).toNat ≤ 512; omega) (by decide)) hv
  rintro v ⟨m, r, t, rfl, hm, hr0, ht, hle, hlt⟩
  cases m with
  | zero => exact .inr ⟨LL (l8 r), rfl, r, rfl, hr0, hle, by simpa using hlt⟩
  | succ k =>
    left
    have e : ((k + 1 : Nat) : Int) - 1 = (k : Int) := by omega
    rw [e]
    have hk : k < 512 := by omega
    have t1 : Int.tdiv (k : Int) 64 = ((k / 64 : Nat) : Int) := by rw [Int.tdiv_eq_ediv_of_nonneg (by omega)]; omega
    have t2 : Int.tmod (k : Int) 64 = ((k % 64 : Nat) : Int) := by rw [Int.tmod_eq_emod_of_nonneg (by omega)]; omega
    have w1 : IntKind.wrap .i64 ((k / 64 : Nat) : Int) = ((k / 64 : Nat) : Int) := wrapi (by omega)
    have w2 : IntKind.wrap .i64 ((k : Int) - 1) = (k : Int) - 1 := wrapi (by omega)
    have d2 : decide (((k % 64 : Nat) : Int) < 0) = false := decide_eq_false (by omega)
    have hk8 : k / 64 < 8 := by omega
    have d4 : decide (k / 64 + 1 ≤ 8) = true := decide_eq_true (by omega)
    have hp1 : ((2 ^ (k + 1) : Nat) : Int) = 2 * ((2 ^ k : Nat) : Int) := by rw [Nat.pow_succ]; push_cast; omega
    have hpk := pow_pos' k
    have hrlt := sqrt_lt hr0 hle (fit_lt ha (n := 256) rfl)
    have hk256 : ((2 ^ k : Nat) : Int) ≤ ((2 ^ 256 : Nat) : Int) := by
      have := Nat.pow_le_pow_right (n := 2) (by decide) (show k ≤ 256 by omega)
      omega
    have hru : ufit r := by unfold ufit; omega
    have hlr : lv (l8 r) = r := l8_lv hru.1 hru.2
    obtain ⟨hb1, hb2⟩ := set_bit (l8_rL r) (l8_len r) hk (t := t) (by rw [hlr]; exact ht)
    rw [hlr] at hb2
    have hml := l8_of hb1 (by simp [l8_len])
    rw [hb2] at hml
    have hmf : fit (r + ((2 ^ k : Nat) : Int)) := by unfold fit; omega
    have hset : spliced (LL (l8 r)) (k / 64) [.int .u64 (ior .u64 ((l8 r).getD (k / 64) 0) (ishl .u64 1 ((k % 64 : Nat) : Int)))] = LL (l8 (r + ((2 ^ k : Nat) : Int))) := by
      rw [spl1_LL (by rw [l8_len]; omega), hml]
    simp only [f_wide_Sqrt_L5s, f_wide_Sqrt_L5k, dec0', cond_true, row8_LL (l8_len _), need_true, mk_LL, g8 r (show 0 < 8 by omega), g8 r (show 1 < 8 by omega), g8 r (show 2 < 8 by omega), g8 r (show 3 < 8 by omega), g8 r (show 4 < 8 by omega), g8 r (show 5 < 8 by omega), g8 r (show 6 < 8 by omega), g8 r (show 7 < 8 by omega), l8_fold, t1, t2, w1, w2, d2, dec0, dec8 hk8, Bool.and_self, Bool.not_false, Int.toNat_natCast, Nat.mul_one, Nat.zero_add, Nat.add_zero, row1_LL, len_LL, l8_len, decide_eq_true hk8, d4, geti_LL (l8 r) (k / 64), hset,
      g8 (r + ((2 ^ k : Nat) : Int)) (show 0 < 8 by omega), g8 (r + ((2 ^ k : Nat) : Int)) (show 1 < 8 by omega), g8 (r + ((2 ^ k : Nat) : Int)) (show 2 < 8 by omega), g8 (r + ((2 ^ k : Nat) : Int)) (show 3 < 8 by omega), g8 (r + ((2 ^ k : Nat) : Int)) (show 4 < 8 by omega), g8 (r + ((2 ^ k : Nat) : Int)) (show 5 < 8 by omega), g8 (r + ((2 ^ k : Nat) : Int)) (show 6 < 8 by omega), g8 (r + ((2 ^ k : Nat) : Int)) (show 7 < 8 by omega),
      g8 a (show 0 < 8 by omega), g8 a (show 1 < 8 by omega), g8 a (show 2 < 8 by omega), g8 a (show 3 < 8 by omega), g8 a (show 4 < 8 by omega), g8 a (show 5 < 8 by omega), g8 a (show 6 < 8 by omega), g8 a (show 7 < 8 by omega), cMulL hmf hmf, Option.bind_some, Nat.le_refl, decide_true,
      splA (show (l8 r).length = (l8 (r + ((2 ^ k : Nat) : Int))).length from rfl)]
    have hsq : (r + ((2 ^ k : Nat) : Int)) * (r + ((2 ^ k : Nat) : Int)) ≤ a → ∃ v', some (Sum.inl (LL (l8 (r + ((2 ^ k : Nat) : Int))), (k : Int) - 1) : (List AVal × Int) ⊕ List AVal) = some (Sum.inl v') ∧ SInv a v' ∧ (v'.2 + 1).toNat < ((k : Int) + 1).toNat := by
      intro h
      refine ⟨_, rfl, ⟨k, r + ((2 ^ k : Nat) : Int), 2 * t + 1, rfl, by omega, by omega, ?_, h, ?_⟩, by show (((k : Int) - 1) + 1).toNat < _; omega⟩
      · rw [ht, hp1, Int.mul_add, Int.mul_one, Int.mul_comm 2, Int.mul_assoc]
      · rw [hp1] at hlt
        rw [show r + ((2 ^ k : Nat) : Int) + ((2 ^ k : Nat) : Int) = r + 2 * ((2 ^ k : Nat) : Int) by omega]
        exact hlt
    have hno : a < (r + ((2 ^ k : Nat) : Int)) * (r + ((2 ^ k : Nat) : Int)) → ∃ v', some (Sum.inl (LL (l8 r), (k : Int) - 1) : (List AVal × Int) ⊕ List AVal) = some (Sum.inl v') ∧ SInv a v' ∧ (v'.2 + 1).toNat < ((k : Int) + 1).toNat := by
      intro h
      refine ⟨_, rfl, ⟨k, r, 2 * t, rfl, by omega, hr0, ?_, hle, h⟩, by show (((k : Int) - 1) + 1).toNat < _; omega⟩
      rw [hp1, Int.mul_comm 2, Int.mul_assoc] at ht
      exact ht
    have hp0 : 0 ≤ (r + ((2 ^ k : Nat) : Int)) * (r + ((2 ^ k : Nat) : Int)) := Int.mul_nonneg (by omega) (by omega)
    simp only [hk8, decide_true, need_true]
    generalize (r + ((2 ^ k : Nat) : Int)) * (r + ((2 ^ k : Nat) : Int)) = p at *
    by_cases hf : fit p
    · have e1 : fitR p = (p, true) := by unfold fitR; rw [fitB_iff.2 hf]; rfl
      rw [e1]
      simp only [cond_true, cCmpL hf ha, Option.bind_some]
      by_cases hc : p ≤ a
      · have hd : decide (sgn (p - a) ≤ 0) = true := by
          unfold sgn
          by_cases h1 : p - a < 0
          · rw [decide_eq_true h1]; rfl
          · rw [decide_eq_false h1, decide_eq_true (show p - a = 0 by omega)]; rfl
        rw [hd]
        exact hsq hc
      · have hd : decide (sgn (p - a) ≤ 0) = false := by
          unfold sgn
          rw [decide_eq_false (show ¬ p - a < 0 by omega), decide_eq_false (show ¬ p - a = 0 by omega)]; rfl
        rw [hd]
        exact hno (by omega)
    · have e1 : fitR p = (0, false) := by unfold fitR; rw [fitB_false.2 hf]; rfl
      rw [e1]
      exact hno (by unfold fit at hf ha; omega)
theorem f_Sqrt {a : Int} (ha : fit a) : f_wide_Sqrt (limb a 0) (limb a 1) (limb a 2) (limb a 3) (limb a 4) (limb a 5) (limb a 6) (limb a 7) = some (t9 (sqrtR a).1 (sqrtR a).2) := by
  unfold f_wide_Sqrt sqrtR
  rw [f_negB, negB_fit ha, Option.bind_some]
  by_cases h0 : a < 0
  · rw [decide_eq_true h0]; simp only [cond_true, t9, limb0]
  · rw [decide_eq_false h0]
    have hb : 0 ≤ blen a.natAbs ∧ blen a.natAbs ≤ 511 := by
      have e : ∀ m, m = 255 → 0 ≤ blen a.natAbs ∧ blen a.natAbs ≤ ((m + m + 1 : Nat) : Int) := by
        intro m hm
        apply blen_le
        rw [Nat.pow_succ, Nat.pow_add, hm]
        unfold fit at ha; omega
      exact e 255 rfl
    obtain ⟨n, hn⟩ := Int.eq_ofNat_of_zero_le hb.1
    have w1 : IntKind.wrap .i64 (blen a.natAbs + 1) = blen a.natAbs + 1 := wrapi (by omega)
    have w2 : IntKind.wrap .i64 (Int.tdiv (blen a.natAbs + 1) 2) = (((n + 1) / 2 + 1 : Nat) : Int) - 1 := by
      rw [Int.tdiv_eq_ediv_of_nonneg (by omega), wrapi (by omega)]; omega
    have hlt : a < ((2 ^ ((n + 1) / 2 + 1) : Nat) : Int) * ((2 ^ ((n + 1) / 2 + 1) : Nat) : Int) := by
      have h1 : a.natAbs < 2 ^ n := by
        by_cases hz : a.natAbs = 0
        · rw [hz]; exact Nat.two_pow_pos n
        · obtain ⟨j, e, h3, h4⟩ := blen_pos hz
          have : n = j + 1 := by omega
          rw [this]; exact h4
      have h2 : 2 ^ n ≤ 2 ^ ((n + 1) / 2 + 1) * 2 ^ ((n + 1) / 2 + 1) := by
        rw [← Nat.pow_add]; exact Nat.pow_le_pow_right (by decide) (by omega)
      rw [← Int.natCast_mul]
      omega
    have hinv : SInv a (LL z8, (((n + 1) / 2 + 1 : Nat) : Int) - 1) := by
      refine ⟨(n + 1) / 2 + 1, 0, 0, by rw [show l8 0 = z8 by unfold l8; simp only [limb0]; rfl], by omega, Int.le_refl _, by omega, by omega, by rw [Int.zero_add]; exact hlt⟩
    obtain ⟨e, h1, r, he, hr0, hr1, hr2⟩ := sqrt_loop ha (by omega) hinv 1 1 1 (LL z8)
    subst he
    have hroot : ((isq 257 a.toNat : Nat) : Int) = r := by
      have hall : ∀ f m, m = 128 → f = m + m + 1 → isq f a.toNat = r.toNat := fun f m hm hfm => isq_unique (by
          have : (((r.toNat * r.toNat : Nat)) : Int) ≤ ((a.toNat : Nat) : Int) := by
            rw [Int.natCast_mul, show ((r.toNat : Nat) : Int) = r by omega, show ((a.toNat : Nat) : Int) = a by omega]; exact hr1
          omega) (by
          have : ((a.toNat : Nat) : Int) < ((((r.toNat + 1) * (r.toNat + 1) : Nat)) : Int) := by
            rw [Int.natCast_mul, Int.natCast_add, show ((r.toNat : Nat) : Int) = r by omega, show ((a.toNat : Nat) : Int) = a by omega]; exact hr2
          omega) (by
          rw [hfm, Nat.pow_succ, Nat.pow_add, hm]
          unfold fit at ha; omega)
      have := hall 257 128 rfl rfl
      omega
    rw [hroot]
    simp only [cond_false, cBitsL ha, Option.bind_some, w1, w2, mk_LL, l8_fold, z8_fold, h1, row8_LL (l8_len _), need_true, len_LL, z8_len, Nat.zero_add, Nat.le_refl, decide_true, g8 r (show 0 < 8 by omega), g8 r (show 1 < 8 by omega), g8 r (show 2 < 8 by omega), g8 r (show 3 < 8 by omega), g8 r (show 4 < 8 by omega), g8 r (show 5 < 8 by omega), g8 r (show 6 < 8 by omega), g8 r (show 7 < 8 by omega), splA (show z8.length = (l8 r).length from rfl), t9]
theorem cSqrt_f {a0 a1 a2 a3 a4 a5 a6 a7 : Int} {r} (h : cSqrt a0 a1 a2 a3 a4 a5 a6 a7 = some r) : f_wide_Sqrt a0 a1 a2 a3 a4 a5 a6 a7 = some (t9 r.1 r.2) := by
  unfold cSqrt at h
  obtain ⟨h1, h2⟩ := need_some h
  simp only [Option.some.injEq] at h2
  subst h2
  have hf := num_fit h1
  have q := f_Sqrt hf
  obtain ⟨e0, e1, e2, e3, e4, e5, e6, e7⟩ := limb_num h1
  rw [e0, e1, e2, e3, e4, e5, e6, e7] at q
  exact q
def hcSqrt : HK where
  call := fun args σ k => match args with
    | [.agg [.int .u64 a0, .int .u64 a1, .int .u64 a2, .int .u64 a3, .int .u64 a4, .int .u64 a5, .int .u64 a6, .int .u64 a7]] => Option.bind (cSqrt a0 a1 a2 a3 a4 a5 a6 a7) fun r => k (.ret (.tup [.agg [.int .u64 (limb r.1 0), .int .u64 (limb r.1 1), .int .u64 (limb r.1 2), .int .u64 (limb r.1 3), .int .u64 (limb r.1 4), .int .u64 (limb r.1 5), .int .u64 (limb r.1 6), .int .u64 (limb r.1 7)], .bool r.2])) σ
    | _ => none
  nat := fun args σ k => by
    repeat' split
    all_goals simp only [Option.bind_assoc, Option.bind_none, Option.bind_some]
  pure := true
  pok := fun _ args σ r σ' h => by
    split at h
    · obtain ⟨q, h1, h2⟩ := Option.bind_eq_some_iff.1 h
      simp only [Option.some.injEq, Prod.mk.injEq] at h2
      obtain ⟨rfl, rfl⟩ := h2
      exact ⟨rfl, ⟨_, rfl⟩, fun σ2 => by simp only [h1, Option.bind_some]⟩
    · cases h
theorem hcSqrt_ok : HKOk Tryz.prog 122 hcSqrt := h_wide_Sqrt_ok.of_call fun args σ x h => by
  simp only [hcSqrt] at h
  split at h
  · rename_i a0 a1 a2 a3 a4 a5 a6 a7
    obtain ⟨r, h1, h2⟩ := Option.bind_eq_some_iff.1 h
    simp only [h_wide_Sqrt, cSqrt_f h1, Option.bind_some]
    exact h2
  · cases h
end Go.Ev

