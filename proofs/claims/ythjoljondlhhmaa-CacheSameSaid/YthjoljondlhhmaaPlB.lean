/- Plain lemmas: Cache's loops. No statement is proved here. -/
import Derived.Test.YthjoljondlhhmaaPlA
namespace Go.Ev
set_option linter.unusedVariables false
set_option linter.unusedSimpArgs false
/-- Whether a key breaks the order or the bounds. -/
noncomputable def badK (l : List Ky) (i : Nat) : Bool := !okK (kat l i) || (decide (0 < i) && decide (cmpK (kat l (i - 1)) (kat l i) ≥ 0))
noncomputable def anyBad (l : List Ky) : Bool := (List.range' 0 l.length).any (badK l)
noncomputable def chkK (l : List Ky) : Int := cond (anyBad l) 2 0
def keys (l : List En) : List Ky := l.map (·.1)
theorem keys_len (l : List En) : (keys l).length = l.length := by simp [keys]
theorem kat_keys (l : List En) (i : Nat) : kat (keys l) i = (eat l i).1 := by
  unfold kat keys eat
  simp only [List.getD_eq_getElem?_getD, List.getElem?_map]
  cases l[i]? <;> rfl

theorem f20_eq (l : List En) (i : Nat) (h : i < l.length) : f20 (i : Int) (ecs l) l.length = some (kat (keys l) i) := by
  unfold f20
  rw [kat_keys]
  simp only [Int.toNat_natCast, ro4, ge0, ge1, ge2, ge3, Nat.add_zero, h, decide_true, need_true, Int.natCast_nonneg, Bool.true_and, Int.ofNat_lt]
theorem f19_eq (l : List Ky) (i : Nat) (h : i < l.length) : f19 (i : Int) (kcs l) l.length = some (kat l i) := by
  unfold f19
  simp only [Int.toNat_natCast, rk4, gk0, gk1, gk2, gk3, Nat.add_zero, h, decide_true, need_true, Int.natCast_nonneg, Bool.true_and, Int.ofNat_lt]

theorem f18_eq (l : List En) (hl : l.length ≤ 100) : f18 (l.length : Int) (ecs l) l.length = some (chkK (keys l)) := by
  unfold f18
  have hg : decide ((l.length : Int) > 65536) = false := by simp; omega
  rw [hg, cond_false]
  have h := scan_loop (badK (keys l)) l.length (f18_L4s (ecs l, l.length, (l.length : Int))) (by
    intro i hi
    have h1 : ((i : Int) < (l.length : Int)) := by omega
    simp only [f18_L4s, f18_L4k, h1, decide_true, cond_true, f20_eq l i hi, Option.bind_some, f23_eq]
    cases i with
    | zero =>
      simp only [badK, wrap1 (Nat.zero_le _), Int.natCast_zero, Int.lt_irrefl, gt_iff_lt, decide_false, cond_false, Nat.lt_irrefl, Bool.false_and, Bool.or_false]
      cases okK (kat (keys l) 0) <;> rfl
    | succ i =>
      have h2 : (((i + 1 : Nat) : Int) > 0) := by omega
      rw [wrap2 (by omega), wrap1 (by omega)]
      simp only [badK, f20_eq l i (by omega), f20_eq l (i + 1) hi, h2, decide_true, cond_true, Option.bind_some, f14_eq, Nat.zero_lt_succ, Bool.true_and, Nat.add_sub_cancel]
      cases okK (kat (keys l) (i + 1)) with
      | false => rfl
      | true =>
        simp only [cond_true, Bool.not_true, Bool.false_or]
        cases decide (cmpK (kat (keys l) i) (kat (keys l) (i + 1)) ≥ 0) <;> rfl) (by
    simp [f18_L4s, f18_L4k]) l.length 0 (by omega)
  unfold f18_L4
  rw [show (0 : Int) = ((0 : Nat) : Int) from rfl, h]
  unfold chkK anyBad
  rw [keys_len]
  cases (List.range' 0 l.length).any (badK (keys l)) <;> rfl
theorem f18a_eq (l : List Ky) (hl : l.length ≤ 100) : f18a (l.length : Int) (kcs l) l.length = some (chkK l) := by
  unfold f18a
  have hg : decide ((l.length : Int) > 65536) = false := by simp; omega
  rw [hg, cond_false]
  have h := scan_loop (badK l) l.length (f18a_L4s (kcs l, l.length, (l.length : Int))) (by
    intro i hi
    have h1 : ((i : Int) < (l.length : Int)) := by omega
    simp only [f18a_L4s, f18a_L4k, h1, decide_true, cond_true, f19_eq l i hi, Option.bind_some, f23_eq]
    cases i with
    | zero =>
      simp only [badK, wrap1 (Nat.zero_le _), Int.natCast_zero, Int.lt_irrefl, gt_iff_lt, decide_false, cond_false, Nat.lt_irrefl, Bool.false_and, Bool.or_false]
      cases okK (kat l 0) <;> rfl
    | succ i =>
      have h2 : (((i + 1 : Nat) : Int) > 0) := by omega
      rw [wrap2 (by omega), wrap1 (by omega)]
      simp only [badK, f19_eq l i (by omega), f19_eq l (i + 1) hi, h2, decide_true, cond_true, Option.bind_some, f14_eq, Nat.zero_lt_succ, Bool.true_and, Nat.add_sub_cancel]
      cases okK (kat l (i + 1)) with
      | false => rfl
      | true =>
        simp only [cond_true, Bool.not_true, Bool.false_or]
        cases decide (cmpK (kat l i) (kat l (i + 1)) ≥ 0) <;> rfl) (by
    simp [f18a_L4s, f18a_L4k]) l.length 0 (by omega)
  unfold f18a_L4
  rw [show (0 : Int) = ((0 : Nat) : Int) from rfl, h]
  unfold chkK anyBad
  cases (List.range' 0 l.length).any (badK l) <;> rfl
theorem f11_eq (l : List En) (hl : l.length ≤ 100) : f11 (ecs l) l.length = some (chkK (keys l)) := by
  unfold f11; rw [f18_eq l hl]; rfl
/-- The document's order of questions. -/
theorem okK_asks (k : Ky) : (!okK k) = (decide (k.1 < 0) || (decide (k.2.1 ≤ k.1) || (decide (k.2.1 > 4096) || (decide (k.2.2.1 < 1) || (decide (k.2.2.1 > 3) || (decide (k.2.2.2 < 0) || decide (k.2.2.2 > 256))))))) := by
  unfold okK
  rw [Bool.eq_iff_iff]
  simp only [Bool.not_and, Bool.or_eq_true, Bool.not_eq_true', decide_eq_false_iff_not, decide_eq_true_eq]
  omega
theorem f12_eq (l : List Ky) (hl : l.length ≤ 100) : f12 (kcs l) l.length = some (chkK l) := by
  unfold f12
  have hg : decide ((l.length : Int) > 65536) = false := by simp; omega
  rw [hg, cond_false]
  have h := scan_loop (badK l) l.length (f12_L4s (kcs l, l.length)) (by
    intro i hi
    have h1 : ((i : Int) < (l.length : Int)) := by omega
    simp only [f12_L4s, f12_L4k, h1, decide_true, cond_true, Int.natCast_nonneg, Bool.true_and, need_true, Int.toNat_natCast, rk4, gk0, gk1, gk2, gk3, Nat.add_zero, hi, f15_eq, Option.bind_some]
    rw [wrap1 (by omega)]
    unfold badK
    rw [okK_asks]
    cases decide ((kat l i).1 < 0) with
    | true => rfl
    | false =>
    cases decide ((kat l i).2.1 ≤ (kat l i).1) with
    | true => rfl
    | false =>
    cases decide ((kat l i).2.1 > 4096) with
    | true => rfl
    | false =>
    cases decide ((kat l i).2.2.1 < 1) with
    | true => rfl
    | false =>
    cases decide ((kat l i).2.2.1 > 3) with
    | true => rfl
    | false =>
    cases decide ((kat l i).2.2.2 < 0) with
    | true => rfl
    | false =>
    cases decide ((kat l i).2.2.2 > 256) with
    | true => rfl
    | false =>
    simp only [cond_false, Bool.false_or]
    cases i with
    | zero => rfl
    | succ i =>
      have h2 : (((i + 1 : Nat) : Int) > 0) := by omega
      have h3 : ((i : Int) < (l.length : Int)) := by omega
      have h4 : i < l.length := by omega
      rw [wrap2 (by omega)]
      simp only [h2, h3, h4, Int.toNat_natCast, rk4, gk0, gk1, gk2, gk3, Nat.add_zero, Int.natCast_nonneg, Bool.true_and, need_true, decide_true, cond_true, Nat.zero_lt_succ, Nat.add_sub_cancel]
      cases hb : decide (cmpK (kat l i) (kat l (i + 1)) ≥ 0) with
      | true => rfl
      | false => rfl) (by
    simp [f12_L4s, f12_L4k]) l.length 0 (by omega)
  unfold f12_L4
  rw [show (0 : Int) = ((0 : Nat) : Int) from rfl, h]
  unfold chkK anyBad
  cases (List.range' 0 l.length).any (badK l) <;> rfl

theorem pow48 {n b : Nat} (hn : n ≤ 1000) (hb : b ≤ 1000) : decide (2 * n * b ≤ 2 ^ 48) = true := by
  have h : 2 * n * b ≤ 2 * 1000 * 1000 := Nat.mul_le_mul (Nat.mul_le_mul_left 2 hn) hb
  simp only [decide_eq_true_eq]
  have : (2 : Nat) * 1000 * 1000 ≤ 2 ^ 48 := by decide
  omega
theorem f13_eq (l : List En) (hl : l.length ≤ 100) : f13 (ecs l) l.length = some (kcs (keys l), (keys l).length) := by
  have h := build_loop kc (fun i => [(eat l i).1]) l.length (fun _ => by simp) (f13_L3s (ecs l, l.length)) (by
    intro i acc hi ha
    have h1 : ((i : Int) < (l.length : Int)) := by omega
    simp only [f13_L3s, f13_L3k, h1, decide_true, cond_true, Int.natCast_nonneg, Bool.true_and, need_true, Int.toNat_natCast, ro4, ge0, ge1, ge2, ge3, Nat.add_zero, hi]
    rw [need_pos (pow48 (by omega) (by omega)), wrap1 (by omega)]
    simp [List.flatMap_append, kc]) (by
    intro acc; simp [f13_L3s, f13_L3k]) l.length 0 [] (by omega) (by simp)
  unfold f13 f13_L3
  rw [show ((([] : List AVal), 0, 0) : List AVal × Nat × Int) = ((([] : List Ky).flatMap kc, ([] : List Ky).length, ((0 : Nat) : Int))) from rfl, h]
  rw [flat_eat l (fun e => [e.1])]
  have : l.flatMap (fun e => [e.1]) = keys l := List.map_eq_flatMap.symm
  rw [this]
  rfl
theorem eat_all (l m : List En) (h : l.length = m.length) : (!(List.range' 0 l.length).any fun i => !decide (eat l i = eat m i)) = decide (l = m) := by
  rw [Bool.eq_iff_iff]
  simp only [Bool.not_eq_true', decide_eq_true_eq]
  rw [← Bool.not_eq_true, List.any_eq_true]
  constructor
  · intro hx
    rw [← range_eat l, ← range_eat m, ← h]
    apply List.map_congr_left
    intro i hi
    by_cases he : eat l i = eat m i
    · exact he
    · exact absurd ⟨i, hi, by simp [he]⟩ hx
  · rintro rfl ⟨i, _, hi⟩
    simp at hi
theorem f10_eq (l m : List En) (hl : l.length ≤ 100) : f10 (ecs l) l.length (ecs m) m.length = some (decide (l = m)) := by
  unfold f10
  by_cases hlm : l.length = m.length
  · have hg : (((l.length : Nat) : Int) != ((m.length : Nat) : Int)) = false := by simp; omega
    rw [hg, cond_false]
    have h := scan_loop (fun i => !decide (eat l i = eat m i)) l.length (f10_L4s (ecs l, l.length, ecs m, m.length)) (by
      intro i hi
      have h1 : ((i : Int) < (l.length : Int)) := by omega
      have h1' : ((i : Int) < (m.length : Int)) := by omega
      have hi' : i < m.length := by omega
      simp only [f10_L4s, f10_L4k, h1, h1', hi, hi', decide_true, cond_true, Int.natCast_nonneg, Bool.true_and, need_true, Int.toNat_natCast, ro7, ge0, ge1, ge2, ge3, ge4, ge5, ge6, Nat.add_zero]
      rw [wrap1 (by omega)]
      have hb : ((eat l i).1.1 == (eat m i).1.1 && ((eat l i).1.2.1 == (eat m i).1.2.1 && ((eat l i).1.2.2.1 == (eat m i).1.2.2.1 && ((eat l i).1.2.2.2 == (eat m i).1.2.2.2 && ((eat l i).2.1 == (eat m i).2.1 && ((eat l i).2.2.1 == (eat m i).2.2.1 && ((eat l i).2.2.2 == (eat m i).2.2.2 && true))))))) = decide (eat l i = eat m i) := by
        rw [Bool.eq_iff_iff]
        simp [Prod.ext_iff, and_assoc]
      rw [hb]
      cases decide (eat l i = eat m i) <;> rfl) (by
      simp [f10_L4s, f10_L4k]) l.length 0 (by omega)
    unfold f10_L4
    rw [show (0 : Int) = ((0 : Nat) : Int) from rfl, h, ← eat_all l m hlm]
    cases (List.range' 0 l.length).any _ <;> rfl
  · have hg : (((l.length : Nat) : Int) != ((m.length : Nat) : Int)) = true := by simp; omega
    rw [hg, cond_true]
    have : l ≠ m := fun h => hlm (by rw [h])
    simp [this]

/-- What is held without a body. -/
def keepK (b : Int) (e : En) : Bool := e.1.1 != b && e.1.2.1 != b
theorem flat_if (b : Int) (l : List En) : l.flatMap (fun e => cond (keepK b e) [e] []) = l.filter (keepK b) := by
  induction l with
  | nil => rfl
  | cons e l ih => rw [List.flatMap_cons, List.filter_cons, ih]; cases keepK b e <;> rfl
theorem f16_eq (l : List En) (b : Int) (hl : l.length ≤ 100) : f16 (ecs l) l.length b = some (cond (chkK (keys l) != 0) (chkK (keys l), [], 0) (0, ecs (l.filter (keepK b)), (l.filter (keepK b)).length)) := by
  unfold f16
  rw [f11_eq l hl, Option.bind_some]
  cases chkK (keys l) != 0 with
  | true => rfl
  | false =>
  have h := build_loop ec (fun i => cond (keepK b (eat l i)) [eat l i] []) l.length (fun i => by cases keepK b (eat l i) <;> simp) (f16_L6s (b, ecs l, l.length, (l.length : Int))) (by
    intro i acc hi ha
    have h1 : ((i : Int) < (l.length : Int)) := by omega
    simp only [f16_L6s, f16_L6k, h1, decide_true, cond_true, Int.natCast_nonneg, Bool.true_and, need_true, Int.toNat_natCast, ro7, ge0, ge1, ge2, ge3, ge4, ge5, ge6, Nat.add_zero, hi]
    rw [need_pos (pow48 (by omega) (by omega)), wrap1 (by omega)]
    unfold keepK
    cases (eat l i).1.1 != b with
    | false => simp
    | true =>
      cases (eat l i).1.2.1 != b with
      | false => simp
      | true => simp [List.flatMap_append, ec]) (by
    intro acc; simp [f16_L6s, f16_L6k]) l.length 0 [] (by omega) (by simp)
  unfold f16_L6
  rw [cond_false, cond_false, show ((([] : List AVal), 0, 0) : List AVal × Nat × Int) = ((([] : List En).flatMap ec, ([] : List En).length, ((0 : Nat) : Int))) from rfl, h]
  rw [flat_eat l (fun e => cond (keepK b e) [e] []), flat_if]
  rfl
theorem f17_eq (l : List En) (b : Int) (hl : l.length ≤ 100) : f17 (ecs l) l.length b = some (cond (chkK (keys l) != 0) (chkK (keys l), [], 0) (0, ecs (l.filter (keepK b)), (l.filter (keepK b)).length)) := by
  unfold f17
  rw [f13_eq l hl, Option.bind_some, f12_eq (keys l) (by rw [keys_len]; exact hl), Option.bind_some]
  cases chkK (keys l) != 0 with
  | true => rfl
  | false =>
  have h := build_loop ec (fun i => cond (keepK b (eat l i)) [eat l i] []) l.length (fun i => by cases keepK b (eat l i) <;> simp) (f17_L6s (ecs l, l.length, b)) (by
    intro i acc hi ha
    have h1 : ((i : Int) < (l.length : Int)) := by omega
    simp only [f17_L6s, f17_L6k, h1, decide_true, cond_true, Int.natCast_nonneg, Bool.true_and, need_true, Int.toNat_natCast, ro7, ro1, ro1', ge0, ge1, ge2, ge3, ge4, ge5, ge6, Nat.add_zero, hi]
    rw [need_pos (pow48 (by omega) (by omega)), wrap1 (by omega)]
    unfold keepK
    cases (eat l i).1.1 != b with
    | false => simp
    | true =>
      cases (eat l i).1.2.1 != b with
      | false => simp
      | true => simp [List.flatMap_append, ec]) (by
    intro acc; simp [f17_L6s, f17_L6k]) l.length 0 [] (by omega) (by simp)
  unfold f17_L6
  rw [cond_false, cond_false, show ((([] : List AVal), 0, 0) : List AVal × Nat × Int) = ((([] : List En).flatMap ec, ([] : List En).length, ((0 : Nat) : Int))) from rfl, h]
  rw [flat_eat l (fun e => cond (keepK b e) [e] []), flat_if]
  rfl
theorem f5_eq (l : List En) (b : Int) : f5 (ecs l) l.length b = some true := by
  unfold f5
  by_cases hl : l.length ≤ 100
  · have hg : decide ((l.length : Int) > 100) = false := by simp; omega
    rw [hg, cond_false, f16_eq l b hl, f17_eq l b hl, Option.bind_some, Option.bind_some]
    cases chkK (keys l) != 0 with
    | true =>
      have h := f10_eq [] [] (by decide)
      simp only [cond_true]
      rw [show ([] : List AVal) = ecs [] from rfl, show (0 : Nat) = ([] : List En).length from rfl, h]
      simp [f7]
    | false =>
      simp only [cond_false]
      rw [f10_eq _ _ (by have := List.length_filter_le (keepK b) l; omega)]
      simp [f7]
  · have hg : decide ((l.length : Int) > 100) = true := by simp; omega
    rw [hg, cond_true]; rfl
end Go.Ev
