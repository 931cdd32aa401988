/- Plain lemmas: order, sublists, and the plain law of CacheBodies. No statement is proved here. -/
import Derived.Test.YthjoljondlhhmaaPlB
namespace Go.Ev
set_option linter.unusedVariables false
set_option linter.unusedSimpArgs false
def ltK (x y : Ky) : Prop := x.1 < y.1 ∨ (x.1 = y.1 ∧ (x.2.1 < y.2.1 ∨ (x.2.1 = y.2.1 ∧ (x.2.2.1 < y.2.2.1 ∨ (x.2.2.1 = y.2.2.1 ∧ x.2.2.2 < y.2.2.2)))))
theorem cmpK_lt (x y : Ky) : decide (cmpK x y ≥ 0) = false ↔ ltK x y := by
  obtain ⟨a, b, c, d⟩ := x
  obtain ⟨e, f, g, h⟩ := y
  unfold cmpK f15 ltK
  rcases tri a e with ⟨h1, g1, k1⟩ | rfl | ⟨h1, g1, k1⟩ <;> rcases tri b f with ⟨h2, g2, k2⟩ | rfl | ⟨h2, g2, k2⟩ <;> rcases tri c g with ⟨h3, g3, k3⟩ | rfl | ⟨h3, g3, k3⟩ <;> rcases tri d h with ⟨h4, g4, k4⟩ | rfl | ⟨h4, g4, k4⟩ <;>
    simp_all [cond_eq_ite, -Int.not_lt, -Int.not_le]
theorem ltK_trans {x y z : Ky} (h : ltK x y) (k : ltK y z) : ltK x z := by unfold ltK at *; omega
theorem ltK_irrefl (x : Ky) : ¬ ltK x x := by unfold ltK; omega

theorem kat_get (l : List Ky) (i : Nat) (h : i < l.length) : kat l i = l[i] := by simp [kat, List.getD_eq_getElem?_getD, h]
theorem eat_get (l : List En) (i : Nat) (h : i < l.length) : eat l i = l[i] := by simp [eat, List.getD_eq_getElem?_getD, h]
theorem anyBad_iff (l : List Ky) : anyBad l = false ↔ ∀ i, i < l.length → badK l i = false := by
  unfold anyBad
  rw [List.any_eq_false]
  constructor
  · intro h i hi
    have := h i (by rw [List.mem_range'_1]; omega)
    simpa using this
  · intro h i hi
    rw [List.mem_range'_1] at hi
    rw [h i (by omega)]; decide
theorem badK_iff (l : List Ky) (i : Nat) : badK l i = false ↔ okK (kat l i) = true ∧ (0 < i → ltK (kat l (i - 1)) (kat l i)) := by
  unfold badK
  rw [Bool.or_eq_false_iff, ← cmpK_lt]
  by_cases h : 0 < i
  · simp [h]
  · simp [h]
theorem good_iff (l : List Ky) : anyBad l = false ↔ (∀ k ∈ l, okK k = true) ∧ l.Pairwise ltK := by
  rw [anyBad_iff]
  constructor
  · intro h
    refine ⟨fun k hk => ?_, ?_⟩
    · obtain ⟨i, hi, rfl⟩ := List.mem_iff_getElem.1 hk
      have := ((badK_iff l i).1 (h i hi)).1
      rwa [kat_get l i hi] at this
    · rw [List.pairwise_iff_getElem]
      have key : ∀ d i, (hi : i < l.length) → (hj : i + d + 1 < l.length) → ltK l[i] l[i + d + 1] := by
        intro d
        induction d with
        | zero =>
          intro i hi hj
          have := ((badK_iff l (i + 1)).1 (h _ hj)).2 (by omega)
          rw [Nat.add_sub_cancel, kat_get l i hi, kat_get l (i + 1) hj] at this
          exact this
        | succ d ih =>
          intro i hi hj
          have h1 := ih i hi (by omega)
          have := ((badK_iff l (i + (d + 1) + 1)).1 (h _ hj)).2 (by omega)
          rw [Nat.add_sub_cancel, kat_get l _ (by omega), kat_get l _ hj] at this
          exact ltK_trans h1 this
      intro i j hi hj hij
      have := key (j - i - 1) i hi (by omega)
      have he : i + (j - i - 1) + 1 = j := by omega
      simp only [he] at this
      exact this
  · rintro ⟨h1, h2⟩ i hi
    rw [badK_iff, kat_get l i hi]
    refine ⟨h1 _ (List.getElem_mem hi), fun h0 => ?_⟩
    rw [kat_get l (i - 1) (by omega)]
    exact List.pairwise_iff_getElem.1 h2 (i - 1) i (by omega) hi (by omega)
theorem good_sub {l m : List Ky} (h : anyBad l = false) (s : m.Sublist l) : anyBad m = false := by
  rw [good_iff] at *
  exact ⟨fun k hk => h.1 k (s.subset hk), h.2.sublist s⟩
theorem chk_ne (l : List Ky) : (chkK l != 0) = anyBad l := by unfold chkK; cases anyBad l <;> rfl
theorem chk_good {l : List Ky} (h : anyBad l = false) : chkK l = 0 := by unfold chkK; rw [h]; rfl
theorem keys_filter (l : List En) (p : En → Bool) : (keys (l.filter p)).Sublist (keys l) := List.Sublist.map _ List.filter_sublist

theorem f6_loop (l m : List En) (b c r5 : Int) (r3 : Int) (hl : l.length ≤ 100) (h : ∀ e ∈ l, keepK b e = true ∧ keepK c e = true) : f6_L12 (b, c, ecs l, l.length, r3, ecs m, m.length, r5) 0 = some (.inr ()) := by
  have h := scan_loop (fun i => false) l.length (f6_L12s (b, c, ecs l, l.length, r3, ecs m, m.length, r5)) (by
    intro i hi
    have h1 : ((i : Int) < (l.length : Int)) := by omega
    have h2 := h (eat l i) (by rw [eat_get l i hi]; exact List.getElem_mem hi)
    simp only [keepK, Bool.and_eq_true, bne_iff_ne, ne_eq] at h2
    obtain ⟨⟨q1, q2⟩, q3, q4⟩ := h2
    have e1 : ((eat l i).1.1 == b) = false := by simpa using q1
    have e2 : ((eat l i).1.1 == c) = false := by simpa using q3
    have e3 : ((eat l i).1.2.1 == b) = false := by simpa using q2
    have e4 : ((eat l i).1.2.1 == c) = false := by simpa using q4
    simp only [f6_L12s, f6_L12k, h1, hi, decide_true, cond_true, cond_false, Int.natCast_nonneg, Bool.true_and, need_true, Int.toNat_natCast, ro4, ge0, ge1, Nat.add_zero, e1, e2, e3, e4]
    rw [wrap1 (by omega)]) (by
    simp [f6_L12s, f6_L12k]) l.length 0 (by omega)
  unfold f6_L12
  rw [show (0 : Int) = ((0 : Nat) : Int) from rfl, h]
  rw [List.any_eq_false.2 (by simp)]
  rfl
theorem f6_eq (l : List En) (b c : Int) : f6 (ecs l) l.length b c = some true := by
  unfold f6
  by_cases hl : l.length ≤ 100
  · have hg : decide ((l.length : Int) > 100) = false := by simp; omega
    rw [hg, cond_false]
    cases hb : anyBad (keys l) with
    | true =>
      have e1 := f16_eq [] c (by decide)
      have e2 := f16_eq [] b (by decide)
      simp only [show ecs [] = [] from rfl, List.length_nil] at e1 e2
      simp only [f16_eq l b hl, f16_eq l c hl, Option.bind_some, chk_ne, hb, cond_true, e1, e2]
      have hc : chkK (keys l) = 2 := by unfold chkK; rw [hb]; rfl
      rw [hc]
      rfl
    | false =>
      have lb : (l.filter (keepK b)).length ≤ 100 := Nat.le_trans (List.length_filter_le _ _) hl
      have lc : (l.filter (keepK c)).length ≤ 100 := Nat.le_trans (List.length_filter_le _ _) hl
      have gb := good_sub hb (keys_filter l (keepK b))
      have gc := good_sub hb (keys_filter l (keepK c))
      have hcomm : (l.filter (keepK c)).filter (keepK b) = (l.filter (keepK b)).filter (keepK c) := by
        rw [List.filter_filter, List.filter_filter]
        congr 1
        funext e
        rw [Bool.and_comm]
      have lbc : ((l.filter (keepK b)).filter (keepK c)).length ≤ 100 := Nat.le_trans (List.length_filter_le _ _) lb
      have hall : ∀ e ∈ (l.filter (keepK b)).filter (keepK c), keepK b e = true ∧ keepK c e = true := by
        intro e he
        rw [List.mem_filter, List.mem_filter] at he
        exact ⟨he.1.2, he.2⟩
      simp only [f16_eq l b hl, f16_eq l c hl, Option.bind_some, chk_ne, hb, cond_false, f16_eq _ c lb, f16_eq _ b lc, gb, gc, hcomm, f6_loop _ _ b c _ _ lbc hall, Sum.elim_inr, f10_eq _ _ lbc]
      simp [f7]
  · have hg : decide ((l.length : Int) > 100) = true := by simp; omega
    rw [hg, cond_true]; rfl
end Go.Ev
