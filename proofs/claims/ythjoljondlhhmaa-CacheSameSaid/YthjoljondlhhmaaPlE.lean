/- Plain lemmas: the plain law of CacheSame. No statement is proved here. -/
import Derived.Test.YthjoljondlhhmaaPlD
namespace Go.Ev
set_option linter.unusedVariables false
set_option linter.unusedSimpArgs false
theorem upE_miss (k : Ky) : ∀ (l : List En) (st : En), (∀ e ∈ l, e.1 ≠ k) → l.foldl (upE k) st = st
  | [], st, _ => rfl
  | e :: l, st, h => by
    rw [List.foldl_cons]
    have h1 : upE k st e = st := by unfold upE; rw [if_neg (h e (by simp))]
    rw [h1]
    exact upE_miss k l st fun e he => h e (by simp [he])
/-- Where all entries with a key are one entry, and there is one, it is the one that is found. -/
theorem upE_hit (k : Ky) (x : En) : ∀ (l : List En) (st : En), (∀ e ∈ l, e.1 = k → e = x) → (st = x ∨ ∃ e ∈ l, e.1 = k) → l.foldl (upE k) st = x
  | [], st, _, h => by
    rcases h with h | ⟨e, he, _⟩
    · exact h
    · cases he
  | e :: l, st, h, h2 => by
    rw [List.foldl_cons]
    apply upE_hit k x l _ (fun e he => h e (by simp [he]))
    unfold upE
    split
    · rename_i hk; exact .inl (h e (by simp) hk)
    · rename_i hk
      rcases h2 with h2 | ⟨e', he', hk'⟩
      · exact .inl h2
      · rcases List.mem_cons.1 he' with rfl | he'
        · exact absurd hk' hk
        · exact .inr ⟨e', he', hk'⟩
theorem lk_own (l : List En) (h : anyBad (keys l) = false) : (keys l).map (lkE l) = l := by
  have hp := ((good_iff _).1 h).2
  have key : ∀ e ∈ l, lkE l e.1 = e := by
    intro e he
    refine upE_hit e.1 e l _ ?_ (.inr ⟨e, he, rfl⟩)
    intro e' he' hk
    obtain ⟨i, hi, rfl⟩ := List.mem_iff_getElem.1 he
    obtain ⟨j, hj, rfl⟩ := List.mem_iff_getElem.1 he'
    have hij : i = j := by
      rcases Nat.lt_trichotomy i j with q | q | q
      · have := List.pairwise_iff_getElem.1 hp i j (by simpa [keys] using hi) (by simpa [keys] using hj) q
        simp only [keys, List.getElem_map] at this
        rw [hk] at this
        exact absurd this (ltK_irrefl _)
      · exact q
      · have := List.pairwise_iff_getElem.1 hp j i (by simpa [keys] using hj) (by simpa [keys] using hi) q
        simp only [keys, List.getElem_map] at this
        rw [hk] at this
        exact absurd this (ltK_irrefl _)
    subst hij; rfl
  unfold keys
  rw [List.map_map]
  conv => rhs; rw [← List.map_id l]
  exact List.map_congr_left fun e he => key e he
theorem keys_carry (l : List En) (ks : List Ky) : keys (ks.map (lkE l)) = ks := by
  unfold keys
  rw [List.map_map]
  conv => rhs; rw [← List.map_id ks]
  exact List.map_congr_left fun k _ => lkE_key l k
theorem lk_carry (l : List En) (ks : List Ky) (k : Ky) (hk : k ∈ ks) : lkE (ks.map (lkE l)) k = lkE l k := by
  refine upE_hit k (lkE l k) _ _ ?_ (.inr ⟨lkE l k, List.mem_map.2 ⟨k, hk, rfl⟩, lkE_key l k⟩)
  intro e he h
  obtain ⟨k', _, rfl⟩ := List.mem_map.1 he
  rw [lkE_key] at h
  rw [h]
theorem range_sub (ks : List Ky) (p : Nat → Bool) : ((List.range' 0 ks.length).flatMap fun i => cond (p i) [kat ks i] []).Sublist ks := by
  have h : ∀ L : List Nat, (L.flatMap fun i => cond (p i) [kat ks i] []).Sublist (L.map (kat ks)) := by
    intro L
    induction L with
    | nil => exact List.Sublist.refl _
    | cons i L ih =>
      rw [List.flatMap_cons, List.map_cons]
      cases p i with
      | true => exact List.Sublist.cons_cons _ ih
      | false => exact List.Sublist.cons _ ih
  have := h (List.range' 0 ks.length)
  rwa [range_kat] at this
theorem f4_loop (x y z w u : List AVal) (b c d e f g h : Nat) (ks : List Ky) (m p q r : Int) (hk : ks.length ≤ 100) :
    ∃ js : List Ky, js.Sublist ks ∧ f4_L10 (x, b, kcs ks, ks.length, m, y, c, z, d, p, w, e, q) (([] : List AVal), 0, 0) = some (kcs js, js.length) := by
  refine ⟨_, range_sub ks (fun i => cond (decide (m < 2)) true (decide (Int.tmod (i : Int) m > 0))), ?_⟩
  have h := build_loop kc (fun i => cond (cond (decide (m < 2)) true (decide (Int.tmod (i : Int) m > 0))) [kat ks i] []) ks.length (fun i => by cases (cond (decide (m < 2)) true (decide (Int.tmod (i : Int) m > 0))) <;> simp) (f4_L10s (x, b, kcs ks, ks.length, m, y, c, z, d, p, w, e, q)) (by
    intro i acc hi ha
    have h1 : ((i : Int) < (ks.length : Int)) := by omega
    simp only [f4_L10s, f4_L10k, h1, hi, decide_true, cond_true, Int.natCast_nonneg, Bool.true_and, need_true, Int.toNat_natCast, rk4, gk0, gk1, gk2, gk3, Nat.add_zero]
    rw [need_pos (pow48 (by omega) (by omega)), wrap1 (by omega)]
    by_cases hm : m < 2
    · simp [hm, List.flatMap_append, kc]
    · have hm0 : ¬ m = 0 := by omega
      simp only [hm, hm0, decide_false, cond_false, Bool.not_false, need_true]
      cases decide (Int.tmod (i : Int) m > 0) with
      | true => simp [List.flatMap_append, kc]
      | false => simp) (by
    intro acc; simp [f4_L10s, f4_L10k]) ks.length 0 [] (by omega) (by simp)
  unfold f4_L10
  rw [show ((([] : List AVal), 0, 0) : List AVal × Nat × Int) = ((([] : List Ky).flatMap kc, ([] : List Ky).length, ((0 : Nat) : Int))) from rfl, h]
  rfl
theorem carried_bad {l : List En} {ks : List Ky} (h : (anyBad (keys l) || anyBad ks) = true) : carried l ks = (2, [], 0) := by unfold carried; rw [h]; rfl
theorem carried_good {l : List En} {ks : List Ky} (h : anyBad (keys l) = false) (k : anyBad ks = false) : carried l ks = (0, ecs (ks.map (lkE l)), (ks.map (lkE l)).length) := by unfold carried; rw [h, k]; rfl
theorem f4_eq (l : List En) (ks : List Ky) (m : Int) : f4 (ecs l) l.length (kcs ks) ks.length m = some true := by
  unfold f4
  by_cases hl : l.length ≤ 100
  · by_cases hk : ks.length ≤ 100
    · have hg : decide ((l.length : Int) > 100) = false := by simp; omega
      have hg' : decide ((ks.length : Int) > 100) = false := by simp; omega
      rw [hg, hg', cond_false, cond_false, f8_eq l ks hl hk, Option.bind_some]
      cases hb : anyBad (keys l) || anyBad ks with
      | true => rw [carried_bad hb]; rfl
      | false =>
        rw [Bool.or_eq_false_iff] at hb
        obtain ⟨g1, g2⟩ := hb
        rw [carried_good g1 g2]
        have hkl : (keys l).length ≤ 100 := by rw [keys_len]; exact hl
        have hn : anyBad ([] : List Ky) = false := by rw [good_iff]; simp
        have e13 := f13_eq l hl
        have e8 := f8_eq l (keys l) hl hkl
        rw [carried_good g1 g1, lk_own l g1] at e8
        have e8' := f8_eq l [] hl (by decide)
        rw [carried_good g1 hn] at e8'
        obtain ⟨js, hjs, eL⟩ := f4_loop (ecs l) (ecs (ks.map (lkE l))) (ecs l) [] [] l.length (ks.map (lkE l)).length l.length 0 0 0 0 ks m 0 0 0 hk
        have hj : js.length ≤ 100 := Nat.le_trans hjs.length_le hk
        have gj := good_sub g2 hjs
        have hml : (ks.map (lkE l)).length ≤ 100 := by simpa using hk
        have gm : anyBad (keys (ks.map (lkE l))) = false := by rw [keys_carry]; exact g2
        have e9 := f8_eq (ks.map (lkE l)) js hml hj
        rw [carried_good gm gj] at e9
        have e10 := f8_eq l js hl hj
        rw [carried_good g1 gj] at e10
        have hsame : js.map (lkE (ks.map (lkE l))) = js.map (lkE l) := List.map_congr_left fun k hkj => lk_carry l ks k (hjs.subset hkj)
        rw [hsame] at e9
        have c1 := f10_eq l l hl
        have c2 := f10_eq (js.map (lkE l)) (js.map (lkE l)) (by simpa using hj)
        have e11 := f11_eq (ks.map (lkE l)) hml
        rw [chk_good gm] at e11
        simp only [decide_true] at c1 c2
        simp only [show kcs [] = [] from rfl, List.length_nil, List.map_nil, show ecs [] = [] from rfl] at e8'
        simp only [show ((0 : Int) != 0) = false from rfl, cond_false, e13, Option.bind_some, e8, e8', eL, e9, e10, show ((0 : Int) == 0) = true from rfl, cond_true, c1, c2, e11, show (((0 : Nat) : Int) == 0) = true from rfl]
        have hlen : (((ks.map (lkE l)).length : Int) == (ks.length : Int)) = true := by simp
        rw [hlen]
        rfl
    · have hg : decide ((l.length : Int) > 100) = false := by simp; omega
      have hg' : decide ((ks.length : Int) > 100) = true := by simp; omega
      rw [hg, cond_false, hg', cond_true]; rfl
  · have hg : decide ((l.length : Int) > 100) = true := by simp; omega
    rw [hg, cond_true]; rfl
end Go.Ev
