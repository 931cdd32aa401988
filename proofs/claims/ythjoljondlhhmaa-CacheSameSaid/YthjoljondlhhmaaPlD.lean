/- Plain lemmas: what is carried to other keys, by the map and by the document. No statement is proved here. -/
import Derived.Test.YthjoljondlhhmaaPlC
namespace Go.Ev
set_option linter.unusedVariables false
set_option linter.unusedSimpArgs false
/-- The last entry with a key, else an empty one. -/
def upE (k : Ky) (st e : En) : En := if e.1 = k then e else st
def lkE (l : List En) (k : Ky) : En := l.foldl (upE k) (k, 0, 0, 0)
theorem upE_key (k : Ky) : ∀ (l : List En) (st : En), st.1 = k → (l.foldl (upE k) st).1 = k := by
  intro l
  induction l with
  | nil => intro st h; exact h
  | cons e l ih =>
    intro st h
    rw [List.foldl_cons]
    apply ih
    unfold upE
    split
    · assumption
    · exact h
theorem lkE_key (l : List En) (k : Ky) : (lkE l k).1 = k := upE_key k l _ rfl
theorem fold_eat {S : Type} (l : List En) (u : S → En → S) (st : S) : (List.range' 0 l.length).foldl (fun t j => u t (eat l j)) st = l.foldl u st := by
  rw [← List.foldl_map (f := eat l) (g := u), range_eat]

theorem kEq (a b : Ky) : (a.1 == b.1 && (a.2.1 == b.2.1 && (a.2.2.1 == b.2.2.1 && (a.2.2.2 == b.2.2.2 && true)))) = decide (a = b) := by
  rw [Bool.eq_iff_iff]
  simp [Prod.ext_iff, and_assoc]

/-! ### The document's -/
theorem f9_L12_eq (l : List En) (ks : List Ky) (acc : List AVal) (m i : Nat) (hl : l.length ≤ 100) (hi : i < ks.length) :
    f9_L12 (ecs l, l.length, kcs ks, ks.length, acc, m, (i : Int)) ((kat ks i).1, (kat ks i).2.1, (kat ks i).2.2.1, (kat ks i).2.2.2, 0, 0, 0, 0) =
      some ((lkE l (kat ks i)).1.1, (lkE l (kat ks i)).1.2.1, (lkE l (kat ks i)).1.2.2.1, (lkE l (kat ks i)).1.2.2.2, (lkE l (kat ks i)).2.1, (lkE l (kat ks i)).2.2.1, (lkE l (kat ks i)).2.2.2) := by
  have h := fold_loop (fun (t : En) (j : Int) => (t.1.1, t.1.2.1, t.1.2.2.1, t.1.2.2.2, t.2.1, t.2.2.1, t.2.2.2, j)) (fun t => (t.1.1, t.1.2.1, t.1.2.2.1, t.1.2.2.2, t.2.1, t.2.2.1, t.2.2.2))
    (fun t j => upE (kat ks i) t (eat l j)) l.length (f9_L12s (ecs l, l.length, kcs ks, ks.length, acc, m, (i : Int))) (by
    intro j t hj
    have h1 : ((j : Int) < (l.length : Int)) := by omega
    have h2 : ((i : Int) < (ks.length : Int)) := by omega
    simp only [f9_L12s, f9_L12k, h1, h2, hj, hi, decide_true, cond_true, Int.natCast_nonneg, Bool.true_and, need_true, Int.toNat_natCast, ro4, ro7, rk4, gk0, gk1, gk2, gk3, ge0, ge1, ge2, ge3, ge4, ge5, ge6, Nat.add_zero]
    rw [wrap1 (by omega), kEq]
    unfold upE
    by_cases he : (eat l j).1 = kat ks i
    · rw [if_pos he, decide_eq_true he]; rfl
    · rw [if_neg he, decide_eq_false he]; rfl) (by
    intro t; simp [f9_L12s, f9_L12k]) l.length 0 (kat ks i, 0, 0, 0) (by omega)
  unfold f9_L12
  rw [fold_eat l (upE (kat ks i))] at h
  exact h
theorem carry_flat (l : List En) (ks : List Ky) : (List.range' 0 ks.length).flatMap (fun i => [lkE l (kat ks i)]) = ks.map (lkE l) := by
  rw [flat_kat ks (fun k => [lkE l k])]; exact List.map_eq_flatMap.symm
theorem f9_L8_eq (l : List En) (ks : List Ky) (hl : l.length ≤ 100) (hk : ks.length ≤ 100) : f9_L8 (ecs l, l.length, kcs ks, ks.length) (([] : List AVal), 0, 0) = some (ecs (ks.map (lkE l)), (ks.map (lkE l)).length) := by
  have h := build_loop ec (fun i => [lkE l (kat ks i)]) ks.length (fun i => by simp) (f9_L8s (ecs l, l.length, kcs ks, ks.length)) (by
    intro i acc hi ha
    have h1 : ((i : Int) < (ks.length : Int)) := by omega
    simp only [f9_L8s, f9_L8k, h1, hi, decide_true, cond_true, Int.natCast_nonneg, Bool.true_and, need_true, Int.toNat_natCast, rk4, gk0, gk1, gk2, gk3, Nat.add_zero, f9_L12_eq l ks _ _ i hl hi, Option.bind_some]
    rw [need_pos (pow48 (by omega) (by omega)), wrap1 (by omega)]
    simp [List.flatMap_append, ec]) (by
    intro acc; simp [f9_L8s, f9_L8k]) ks.length 0 [] (by omega) (by simp)
  unfold f9_L8
  rw [show ((([] : List AVal), 0, 0) : List AVal × Nat × Int) = ((([] : List En).flatMap ec, ([] : List En).length, ((0 : Nat) : Int))) from rfl, h, carry_flat]
  rfl
noncomputable def carried (l : List En) (ks : List Ky) : Int × List AVal × Nat := cond (anyBad (keys l) || anyBad ks) (2, [], 0) (0, ecs (ks.map (lkE l)), (ks.map (lkE l)).length)
theorem f9_eq (l : List En) (ks : List Ky) (hl : l.length ≤ 100) (hk : ks.length ≤ 100) : f9 (ecs l) l.length (kcs ks) ks.length = some (carried l ks) := by
  unfold f9 carried
  rw [f13_eq l hl, Option.bind_some, f12_eq (keys l) (by rw [keys_len]; exact hl), Option.bind_some, f12_eq ks hk, Option.bind_some, f9_L8_eq l ks hl hk]
  unfold chkK
  cases anyBad (keys l) <;> cases anyBad ks <;> rfl

/-! ### By the map -/
abbrev MM := List (Ky × En × Nat)
def encM (M : MM) : List (AVal × AVal × Nat) := M.map fun x => (.agg (kc x.1), .agg (ec x.2.1), x.2.2)
def fiM (k : Ky) : MM → Option (Nat × En)
  | [] => none
  | (x, v, _) :: r => if k = x then some (0, v) else (fiM k r).map fun p => (p.1 + 1, p.2)
def puM (k : Ky) (e : En) (c : Nat) : MM → MM
  | [] => [(k, e, c)]
  | (x, v, b) :: r => if k = x then (k, e, b) :: r else (x, v, b) :: puM k e c r
theorem keyEq25 (a b : Ky) : keyEq ty25 (.agg (kc a)) (.agg (kc b)) = some (decide (a = b)) := by
  rw [← kEq]
  rfl
theorem findA_enc (k : Ky) : ∀ (M : MM) (n : Nat), findA ty25 (.agg (kc k)) (encM M) n = some ((fiM k M).map fun p => (n + p.1, .agg (ec p.2)))
  | [], n => rfl
  | (x, v, b) :: r, n => by
    simp only [encM, List.map_cons, findA, keyEq25, fiM]
    by_cases h : k = x
    · rw [decide_eq_true h, if_pos h]; rfl
    · rw [decide_eq_false h, if_neg h]
      have := findA_enc k r (n + 1)
      unfold encM at this
      simp only [this, Option.map_map]
      congr 2
      funext p
      simp only [Function.comp]
      rw [show n + 1 + p.1 = n + (p.1 + 1) by omega]
theorem putE_enc (k : Ky) (e : En) (M : MM) (c : Nat) : putE ty25 (.agg (kc k)) (.agg (ec e)) (encM M) c = encM (puM k e c M) := by
  unfold putE
  rw [findA_enc]
  have key : ∀ M : MM, (match fiM k M with | some p => (encM M).modify p.1 fun y => (.agg (kc k), .agg (ec e), y.2.2) | none => encM M ++ [(.agg (kc k), .agg (ec e), c)]) = encM (puM k e c M) := by
    intro M
    induction M with
    | nil => rfl
    | cons y r ih =>
      obtain ⟨x, v, b⟩ := y
      by_cases h : k = x
      · simp only [fiM, puM, if_pos h, encM, List.map_cons, List.modify_zero_cons]
      · simp only [fiM, puM, if_neg h]
        cases hf : fiM k r with
        | none => rw [hf] at ih; simp only [Option.map_none, encM, List.map_cons, List.cons_append] at *; rw [ih]
        | some p => rw [hf] at ih; simp only [Option.map_some, encM, List.map_cons, List.modify_succ_cons] at *; rw [ih]
  rw [← key M]
  cases fiM k M with
  | none => rfl
  | some p => simp only [Option.map_some, Nat.zero_add]
def gM (k : Ky) (M : MM) : Option En := (fiM k M).map (·.2)
theorem gM_put (k k' : Ky) (e : En) (c : Nat) : ∀ M, gM k (puM k' e c M) = if k' = k then some e else gM k M
  | [] => by
    unfold gM puM fiM fiM
    by_cases h : k' = k
    · rw [if_pos h, if_pos h.symm]; rfl
    · rw [if_neg h, if_neg (fun q => h q.symm)]; rfl
  | (x, v, b) :: r => by
    have ih := gM_put k k' e c r
    unfold gM at *
    by_cases h : k' = x
    · subst h
      simp only [puM, if_true, fiM]
      by_cases h2 : k' = k
      · subst h2; simp
      · rw [if_neg h2, if_neg (fun q => h2 q.symm), if_neg (fun q => h2 q.symm)]
    · simp only [puM, if_neg h, fiM]
      by_cases h2 : k = x
      · have h3 : k' ≠ k := fun q => h (q.trans h2)
        simp only [if_pos h2, if_neg h3]
      · simp only [if_neg h2, Option.map_map]
        have e1 : ((fun x => x.2) ∘ fun (p : Nat × En) => (p.1 + 1, p.2)) = (fun x : Nat × En => x.2) := rfl
        rw [e1, ih]
def stepM (t : MM × Nat) (e : En) : MM × Nat := (puM e.1 e t.2 t.1, cond (fiM e.1 t.1).isSome t.2 (t.2 + 1))
theorem f8_L8_eq (l : List En) (x : List AVal) (y : Nat) (hl : l.length ≤ 100) : f8_L8 (x, y, ecs l, l.length, (l.length : Int)) (([] : List (AVal × AVal × Nat)), 0, 0) = some (encM (l.foldl stepM ([], 0)).1, (l.foldl stepM ([], 0)).2) := by
  have h := fold_loop (fun (t : MM × Nat) (j : Int) => (encM t.1, t.2, j)) (fun t => (encM t.1, t.2))
    (fun t j => stepM t (eat l j)) l.length (f8_L8s (x, y, ecs l, l.length, (l.length : Int))) (by
    intro j t hj
    have h1 : ((j : Int) < (l.length : Int)) := by omega
    have hk : ([.int .i64 (eat l j).1.1, .int .i64 (eat l j).1.2.1, .int .i64 (eat l j).1.2.2.1, .int .i64 (eat l j).1.2.2.2] : List AVal) = kc (eat l j).1 := rfl
    have he : ([.int .i64 (eat l j).1.1, .int .i64 (eat l j).1.2.1, .int .i64 (eat l j).1.2.2.1, .int .i64 (eat l j).1.2.2.2, .int .i64 (eat l j).2.1, .int .i64 (eat l j).2.2.1, .int .i64 (eat l j).2.2.2] : List AVal) = ec (eat l j) := rfl
    simp only [f8_L8s, f8_L8k, h1, hj, decide_true, cond_true, Int.natCast_nonneg, Bool.true_and, need_true, Int.toNat_natCast, ro7, ge0, ge1, ge2, ge3, ge4, ge5, ge6, Nat.add_zero, hk, he, findA_enc, Option.isSome_some, putE_enc, putC]
    rw [wrap1 (by omega)]
    unfold stepM
    cases fiM (eat l j).1 t.1 <;> rfl) (by
    intro t; simp [f8_L8s, f8_L8k]) l.length 0 ([], 0) (by omega)
  unfold f8_L8
  rw [fold_eat l stepM] at h
  exact h
theorem gM_fold (k : Ky) : ∀ (l : List En) (t : MM × Nat) (d : En), (gM k (l.foldl stepM t).1).getD d = l.foldl (upE k) ((gM k t.1).getD d) := by
  intro l
  induction l with
  | nil => intro t d; rfl
  | cons e l ih =>
    intro t d
    rw [List.foldl_cons, List.foldl_cons, ih]
    congr 1
    unfold stepM upE
    rw [gM_put]
    split <;> rfl
theorem gM_lk (k : Ky) (l : List En) : (gM k (l.foldl stepM ([], 0)).1).getD (k, 0, 0, 0) = lkE l k := gM_fold k l ([], 0) _
theorem f8_L14_eq (l : List En) (ks : List Ky) (y : Nat) (hk : ks.length ≤ 100) : f8_L14 (encM (l.foldl stepM ([], 0)).1, y, kcs ks, ks.length, (ks.length : Int)) (([] : List AVal), 0, 0) = some (ecs (ks.map (lkE l)), (ks.map (lkE l)).length) := by
  have h := build_loop ec (fun i => [lkE l (kat ks i)]) ks.length (fun i => by simp) (f8_L14s (encM (l.foldl stepM ([], 0)).1, y, kcs ks, ks.length, (ks.length : Int))) (by
    intro i acc hi ha
    have h1 : ((i : Int) < (ks.length : Int)) := by omega
    have hkc : ([.int .i64 (kat ks i).1, .int .i64 (kat ks i).2.1, .int .i64 (kat ks i).2.2.1, .int .i64 (kat ks i).2.2.2] : List AVal) = kc (kat ks i) := rfl
    simp only [f8_L14s, f8_L14k, h1, hi, decide_true, cond_true, Int.natCast_nonneg, Bool.true_and, need_true, Int.toNat_natCast, rk4, gk0, gk1, gk2, gk3, Nat.add_zero, hkc, findA_enc]
    have h2 := gM_lk (kat ks i) l
    have h3 := lkE_key l (kat ks i)
    rw [← h2] at h3 ⊢
    unfold gM at *
    rw [wrap1 (by omega)]
    cases hf : fiM (kat ks i) (l.foldl stepM ([], 0)).1 with
    | none =>
      simp only [Option.map_none, lookC, Option.getD_none]
      rw [need_pos (pow48 (by omega) (by omega))]
      simp [List.flatMap_append, ec]
    | some p =>
      rw [hf] at h3
      simp only [Option.map_some, Option.getD_some] at h3
      simp only [Option.map_some, lookC, Option.getD_some, AVal.cellsOf]
      refine Eq.trans (need_pos (by rfl)) ?_
      rw [need_pos (pow48 (by omega) (by omega))]
      rw [← h3]
      simp [List.flatMap_append, ec, geti]) (by
    intro acc; simp [f8_L14s, f8_L14k]) ks.length 0 [] (by omega) (by simp)
  unfold f8_L14
  rw [show ((([] : List AVal), 0, 0) : List AVal × Nat × Int) = ((([] : List En).flatMap ec, ([] : List En).length, ((0 : Nat) : Int))) from rfl, h, carry_flat]
  rfl
theorem f8_eq (l : List En) (ks : List Ky) (hl : l.length ≤ 100) (hk : ks.length ≤ 100) : f8 (ecs l) l.length (kcs ks) ks.length = some (carried l ks) := by
  unfold f8 carried
  rw [f11_eq l hl, Option.bind_some, f18a_eq ks hk, Option.bind_some, f8_L8_eq l _ _ hl, Option.bind_some]
  simp only [f8_L14_eq l ks _ hk]
  unfold chkK
  cases anyBad (keys l) <;> cases anyBad ks <;> rfl
theorem f3_eq (l : List En) (ks : List Ky) (a b c d e f g h : Int) : f3 (ecs l) l.length (kcs ks) ks.length a b c d e f g h = some true := by
  unfold f3
  by_cases hl : l.length ≤ 100
  · by_cases hk : ks.length ≤ 100
    · have hg : decide ((l.length : Int) > 100) = false := by simp; omega
      have hg' : decide ((ks.length : Int) > 100) = false := by simp; omega
      have hn : decide (2 * (0 + l.length) * 56 ≤ 2 ^ 48) = true := pow48 (by omega) (by omega)
      have h10 : f10 (carried l ks).2.1 (carried l ks).2.2 (carried l ks).2.1 (carried l ks).2.2 = some true := by
        unfold carried
        cases anyBad (keys l) || anyBad ks with
        | true =>
          have := f10_eq [] [] (by decide)
          simpa [ecs] using this
        | false =>
          have := f10_eq (ks.map (lkE l)) (ks.map (lkE l)) (by simpa using hk)
          simpa using this
      have h10' := f10_eq l l hl
      simp only [decide_true] at h10'
      simp only [hg, hg', hn, cond_false, need_true, f8_eq l ks hl hk, f9_eq l ks hl hk, Option.bind_some, h10, cond_true, beq_self_eq_true, f11_eq l hl, f13_eq l hl, f12_eq (keys l) (by rw [keys_len]; exact hl), f14_eq, f15_eq, h10']
      rfl
    · have hg : decide ((l.length : Int) > 100) = false := by simp; omega
      have hg' : decide ((ks.length : Int) > 100) = true := by simp; omega
      rw [hg, cond_false, hg', cond_true]; rfl
  · have hg : decide ((l.length : Int) > 100) = true := by simp; omega
    rw [hg, cond_true]; rfl
end Go.Ev
