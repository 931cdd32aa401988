/- Plain lemmas: rows of whole numbers in a slice's cells, and what the small functions of Cache compute. No statement is proved here. -/
import Derived.Test.YthjoljondlhhmaaDf3
import Derived.Test.YthjoljondlhhmaaDf4
import Derived.Test.YthjoljondlhhmaaDf5
import Derived.Test.YthjoljondlhhmaaDf6
namespace Go.Ev
set_option linter.unusedVariables false
set_option linter.unusedSimpArgs false
abbrev Ky := Int × Int × Int × Int
abbrev En := Ky × Int × Int × Int
def kc (k : Ky) : List AVal := [.int .i64 k.1, .int .i64 k.2.1, .int .i64 k.2.2.1, .int .i64 k.2.2.2]
def ec (e : En) : List AVal := [.int .i64 e.1.1, .int .i64 e.1.2.1, .int .i64 e.1.2.2.1, .int .i64 e.1.2.2.2, .int .i64 e.2.1, .int .i64 e.2.2.1, .int .i64 e.2.2.2]
def kcs (l : List Ky) : List AVal := l.flatMap kc
def ecs (l : List En) : List AVal := l.flatMap ec
def eat (l : List En) (i : Nat) : En := l.getD i ((0, 0, 0, 0), 0, 0, 0)
def kat (l : List Ky) (i : Nat) : Ky := l.getD i (0, 0, 0, 0)

theorem flat_get {A B : Type} (f : A → List B) (m : Nat) (hm : ∀ a, (f a).length = m) (l : List A) (i j : Nat) (hj : j < m) : (l.flatMap f)[i * m + j]? = (l[i]?).bind fun a => (f a)[j]? := by
  induction l generalizing i with
  | nil => simp
  | cons a l ih =>
    cases i with
    | zero => simp [List.flatMap_cons, List.getElem?_append, hm, hj]
    | succ i =>
      have h1 : (i + 1) * m + j = m + (i * m + j) := by rw [Nat.add_mul]; omega
      rw [h1, List.flatMap_cons, List.getElem?_append_right (by rw [hm]; omega), hm]
      have h2 : m + (i * m + j) - m = i * m + j := by omega
      rw [h2, ih]
      simp
theorem ecs_get (l : List En) (i j : Nat) (hj : j < 7) : (ecs l)[i * 7 + j]? = (l[i]?).bind fun a => (ec a)[j]? := flat_get ec 7 (fun _ => rfl) l i j hj
theorem kcs_get (l : List Ky) (i j : Nat) (hj : j < 4) : (kcs l)[i * 4 + j]? = (l[i]?).bind fun a => (kc a)[j]? := flat_get kc 4 (fun _ => rfl) l i j hj

section
variable (l : List En) (i : Nat)
theorem ge0 : geti (ecs l) (i * 7) = (eat l i).1.1 := by
  have := ecs_get l i 0 (by decide); simp only [Nat.add_zero] at this
  unfold geti eat; rw [this]; simp only [List.getD_eq_getElem?_getD]; cases l[i]? <;> rfl
theorem ge1 : geti (ecs l) (i * 7 + 1) = (eat l i).1.2.1 := by
  unfold geti eat; rw [ecs_get l i 1 (by decide)]; simp only [List.getD_eq_getElem?_getD]; cases l[i]? <;> rfl
theorem ge2 : geti (ecs l) (i * 7 + 2) = (eat l i).1.2.2.1 := by
  unfold geti eat; rw [ecs_get l i 2 (by decide)]; simp only [List.getD_eq_getElem?_getD]; cases l[i]? <;> rfl
theorem ge3 : geti (ecs l) (i * 7 + 3) = (eat l i).1.2.2.2 := by
  unfold geti eat; rw [ecs_get l i 3 (by decide)]; simp only [List.getD_eq_getElem?_getD]; cases l[i]? <;> rfl
theorem ge4 : geti (ecs l) (i * 7 + 4) = (eat l i).2.1 := by
  unfold geti eat; rw [ecs_get l i 4 (by decide)]; simp only [List.getD_eq_getElem?_getD]; cases l[i]? <;> rfl
theorem ge5 : geti (ecs l) (i * 7 + 5) = (eat l i).2.2.1 := by
  unfold geti eat; rw [ecs_get l i 5 (by decide)]; simp only [List.getD_eq_getElem?_getD]; cases l[i]? <;> rfl
theorem ge6 : geti (ecs l) (i * 7 + 6) = (eat l i).2.2.2 := by
  unfold geti eat; rw [ecs_get l i 6 (by decide)]; simp only [List.getD_eq_getElem?_getD]; cases l[i]? <;> rfl
theorem ro7 : rowOk [.int .i64, .int .i64, .int .i64, .int .i64, .int .i64, .int .i64, .int .i64] (ecs l) (i * 7) = decide (i < l.length) := by
  have h0 := ecs_get l i 0 (by decide); simp only [Nat.add_zero] at h0
  simp only [rowOk, Nat.add_assoc, Nat.reduceAdd, h0, ecs_get l i 1 (by decide), ecs_get l i 2 (by decide), ecs_get l i 3 (by decide), ecs_get l i 4 (by decide), ecs_get l i 5 (by decide), ecs_get l i 6 (by decide)]
  by_cases h : i < l.length
  · simp [h, ec, isK]
  · simp [h, isK]
theorem ro4 : rowOk [.int .i64, .int .i64, .int .i64, .int .i64] (ecs l) (i * 7) = decide (i < l.length) := by
  have h0 := ecs_get l i 0 (by decide); simp only [Nat.add_zero] at h0
  simp only [rowOk, Nat.add_assoc, Nat.reduceAdd, h0, ecs_get l i 1 (by decide), ecs_get l i 2 (by decide), ecs_get l i 3 (by decide), ecs_get l i 4 (by decide), ecs_get l i 5 (by decide), ecs_get l i 6 (by decide)]
  by_cases h : i < l.length
  · simp [h, ec, isK]
  · simp [h, isK]
theorem ro1 : rowOk [.int .i64] (ecs l) (i * 7) = decide (i < l.length) := by
  have h0 := ecs_get l i 0 (by decide); simp only [Nat.add_zero] at h0
  simp only [rowOk, h0]
  by_cases h : i < l.length
  · simp [h, ec, isK]
  · simp [h, isK]
theorem ro1' : rowOk [.int .i64] (ecs l) (i * 7 + 1) = decide (i < l.length) := by
  simp only [rowOk, ecs_get l i 1 (by decide)]
  by_cases h : i < l.length
  · simp [h, ec, isK]
  · simp [h, isK]
end
section
variable (l : List Ky) (i : Nat)
theorem gk0 : geti (kcs l) (i * 4) = (kat l i).1 := by
  have := kcs_get l i 0 (by decide); simp only [Nat.add_zero] at this
  unfold geti kat; rw [this]; simp only [List.getD_eq_getElem?_getD]; cases l[i]? <;> rfl
theorem gk1 : geti (kcs l) (i * 4 + 1) = (kat l i).2.1 := by
  unfold geti kat; rw [kcs_get l i 1 (by decide)]; simp only [List.getD_eq_getElem?_getD]; cases l[i]? <;> rfl
theorem gk2 : geti (kcs l) (i * 4 + 2) = (kat l i).2.2.1 := by
  unfold geti kat; rw [kcs_get l i 2 (by decide)]; simp only [List.getD_eq_getElem?_getD]; cases l[i]? <;> rfl
theorem gk3 : geti (kcs l) (i * 4 + 3) = (kat l i).2.2.2 := by
  unfold geti kat; rw [kcs_get l i 3 (by decide)]; simp only [List.getD_eq_getElem?_getD]; cases l[i]? <;> rfl
theorem rk4 : rowOk [.int .i64, .int .i64, .int .i64, .int .i64] (kcs l) (i * 4) = decide (i < l.length) := by
  have h0 := kcs_get l i 0 (by decide); simp only [Nat.add_zero] at h0
  simp only [rowOk, Nat.add_assoc, Nat.reduceAdd, h0, kcs_get l i 1 (by decide), kcs_get l i 2 (by decide), kcs_get l i 3 (by decide)]
  by_cases h : i < l.length
  · simp [h, kc, isK]
  · simp [h, isK]
end

/-! ### Loops -/
theorem scan_loop (bad : Nat → Bool) (n : Nat) (s : Int → Option (Int ⊕ (Unit ⊕ Unit))) (hs : ∀ i : Nat, i < n → s i = some (cond (bad i) (.inr (.inl ())) (.inl ((i + 1 : Nat) : Int)))) (he : s n = some (.inr (.inr ()))) :
    ∀ (d i : Nat), i + d = n → loopω s i = some (cond ((List.range' i d).any bad) (.inl ()) (.inr ())) := by
  intro d
  induction d with
  | zero => intro i hi; obtain rfl : i = n := by omega
            rw [loopω_end he]; rfl
  | succ d ih =>
    intro i hi
    have h := hs i (by omega)
    rw [List.range'_succ, List.any_cons]
    cases hb : bad i with
    | true => rw [hb] at h; rw [loopω_end h]; rfl
    | false => rw [hb] at h; rw [loopω_next h, ih (i + 1) (by omega)]; rfl

theorem build_loop {A : Type} (f : A → List AVal) (g : Nat → List A) (n : Nat) (hg : ∀ i, (g i).length ≤ 1) (s : List AVal × Nat × Int → Option ((List AVal × Nat × Int) ⊕ (List AVal × Nat)))
    (hs : ∀ (i : Nat) (acc : List A), i < n → acc.length ≤ i → s (acc.flatMap f, acc.length, (i : Int)) = some (.inl ((acc ++ g i).flatMap f, (acc ++ g i).length, ((i + 1 : Nat) : Int))))
    (he : ∀ acc : List A, s (acc.flatMap f, acc.length, (n : Int)) = some (.inr (acc.flatMap f, acc.length))) :
    ∀ (d i : Nat) (acc : List A), i + d = n → acc.length ≤ i → loopω s (acc.flatMap f, acc.length, (i : Int)) = some ((acc ++ (List.range' i d).flatMap g).flatMap f, (acc ++ (List.range' i d).flatMap g).length) := by
  intro d
  induction d with
  | zero => intro i acc hi _; obtain rfl : i = n := by omega
            rw [loopω_end (he acc)]; simp
  | succ d ih =>
    intro i acc hi ha
    rw [loopω_next (hs i acc (by omega) ha), ih (i + 1) (acc ++ g i) (by omega) (by have := hg i; rw [List.length_append]; omega), List.range'_succ, List.flatMap_cons, List.append_assoc]

theorem fold_loop {S V E : Type} (emb : S → Int → V) (out : S → E) (u : S → Nat → S) (n : Nat) (s : V → Option (V ⊕ E))
    (hs : ∀ (i : Nat) (t : S), i < n → s (emb t i) = some (.inl (emb (u t i) ((i + 1 : Nat) : Int)))) (he : ∀ t : S, s (emb t n) = some (.inr (out t))) :
    ∀ (d i : Nat) (t : S), i + d = n → loopω s (emb t i) = some (out ((List.range' i d).foldl u t)) := by
  intro d
  induction d with
  | zero => intro i t hi; obtain rfl : i = n := by omega
            rw [loopω_end (he t)]; rfl
  | succ d ih => intro i t hi; rw [loopω_next (hs i t (by omega)), ih (i + 1) (u t i) (by omega), List.range'_succ, List.foldl_cons]

theorem range_map {A : Type} (l : List A) (x : A) (p : List A) : (List.range' p.length l.length).map (fun i => (p ++ l).getD i x) = l := by
  induction l generalizing p with
  | nil => rfl
  | cons a l ih =>
    rw [List.length_cons, List.range'_succ, List.map_cons]
    have h := ih (p ++ [a])
    simp only [List.length_append, List.length_cons, List.length_nil, Nat.zero_add, List.append_assoc, List.cons_append, List.nil_append] at h
    rw [h]
    simp [List.getD_eq_getElem?_getD]
theorem range_eat (l : List En) : (List.range' 0 l.length).map (eat l) = l := range_map l _ []
theorem range_kat (l : List Ky) : (List.range' 0 l.length).map (kat l) = l := range_map l _ []
theorem flat_eat {B : Type} (l : List En) (h : En → List B) : (List.range' 0 l.length).flatMap (fun i => h (eat l i)) = l.flatMap h := by
  rw [← List.flatMap_map (f := eat l) (g := h), range_eat]
theorem flat_kat {B : Type} (l : List Ky) (h : Ky → List B) : (List.range' 0 l.length).flatMap (fun i => h (kat l i)) = l.flatMap h := by
  rw [← List.flatMap_map (f := kat l) (g := h), range_kat]
theorem wrap1 {i : Nat} (h : i ≤ 1000) : IntKind.wrap .i64 ((i : Int) + 1) = ((i + 1 : Nat) : Int) := by
  rw [wrap_i64 (by omega) (by omega)]; omega
theorem wrap2 {i : Nat} (h : i + 1 ≤ 1000) : IntKind.wrap .i64 (((i + 1 : Nat) : Int) - 1) = (i : Int) := by
  rw [wrap_i64 (by omega) (by omega)]; omega
theorem need_pos {R : Type} {c : Bool} {x : Option R} (h : c = true) : need c x = x := by subst h; rfl

/-! ### Small functions -/
def okK (k : Ky) : Bool := decide (k.1 ≥ 0) && decide (k.1 < k.2.1) && decide (k.2.1 ≤ 4096) && decide (k.2.2.1 ≥ 1) && decide (k.2.2.1 ≤ 3) && decide (k.2.2.2 ≥ 0) && decide (k.2.2.2 ≤ 256)
noncomputable def cmpK (x y : Ky) : Int := (f15 x.1 x.2.1 x.2.2.1 x.2.2.2 y.1 y.2.1 y.2.2.1 y.2.2.2).getD 0
theorem f15_eq (a b c d e f g h : Int) : f15 a b c d e f g h = some (cmpK (a, b, c, d) (e, f, g, h)) := by
  unfold cmpK f15
  simp only [cond_eq_ite]
  repeat' split
  all_goals rfl
theorem f23_eq (a b c d : Int) : f23 a b c d = some (okK (a, b, c, d)) := by
  unfold f23 okK
  cases decide (a ≥ 0) <;> cases decide (a < b) <;> cases decide (b ≤ 4096) <;> cases decide (c ≥ 1) <;> cases decide (c ≤ 3) <;> cases decide (d ≥ 0) <;> cases decide (d ≤ 256) <;> rfl
theorem f24_eq (a : Int) : f24 a = some false := by unfold f24; simp
def sgn (a b : Int) : Int := if a < b then -1 else if a > b then 1 else 0
theorem f22_eq (a b : Int) : f22 a b = some (sgn a b) := by
  unfold f22 sgn
  simp only [f24_eq, Option.bind_some, cond_eq_ite, decide_eq_true_eq, Bool.false_eq_true, if_false]
  repeat' split
  all_goals rfl
theorem f21_go (cs : List AVal) (n : Nat) (hn : n ≤ 100) (hcs : ∀ i, i < n → rowOk [.int .i64] cs i = true) : ∀ (d i : Nat), i + d = n → f21_L3 (cs, n, (n : Int)) i = some (((List.range' i d).find? fun i => geti cs i != 0).elim (.inr ()) fun i => .inl (geti cs i)) := by
  intro d
  unfold f21_L3
  induction d with
  | zero =>
    intro i hi; obtain rfl : i = n := by omega
    rw [loopω_end (e := .inr ())]; rfl
    simp [f21_L3s, f21_L3k]
  | succ d ih =>
    intro i hi
    rw [List.range'_succ, List.find?_cons]
    have h1 := hcs i (by omega)
    have h2 : ((i : Int) < (n : Int)) := by omega
    cases hb : geti cs i != 0 with
    | true => rw [loopω_end (e := .inl (geti cs i))]; rfl
              simp only [f21_L3s, f21_L3k, Int.toNat_natCast, Nat.mul_one, Nat.add_zero, h1, hb, h2, decide_true, cond_true, Int.natCast_nonneg, Bool.true_and, need_true]
    | false => rw [loopω_next (v' := ((i + 1 : Nat) : Int)), ih (i + 1) (by omega)]
               simp only [f21_L3s, f21_L3k, Int.toNat_natCast, Nat.mul_one, Nat.add_zero, h1, hb, h2, decide_true, cond_true, cond_false, Int.natCast_nonneg, Bool.true_and, need_true]
               rw [wrap1 (by omega)]
theorem tri (a b : Int) : (a < b ∧ ¬ b < a ∧ (a == b) = false) ∨ a = b ∨ (¬ a < b ∧ b < a ∧ (a == b) = false) := by
  rcases Int.lt_trichotomy a b with h | h | h
  · exact .inl ⟨h, by omega, by simp; omega⟩
  · exact .inr (.inl h)
  · exact .inr (.inr ⟨by omega, h, by simp; omega⟩)
theorem f14_eq (a b c d e f g h : Int) : f14 a b c d e f g h = some (cmpK (a, b, c, d) (e, f, g, h)) := by
  unfold f14
  simp only [f22_eq, Option.bind_some]
  unfold f21
  have h0 := f21_go [.int .i64 (sgn a e), .int .i64 (sgn b f), .int .i64 (sgn c g), .int .i64 (sgn d h)] 4 (by decide) (by
    intro i hi
    match i, hi with
    | 0, _ => rfl
    | 1, _ => rfl
    | 2, _ => rfl
    | 3, _ => rfl) 4 0 rfl
  have h00 : ((0 : Nat) : Int) = 0 := rfl
  rw [h00] at h0
  rw [h0]
  have hr : List.range' 0 4 = [0, 1, 2, 3] := rfl
  rw [hr]
  simp only [List.find?_cons, List.find?_nil]
  have e0 : geti [.int .i64 (sgn a e), .int .i64 (sgn b f), .int .i64 (sgn c g), .int .i64 (sgn d h)] 0 = sgn a e := rfl
  have e1 : geti [.int .i64 (sgn a e), .int .i64 (sgn b f), .int .i64 (sgn c g), .int .i64 (sgn d h)] 1 = sgn b f := rfl
  have e2 : geti [.int .i64 (sgn a e), .int .i64 (sgn b f), .int .i64 (sgn c g), .int .i64 (sgn d h)] 2 = sgn c g := rfl
  have e3 : geti [.int .i64 (sgn a e), .int .i64 (sgn b f), .int .i64 (sgn c g), .int .i64 (sgn d h)] 3 = sgn d h := rfl
  rw [e0, e1, e2, e3]
  unfold cmpK f15
  clear h0 h00 hr e0 e1 e2 e3
  rcases tri a e with ⟨h1, g1, k1⟩ | rfl | ⟨h1, g1, k1⟩ <;> rcases tri b f with ⟨h2, g2, k2⟩ | rfl | ⟨h2, g2, k2⟩ <;> rcases tri c g with ⟨h3, g3, k3⟩ | rfl | ⟨h3, g3, k3⟩ <;> rcases tri d h with ⟨h4, g4, k4⟩ | rfl | ⟨h4, g4, k4⟩ <;>
    simp_all [sgn, geti, cond_eq_ite, -Int.not_lt, -Int.not_le]
end Go.Ev
