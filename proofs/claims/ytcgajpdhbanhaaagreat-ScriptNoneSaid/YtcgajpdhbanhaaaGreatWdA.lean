import Derived.Test.YtcgajpdhbanhaaaGreatEvU
namespace Go.Ev
set_option linter.unusedVariables false
set_option linter.unusedSimpArgs false
def dv : Nat → Int → Int
  | 0, z => z
  | n + 1, z => dv n z / 18446744073709551616
def limb (z : Int) (n : Nat) : Int := dv n z % 18446744073709551616
theorem limb_range (z : Int) (n : Nat) : 0 ≤ limb z n ∧ limb z n < 18446744073709551616 := by unfold limb; omega
def fit (z : Int) : Prop := -6703903964971298549787012499102923063739682910296196688861780721860882015036773488400937149083451713845015929093243025426876941405973284973216824503042048 ≤ z ∧ z < 6703903964971298549787012499102923063739682910296196688861780721860882015036773488400937149083451713845015929093243025426876941405973284973216824503042048
def fitB (z : Int) : Bool := decide (-6703903964971298549787012499102923063739682910296196688861780721860882015036773488400937149083451713845015929093243025426876941405973284973216824503042048 ≤ z) && decide (z < 6703903964971298549787012499102923063739682910296196688861780721860882015036773488400937149083451713845015929093243025426876941405973284973216824503042048)
theorem fitB_iff {z : Int} : fitB z = true ↔ fit z := by simp [fitB, fit]
theorem fitB_false {z : Int} : fitB z = false ↔ ¬ fit z := by rw [← fitB_iff]; simp
def rng (a : Int) : Bool := decide (0 ≤ a) && decide (a < 18446744073709551616)
theorem rng_limb (z : Int) (n : Nat) : rng (limb z n) = true := by
  have := limb_range z n
  simp [rng, this]
def ok8 (a b c d e f g h : Int) : Bool := rng a && rng b && rng c && rng d && rng e && rng f && rng g && rng h
theorem ok8_limb (z : Int) : ok8 (limb z 0) (limb z 1) (limb z 2) (limb z 3) (limb z 4) (limb z 5) (limb z 6) (limb z 7) = true := by simp [ok8, rng_limb]
theorem ok8_spec {a b c d e f g h : Int} (k : ok8 a b c d e f g h = true) : (0 ≤ a ∧ a < 18446744073709551616) ∧ (0 ≤ b ∧ b < 18446744073709551616) ∧ (0 ≤ c ∧ c < 18446744073709551616) ∧ (0 ≤ d ∧ d < 18446744073709551616) ∧
    (0 ≤ e ∧ e < 18446744073709551616) ∧ (0 ≤ f ∧ f < 18446744073709551616) ∧ (0 ≤ g ∧ g < 18446744073709551616) ∧ (0 ≤ h ∧ h < 18446744073709551616) := by
  simpa [ok8, rng, and_assoc] using k
def unum (a b c d e f g h : Int) : Int := a + 18446744073709551616 * (b + 18446744073709551616 * (c + 18446744073709551616 * (d + 18446744073709551616 * (e + 18446744073709551616 * (f + 18446744073709551616 * (g + 18446744073709551616 * h))))))
def num (a b c d e f g h : Int) : Int := cond (decide (h < 9223372036854775808)) (unum a b c d e f g h) (unum a b c d e f g h - 13407807929942597099574024998205846127479365820592393377723561443721764030073546976801874298166903427690031858186486050853753882811946569946433649006084096)
theorem dvmod (n : Nat) (z : Int) : dv n z = limb z n + 18446744073709551616 * dv (n + 1) z := by
  show dv n z = dv n z % 18446744073709551616 + 18446744073709551616 * (dv n z / 18446744073709551616)
  omega
theorem unum_limb (z : Int) : z = unum (limb z 0) (limb z 1) (limb z 2) (limb z 3) (limb z 4) (limb z 5) (limb z 6) (limb z 7) + 13407807929942597099574024998205846127479365820592393377723561443721764030073546976801874298166903427690031858186486050853753882811946569946433649006084096 * dv 8 z := by
  have h0 := dvmod 0 z
  have h1 := dvmod 1 z
  have h2 := dvmod 2 z
  have h3 := dvmod 3 z
  have h4 := dvmod 4 z
  have h5 := dvmod 5 z
  have h6 := dvmod 6 z
  have h7 := dvmod 7 z
  simp only [Nat.zero_add, Nat.reduceAdd] at *
  unfold unum
  have : dv 0 z = z := rfl
  omega
theorem num_fit {a b c d e f g h : Int} (k : ok8 a b c d e f g h = true) : fit (num a b c d e f g h) := by
  have := ok8_spec k
  unfold num
  by_cases q : h < 9223372036854775808
  · rw [decide_eq_true q]; unfold fit unum; simp only [cond_true]; omega
  · rw [decide_eq_false q]; unfold fit unum; simp only [cond_false]; omega
theorem num_limb {z : Int} (h : fit z) : num (limb z 0) (limb z 1) (limb z 2) (limb z 3) (limb z 4) (limb z 5) (limb z 6) (limb z 7) = z := by
  have e := unum_limb z
  have r0 := limb_range z 0
  have r1 := limb_range z 1
  have r2 := limb_range z 2
  have r3 := limb_range z 3
  have r4 := limb_range z 4
  have r5 := limb_range z 5
  have r6 := limb_range z 6
  have r7 := limb_range z 7
  unfold fit at h
  unfold num
  by_cases q : limb z 7 < 9223372036854775808
  · rw [decide_eq_true q]; simp only [cond_true]
    unfold unum at *
    omega
  · rw [decide_eq_false q]; simp only [cond_false]
    unfold unum at *
    omega
theorem limb_unum {a b c d e f g h k : Int} (q : ok8 a b c d e f g h = true) (z : Int) (hz : z = unum a b c d e f g h + 13407807929942597099574024998205846127479365820592393377723561443721764030073546976801874298166903427690031858186486050853753882811946569946433649006084096 * k) :
    limb z 0 = a ∧ limb z 1 = b ∧ limb z 2 = c ∧ limb z 3 = d ∧ limb z 4 = e ∧ limb z 5 = f ∧ limb z 6 = g ∧ limb z 7 = h ∧ dv 8 z = k := by
  have := ok8_spec q
  unfold unum at hz
  have d0 : dv 0 z = z := rfl
  have l0 : limb z 0 = a := by unfold limb; rw [d0]; omega
  have d1 : dv 1 z = b + 18446744073709551616 * (c + 18446744073709551616 * (d + 18446744073709551616 * (e + 18446744073709551616 * (f + 18446744073709551616 * (g + 18446744073709551616 * (h + 18446744073709551616 * k)))))) := by
    show dv 0 z / 18446744073709551616 = _; rw [d0]; omega
  have l1 : limb z 1 = b := by unfold limb; rw [d1]; omega
  have d2 : dv 2 z = c + 18446744073709551616 * (d + 18446744073709551616 * (e + 18446744073709551616 * (f + 18446744073709551616 * (g + 18446744073709551616 * (h + 18446744073709551616 * k))))) := by
    show dv 1 z / 18446744073709551616 = _; rw [d1]; omega
  have l2 : limb z 2 = c := by unfold limb; rw [d2]; omega
  have d3 : dv 3 z = d + 18446744073709551616 * (e + 18446744073709551616 * (f + 18446744073709551616 * (g + 18446744073709551616 * (h + 18446744073709551616 * k)))) := by
    show dv 2 z / 18446744073709551616 = _; rw [d2]; omega
  have l3 : limb z 3 = d := by unfold limb; rw [d3]; omega
  have d4 : dv 4 z = e + 18446744073709551616 * (f + 18446744073709551616 * (g + 18446744073709551616 * (h + 18446744073709551616 * k))) := by
    show dv 3 z / 18446744073709551616 = _; rw [d3]; omega
  have l4 : limb z 4 = e := by unfold limb; rw [d4]; omega
  have d5 : dv 5 z = f + 18446744073709551616 * (g + 18446744073709551616 * (h + 18446744073709551616 * k)) := by
    show dv 4 z / 18446744073709551616 = _; rw [d4]; omega
  have l5 : limb z 5 = f := by unfold limb; rw [d5]; omega
  have d6 : dv 6 z = g + 18446744073709551616 * (h + 18446744073709551616 * k) := by
    show dv 5 z / 18446744073709551616 = _; rw [d5]; omega
  have l6 : limb z 6 = g := by unfold limb; rw [d6]; omega
  have d7 : dv 7 z = h + 18446744073709551616 * k := by
    show dv 6 z / 18446744073709551616 = _; rw [d6]; omega
  have l7 : limb z 7 = h := by unfold limb; rw [d7]; omega
  have d8 : dv 8 z = k := by show dv 7 z / 18446744073709551616 = _; rw [d7]; omega
  exact ⟨l0, l1, l2, l3, l4, l5, l6, l7, d8⟩
theorem limb_num {a b c d e f g h : Int} (q : ok8 a b c d e f g h = true) :
    limb (num a b c d e f g h) 0 = a ∧ limb (num a b c d e f g h) 1 = b ∧ limb (num a b c d e f g h) 2 = c ∧ limb (num a b c d e f g h) 3 = d ∧ limb (num a b c d e f g h) 4 = e ∧ limb (num a b c d e f g h) 5 = f ∧ limb (num a b c d e f g h) 6 = g ∧ limb (num a b c d e f g h) 7 = h := by
  unfold num
  by_cases r : h < 9223372036854775808
  · rw [decide_eq_true r]; simp only [cond_true]
    have := limb_unum (k := 0) q (unum a b c d e f g h) (by omega)
    exact ⟨this.1, this.2.1, this.2.2.1, this.2.2.2.1, this.2.2.2.2.1, this.2.2.2.2.2.1, this.2.2.2.2.2.2.1, this.2.2.2.2.2.2.2.1⟩
  · rw [decide_eq_false r]; simp only [cond_false]
    have := limb_unum (k := -1) q (unum a b c d e f g h - 13407807929942597099574024998205846127479365820592393377723561443721764030073546976801874298166903427690031858186486050853753882811946569946433649006084096) (by omega)
    exact ⟨this.1, this.2.1, this.2.2.1, this.2.2.2.1, this.2.2.2.2.1, this.2.2.2.2.2.1, this.2.2.2.2.2.2.1, this.2.2.2.2.2.2.2.1⟩
set_option linter.unusedVariables false
set_option linter.unusedSimpArgs false
def LL (l : List Int) : List AVal := l.map (.int .u64)
theorem geti_LL (l : List Int) (i : Nat) : geti (LL l) i = l.getD i 0 := by
  unfold geti LL
  rw [List.getElem?_map, List.getD_eq_getElem?_getD]
  cases l[i]? <;> rfl
theorem isK_LL (l : List Int) (i : Nat) : isK (.int .u64) ((LL l)[i]?) = decide (i < l.length) := by
  unfold LL
  rw [List.getElem?_map]
  by_cases h : i < l.length
  · rw [List.getElem?_eq_getElem h]; simp [isK, h]
  · rw [List.getElem?_eq_none (by omega)]; simp [isK, h]
theorem row1_LL (l : List Int) (i : Nat) : rowOk [.int .u64] (LL l) i = decide (i < l.length) := by
  simp only [rowOk, isK_LL, Bool.and_true]
theorem row8_LL {l : List Int} (h : l.length = 8) : rowOk [.int .u64, .int .u64, .int .u64, .int .u64, .int .u64, .int .u64, .int .u64, .int .u64] (LL l) 0 = true := by
  simp [rowOk, isK_LL, h]
theorem len_LL (l : List Int) : List.length (LL l) = l.length := by simp [LL]
theorem spl1_LL {l : List Int} {i : Nat} (h : i < l.length) (v : Int) : spliced (LL l) i [.int .u64 v] = LL (l.set i v) := by
  unfold spliced LL
  rw [List.map_set, List.set_eq_take_append_cons_drop]
  simp [h]
theorem mk_LL (a b c d e f g h : Int) : ([.int .u64 a, .int .u64 b, .int .u64 c, .int .u64 d, .int .u64 e, .int .u64 f, .int .u64 g, .int .u64 h] : List AVal) = LL [a, b, c, d, e, f, g, h] := rfl
theorem eta8 {l : List Int} (h : l.length = 8) : l = [l.getD 0 0, l.getD 1 0, l.getD 2 0, l.getD 3 0, l.getD 4 0, l.getD 5 0, l.getD 6 0, l.getD 7 0] := by
  match l, h with
  | [a, b, c, d, e, f, g, k], _ => rfl
def rL (l : List Int) : Prop := ∀ x ∈ l, 0 ≤ x ∧ x < 18446744073709551616
theorem rL.get {l : List Int} (h : rL l) (i : Nat) : 0 ≤ l.getD i 0 ∧ l.getD i 0 < 18446744073709551616 := by
  by_cases hi : i < l.length
  · rw [List.getD_eq_getElem?_getD, List.getElem?_eq_getElem hi]
    exact h _ (List.getElem_mem hi)
  · rw [List.getD_eq_getElem?_getD, List.getElem?_eq_none (by omega)]
    simp
theorem rL.set {l : List Int} (h : rL l) {v : Int} (hv : 0 ≤ v ∧ v < 18446744073709551616) (i : Nat) : rL (l.set i v) := by
  intro x hx
  rcases List.mem_or_eq_of_mem_set hx with h1 | h1
  · exact h x h1
  · rw [h1]; exact hv
def lv : List Int → Int
  | [] => 0
  | a :: r => a + 18446744073709551616 * lv r
theorem lv8 (a b c d e f g h : Int) : lv [a, b, c, d, e, f, g, h] = unum a b c d e f g h := by simp [lv, unum]
theorem lv_set : ∀ {l : List Int} {i : Nat} (v : Int), i < l.length → lv (l.set i v) = lv l + (v - l.getD i 0) * 18446744073709551616 ^ i
  | a :: r, 0, v, _ => by simp [lv]; omega
  | a :: r, i + 1, v, h => by
    have ih := lv_set (l := r) (i := i) v (by simpa using h)
    have e : (a :: r).set (i + 1) v = a :: r.set i v := rfl
    rw [e]
    simp only [lv, ih, List.getD_cons_succ, Int.pow_succ, Int.mul_add]
    generalize (18446744073709551616 : Int) ^ i = p
    have : (v - r.getD i 0) * (p * 18446744073709551616) = 18446744073709551616 * ((v - r.getD i 0) * p) := by
      rw [← Int.mul_assoc, Int.mul_comm]
    omega
theorem lv_range : ∀ {l : List Int}, rL l → 0 ≤ lv l ∧ lv l < 18446744073709551616 ^ l.length
  | [], _ => by simp [lv]
  | a :: r, h => by
    have h1 := h a (by simp)
    have h2 := lv_range (l := r) (fun x hx => h x (by simp [hx]))
    simp only [lv, List.length_cons, Int.pow_succ]
    omega
theorem iter_rule {V E : Type} {step : V → Option (V ⊕ E)} (I : V → Prop) (m : V → Nat) (Q : E → Prop)
    (hs : ∀ v, I v → (∃ v', step v = some (.inl v') ∧ I v' ∧ m v' < m v) ∨ (∃ e, step v = some (.inr e) ∧ Q e)) :
    ∀ (n : Nat) (v : V), m v < n → I v → ∃ e, iter step n v = some e ∧ Q e
  | 0, v, h, _ => by omega
  | n + 1, v, h, hI => by
    rcases hs v hI with ⟨v', h1, h2, h3⟩ | ⟨e, h1, h2⟩
    · obtain ⟨e, h4, h5⟩ := iter_rule I m Q hs n v' (by omega) h2
      exact ⟨e, iter_next h1 h4, h5⟩
    · exact ⟨e, iter_end n h1, h2⟩
theorem loop_rule {V E : Type} {step : V → Option (V ⊕ E)} (I : V → Prop) (m : V → Nat) (Q : E → Prop)
    (hs : ∀ v, I v → (∃ v', step v = some (.inl v') ∧ I v' ∧ m v' < m v) ∨ (∃ e, step v = some (.inr e) ∧ Q e)) {v : V} (hm : m v < 18446744073709551616) (hI : I v) : ∃ e, loopF step v = some e ∧ Q e :=
  iter_rule I m Q hs bigN v hm hI
def fitR (z : Int) : Int × Bool := cond (fitB z) (z, true) (0, false)
def sgn (z : Int) : Int := cond (decide (z < 0)) (-1) (cond (decide (z = 0)) 0 1)
def blen (n : Nat) : Int := cond (Nat.beq n 0) 0 ((Nat.log2 n + 1 : Nat) : Int)
def rng63 (x : Int) : Bool := decide (-9223372036854775808 ≤ x) && decide (x < 9223372036854775808)
def divR (a b : Int) : Int × Int × Bool := cond (decide (b = 0)) (0, 0, false) (cond (fitB (a.fdiv b)) (a.fdiv b, a.fmod b, true) (0, 0, false))
def shlR (z n : Int) : Int × Bool := cond (decide (n < 0)) (0, false) (cond (decide (z = 0)) (0, true) (cond (decide (n > 511)) (0, false) (fitR (z * ((2 ^ n.toNat : Nat) : Int)))))
def shrR (z n : Int) : Int := cond (decide (n < 0)) z (z / ((2 ^ (min n.toNat 511) : Nat) : Int))
def cOf (x : Int) : Option Int := need (rng63 x) (some x)
def cInt (a b c d e f g h : Int) : Option (Int × Bool) := need (ok8 a b c d e f g h) (some (cond (rng63 (num a b c d e f g h)) (num a b c d e f g h, true) (0, false)))
def cCmp (a b c d e f g h i j k l m n o p : Int) : Option Int := need (ok8 a b c d e f g h && ok8 i j k l m n o p) (some (sgn (num a b c d e f g h - num i j k l m n o p)))
def cAdd (a b c d e f g h i j k l m n o p : Int) : Option (Int × Bool) := need (ok8 a b c d e f g h && ok8 i j k l m n o p) (some (fitR (num a b c d e f g h + num i j k l m n o p)))
def cMul (a b c d e f g h i j k l m n o p : Int) : Option (Int × Bool) := need (ok8 a b c d e f g h && ok8 i j k l m n o p) (some (fitR (num a b c d e f g h * num i j k l m n o p)))
def cDiv (a b c d e f g h i j k l m n o p : Int) : Option (Int × Int × Bool) := need (ok8 a b c d e f g h && ok8 i j k l m n o p && (decide (num i j k l m n o p = 0) || fitB ((num a b c d e f g h).fdiv (num i j k l m n o p)))) (some (divR (num a b c d e f g h) (num i j k l m n o p)))
def cShl (a b c d e f g h n : Int) : Option (Int × Bool) := need (ok8 a b c d e f g h && rng63 n) (some (shlR (num a b c d e f g h) n))
def cShr (a b c d e f g h n : Int) : Option Int := need (ok8 a b c d e f g h && rng63 n) (some (shrR (num a b c d e f g h) n))
abbrev T8 := Int × Int × Int × Int × Int × Int × Int × Int
def t8 (z : Int) : T8 := (limb z 0, limb z 1, limb z 2, limb z 3, limb z 4, limb z 5, limb z 6, limb z 7)
def t9 (z : Int) (b : Bool) : Int × Int × Int × Int × Int × Int × Int × Int × Bool := (limb z 0, limb z 1, limb z 2, limb z 3, limb z 4, limb z 5, limb z 6, limb z 7, b)
theorem limb0 (n : Nat) : limb 0 n = 0 := by
  have h : dv n 0 = 0 := by
    induction n with
    | zero => rfl
    | succ n ih => show dv n 0 / _ = 0; rw [ih]; rfl
  unfold limb; rw [h]; rfl
end Go.Ev

