import Derived.Test.YtbmjabafceihgaaKae
import Derived.RangeFuncRecord
import Derived.LoopNIn
import Derived.OrdersIn
import Derived.RangeFuncLeaves
set_option linter.unusedVariables false
set_option linter.unusedSimpArgs false
set_option maxRecDepth 100000
noncomputable section
namespace Go.Ev
def dv : Nat → Int → Int
 | 0, z => z
 | n + 1, z => dv n z / 18446744073709551616
def aa (z : Int) (n : Nat) : Int := dv n z % 18446744073709551616
theorem co (z : Int) (n : Nat) : 0 ≤ aa z n ∧ aa z n < 18446744073709551616 := by unfold aa; omega
def fit (z : Int) : Prop := -6703903964971298549787012499102923063739682910296196688861780721860882015036773488400937149083451713845015929093243025426876941405973284973216824503042048 ≤ z ∧ z < 6703903964971298549787012499102923063739682910296196688861780721860882015036773488400937149083451713845015929093243025426876941405973284973216824503042048
def fE (z : Int) : Bool := decide (-6703903964971298549787012499102923063739682910296196688861780721860882015036773488400937149083451713845015929093243025426876941405973284973216824503042048 ≤ z) && decide (z < 6703903964971298549787012499102923063739682910296196688861780721860882015036773488400937149083451713845015929093243025426876941405973284973216824503042048)
theorem bV {z : Int} : fE z = true ↔ fit z := by simp [fE, fit]
theorem qU {z : Int} : fE z = false ↔ ¬ fit z := by rw [← bV]; simp
def rng (a : Int) : Bool := decide (0 ≤ a) && decide (a < 18446744073709551616)
theorem Qx (z : Int) (n : Nat) : rng (aa z n) = true := by
 have := co z n
 simp [rng, this]
def ok8 (a b c d e f g h : Int) : Bool := rng a && rng b && rng c && rng d && rng e && rng f && rng g && rng h
theorem bz (z : Int) : ok8 (aa z 0) (aa z 1) (aa z 2) (aa z 3) (aa z 4) (aa z 5) (aa z 6) (aa z 7) = true := by simp [ok8, Qx]
theorem LG {a b c d e f g h : Int} (k : ok8 a b c d e f g h = true) : (0 ≤ a ∧ a < 18446744073709551616) ∧ (0 ≤ b ∧ b < 18446744073709551616) ∧ (0 ≤ c ∧ c < 18446744073709551616) ∧ (0 ≤ d ∧ d < 18446744073709551616) ∧
  (0 ≤ e ∧ e < 18446744073709551616) ∧ (0 ≤ f ∧ f < 18446744073709551616) ∧ (0 ≤ g ∧ g < 18446744073709551616) ∧ (0 ≤ h ∧ h < 18446744073709551616) := by
 simpa [ok8, rng, and_assoc] using k
def oX (a b c d e f g h : Int) : Int := a + 18446744073709551616 * (b + 18446744073709551616 * (c + 18446744073709551616 * (d + 18446744073709551616 * (e + 18446744073709551616 * (f + 18446744073709551616 * (g + 18446744073709551616 * h))))))
def num (a b c d e f g h : Int) : Int := cond (decide (h < 9223372036854775808)) (oX a b c d e f g h) (oX a b c d e f g h - 13407807929942597099574024998205846127479365820592393377723561443721764030073546976801874298166903427690031858186486050853753882811946569946433649006084096)
theorem sI (n : Nat) (z : Int) : dv n z = aa z n + 18446744073709551616 * dv (n + 1) z := by
 show dv n z = dv n z % 18446744073709551616 + 18446744073709551616 * (dv n z / 18446744073709551616)
 omega
theorem C8 (z : Int) : z = oX (aa z 0) (aa z 1) (aa z 2) (aa z 3) (aa z 4) (aa z 5) (aa z 6) (aa z 7) + 13407807929942597099574024998205846127479365820592393377723561443721764030073546976801874298166903427690031858186486050853753882811946569946433649006084096 * dv 8 z := by
 have h0 := sI 0 z
 have h1 := sI 1 z
 have h2 := sI 2 z
 have h3 := sI 3 z
 have h4 := sI 4 z
 have h5 := sI 5 z
 have h6 := sI 6 z
 have h7 := sI 7 z
 simp only [Nat.zero_add, Nat.reduceAdd] at *
 unfold oX
 have : dv 0 z = z := rfl
 omega
theorem fF {a b c d e f g h : Int} (k : ok8 a b c d e f g h = true) : fit (num a b c d e f g h) := by
 have := LG k
 unfold num
 by_cases q : h < 9223372036854775808
 ·rw [decide_eq_true q]; unfold fit oX; simp only [cond_true]; omega
 ·rw [decide_eq_false q]; unfold fit oX; simp only [cond_false]; omega
theorem aG {z : Int} (h : fit z) : num (aa z 0) (aa z 1) (aa z 2) (aa z 3) (aa z 4) (aa z 5) (aa z 6) (aa z 7) = z := by
 have e := C8 z
 have r0 := co z 0
 have r1 := co z 1
 have r2 := co z 2
 have r3 := co z 3
 have r4 := co z 4
 have r5 := co z 5
 have r6 := co z 6
 have r7 := co z 7
 unfold fit at h
 unfold num
 by_cases q : aa z 7 < 9223372036854775808
 ·rw [decide_eq_true q]; simp only [cond_true]
  unfold oX at *
  omega
 ·rw [decide_eq_false q]; simp only [cond_false]
  unfold oX at *
  omega
theorem xr {a b c d e f g h k : Int} (q : ok8 a b c d e f g h = true) (z : Int) (hz : z = oX a b c d e f g h + 13407807929942597099574024998205846127479365820592393377723561443721764030073546976801874298166903427690031858186486050853753882811946569946433649006084096 * k) :
  aa z 0 = a ∧ aa z 1 = b ∧ aa z 2 = c ∧ aa z 3 = d ∧ aa z 4 = e ∧ aa z 5 = f ∧ aa z 6 = g ∧ aa z 7 = h ∧ dv 8 z = k := by
 have := LG q
 unfold oX at hz
 have d0 : dv 0 z = z := rfl
 have l0 : aa z 0 = a := by unfold aa; rw [d0]; omega
 have d1 : dv 1 z = b + 18446744073709551616 * (c + 18446744073709551616 * (d + 18446744073709551616 * (e + 18446744073709551616 * (f + 18446744073709551616 * (g + 18446744073709551616 * (h + 18446744073709551616 * k)))))) := by
  show dv 0 z / 18446744073709551616 = _; rw [d0]; omega
 have l1 : aa z 1 = b := by unfold aa; rw [d1]; omega
 have d2 : dv 2 z = c + 18446744073709551616 * (d + 18446744073709551616 * (e + 18446744073709551616 * (f + 18446744073709551616 * (g + 18446744073709551616 * (h + 18446744073709551616 * k))))) := by
  show dv 1 z / 18446744073709551616 = _; rw [d1]; omega
 have l2 : aa z 2 = c := by unfold aa; rw [d2]; omega
 have d3 : dv 3 z = d + 18446744073709551616 * (e + 18446744073709551616 * (f + 18446744073709551616 * (g + 18446744073709551616 * (h + 18446744073709551616 * k)))) := by
  show dv 2 z / 18446744073709551616 = _; rw [d2]; omega
 have l3 : aa z 3 = d := by unfold aa; rw [d3]; omega
 have d4 : dv 4 z = e + 18446744073709551616 * (f + 18446744073709551616 * (g + 18446744073709551616 * (h + 18446744073709551616 * k))) := by
  show dv 3 z / 18446744073709551616 = _; rw [d3]; omega
 have l4 : aa z 4 = e := by unfold aa; rw [d4]; omega
 have d5 : dv 5 z = f + 18446744073709551616 * (g + 18446744073709551616 * (h + 18446744073709551616 * k)) := by
  show dv 4 z / 18446744073709551616 = _; rw [d4]; omega
 have l5 : aa z 5 = f := by unfold aa; rw [d5]; omega
 have d6 : dv 6 z = g + 18446744073709551616 * (h + 18446744073709551616 * k) := by
  show dv 5 z / 18446744073709551616 = _; rw [d5]; omega
 have l6 : aa z 6 = g := by unfold aa; rw [d6]; omega
 have d7 : dv 7 z = h + 18446744073709551616 * k := by
  show dv 6 z / 18446744073709551616 = _; rw [d6]; omega
 have l7 : aa z 7 = h := by unfold aa; rw [d7]; omega
 have d8 : dv 8 z = k := by show dv 7 z / 18446744073709551616 = _; rw [d7]; omega
 exact ⟨l0, l1, l2, l3, l4, l5, l6, l7, d8⟩
theorem aQ {a b c d e f g h : Int} (q : ok8 a b c d e f g h = true) :
  aa (num a b c d e f g h) 0 = a ∧ aa (num a b c d e f g h) 1 = b ∧ aa (num a b c d e f g h) 2 = c ∧ aa (num a b c d e f g h) 3 = d ∧ aa (num a b c d e f g h) 4 = e ∧ aa (num a b c d e f g h) 5 = f ∧ aa (num a b c d e f g h) 6 = g ∧ aa (num a b c d e f g h) 7 = h := by
 unfold num
 by_cases r : h < 9223372036854775808
 ·rw [decide_eq_true r]; simp only [cond_true]
  have := xr (k := 0) q (oX a b c d e f g h) (by omega)
  exact ⟨this.1, this.2.1, this.2.2.1, this.2.2.2.1, this.2.2.2.2.1, this.2.2.2.2.2.1, this.2.2.2.2.2.2.1, this.2.2.2.2.2.2.2.1⟩
 ·rw [decide_eq_false r]; simp only [cond_false]
  have := xr (k := -1) q (oX a b c d e f g h - 13407807929942597099574024998205846127479365820592393377723561443721764030073546976801874298166903427690031858186486050853753882811946569946433649006084096) (by omega)
  exact ⟨this.1, this.2.1, this.2.2.1, this.2.2.2.1, this.2.2.2.2.1, this.2.2.2.2.2.1, this.2.2.2.2.2.2.1, this.2.2.2.2.2.2.2.1⟩
def LL (l : List Int) : LA_ := l.map (.int .u64)
theorem jR (l : List Int) (i : Nat) : ac (LL l) i = l.getD i 0 := by
 unfold ac LL
 rw [List.getElem?_map, List.getD_eq_getElem?_getD]
 cases l[i]? <;> rfl
theorem Pa (l : List Int) (i : Nat) : isK (.int .u64) ((LL l)[i]?) = decide (i < l.length) := by
 unfold LL
 rw [List.getElem?_map]
 by_cases h : i < l.length
 ·rw [List.getElem?_eq_getElem h]; simp [isK, h]
 ·rw [List.getElem?_eq_none (by omega)]; simp [isK, h]
theorem sn (l : List Int) (i : Nat) : aq [.int .u64] (LL l) i = decide (i < l.length) := by
 simp only [aq, Pa, Bool.and_true]
theorem zp {l : List Int} (h : l.length = 8) : aq fW (LL l) 0 = true := by
 simp [aq, Pa, h]
theorem wi (l : List Int) : List.length (LL l) = l.length := by simp [LL]
theorem vb {l : List Int} {i : Nat} (h : i < l.length) (v : Int) : spliced (LL l) i [.int .u64 v] = LL (l.set i v) := by
 unfold spliced LL
 rw [List.map_set, List.set_eq_take_append_cons_drop]
 simp [h]
theorem A2 (a b c d e f g h : Int) : ([.int .u64 a, .int .u64 b, .int .u64 c, .int .u64 d, .int .u64 e, .int .u64 f, .int .u64 g, .int .u64 h] : LA_) = LL [a, b, c, d, e, f, g, h] := rfl
theorem TN {l : List Int} (h : l.length = 8) : l = [l.getD 0 0, l.getD 1 0, l.getD 2 0, l.getD 3 0, l.getD 4 0, l.getD 5 0, l.getD 6 0, l.getD 7 0] := by
 match l, h with
 | [a, b, c, d, e, f, g, k], _ => rfl
def rL (l : List Int) : Prop := ∀ x ∈ l, 0 ≤ x ∧ x < 18446744073709551616
theorem rL.get {l : List Int} (h : rL l) (i : Nat) : 0 ≤ l.getD i 0 ∧ l.getD i 0 < 18446744073709551616 := by
 by_cases hi : i < l.length
 ·rw [List.getD_eq_getElem?_getD, List.getElem?_eq_getElem hi]
  exact h _ (List.getElem_mem hi)
 ·rw [List.getD_eq_getElem?_getD, List.getElem?_eq_none (by omega)]
  simp
theorem rL.set {l : List Int} (h : rL l) {v : Int} (hv : 0 ≤ v ∧ v < 18446744073709551616) (i : Nat) : rL (l.set i v) := by
 intro x hx
 rcases List.mem_or_eq_of_mem_set hx with h1 | h1
 ·exact h x h1
 ·rw [h1]; exact hv
def lv : List Int → Int
 | [] => 0
 | a :: r => a + 18446744073709551616 * lv r
theorem lv8 (a b c d e f g h : Int) : lv [a, b, c, d, e, f, g, h] = oX a b c d e f g h := by simp [lv, oX]
theorem LH : ∀ {l : List Int} {i : Nat} (v : Int), i < l.length → lv (l.set i v) = lv l + (v - l.getD i 0) * 18446744073709551616 ^ i
 | a :: r, 0, v, _ => by simp [lv]; omega
 | a :: r, i + 1, v, h => by
  have ih := LH (l := r) (i := i) v (by simpa using h)
  have e : (a :: r).set (i + 1) v = a :: r.set i v := rfl
  rw [e]
  simp only [lv, ih, List.getD_cons_succ, Int.pow_succ, Int.mul_add]
  generalize (18446744073709551616 : Int) ^ i = p
  have : (v - r.getD i 0) * (p * 18446744073709551616) = 18446744073709551616 * ((v - r.getD i 0) * p) := by
   rw [← Int.mul_assoc, Int.mul_comm]
  omega
theorem oY : ∀ {l : List Int}, rL l → 0 ≤ lv l ∧ lv l < 18446744073709551616 ^ l.length
 | [], _ => by simp [lv]
 | a :: r, h => by
  have h1 := h a (by simp)
  have h2 := oY (l := r) (fun x hx => h x (by simp [hx]))
  simp only [lv, List.length_cons, Int.pow_succ]
  omega
theorem Jw {V E : Type} {step : V → Option (V ⊕ E)} (I : V → Prop) (m : V → Nat) (Q : E → Prop)
  (hs : ∀ v, I v → (∃ v', step v = some (.inl v') ∧ I v' ∧ m v' < m v) ∨ (∃ e, step v = some (.inr e) ∧ Q e)) :
  ∀ (n : Nat) (v : V), m v < n → I v → ∃ e, iter step n v = some e ∧ Q e
 | 0, v, h, _ => by omega
 | n + 1, v, h, hI => by
  rcases hs v hI with ⟨v', h1, h2, h3⟩ | ⟨e, h1, h2⟩
  ·obtain ⟨e, h4, h5⟩ := Jw I m Q hs n v' (by omega) h2
   exact ⟨e, dm h1 h4, h5⟩
  ·exact ⟨e, fB n h1, h2⟩
theorem gL {V E : Type} {step : V → Option (V ⊕ E)} (I : V → Prop) (m : V → Nat) (Q : E → Prop)
  (hs : ∀ v, I v → (∃ v', step v = some (.inl v') ∧ I v' ∧ m v' < m v) ∨ (∃ e, step v = some (.inr e) ∧ Q e)) {v : V} (hm : m v < 18446744073709551616) (hI : I v) : ∃ e, dA step v = some e ∧ Q e :=
 Jw I m Q hs se v hm hI
def gf (z : Int) : Int × Bool := cond (fE z) (z, true) (0, false)
def sgn (z : Int) : Int := cond (decide (z < 0)) (-1) (cond (decide (z = 0)) 0 1)
def eS (n : Nat) : Int := cond (Nat.beq n 0) 0 ((Nat.log2 n + 1 : Nat) : Int)
def aZ (x : Int) : Bool := decide (-9223372036854775808 ≤ x) && decide (x < 9223372036854775808)
def NI (a b : Int) : Int × Int × Bool := cond (decide (b = 0)) (0, 0, false) (cond (fE (a.fdiv b)) (a.fdiv b, a.fmod b, true) (0, 0, false))
def cOf (x : Int) : Option Int := af (aZ x) (some x)
def pU (a b c d e f g h : Int) : Option Int := af (ok8 a b c d e f g h) (some (sgn (num a b c d e f g h)))
def E2 (a b c d e f g h i j k l m n o p : Int) : Option Int := af (ok8 a b c d e f g h && ok8 i j k l m n o p) (some (sgn (num a b c d e f g h - num i j k l m n o p)))
def LI (a b c d e f g h : Int) : Option (Int × Bool) := af (ok8 a b c d e f g h) (some (gf (0 - num a b c d e f g h)))
def vB (a b c d e f g h i j k l m n o p : Int) : Option (Int × Bool) := af (ok8 a b c d e f g h && ok8 i j k l m n o p) (some (gf (num a b c d e f g h + num i j k l m n o p)))
def BZ (a b c d e f g h i j k l m n o p : Int) : Option (Int × Bool) := af (ok8 a b c d e f g h && ok8 i j k l m n o p) (some (gf (num a b c d e f g h - num i j k l m n o p)))
def vA (a b c d e f g h i j k l m n o p : Int) : Option (Int × Bool) := af (ok8 a b c d e f g h && ok8 i j k l m n o p) (some (gf (num a b c d e f g h * num i j k l m n o p)))
def LJ (a b c d e f g h i j k l m n o p : Int) : Option (Int × Int × Bool) := af (ok8 a b c d e f g h && ok8 i j k l m n o p && (decide (num i j k l m n o p = 0) || fE ((num a b c d e f g h).fdiv (num i j k l m n o p)))) (some (NI (num a b c d e f g h) (num i j k l m n o p)))
abbrev T8 := Int × Int × Int × Int × Int × Int × Int × Int
def t8 (z : Int) : T8 := (aa z 0, aa z 1, aa z 2, aa z 3, aa z 4, aa z 5, aa z 6, aa z 7)
def t9 (z : Int) (b : Bool) : (I8 Bool) := (aa z 0, aa z 1, aa z 2, aa z 3, aa z 4, aa z 5, aa z 6, aa z 7, b)
theorem fc (n : Nat) : aa 0 n = 0 := by
 have h : dv n 0 = 0 := by
  induction n with
  | zero => rfl
  | succ n ih => show dv n 0 / _ = 0; rw [ih]; rfl
 unfold aa; rw [h]; rfl
abbrev Told := ab × Mem
def pw {X : Type} (eq : X → X → Bool) : List (Option X) → Option X
 | [] => none
 | [x] => x
 | some x :: r => match pw eq r with
  | some y => cond (eq x y) (some x) none
  | none => none
 | none :: _ => none
theorem EE {X : Type} {eq : X → X → Bool} (he : ∀ {x y}, eq x y = true → x = y) : ∀ {l : List (Option X)} {x : X}, pw eq l = some x → ∀ y ∈ l, y = some x
 | [], _, h, _, _ => by simp [pw] at h
 | [a], x, h, y, hy => by
  simp only [pw] at h
  simp only [List.mem_singleton] at hy
  rw [hy, h]
 | none :: _ :: _, _, h, _, _ => by simp [pw] at h
 | some a :: b :: r, x, h, y, hy => by
  simp only [pw] at h
  split at h
  ·rename_i z hz
   cases e : eq a z with
   | false => rw [e] at h; cases h
   | true =>
    rw [e] at h
    obtain rfl : a = x := by simpa using h
    obtain rfl := he e
    rcases List.mem_cons.1 hy with rfl | hy
    ·rfl
    ·exact EE he hz y hy
  ·cases h
def y9 : List Oper → Option (Operand × Oper × List Oper)
 | o :: l => match o.op, o.guard with
  | .next x false, none => some (x, o, l)
  | _, _ => none
 | [] => none
theorem OC {l : List Oper} {x : Operand} {o : Oper} {r : List Oper} (h : y9 l = some (x, o, r)) : l = o :: r ∧ o.op = .next x false ∧ o.guard = none := by
 cases l with
 | nil => cases h
 | cons a l =>
  simp only [y9] at h
  split at h
  ·rename_i h1 h2
   simp only [Option.some.injEq, Prod.mk.injEq] at h
   obtain ⟨rfl, rfl, rfl⟩ := h
   exact ⟨rfl, h1, h2⟩
  ·cases h
theorem bL {R : Type} {c : Bool} {x : Option R} {r : R} (h : cond c x none = some r) : c = true ∧ x = some r := by
 cases c with
 | true => exact ⟨rfl, h⟩
 | false => cases h
section
variable {P : Program} {T : av} {ch : CH} {k : Nat} {X : Type} {eq : X → X → Bool}
theorem Mm {ops : Array Oper} {l pre : List Oper} {K : an → St → Option X} {x : X} {s : St} (hT : aY P T) (hH : aE P ch) (he : ops.toList = pre ++ l)
  (h : runK T ch ops.toList l s .nil (fun s' w => cond (owB w) (K .normal s') none) (fun v s' w => cond (owB w) (K (.pan v) s') none) = some x)
  {w0 : W0} {ρ : Nat → Loc} {a : Act} {w : World} (hr : bJ w0 ρ s a w) (hk : k ≤ s.mem.next) :
  wpOps P ops (fun e a' w' => ∃ o s', K o s' = some x ∧ db w0 ρ k o s' e a' w') (List.range' pre.length l.length) a w := by
 rcases iP h with ⟨s', ow', h1, h2, h3⟩ | ⟨v, s', ow', h1, h2, h3⟩
 ·obtain ⟨q1, q2⟩ := bL h1
  exact xb hT hH.1 l pre ρ s a w _ he hr (h3 (fj q1)) fun ρ' a' w' h' e' l' => ⟨.normal, s', q2, ⟨ρ', rfl, h', fun i hi => e' i (by omega), by omega, by simp⟩⟩
 ·obtain ⟨q1, q2⟩ := bL h1
  exact xb hT hH.1 l pre ρ s a w _ he hr (h3 (fj q1)) fun ρ' a' w' h' e' l' hv => ⟨.pan v, s', q2, ⟨ρ', rfl, h', fun i hi => e' i (by omega), by omega, by simpa using hv⟩⟩
end
def upto : Nat → Nat → List Nat
 | 0, _ => []
 | n + 1, i => i :: upto n (i + 1)
section
variable {P : Program}
def SI (σ σ' : Mem) : Bool := Nat.ble σ.next σ'.next && (upto σ.next 0).all fun i => match σ.get i, σ'.get i with
 | some a, some b => eqB a b
 | none, none => true
 | _, _ => false
theorem FG : ∀ {n i j : Nat}, i ≤ j → j < i + n → j ∈ upto n i
 | 0, i, j, h1, h2 => by omega
 | n + 1, i, j, h1, h2 => by
  simp only [upto, List.mem_cons]
  by_cases e : j = i
  ·exact .inl e
  ·exact .inr (FG (by omega) (by omega))
end
end Go.Ev
namespace Go.Ev
structure MF where
 args : LA_
 mem : Mem
 told : Told
abbrev Un := FuncId → List MF
def QM (args : LA_) (σ : Mem) : List MF → Option Told
 | [] => none
 | x :: r => cond (nD x.args args && w9 x.mem σ) (some x.told) (QM args σ r)
def CH.fm (t : Un) (c : CH) : CH where
 call := fun g args σ k => cond (Nat.blt (c.pf g) 2) (c.call g args σ k) (match QM args σ (t g) with
  | some x => af (!c.ext g || SI σ x.2) (k (.ret x.1) x.2 .nil)
  | .none => c.call g args σ k)
 nat := fun g args σ k => by
  cases Nat.blt (c.pf g) 2 with
  | true => exact c.nat g args σ k
  | false =>
   simp only [cond_false]
   split
   ·rw [ai]; rfl
   ·exact c.nat g args σ k
 ext := c.ext
 pf := c.pf
def FW (r : Option Nat) : Fence := { Fence.wide with round := r }
section
variable {P : Program} {r : Option Nat} {n : Nat}
theorem PL {f : FuncId} {args : Array Value} {w : World} {R : Ending → World → Prop} (h : Calls P f args w R) : CallsIn (FW r) n P f args w R :=
 callsIn_wide (n := n).2 h
theorem PM {f : FuncId} {args : Array Value} {w : World} {R : Ending → World → Prop} (h : CallsIn (FW r) n P f args w R) : Calls P f args w R :=
 callsIn_wide (n := n).1 h
theorem Rx {row : String} {args : Array Value} {w : World} {R : Value → World → Prop} (h : Rows P row args w R) : RowsIn (FW r) n P row args w R := by
 intro c cs _
 obtain ⟨v, w', h1, h2⟩ := h c cs
 exact ⟨v, w', h1, (stepsIn_wide (P := P)).2 h2⟩
def mS : Op → Bool
 | .defer _ => true
 | _ => false
theorem Ry {o : Oper} {a : Act} {w : World} {K K' : Act → World → Prop} {Q : Exit → Act → World → Prop} (hd : mS o.op = false ∨ r = none) (hK : ∀ a w, K a w → K' a w) (h : o.wp P a w K Q) : o.wpIn (FW r) n P a w K' Q := by
 refine ⟨fun _ _ => trivial, ?_⟩
 have e : Oper.semAt (FW r).round a.eval o = execOp a.eval o := by
  rcases hd with hd | hd
  ·exact Oper.semAt_eq _ _ _ fun c hc => by rw [hc] at hd; cases hd
  ·subst hd; rfl
 rw [e]
 unfold Oper.wp at h
 generalize (execOp a.eval o).run P w = x at h
 cases x with
 | ok y w' =>
  cases y with
  | value v => exact hK _ _ h
  | skip => exact hK _ _ h
  | «defer» d => exact hK _ _ h
  | enter f args =>
   refine ⟨fun hh => (by cases hh), ?_⟩
   refine PL (Calls.mono h fun e w'' q => ?_)
   cases e with
   | returned v => exact hK _ _ q
   | panicked ch => exact q
   | outgrown => exact q
  | row rw args => exact ⟨fun hh => (by cases hh), Rx (Rows.mono h fun v w'' q => hK _ _ q)⟩
  | round l f tm x y => exact h.elim
  | recover => exact h.elim
  | spawn d => exact h.elim
  | _ => exact h.elim
 | halt x w' =>
  cases x <;> first | exact h | exact h.elim
theorem Dl {ops : Array Oper} {Q : Exit → Act → World → Prop} {i : Nat} {K K' : Act → World → Prop} {a : Act} {w : World} (hQ : ¬ LetsOut Q) (hd : (∀ o ∈ ops.toList, mS o.op = false) ∨ r = none) (hK : ∀ a w, K a w → K' a w)
  (h : wpOp P ops Q i K a w) : wpOpIn (FW r) n P ops Q i K' a w := by
 unfold wpOp at h
 unfold wpOpIn
 cases ho : ops[i]? with
 | none => rw [ho] at h; exact hK _ _ h
 | some o =>
  rw [ho] at h
  simp only at h ⊢
  split at h
  ·rename_i hw
   rw [if_pos hw]
   rcases h with h | h
   ·exact Ry (hd.imp (fun q => q o (by rw [Array.mem_toList_iff]; exact Array.mem_of_getElem? ho)) id) hK h
   ·exact absurd h.2 hQ
  ·rename_i hw
   rw [if_neg hw]
   exact ⟨fun _ _ => trivial, hK _ _ h⟩
theorem K1 {ops : Array Oper} {Q : Exit → Act → World → Prop} (hQ : ¬ LetsOut Q) (hd : (∀ o ∈ ops.toList, mS o.op = false) ∨ r = none) : ∀ (l : List Nat) {a : Act} {w : World}, wpOps P ops Q l a w → wpOpsIn (FW r) n P ops Q l a w
 | [], _, _, h => h
 | i :: l, a, w, h => by
  rw [wpOps_cons] at h
  rw [wpOpsIn_cons]
  exact Dl hQ hd (fun _ _ q => K1 hQ hd l q) h
theorem v6 {ops : Array Oper} {Q : Exit → Act → World → Prop} {md : Region.Mode} (hQ : ¬ LetsOut Q) (hd : (∀ o ∈ ops.toList, mS o.op = false) ∨ r = none) : ∀ (fuel : Nat) {listed : Array Bool} {a : Act} {w : World}, wpAny P md ops Q fuel listed a w → wpAnyIn (FW r) n P md ops Q fuel listed a w
 | 0, _, _, _, h => h
 | fuel + 1, _, _, _, h => ⟨h.1, fun i hi => Dl hQ hd (fun _ _ q => v6 hQ hd fuel q) (h.2 i hi)⟩
end
def dZ (G : W0 → (Nat → Loc) → Prop) (r : Option Nat) (P : Program) (n : Nat) (c : Code) (s : St) (Φ : an → St → Prop) : Prop :=
 n ≤ s.mem.next → ∀ w0 ρ a w, G w0 ρ → bJ w0 ρ s a w → c.wpIn (FW r) 0 P (fun e a' w' => ∃ o s', Φ o s' ∧ db w0 ρ n o s' e a' w') a w
def GOk (n : Nat) (G : W0 → (Nat → Loc) → Prop) : Prop := ∀ w0 ρ ρ', (∀ i, i < n → ρ' i = ρ i) → G w0 ρ → G w0 ρ'
section
variable {G : W0 → (Nat → Loc) → Prop} {r : Option Nat} {P : Program} {n : Nat} {s : St}
theorem mj {w0 : W0} {ρ : Nat → Loc} {Φ : an → St → Prop} : ¬ LetsOut (fun e a' w' => ∃ o s', Φ o s' ∧ db w0 ρ n o s' e a' w') := by
 rintro ⟨a, w, o, s', _, ⟨ρ', h, _⟩⟩
 cases o <;> cases h
theorem dZ.mono {c : Code} {Φ Ψ : an → St → Prop} (h : dZ G r P n c s Φ) (hm : ∀ o s', Φ o s' → Ψ o s') : dZ G r P n c s Ψ :=
 fun hn w0 ρ a w hg hr => wpIn_mono (h hn w0 ρ a w hg hr) fun _ _ _ ⟨o, s', h1, h2⟩ => ⟨o, s', hm o s' h1, h2⟩
theorem Jd {Φ : an → St → Prop} (h : Φ .normal s) : dZ G r P n .skip s Φ := fun hn _ ρ _ _ _ hr => wpIn_skip ⟨.normal, s, h, ⟨ρ, rfl, hr, fun _ _ => rfl, hn, by simp⟩⟩
theorem GO {l : Nat} {Φ : an → St → Prop} (h : Φ .normal s) : dZ G r P n (.label l) s Φ := fun hn _ ρ _ _ _ hr => wpIn_label ⟨.normal, s, h, ⟨ρ, rfl, hr, fun _ _ => rfl, hn, by simp⟩⟩
theorem Je {id : Nat} {Φ : an → St → Prop} (h : Φ (.exit id) s) : dZ G r P n (.exit id) s Φ := fun hn _ ρ _ _ _ hr => wpIn_exit ⟨.exit id, s, h, ⟨ρ, rfl, hr, fun _ _ => rfl, hn, by simp⟩⟩
theorem OI {id : Nat} {Φ : an → St → Prop} (h : Φ (.goto id) s) : dZ G r P n (.goto id) s Φ := fun hn _ ρ _ _ _ hr => wpIn_goto ⟨.goto id, s, h, ⟨ρ, rfl, hr, fun _ _ => rfl, hn, by simp⟩⟩
theorem KS {Φ : an → St → Prop} (h : Φ .ret s) : dZ G r P n .ret s Φ := fun hn _ ρ _ _ _ hr => wpIn_ret ⟨.ret, s, h, ⟨ρ, rfl, hr, fun _ _ => rfl, hn, by simp⟩⟩
theorem KT (hG : GOk n G) {x y : Code} {Φ : an → St → Prop} (h : dZ G r P n x s (an.andThen (fun s' => dZ G r P n y s' Φ) Φ)) : dZ G r P n (.seq x y) s Φ := by
 intro hn w0 ρ a w hg hr
 refine wpIn_seq (wpIn_mono (h hn w0 ρ a w hg hr) ?_)
 rintro e a' w' ⟨o, s', h1, ⟨ρ', rfl, h2, h3, h4, h5⟩⟩
 cases o with
 | normal => exact wpIn_mono (h1 h4 w0 ρ' a' w' (hG w0 ρ ρ' h3 hg) h2) fun _ _ _ ⟨o, s'', q1, q2⟩ => ⟨o, s'', q1, q2.step h3⟩
 | exit id => exact ⟨.exit id, s', h1, ⟨ρ', rfl, h2, h3, h4, h5⟩⟩
 | goto id => exact ⟨.goto id, s', h1, ⟨ρ', rfl, h2, h3, h4, h5⟩⟩
 | ret => exact ⟨.ret, s', h1, ⟨ρ', rfl, h2, h3, h4, h5⟩⟩
 | pan v => exact ⟨.pan v, s', h1, ⟨ρ', rfl, h2, h3, h4, h5⟩⟩
theorem xd {c : Operand} {x y : Code} {b : Bool} {Φ : an → St → Prop} (hc : ev s.tm c = some (.bool b)) (h : dZ G r P n (if b then x else y) s Φ) : dZ G r P n (.cond c x y) s Φ :=
 fun hn w0 ρ a w hg hr => wpIn_cond (t := b) (by have := (qI hr.tm hr.sct hc).1; simpa only [γ] using this) (h hn w0 ρ a w hg hr)
theorem GP {id : Nat} {c : Code} {Φ : an → St → Prop} (h : dZ G r P n c s (an.inBlock id Φ)) : dZ G r P n (.block id c) s Φ := by
 intro hn w0 ρ a w hg hr
 refine wpIn_block (wpIn_mono (h hn w0 ρ a w hg hr) ?_)
 rintro e a' w' ⟨o, s', h1, ⟨ρ', rfl, h2, h3, h4, h5⟩⟩
 cases o with
 | normal => exact ⟨.normal, s', h1, ⟨ρ', rfl, h2, h3, h4, h5⟩⟩
 | exit id' =>
  simp only [an.inBlock] at h1
  simp only [CK, Exit.inBlock]
  split
  ·rename_i hid
   rw [if_pos hid] at h1
   exact ⟨.normal, s', h1, ⟨ρ', rfl, h2, h3, h4, by simp⟩⟩
  ·rename_i hid
   rw [if_neg hid] at h1
   exact ⟨.exit id', s', h1, ⟨ρ', rfl, h2, h3, h4, by simp⟩⟩
 | goto id => exact ⟨.goto id, s', h1, ⟨ρ', rfl, h2, h3, h4, h5⟩⟩
 | ret => exact ⟨.ret, s', h1, ⟨ρ', rfl, h2, h3, h4, h5⟩⟩
 | pan v => exact ⟨.pan v, s', h1, ⟨ρ', rfl, h2, h3, h4, h5⟩⟩
theorem ml {c : Code} {Φ : an → St → Prop} (h : dq P n c s Φ) : dZ G none P n c s Φ :=
 fun hn w0 ρ a w _ hr => (wpIn_wide (n := 0)).2 (h hn w0 ρ a w hr)
theorem dZ.SK {c : Code} {Φ : an → St → Prop} (h : dZ (fun _ _ => True) none P n c s Φ) : dq P n c s Φ :=
 fun hn w0 ρ a w hr => (wpIn_wide (n := 0)).1 (h hn w0 ρ a w trivial hr)
theorem K2 {c : Code} {Q : Exit → Act → World → Prop} (I : Nat → Code → Act → World → Prop)
  (hI : ∀ m x a w, I m x a w → x.wp P (fun e a' w' => match e with | .goto l => ∃ rest m', m' < m ∧ findLabel c l = some rest ∧ I m' rest a' w' | e => Q e a' w') a w)
  {m : Nat} {a : Act} {w : World} (h : I m c a w) : (Code.scope c).wp P Q a w := by
 intro b k cs
 have key : ∀ m x a w, I m x a w → ∃ e a' w', Q e a' w' ∧ Arrives P (lone (b.at a (.code x :: .inScope c :: k)) cs w) b k cs e a' w' := by
  intro m
  induction m using Nat.strongRecOn with
  | _ m ih =>
   intro x a w hx
   obtain ⟨e, a₁, w₁, hq, harr⟩ := hI m x a w hx b (.inScope c :: k) cs
   cases e with
   | normal => exact ⟨.normal, a₁, w₁, hq, Steps.trans harr (.one step_inScope)⟩
   | exit id => exact ⟨.exit id, a₁, w₁, hq, fun k' hk => harr k' (by simp [exitTo, hk])⟩
   | goto l =>
    obtain ⟨rest, m', hlt, hf, hJ⟩ := hq
    obtain ⟨e₂, a₂, w₂, hq₂, harr₂⟩ := ih m' hlt rest a₁ w₁ hJ
    have hg : gotoIn l (.inScope c :: k) = some (.code rest :: .inScope c :: k) := by simp [gotoIn, hf]
    exact ⟨e₂, a₂, w₂, hq₂, .of_steps (harr _ hg) harr₂⟩
   | ret => exact ⟨_, a₁, w₁, hq, harr⟩
   | panic ch => exact ⟨_, a₁, w₁, hq, harr⟩
   | outgrown => exact ⟨_, a₁, w₁, hq, harr⟩
 obtain ⟨e, a', w', h1, h2⟩ := key m c a w h
 exact ⟨e, a', w', h1, .of_steps (.one step_scope) h2⟩
theorem LY {b : Code} {Φ : an → St → Prop} (hG : GOk n G) (I : Nat → Code → St → Prop)
  (hI : ∀ m x s, I m x s → dZ G none P n x s fun o s' => match o with | .goto l => ∃ rest m', m' < m ∧ findLabel b l = some rest ∧ I m' rest s' | o => Φ o s') {m : Nat} (h : I m b s) : dZ G none P n (.scope b) s Φ := by
 intro hn w0 ρ a w hg hr
 refine (wpIn_wide (n := 0)).2 (K2 (fun m x a w => ∃ s ρ', I m x s ∧ bJ w0 ρ' s a w ∧ (∀ i, i < n → ρ' i = ρ i) ∧ n ≤ s.mem.next) ?_ (m := m) ⟨s, ρ, h, hr, fun _ _ => rfl, hn⟩)
 rintro m x a w ⟨s, ρ1, h1, h2, h3, h4⟩
 refine wp_mono ((wpIn_wide (n := 0)).1 (hI m x s h1 h4 w0 ρ1 a w (hG w0 ρ ρ1 h3 hg) h2)) ?_
 rintro e a' w' ⟨o, s', k1, ⟨ρ2, rfl, k2, k3, k4, k5⟩⟩
 have e2 : ∀ i, i < n → ρ2 i = ρ i := fun i hi => (k3 i hi).trans (h3 i hi)
 cases o with
 | goto l =>
  obtain ⟨rest, m', q1, q2, q3⟩ := k1
  exact ⟨rest, m', q1, q2, s', ρ2, q3, k2, e2, k4⟩
 | normal => exact ⟨_, s', k1, ⟨ρ2, rfl, k2, e2, k4, k5⟩⟩
 | exit i => exact ⟨_, s', k1, ⟨ρ2, rfl, k2, e2, k4, k5⟩⟩
 | ret => exact ⟨_, s', k1, ⟨ρ2, rfl, k2, e2, k4, k5⟩⟩
 | pan v => exact ⟨_, s', k1, ⟨ρ2, rfl, k2, e2, k4, k5⟩⟩
theorem tY {F : Fence} {m : Nat} {b : Code} {Q Q' : Exit → Act → World → Prop} (hQ : ∀ e a w, Q e a w → Q' e a w) : ∀ (k : Nat) {a : Act} {w : World}, Code.roundsIn F m P b Q k a w → Code.roundsIn F m P b Q' k a w
 | 0, _, _, h => h
 | k + 1, a, w, h => by
  rw [roundsIn_succ] at h ⊢
  refine wpIn_mono h fun e a' w' q => ?_
  cases e with
  | normal => exact tY hQ k q
  | _ => exact hQ _ _ _ q
theorem AP {id : Nat} {ops : Array Oper} {Φ : an → St → Prop} (hd : (∀ o ∈ ops.toList, mS o.op = false) ∨ r = none)
  (h : n ≤ s.mem.next → ∀ w0 ρ a w, bJ w0 ρ s a w → wpOps P ops (fun e a' w' => ∃ o s', Φ o s' ∧ db w0 ρ n o s' e a' w') (List.range ops.size) a w) : dZ G r P n (.region id ops false) s Φ :=
 fun hn w0 ρ a w _ hr => wpIn_region (K1 mj hd _ (h hn w0 ρ a w hr))
end
section
variable {w0 : W0} {ρ : Nat → Loc} {σ : Mem} {w : World}
theorem Rel.start (h : Rel w0 ρ σ w) {w1 : W0} (ho : w1.w.os = w0.w.os) (ht : w1.w.tape = w0.w.tape) (hp : w1.w.output = w0.w.output) (hs : w1.w.heap.size ≤ w.heap.size)
  (hprot : ∀ i b, σ.get i = some b → b.owned = true → ¬ w1.FC (ρ i).blk) (hold : ∀ k, w1.FC k → w.heap[k]? = w1.w.heap[k]?) : Rel w1 ρ σ w :=
 ⟨h.lt, h.sco, h.ok, h.inb, h.ap, hprot, h.os.trans ho.symm, h.tape.trans ht.symm, h.output.trans hp.symm, hs, hold⟩
theorem Rel.IE (h : Rel w0 ρ σ w) {j k i : Nat} (hj : σ.get j = some (.ci k i)) (b' : ar) (o : Obj) (hsc : scB σ.next b' = true) (hb : ∀ w' : World, w'.heap[(ρ j).blk]? = some o → BOk ρ (ρ j) w' b') :
  Rel w0 ρ (σ.set j b') (w.putObj (ρ j).blk o) := by
 have hown := h.own j _ hj rfl
 have hin := h.inb j _ hj rfl
 refine ⟨fun x b hx => ?_, fun x b hx => ?_, fun x b hx => ?_, fun x b hx ha => ?_, fun x y bx by' hx hy hne ho ha => ?_, fun x b hx ho => ?_, h.os, h.tape, h.output, by rw [World.putObj_size]; exact h.size, fun p hp => ?_⟩
 ·rw [aF] at hx
  split at hx
  ·rename_i e; subst e; exact h.lt j _ hj
  ·exact h.lt x b hx
 ·rw [aF] at hx
  split at hx
  ·cases hx; exact hsc
  ·exact h.sco x b hx
 ·rw [aF] at hx
  split at hx
  ·rename_i e
   subst e
   cases hx
   exact hb _ (World.putObj_heap_same hin)
  ·rename_i hij
   by_cases ha : b.alive = true
   ·exact dl (fun _ _ => rfl) (World.putObj_heap_other (h.ap j x _ b hj hx hij rfl ha).symm) b (h.sco x b hx) (h.ok x b hx)
   ·exact ma ha (h.ok x b hx)
 ·rw [World.putObj_size]
  rw [aF] at hx
  split at hx
  ·rename_i e; subst e; exact hin
  ·exact h.inb x b hx ha
 ·rw [aF] at hx hy
  split at hx
  ·rename_i e
   subst e
   rw [if_neg hne] at hy
   exact h.ap _ _ _ _ hj hy hne rfl ha
  ·rename_i e
   split at hy
   ·rename_i e2; subst e2; exact h.ap _ _ _ _ hx hj hne ho rfl
   ·exact h.ap _ _ _ _ hx hy hne ho ha
 ·rw [aF] at hx
  split at hx
  ·rename_i e; subst e; exact hown
  ·exact h.own x b hx ho
 ·rw [World.putObj_heap_other (by rintro rfl; exact hown hp)]
  exact h.old p hp
end
structure qL where
 nm : Nat
 ps : Array Tmp
 assign : Code
 body : Code
 tm : LA_
def kD : List Tmp → LA_ → LA_ → LA_
 | t :: ps, v :: vs, tm => kD ps vs (tm.set t v)
 | _, _, tm => tm
theorem K3 {ρ : Nat → Loc} : ∀ (ps : List Tmp) (vs tm : LA_), ((ps.zip (γL ρ vs)).foldl (fun t (x : Tmp × Value) => t.setIfInBounds x.1 x.2) (γL ρ tm).toArray) = (γL ρ (kD ps vs tm)).toArray
 | [], vs, tm => by simp [kD]
 | t :: ps, [], tm => by simp [kD, γL]
 | t :: ps, v :: vs, tm => by
  simp only [γL, List.zip_cons_cons, List.foldl_cons, kD, List.setIfInBounds_toArray, ← yZ]
  exact K3 ps vs (tm.set t v)
theorem K4 {n : Nat} : ∀ (ps : List Tmp) (vs tm : LA_), scL n vs = true → scL n tm = true → scL n (kD ps vs tm) = true
 | [], _, _, _, h => h
 | _ :: _, [], _, _, h => h
 | t :: ps, v :: vs, tm, hv, h => by
  simp only [scL, Bool.and_eq_true] at hv
  exact K4 ps vs (tm.set t v) hv.2 (y7 h hv.1)
def iQ (Y : qL) (ρ : Nat → Loc) (fn : FuncId) (D : Nat) : Loop :=
 { state := .ready, pending := none, fn, tmps := (γL ρ Y.tm).toArray, params := Y.ps, assign := Y.assign, body := Y.body, defers := D }
def yG (Y : qL) : W0 → (Nat → Loc) → Prop := fun _ ρ =>
 ∃ fn D, (ρ Y.nm).val = .func (.yield (ρ Y.nm).blk) #[] #[] ∧ (ρ Y.nm).lp = iQ Y ρ fn D
theorem J6 {Y : qL} {n : Nat} (hn : Y.nm < n) (ht : scL n Y.tm = true) : GOk n (yG Y) := by
 rintro w0 ρ ρ' he ⟨fn, D, h1, h2⟩
 refine ⟨fn, D, by rw [he _ hn]; exact h1, ?_⟩
 rw [he _ hn, h2]
 simp only [iQ, dk he _ ht]
def xc : an → Option (Nat × Nat)
 | .normal => some (0, 0)
 | .ret => some (1, 0)
 | .exit i => some (2, i)
 | .goto i => some (3, i)
 | .pan _ => none
theorem Jc {P : Program} {Y : qL} {n : Nat} {vs : LA_} {σ : Mem} {Ψ : Bool → Mem → Prop} (hlen : vs.length = Y.ps.size) (hn : n ≤ σ.next) (hnm : Y.nm < n) (hsv : scL σ.next vs = true) (hst : scL n Y.tm = true)
  (h : ∀ l, dZ (fun _ _ => True) (some l) P σ.next Y.assign ⟨kD Y.ps.toList vs Y.tm, [], σ⟩ fun o s1 => o = .normal ∧ s1.mem.get Y.nm = some (.ci 0 0) ∧
   dZ (fun _ _ => True) (some l) P σ.next Y.body ⟨s1.tm, s1.df, s1.mem.set Y.nm (.ci 4 0)⟩ fun o s2 => s2.mem.get Y.nm = some (.ci 4 0) ∧ ∃ k i, xc o = some (k, i) ∧ Ψ (Nat.beq k 0) (s2.mem.set Y.nm (.ci k i)))
  (hget : σ.get Y.nm = some (.ci 0 0)) {w0 : W0} {ρ : Nat → Loc} {w : World} (hr : Rel w0 ρ σ w) {fn : FuncId} {D : Nat} (hp : (ρ Y.nm).lp = iQ Y ρ fn D) :
  (Instr.yield (ρ Y.nm).blk (γL ρ vs).toArray).run P w = .ok (.round (ρ Y.nm).blk fn (γL ρ (kD Y.ps.toList vs Y.tm)).toArray Y.assign Y.body) w ∧
  RoundIn (FW none) 0 P (ρ Y.nm).blk fn (γL ρ (kD Y.ps.toList vs Y.tm)).toArray Y.assign Y.body w fun e w' => ∃ b, e = .returned (.bool b) ∧ ∃ ρ' σ', Ψ b σ' ∧ bN w0 ρ σ.next ρ' σ' w' := by
 obtain ⟨l, hl⟩ : ∃ l, (ρ Y.nm).blk = l := ⟨_, rfl⟩
 have hlw : w.heap[l]? = some (.loop (iQ Y ρ fn D)) := by
  have := hr.ok _ _ hget
  rw [BOk, hp, hl] at this
  exact this
 rw [hl]
 refine ⟨?_, ?_⟩
 ·rw [run_yield hlw (by simp [iQ, aT, hlen])]
  simp only [iQ]
  congr 2
  rw [← K3 Y.ps.toList vs Y.tm, ← Array.foldl_toList, Array.toList_zip]
 refine roundIn_of_wpIn (F := FW none) trivial ?_
 have hsr : bJ w0 ρ ⟨kD Y.ps.toList vs Y.tm, [], σ⟩ { tmps := (γL ρ (kD Y.ps.toList vs Y.tm)).toArray, defers := [] } w := ⟨hr, rfl, K4 _ _ _ hsv (cz hn _ hst), rfl, by simp⟩
 refine wpIn_mono (h l (Nat.le_refl _) w0 ρ _ w trivial hsr) ?_
 rintro e a' w1 ⟨o, s1, ⟨rfl, hg1, hB⟩, ⟨ρ1, rfl, k1, k2, k3, k4⟩⟩
 have e1 : ρ1 Y.nm = ρ Y.nm := k2 _ (by omega)
 have hl1 : w1.heap[l]? = some (.loop (iQ Y ρ fn D)) := by
  have := k1.rel.ok _ _ hg1
  rw [BOk, e1, hp, hl] at this
  exact this
 refine ⟨_, run_beginRound hl1 rfl, ?_⟩
 have R1 : Rel w0 ρ1 (s1.mem.set Y.nm (.ci 4 0)) (w1.putObj l (.loop { iQ Y ρ fn D with state := .busy })) := by
  have := k1.rel.IE hg1 (.ci 4 0) (.loop { iQ Y ρ fn D with state := .busy }) rfl fun w' hw' => by
   rw [BOk, hw', e1, hp]
   rfl
  rw [e1, hl] at this
  exact this
 refine wpIn_mono (hB k3 w0 ρ1 a' _ trivial ⟨R1, k1.tm, k1.sct, k1.df, k1.scd⟩) ?_
 rintro e a2 w2 ⟨o, s2, ⟨hg2, k, i, hji, hΨ⟩, ⟨ρ2, rfl, j1, j2, j3, j4⟩⟩
 have e2 : ρ2 Y.nm = ρ Y.nm := (j2 _ (by omega)).trans e1
 have hl2 : w2.heap[l]? = some (.loop { iQ Y ρ fn D with state := .busy }) := by
  have := j1.rel.ok _ _ hg2
  rw [BOk, e2, hp, hl] at this
  exact this
 have fin : ∀ (jump : Option Code) (k i : Nat), jump.isNone = Nat.beq k 0 → (jM (iQ Y ρ fn D) k i) = { iQ Y ρ fn D with state := if jump.isNone then .ready else .done, pending := jump } → Ψ (Nat.beq k 0) (s2.mem.set Y.nm (.ci k i)) →
   ∃ v w', (Instr.endRound l jump).run P w2 = .ok v w' ∧ ∃ b, Ending.returned v = .returned (.bool b) ∧ ∃ ρ' σ', Ψ b σ' ∧ bN w0 ρ σ.next ρ' σ' w' := by
  intro jump k i h1 h2 h3
  refine ⟨_, _, run_endRound jump hl2, _, rfl, ρ2, s2.mem.set Y.nm (.ci k i), by rw [h1]; exact h3, ⟨?_, fun i hi => (j2 i hi).trans (k2 i hi), j3⟩⟩
  have := j1.rel.IE hg2 (.ci k i) (.loop { iQ Y ρ fn D with state := if jump.isNone then .ready else .done, pending := jump }) rfl fun w' hw' => by
   rw [BOk, hw', e2, hp, h2]
  rw [e2, hl] at this
  exact this
 cases o with
 | normal =>
  simp only [xc, Option.some.injEq, Prod.mk.injEq] at hji
  obtain ⟨rfl, rfl⟩ := hji
  exact fin none 0 0 rfl rfl hΨ
 | ret =>
  simp only [xc, Option.some.injEq, Prod.mk.injEq] at hji
  obtain ⟨rfl, rfl⟩ := hji
  exact fin (some .ret) 1 0 rfl rfl hΨ
 | exit x =>
  simp only [xc, Option.some.injEq, Prod.mk.injEq] at hji
  obtain ⟨rfl, rfl⟩ := hji
  exact fin (some (.exit x)) 2 x rfl rfl hΨ
 | goto x =>
  simp only [xc, Option.some.injEq, Prod.mk.injEq] at hji
  obtain ⟨rfl, rfl⟩ := hji
  exact fin (some (.goto x)) 3 x rfl rfl hΨ
 | pan v => cases hji
theorem alloc_eq (w : World) (o : Obj) : w.alloc o = { w with heap := w.heap.push o } := rfl
def v5 : Nat → Nat → Option an
 | 0, _ => some .normal
 | 1, _ => some .ret
 | 2, i => some (.exit i)
 | 3, i => some (.goto i)
 | _, _ => none
theorem y8 {P : Program} {T : av} (hT : aY P T) {G : W0 → (Nat → Loc) → Prop} {n : Nat} {s : St} {g : Operand} {ps : Array Tmp} {assign body : Code} {f : FuncId} {cs : LA_} {fn : Func} {c : Code} {Φ : an → St → Prop}
  (hg : ev s.tm g = some (.func f [] cs)) (hf : P.funcs[f]? = some fn) (hb : fn.body = some c) (hfn : nE P f)
  (h : scL s.mem.next s.tm = true → dZ (yG ⟨s.mem.next + 1, ps, assign, body, s.tm⟩) none P (s.mem.next + 2) c (bC fn.ntmps (.dD (s.mem.next + 1) :: cs) ((s.mem.push .jJ).push (.ci 0 0))) fun o s' =>
   (o = .normal ∨ o = .ret) ∧ s'.df = [] ∧ (∃ v, gF T s' fn.results.toList = some v) ∧ ∃ k i o2, s'.mem.get (s.mem.next + 1) = some (.ci k i) ∧ v5 k i = some o2 ∧
    Φ o2 ⟨s.tm, ⟨w8, [.dD s.mem.next], []⟩ :: s.df, s'.mem.set (s.mem.next + 1) .dead⟩) : dZ G none P n (.rangeFunc g ps assign body) s Φ := by
 intro hn w0 ρ a w hG hr
 obtain ⟨e1, e2⟩ := qI hr.tm hr.sct hg
 simp only [sc, scL, Bool.true_and] at e2
 have hev : a.eval g = .func (.func f) #[] (γL ρ cs).toArray := by rw [e1]; simp [γ, γL]
 refine wpIn_rangeFunc (F := FW none) ?_
 intro fid _
 obtain ⟨D, hD⟩ : ∃ D, D = w.heap.size := ⟨_, rfl⟩
 obtain ⟨rec, hrec⟩ : ∃ rec : Loop, rec = { state := .ready, pending := none, fn := fid, tmps := a.tmps, params := ps, assign, body, defers := D } := ⟨_, rfl⟩
 obtain ⟨W1, hW1⟩ : ∃ W1, (w.alloc (.deferred (some []))).alloc (.loop rec) = W1 := ⟨_, rfl⟩
 let LD : Loc := { blk := D, base := 0, eQ := 0, val := .int .i64 D }
 let LL : Loc := { blk := D + 1, base := 0, eQ := 0, val := .func (.yield (D + 1)) #[] #[], lp := rec }
 have hD1 : (w.alloc (.deferred (some []))).heap[D]? = some (.deferred (some [])) := by rw [hD]; exact World.alloc_heap_new w _
 have R1 : Rel w0 (upd ρ s.mem.next LD) (s.mem.push .jJ) (w.alloc (.deferred (some []))) := hr.rel.push (L := LD) hD rfl fun _ _ => ⟨by rw [← alloc_eq]; exact hD1, rfl⟩
 have hs1 : (w.alloc (.deferred (some []))).heap.size = D + 1 := by rw [World.size_alloc, hD]
 have hl1 : W1.heap[D + 1]? = some (.loop rec) := by rw [← hW1, ← hs1]; exact World.alloc_heap_new _ _
 have R2 : Rel w0 (upd (upd ρ s.mem.next LD) (s.mem.next + 1) LL) ((s.mem.push .jJ).push (.ci 0 0)) W1 := by
  rw [← hW1]
  exact R1.push (L := LL) hs1.symm rfl fun _ _ => by
   show _ = some (Obj.loop rec)
   rw [← alloc_eq, hW1]
   exact hl1
 generalize hρ : upd (upd ρ s.mem.next LD) (s.mem.next + 1) LL = ρ2 at R2
 have r0 : ∀ i, i < s.mem.next → ρ2 i = ρ i := fun i hi => by rw [← hρ, eu (by omega), eu hi]
 have r1 : ρ2 s.mem.next = LD := by rw [← hρ, eu (by omega), bB]
 have r2 : ρ2 (s.mem.next + 1) = LL := by rw [← hρ, bB]
 have htm : (γL ρ2 s.tm).toArray = a.tmps := by rw [hr.tm, dk r0 _ hr.sct]
 have hyG : yG ⟨s.mem.next + 1, ps, assign, body, s.tm⟩ w0 ρ2 := ⟨fid, D, by rw [r2], by
  show (ρ2 (s.mem.next + 1)).lp = _
  rw [r2]
  show rec = _
  rw [hrec]
  simp only [iQ, htm]⟩
 have hsa : scL ((s.mem.push .jJ).push (.ci 0 0)).next (.dD (s.mem.next + 1) :: cs) = true := by
  simp only [scL, sc, Bool.and_eq_true, decide_eq_true_eq]
  exact ⟨by simp, cz (by simp; omega) _ e2⟩
 have hsr := xf R2 hsa fn.ntmps
 have hargs : (γL ρ2 (.dD (s.mem.next + 1) :: cs)).toArray = #[.func (.yield (D + 1)) #[] #[]] ++ (γL ρ cs).toArray := by
  simp only [γL, γ, r2, dk r0 _ e2]
  simp [LL]
 refine ⟨D + 1, [{ target := .collected D, args := #[] }], W1, { target := .fn (.func f) (γL ρ cs).toArray, args := #[.func (.yield (D + 1)) #[] #[]] }, W1, f, #[.func (.yield (D + 1)) #[] #[]] ++ (γL ρ cs).toArray, W1, ?_, ?_, fun _ _ => trivial, ?_, fun hh => (by cases hh), ?_⟩
 ·rw [← hW1, hrec, hD]; exact run_enterLoop_outer _ _ _ _ _
 ·simp only [resolve, hev]
  simp [go_sem]
 ·simp [invoke, go_sem, jN hfn]
 refine callsIn_of_wp (F := FW none) hf hb trivial ?_
 rw [← hargs]
 refine wpIn_mono (h hr.sct (Nat.le_refl _) w0 ρ2 _ W1 hyG hsr) ?_
 rintro e a' w3 ⟨o, s', ⟨ho, hdf, ⟨v, hv⟩, k, i, o2, hget, hlv, hΦ⟩, ⟨ρ3, rfl, k1, k2, k3, k4⟩⟩
 have e3 : ρ3 (s.mem.next + 1) = LL := (k2 _ (by omega)).trans r2
 have hl3 : w3.heap[D + 1]? = some (.loop (jM rec k i)) := by
  have := k1.rel.ok _ _ hget
  rw [BOk, e3] at this
  exact this
 have hpend : (rec.pending = none) := by rw [hrec]
 have hstate : (jM rec k i).state ≠ .busy ∧ (match (jM rec k i).pending with | none => o2 = .normal | some c => (c = .ret ∧ o2 = .ret) ∨ (∃ x, c = .exit x ∧ o2 = .exit x) ∨ ∃ x, c = .goto x ∧ o2 = .goto x) := by
  match k, hlv with
  | 0, hlv => simp only [v5, Option.some.injEq] at hlv; subst hlv; subst hrec; exact ⟨by simp [jM], rfl⟩
  | 1, hlv => simp only [v5, Option.some.injEq] at hlv; subst hlv; exact ⟨by simp [jM], .inl ⟨rfl, rfl⟩⟩
  | 2, hlv => simp only [v5, Option.some.injEq] at hlv; subst hlv; exact ⟨by simp [jM], .inr (.inl ⟨i, rfl, rfl⟩)⟩
  | 3, hlv => simp only [v5, Option.some.injEq] at hlv; subst hlv; exact ⟨by simp [jM], .inr (.inr ⟨i, rfl, rfl⟩)⟩
  | k + 4, hlv => cases hlv
 obtain ⟨W4, hW4⟩ : ∃ W4, w3.putObj (D + 1) (.loop { jM rec k i with state := .exhausted }) = W4 := ⟨_, rfl⟩
 have R4 : Rel w0 ρ3 (s'.mem.set (s.mem.next + 1) .dead) W4 := by
  have := k1.rel.IE hget .dead (.loop { jM rec k i with state := .exhausted }) rfl fun _ _ => trivial
  rw [e3, hW4] at this
  exact this
 have q0 : ∀ i, i < s.mem.next → ρ3 i = ρ i := fun i hi => (k2 i (by omega)).trans (r0 i hi)
 have hle : s.mem.next ≤ s'.mem.next := by omega
 have aft : ∀ {e}, e = CK ρ3 o2 → (∀ v, o2 ≠ .pan v) → ∃ o s', Φ o s' ∧ db w0 ρ n o s' e { a with defers := [{ target := .collected D, args := #[] }] ++ a.defers } W4 := by
  rintro e rfl hnp
  refine ⟨o2, _, hΦ, ⟨ρ3, rfl, ⟨R4, ?_, cz hle _ hr.sct, ?_, ?_⟩, fun i hi => q0 i (by omega), by show n ≤ s'.mem.next; omega, fun v hv => absurd hv (hnp v)⟩⟩
  ·show a.tmps = _
   rw [hr.tm, dk q0 _ hr.sct]
  ·show [{ target := .collected D, args := #[] }] ++ a.defers = _
   have e3 : γD ρ3 ⟨w8, [.dD s.mem.next], []⟩ = { target := .collected D, args := #[] } := by
    simp only [γD, dOf, if_true, γL, γ, k2 s.mem.next (by omega), r1]
    simp [LD]
   rw [List.map_cons, e3, hr.df]
   simp only [List.singleton_append, List.cons.injEq, true_and]
   exact List.map_congr_left fun d hd => by simp only [γD, dk q0 _ (hr.scd d hd).1, dk q0 _ (hr.scd d hd).2]
  ·intro d hd
   rcases List.mem_cons.1 hd with rfl | hd
   ·exact ⟨by simp only [scL, sc, Bool.and_true, decide_eq_true_eq]; show s.mem.next < s'.mem.next; omega, rfl⟩
   ·exact ⟨cz hle _ (hr.scd d hd).1, cz hle _ (hr.scd d hd).2⟩
 have fin : a'.defers = [] ∧ ∃ v, (results fn a'.tmps).run P w3 = .ok v w3 ∧ rangePost (FW none) 0 P (D + 1) (fun e a' w' => ∃ o s', Φ o s' ∧ db w0 ρ n o s' e a' w') { a with defers := [{ target := .collected D, args := #[] }] ++ a.defers } (.returned v) w3 := by
  refine ⟨by rw [k1.df, hdf]; rfl, _, (sb hT k1 hv).1, (jM rec k i).pending, W4, by rw [run_endLoop (P := P) hl3 hstate.1, hW4], ?_⟩
  have hs2 := hstate.2
  cases hpe : (jM rec k i).pending with
  | none =>
   rw [hpe] at hs2
   simp only at hs2
   subst hs2
   exact aft rfl (by simp)
  | some c =>
   rw [hpe] at hs2
   simp only at hs2 ⊢
   rcases hs2 with ⟨rfl, rfl⟩ | ⟨x, rfl, rfl⟩ | ⟨x, rfl, rfl⟩
   ·exact wpIn_ret (aft rfl (by simp))
   ·exact wpIn_exit (aft rfl (by simp))
   ·exact wpIn_goto (aft rfl (by simp))
 rcases ho with rfl | rfl
 ·exact fin
 ·exact fin
def iu : List l9 → Mem → Option Mem
 | [], σ => some σ
 | d :: r, σ => match d.cap with
  | [.dD j] => if d.f = w8 then (match σ.get j with
   | some .jJ => iu r (σ.set j .dead)
   | _ => none) else none
  | _ => none
def KV (T : av) (rs : List ResultVar) : an → St → Option (fR × Mem)
 | .normal, s | .ret, s => match iu s.df s.mem with
  | some σ' => (gF T ⟨s.tm, [], σ'⟩ rs).map fun v => (.ret v, σ')
  | none => none
 | .pan v, s => match s.df with
  | [] => some (.pan v, s.mem)
  | _ => none
 | _, _ => none
theorem Rel.take {w0 : W0} {ρ : Nat → Loc} {σ : Mem} {w : World} (h : Rel w0 ρ σ w) {j : Nat} (hj : σ.get j = some .jJ) : Rel w0 ρ (σ.set j .dead) (w.putObj (ρ j).blk (.deferred none)) := by
 have hk := h.kill hj
 have hown := h.own j _ hj rfl
 refine ⟨hk.lt, hk.sco, fun i b hb => ?_, fun i b hb ha => by rw [World.putObj_size]; exact hk.inb i b hb ha, hk.ap, hk.own, h.os, h.tape, h.output, by rw [World.putObj_size]; exact h.size, fun k hp => ?_⟩
 ·by_cases ha : b.alive = true
  ·have hne : (ρ i).blk ≠ (ρ j).blk := by
    rw [aF] at hb
    split at hb
    ·cases hb; cases ha
    ·rename_i hij
     exact (h.ap j i _ b hj hb hij rfl ha).symm
   exact dl (fun _ _ => rfl) (World.putObj_heap_other hne) b (hk.sco i b hb) (hk.ok i b hb)
  ·exact ma ha (hk.ok i b hb)
 ·rw [World.putObj_heap_other (by rintro rfl; exact hown hp)]
  exact h.old k hp
theorem QO {P : Program} {w0 : W0} {fn : Func} {tmps : Array Value} {R : Ending → World → Prop} {ρ : Nat → Loc} : ∀ (l : List l9) {σ σ' : Mem} {w : World}, Rel w0 ρ σ w → iu l σ = some σ' →
  (∀ w', Rel w0 ρ σ' w' → ∃ v, (results fn tmps).run P w' = .ok v w' ∧ R (.returned v) w') → LeavesInM (FW none) 0 P fn tmps R (l.map (γD ρ)) .returning w
 | [], σ, σ', w, hr, ht, h => by
  obtain rfl : σ = σ' := by simpa [iu] using ht
  exact h w hr
 | d :: r, σ, σ', w, hr, ht, h => by
  obtain ⟨f, cap, args⟩ := d
  simp only [iu] at ht
  split at ht
  rotate_left
  ·cases ht
  rename_i j
  split at ht
  rotate_left
  ·cases ht
  rename_i hm
  split at ht
  rotate_left
  ·cases ht
  rename_i hj
  subst hm
  obtain ⟨h1, h2⟩ := hr.ok j _ hj
  refine ⟨by simp, .inl ⟨(ρ j).blk, _, ?_, run_takeDeferred h1, QO r (hr.take hj) ht h⟩⟩
  simp only [γD, dOf, if_true, γL, γ, h2]
  simp
theorem CV : ∀ {l : List l9} {σ σ' : Mem}, iu l σ = some σ' → σ'.next = σ.next
 | [], σ, σ', h => by
  obtain rfl : σ = σ' := by simpa [iu] using h
  rfl
 | d :: r, σ, σ', h => by
  simp only [iu] at h
  split at h
  ·split at h
   ·split at h
    ·have := CV h
     exact this
    ·cases h
   ·cases h
  ·cases h
theorem tZ {P : Program} {T : av} (hT : aY P T) {f : FuncId} {fn : Func} {c : Code} {args : LA_} {σ : Mem} (hf : P.funcs[f]? = some fn) (hb : fn.body = some c) {R : fR → Mem → Prop}
  (h : dZ (fun _ _ => True) none P σ.next c (bC fn.ntmps args σ) fun o s' => ∃ r σ', KV T fn.results.toList o s' = some (r, σ') ∧ R r σ') :
  ∀ w0 ρ w, Rel w0 ρ σ w → scL σ.next args = true →
   Calls P f (γL ρ args).toArray w fun e w' => ∃ r σ' ρ', R r σ' ∧ e = sA ρ' r ∧ bN w0 ρ σ.next ρ' σ' w' ∧ sc σ'.next r.value = true := by
 intro w0 ρ w hr hs
 refine PM (r := none) (n := 0) (callsIn_of_wp_marks (F := FW none) hf hb trivial ?_)
 refine wpIn_mono (h (Nat.le_refl _) w0 ρ _ w trivial (xf hr hs fn.ntmps)) ?_
 rintro e a' w' ⟨o, s', ⟨r, σ', h1, h2⟩, ⟨ρ', rfl, k1, k2, k3, k4⟩⟩
 have fin : (match iu s'.df s'.mem with | some σ' => (gF T ⟨s'.tm, [], σ'⟩ fn.results.toList).map fun v => (fR.ret v, σ') | none => none) = some (r, σ') →
   LeavesInM (FW none) 0 P fn a'.tmps (fun e w' => ∃ r σ' ρ', R r σ' ∧ e = sA ρ' r ∧ bN w0 ρ σ.next ρ' σ' w' ∧ sc σ'.next r.value = true) a'.defers .returning w' := by
  intro h1
  split at h1
  rotate_left
  ·cases h1
  rename_i σ2 ht
  obtain ⟨v, hv, h3⟩ := Option.map_eq_some_iff.1 h1
  simp only [Prod.mk.injEq] at h3
  obtain ⟨rfl, rfl⟩ := h3
  have hnx := CV ht
  rw [k1.df]
  refine QO s'.df k1.rel ht fun w2 hr2 => ?_
  have hsr : bJ w0 ρ' ⟨s'.tm, [], σ2⟩ { tmps := a'.tmps, defers := [] } w2 := ⟨hr2, k1.tm, by show scL σ2.next s'.tm = true; rw [hnx]; exact k1.sct, rfl, by simp⟩
  obtain ⟨q1, q2⟩ := sb hT hsr hv
  exact ⟨_, q1, _, _, ρ', h2, rfl, ⟨hr2, k2, by rw [hnx]; exact k3⟩, q2⟩
 cases o with
 | normal => exact fin h1
 | ret => exact fin h1
 | exit i => cases h1
 | goto i => cases h1
 | pan v =>
  simp only [KV] at h1
  split at h1
  ·rename_i hd
   simp only [Option.some.injEq, Prod.mk.injEq] at h1
   obtain ⟨rfl, rfl⟩ := h1
   have hd' : a'.defers = [] := by rw [k1.df, hd]; rfl
   show LeavesInM _ _ _ _ _ _ a'.defers _ _
   rw [hd']
   exact ⟨_, _, ρ', h2, rfl, ⟨k1.rel, k2, k3⟩, k4 v rfl⟩
  ·cases h1
def yieldOf (nm : Nat) (tm : LA_) (o : Oper) : Option (LA_) :=
 match o.op with
 | .call ⟨.value g, args, _⟩ => match ev tm g with
  | some (.dD i) => cond (Nat.beq i nm) (evL tm args.toList) none
  | _ => none
 | _ => none
def AQ (l : List Oper) : Bool := l.any fun o => mS o.op
def qK (n : Nat) : Option ar → Bool
 | some (.ci k i) => Nat.beq k n && Nat.beq i 0
 | _ => false
theorem jW {n : Nat} {b : Option ar} (h : qK n b = true) : b = some (.ci n 0) := by
 unfold qK at h
 split at h
 ·simp only [Bool.and_eq_true] at h
  rw [Nat.eq_of_beq_eq_true h.1, Nat.eq_of_beq_eq_true h.2]
 ·cases h
def AR {X : Type} (T : av) (ch : CH) (y : qL) (rd : LA_ → Mem → (Bool → Mem → Option X) → Option X) (all : List Oper) : List Oper → St → (St → Option X) → Option X
  | [], s, k => k s
  | o :: r, s, k => match yieldOf y.nm s.tm o with
    | some vs => cond (gj all o s.tm) none (cond (bo all o s.tm)
      (cond (Nat.beq vs.length y.ps.size && qK 0 (s.mem.get y.nm)) (rd vs s.mem fun b σ' => AR T ch y rd all r ⟨bR s.tm o.dst (.bool b), s.df, σ'⟩ k) none)
      (AR T ch y rd all r ⟨bR s.tm o.dst (.tup []), s.df, s.mem⟩ k))
    | none => runK T ch all [o] s .nil (fun s' w => cond (owB w) (AR T ch y rd all r s' k) none) (fun _ _ _ => none)
def Hc {X : Type} (ev : Code → St → (an → St → Option X) → Option X) (b : Code) (K : an → St → Option X) : Nat → Code → St → Option X
 | 0, _, _ => none
 | m + 1, c, s => ev c s fun o s' => match o with
  | .goto l => (match findLabel b l with
   | some rest => Hc ev b K m rest s'
   | none => none)
  | o => K o s'
def AF : an → Bool
 | .normal => true
 | .ret => true
 | _ => false
def QP (il : FuncId → Bool) (tm : LA_) (o : Oper) : Option (FuncId × LA_) :=
 match o.op with
 | .call ⟨.value (.func g), args, _⟩ => cond (il g) (match evL tm args.toList with
  | some vs => some (g, vs)
  | none => none) none
 | _ => none
def QQ (il : FuncId → Bool) (o : Oper) : Bool :=
 match o.op with
 | .call ⟨.value (.func g), _, _⟩ => il g
 | _ => false
def CW {X : Type} (T : av) (ch : CH) (il : FuncId → Bool) (cl : FuncId → LA_ → Mem → (ab → Mem → Option X) → Option X) (all : List Oper) : List Oper → St → (St → Option X) → Option X
  | [], s, k => k s
  | o :: r, s, k => match QP il s.tm o with
    | some q => cond (gj all o s.tm) none (cond (bo all o s.tm)
      (cl q.1 q.2 s.mem fun v σ' => CW T ch il cl all r ⟨bR s.tm o.dst v, s.df, σ'⟩ k)
      (CW T ch il cl all r ⟨bR s.tm o.dst (.tup []), s.df, s.mem⟩ k))
    | none => runK T ch all [o] s .nil (fun s' w => cond (owB w) (CW T ch il cl all r s' k) none) (fun _ _ _ => none)
def cv {X : Type} (eq : X → X → Bool) (P : Program) (T : av) (ch : CH) (il : FuncId → Bool) : Nat → qJ → Bool → Option qL → Code → St → (an → St → Option X) → Option X
  | 0, _, _, _, _, _, _ => none
  | n + 1, A, inR, Y, c, s, K =>
    match c with
    | .seq a b => cv eq P T ch il n A inR Y a s fun o s' => match o with
      | .normal => cv eq P T ch il n A inR Y b s' K
      | o => K o s'
    | .cond c a b => match ev s.tm c with
      | some (.bool true) => cv eq P T ch il n A inR Y a s K
      | some (.bool false) => cv eq P T ch il n A inR Y b s K
      | _ => none
    | .block id b => cv eq P T ch il n A inR Y b s fun o s' => match o with
      | .exit i => if i = id then K .normal s' else K (.exit i) s'
      | o => K o s'
    | .loop b => match cond inR none (A (dO b)) with
      | some la => la.run s K
      | none => cv eq P T ch il n A inR Y b s fun o s' => match o with
        | .normal => cv eq P T ch il n A inR Y (.loop b) s' K
        | o => K o s'
    | .scope b => cond inR none (Hc (fun c s K => cv eq P T ch il n A inR Y c s K) b K (n + 1) b s)
    | .rangeFunc g ps a b => cond inR none (match ev s.tm g with
      | some (.func f [] cs) => match P.funcs[f]? with
        | some fn => match fn.body with
          | some c => cv eq P T ch il n bt false (some ⟨s.mem.next + 1, ps, a, b, s.tm⟩) c (bC fn.ntmps (.dD (s.mem.next + 1) :: cs) ((s.mem.push .jJ).push (.ci 0 0))) fun o s' => cond (AF o)
            (match s'.df, gF T s' fn.results.toList, s'.mem.get (s.mem.next + 1) with
              | [], some _, some (.ci k i) => (match v5 k i with
                | some o2 => K o2 ⟨s.tm, ⟨w8, [.dD s.mem.next], []⟩ :: s.df, s'.mem.set (s.mem.next + 1) .dead⟩
                | none => none)
              | _, _, _ => none) none
          | none => none
        | none => none
      | _ => none)
    | .region _ ops false => cond (inR && AQ ops.toList) none (match y9 ops.toList with
      | some (x, o, l) => match ev s.tm x with
        | some v => match GJ s.mem v with
          | some (i, m, since, seen, es, clock) =>
            let go : St → Option X := fun s1 => runK T ch ops.toList l s1 .nil (fun s' w => cond (owB w) (K .normal s') none) (fun v s' w => cond (owB w) (K (.pan v) s') none)
            match GI es seen with
            | [] => go ⟨bR s.tm o.dst (.tup [.bool false]), s.df, s.mem⟩
            | ls => pw eq (ls.map fun e => go ⟨bR s.tm o.dst (.tup [.bool true, e.1, e.2.1]), s.df, s.mem.set i (.iter m since (seen ++ [e.2.2]) clock)⟩)
          | none => none
        | none => none
      | none => match Y with
        | some y => AR T ch y (fun vs σ k => cv eq P T ch il n bt true none y.assign ⟨kD y.ps.toList vs y.tm, [], σ⟩ fun o s1 => match o with
          | .normal => cond (qK 0 (s1.mem.get y.nm)) (cv eq P T ch il n bt true none y.body ⟨s1.tm, s1.df, s1.mem.set y.nm (.ci 4 0)⟩ fun o s2 => cond (qK 4 (s2.mem.get y.nm)) (match xc o with
            | some j => k (Nat.beq j.1 0) (s2.mem.set y.nm (.ci j.1 j.2))
            | none => none) none) none
          | _ => none) ops.toList ops.toList s (K .normal)
        | none => cond (ops.toList.any (QQ il))
          (CW T ch il (fun g vs σ kk => match P.funcs[g]? with
            | some fn => match fn.body with
              | some b => cv eq P T ch il n bt false none b (bC fn.ntmps vs σ) fun o s1 => match KV T fn.results.toList o s1 with
                | some (.ret v, σ') => kk v σ'
                | _ => none
              | none => none
            | none => none) ops.toList ops.toList s (K .normal))
          (runK T ch ops.toList ops.toList s .nil (fun s' w => cond (owB w) (K .normal s') none) (fun v s' w => cond (owB w) (K (.pan v) s') none)))
    | .region _ ops true => cond (inR && AQ ops.toList) none (AG T ch ops.toList s .nil (fun s' w => cond (owB w) (K .normal s') none) (fun v s' w => cond (owB w) (K (.pan v) s') none))
    | .skip => K .normal s
    | .label _ => K .normal s
    | .exit id => K (.exit id) s
    | .goto l => K (.goto l) s
    | .ret => K .ret s
    | _ => none
theorem mh {R : Type} {c : Bool} {x : Option R} {r : R} (h : cond c none x = some r) : c = false ∧ x = some r := by
 cases c with
 | true => cases h
 | false => exact ⟨rfl, h⟩
theorem He {inR : Bool} {ops : Array Oper} {r : Option Nat} (hR : inR = true ∨ r = none) (h : (inR && AQ ops.toList) = false) : (∀ o ∈ ops.toList, mS o.op = false) ∨ r = none := by
 rcases hR with rfl | hR
 ·simp only [Bool.true_and, AQ, List.any_eq_false] at h
  exact .inl fun o ho => by simpa using h o ho
 ·exact .inr hR
section
variable {P : Program} {T : av} {ch : CH} {X : Type} {eq : X → X → Bool}
theorem GN {w0 : W0} {ρ : Nat → Loc} {s : St} {a : Act} {w : World} (hr : bJ w0 ρ s a w) {nm : Nat} {o : Oper} {vs : LA_} (h : yieldOf nm s.tm o = some vs) {l : Nat} (hl : (ρ nm).val = .func (.yield l) #[] #[]) :
  (execOp a.eval o).run P w = (Instr.yield l (γL ρ vs).toArray).run P w ∧ scL s.mem.next vs = true ∧ mS o.op = false := by
 obtain ⟨dst, op, type, pos, after, guard⟩ := o
 unfold yieldOf at h
 split at h
 ·rename_i g args at' hop
  simp only at hop
  subst hop
  split at h
  ·rename_i i hi
   obtain ⟨h1, h2⟩ := bL h
   obtain rfl := Nat.eq_of_beq_eq_true h1
   obtain ⟨e1, e2⟩ := tf hr.tm hr.sct h2
   obtain ⟨q1, _⟩ := qI hr.tm hr.sct hi
   have e3 : args.map a.eval = (γL ρ vs).toArray := by apply Array.ext'; rw [Array.toList_map, e1]
   refine ⟨?_, e2, rfl⟩
   simp only [execOp, resolve, e3, q1, γ, hl, Deferred.ofValue, Sem.run_bind, Sem.run_pure, Result.andThen_ok, invoke]
   simp
  ·cases h
 ·cases h
theorem K5 (hT : aY P T) (hH : aE P ch) {y : qL} {k : Nat} (hk : y.nm < k) (hy : scL k y.tm = true) {rd : LA_ → Mem → (Bool → Mem → Option X) → Option X} {x : X}
  (hrd : ∀ vs σ kk, rd vs σ kk = some x → ∀ l, dZ (fun _ _ => True) (some l) P σ.next y.assign ⟨kD y.ps.toList vs y.tm, [], σ⟩ fun o s1 => o = .normal ∧ s1.mem.get y.nm = some (.ci 0 0) ∧
   dZ (fun _ _ => True) (some l) P σ.next y.body ⟨s1.tm, s1.df, s1.mem.set y.nm (.ci 4 0)⟩ fun o s2 => s2.mem.get y.nm = some (.ci 4 0) ∧ ∃ k i, xc o = some (k, i) ∧ kk (Nat.beq k 0) (s2.mem.set y.nm (.ci k i)) = some x)
  {ops : Array Oper} {K : St → Option X} {w0 : W0} {Q : Exit → Act → World → Prop} : ∀ (l pre : List Oper) (ρ : Nat → Loc) (s : St) (a : Act) (w : World), ops.toList = pre ++ l → yG y w0 ρ → bJ w0 ρ s a w → k ≤ s.mem.next →
   AR T ch y rd ops.toList l s K = some x →
   (∀ s' ρ' a' w', K s' = some x → bJ w0 ρ' s' a' w' → (∀ i, i < k → ρ' i = ρ i) → k ≤ s'.mem.next → Q .normal a' w') → ¬ LetsOut Q → wpOpsIn (FW none) 0 P ops Q (List.range' pre.length l.length) a w
 | [], pre, ρ, s, a, w, he, hG, h, hn, hx, hK, hQ => by
  simp only [AR] at hx
  exact hK s ρ a w hx h (fun _ _ => rfl) hn
 | o :: l, pre, ρ, s, a, w, he, hG, h, hn, hx, hK, hQ => by
  rw [List.length_cons, List.range'_succ, wpOpsIn_cons]
  have hi : ops[pre.length]? = some o := by
   rw [← Array.getElem?_toList, he, List.getElem?_append_right (Nat.le_refl _)]; simp
  have next : ∀ (s1 : St) (ρ1 : Nat → Loc) (a1 : Act) (w1 : World), bJ w0 ρ1 s1 a1 w1 → (∀ i, i < k → ρ1 i = ρ i) → k ≤ s1.mem.next → AR T ch y rd ops.toList l s1 K = some x → wpOpsIn (FW none) 0 P ops Q (List.range' (pre.length + 1) l.length) a1 w1 := by
   intro s1 ρ1 a1 w1 h1 e1 l1 hx1
   have := K5 hT hH hk hy hrd l (pre ++ [o]) ρ1 s1 a1 w1 (by simp [he]) (J6 hk hy w0 ρ ρ1 e1 hG) h1 l1 hx1 (fun s' ρ' a' w' q1 q2 q3 q4 => hK s' ρ' a' w' q1 q2 (fun i hi => (q3 i hi).trans (e1 i hi)) q4) hQ
   simpa using this
  simp only [AR] at hx
  split at hx
  ·rename_i vs hvs
   obtain ⟨hg, hx⟩ := mh hx
   have hw : Region.wanted o (yielded ops a.tmps) = bo ops.toList o s.tm := by rw [h.tm]; exact th hg
   unfold wpOpIn
   simp only [hi]
   rw [hw]
   cases hwa : bo ops.toList o s.tm with
   | true =>
    rw [hwa] at hx
    simp only [cond_true, if_true] at hx ⊢
    obtain ⟨hlen, hx⟩ := bL hx
    simp only [Bool.and_eq_true] at hlen
    obtain ⟨fid, D, g1, g3⟩ := hG
    obtain ⟨hex, hsv, hnd⟩ := GN (P := P) h hvs g1
    obtain ⟨r1, r2⟩ := Jc (Ψ := fun b σ' => AR T ch y rd ops.toList l ⟨bR s.tm o.dst (.bool b), s.df, σ'⟩ K = some x) (Nat.eq_of_beq_eq_true hlen.1) hn hk hsv hy (hrd vs s.mem _ hx) (jW hlen.2) h.rel g3
    refine ⟨fun _ _ => trivial, ?_⟩
    have e : Oper.semAt (FW none).round a.eval o = execOp a.eval o := rfl
    rw [e, hex, r1]
    refine ⟨fun hh => (by cases hh), r2.mono ?_⟩
    rintro e' w' ⟨b, rfl, ρ', σ', hΨ, hp⟩
    exact next _ ρ' _ w' ((h.congr hp).put (v := .bool b) (by simp [sc]) o.dst) (fun i hi => hp.ext i (by omega)) (by show k ≤ σ'.next; have := hp.le; omega) hΨ
   | false =>
    rw [hwa] at hx
    simp only [cond_false, Bool.false_eq_true, if_false] at hx ⊢
    refine ⟨fun _ _ => trivial, ?_⟩
    rw [mg ρ]
    exact next _ ρ _ w (h.put (v := .tup []) (by simp [sc, scL]) o.dst) (fun _ _ => rfl) hn hx
  ·rcases iP hx with ⟨s', ow', h1, h2, h3⟩ | ⟨v, s', ow', h1, _⟩
   ·obtain ⟨q1, q2⟩ := bL h1
    have hro := h3 (fj q1)
    simp only [dY] at hro
    have hst : dr T ch.H ops.toList o s = some (.go s') := by
     cases hs : dr T ch.H ops.toList o s with
     | none => rw [hs] at hro; cases hro
     | some q =>
      rw [hs] at hro
      cases q with
      | go s1 => simpa [dY] using hro
      | pan v s1 => simp at hro
    refine Dl (K := fun a w => wpOpsIn (FW none) 0 P ops Q (List.range' (pre.length + 1) l.length) a w) hQ (.inr rfl) (fun _ _ q => q) (eY hT hH.1 h hi hst ?_)
    intro ρ1 a1 w1 h1' e1 l1
    exact next s' ρ1 a1 w1 h1' (fun i hi => e1 i (by omega)) (by omega) q2
   ·cases h1
end
section
variable {P : Program} {T : av} {ch : CH} {X : Type} {eq : X → X → Bool}
theorem CX (hT : aY P T) (hH : aE P ch) (heq : ∀ {x y}, eq x y = true → x = y) {k : Nat} {ops : Array Oper} {s : St} {K : an → St → Option X} {x : X}
  (h : (match y9 ops.toList with
   | some (xo, o, l) => match ev s.tm xo with
    | some v => match GJ s.mem v with
     | some (i, m, since, seen, es, clock) =>
      match GI es seen with
      | [] => runK T ch ops.toList l ⟨bR s.tm o.dst (.tup [.bool false]), s.df, s.mem⟩ .nil (fun s' w => cond (owB w) (K .normal s') none) (fun v s' w => cond (owB w) (K (.pan v) s') none)
      | ls => pw eq (ls.map fun e => runK T ch ops.toList l ⟨bR s.tm o.dst (.tup [.bool true, e.1, e.2.1]), s.df, s.mem.set i (.iter m since (seen ++ [e.2.2]) clock)⟩ .nil (fun s' w => cond (owB w) (K .normal s') none) (fun v s' w => cond (owB w) (K (.pan v) s') none))
     | none => none
    | none => none
   | none => runK T ch ops.toList ops.toList s .nil (fun s' w => cond (owB w) (K .normal s') none) (fun v s' w => cond (owB w) (K (.pan v) s') none)) = some x)
  (hn : k ≤ s.mem.next) {w0 : W0} {ρ : Nat → Loc} {a : Act} {w : World} (hr : bJ w0 ρ s a w) :
  wpOps P ops (fun e a' w' => ∃ o s', K o s' = some x ∧ db w0 ρ k o s' e a' w') (List.range ops.size) a w := by
 split at h
 ·rename_i xo o l hno
  obtain ⟨e1, e2, e3⟩ := OC hno
  split at h
  ·rename_i v hv
   split at h
   ·rename_i i m since seen es clock hit
    have E := qI hr.tm hr.sct hv
    rw [List.range_eq_range']
    have hsz : ops.size = l.length + 1 := by rw [← Array.length_toList, e1, List.length_cons]
    rw [hsz, List.range'_succ, wpOps_cons]
    have hi : ops[0]? = some o := by rw [← Array.getElem?_toList, e1]; rfl
    unfold wpOp
    simp only [hi]
    have hg : gj ops.toList o s.tm = false := by simp only [gj, e3]
    have hw : Region.wanted o (yielded ops a.tmps) = true := by
     rw [hr.tm, th hg]; simp only [bo, e3]
    rw [hw]
    simp only [if_true]
    refine .inl ?_
    obtain ⟨dst, op, type, pos, after, guard⟩ := o
    simp only at e2 e3
    subst e2 e3
    have fin : ∀ (s1 : St) (a1 : Act) (w1 : World), bJ w0 ρ s1 a1 w1 → s1.mem.next = s.mem.next →
      runK T ch ops.toList l s1 .nil (fun s' w => cond (owB w) (K .normal s') none) (fun v s' w => cond (owB w) (K (.pan v) s') none) = some x →
      wpOps P ops (fun e a' w' => ∃ o s', K o s' = some x ∧ db w0 ρ k o s' e a' w') (List.range' 1 l.length) a1 w1 := fun s1 a1 w1 hr1 hs1 hx =>
     Mm (pre := [_]) hT hH (by simpa using e1) hx hr1 (by omega)
    rcases KM (P := P) hr.rel hit type with ⟨q1, q2⟩ | ⟨e, q1, w', q2, q3, q4⟩
    ·rw [q1] at h
     refine eR (v := .tup [.bool false]) (ρ' := ρ) (w' := w) ?_ (fin _ _ _ (hr.put (v := .tup [.bool false]) (by simp [sc, scL]) dst) rfl h)
     simp only [execOp, E.1, Sem.run_bind, q2, Result.andThen_ok, Sem.run_pure]
    ·have hx2 : runK T ch ops.toList l ⟨bR s.tm dst (.tup [.bool true, e.1, e.2.1]), s.df, s.mem.set i (.iter m since (seen ++ [e.2.2]) clock)⟩ .nil (fun s' w => cond (owB w) (K .normal s') none) (fun v s' w => cond (owB w) (K (.pan v) s') none) = some x := by
      split at h
      ·rename_i hl; rw [hl] at q1; cases q1
      ·exact EE heq h _ (List.mem_map.2 ⟨e, q1, rfl⟩)
     have hr1 : bJ w0 ρ ⟨s.tm, s.df, s.mem.set i (.iter m since (seen ++ [e.2.2]) clock)⟩ a w' := hr.congr ⟨q3, fun _ _ => rfl, Nat.le_refl _⟩
     refine eR (v := .tup [.bool true, e.1, e.2.1]) (ρ' := ρ) (w' := w') ?_ (fin _ _ _ (hr1.put (v := .tup [.bool true, e.1, e.2.1]) q4 dst) rfl hx2)
     simp only [execOp, E.1, Sem.run_bind, q2, Result.andThen_ok, Sem.run_pure]
   ·cases h
  ·cases h
 ·have := Mm (pre := []) (k := k) hT hH (by simp) h hr hn
  rw [List.range_eq_range']
  simpa using this
theorem K6 (hT : aY P T) (hH : aE P ch) {il : FuncId → Bool} {cl : FuncId → LA_ → Mem → (ab → Mem → Option X) → Option X} {x : X} {k : Nat}
  (hcl : ∀ g vs σ kk, cl g vs σ kk = some x → nE P g ∧ ∀ w0 ρ w, Rel w0 ρ σ w → scL σ.next vs = true →
   Calls P g (γL ρ vs).toArray w fun e w' => ∃ v σ' ρ', kk v σ' = some x ∧ e = .returned (γ ρ' v) ∧ bN w0 ρ σ.next ρ' σ' w' ∧ sc σ'.next v = true)
  {ops : Array Oper} {K : St → Option X} {w0 : W0} {Q : Exit → Act → World → Prop} : ∀ (l pre : List Oper) (ρ : Nat → Loc) (s : St) (a : Act) (w : World), ops.toList = pre ++ l → bJ w0 ρ s a w → k ≤ s.mem.next →
   CW T ch il cl ops.toList l s K = some x →
   (∀ s' ρ' a' w', K s' = some x → bJ w0 ρ' s' a' w' → (∀ i, i < k → ρ' i = ρ i) → k ≤ s'.mem.next → Q .normal a' w') → wpOps P ops Q (List.range' pre.length l.length) a w
 | [], pre, ρ, s, a, w, he, h, hn, hx, hK => by
  simp only [CW] at hx
  exact hK s ρ a w hx h (fun _ _ => rfl) hn
 | o :: l, pre, ρ, s, a, w, he, h, hn, hx, hK => by
  rw [List.length_cons, List.range'_succ, wpOps_cons]
  have hi : ops[pre.length]? = some o := by
   rw [← Array.getElem?_toList, he, List.getElem?_append_right (Nat.le_refl _)]; simp
  have next : ∀ (s1 : St) (ρ1 : Nat → Loc) (a1 : Act) (w1 : World), bJ w0 ρ1 s1 a1 w1 → (∀ i, i < k → ρ1 i = ρ i) → k ≤ s1.mem.next → CW T ch il cl ops.toList l s1 K = some x → wpOps P ops Q (List.range' (pre.length + 1) l.length) a1 w1 := by
   intro s1 ρ1 a1 w1 h1 e1 l1 hx1
   have := K6 hT hH hcl l (pre ++ [o]) ρ1 s1 a1 w1 (by simp [he]) h1 l1 hx1 (fun s' ρ' a' w' q1 q2 q3 q4 => hK s' ρ' a' w' q1 q2 (fun i hi => (q3 i hi).trans (e1 i hi)) q4)
   simpa using this
  simp only [CW] at hx
  split at hx
  ·rename_i q hq
   obtain ⟨hg, hx⟩ := mh hx
   have hw : Region.wanted o (yielded ops a.tmps) = bo ops.toList o s.tm := by rw [h.tm]; exact th hg
   unfold wpOp
   simp only [hi]
   rw [hw]
   cases hwa : bo ops.toList o s.tm with
   | true =>
    rw [hwa] at hx
    simp only [cond_true, if_true] at hx ⊢
    refine .inl ?_
    obtain ⟨hfn, hc⟩ := hcl _ _ _ _ hx
    obtain ⟨dst, op, type, pos, after, guard⟩ := o
    unfold QP at hq
    split at hq
    rotate_left
    ·cases hq
    rename_i g args ats hop
    simp only at hop
    subst hop
    obtain ⟨_, hq⟩ := bL hq
    split at hq
    rotate_left
    ·cases hq
    rename_i vs hvs
    cases hq
    obtain ⟨e1, e2⟩ := tf h.tm h.sct hvs
    have e3 : args.map a.eval = (γL ρ vs).toArray := by apply Array.ext'; rw [Array.toList_map, e1]
    have e5 : a.eval (.func g) = .func (.func g) #[] #[] := rfl
    have hrun : (execOp a.eval ⟨dst, .call ⟨.value (.func g), args, ats⟩, type, pos, after, guard⟩).run P w = .ok (.enter g (γL ρ vs).toArray) w := by
     simp only [execOp, resolve, e3, e5, Deferred.ofValue, Sem.run_bind, Sem.run_pure, Result.andThen_ok, invoke]
     simp [jN hfn]
    unfold Oper.wp
    rw [hrun]
    refine (hc w0 ρ w h.rel e2).mono ?_
    rintro e w' ⟨v, σ', ρ', hk, rfl, hp, hv⟩
    exact next _ ρ' _ w' ((h.congr hp).put hv dst) (fun i hi => hp.ext i (by omega)) (by show k ≤ σ'.next; have := hp.le; omega) hk
   | false =>
    rw [hwa] at hx
    simp only [cond_false, Bool.false_eq_true, if_false] at hx ⊢
    rw [mg ρ]
    exact next _ ρ _ w (h.put (v := .tup []) (by simp [sc, scL]) o.dst) (fun _ _ => rfl) hn hx
  ·rcases iP hx with ⟨s', ow', h1, h2, h3⟩ | ⟨v, s', ow', h1, _⟩
   ·obtain ⟨q1, q2⟩ := bL h1
    have hro := h3 (fj q1)
    simp only [dY] at hro
    have hst : dr T ch.H ops.toList o s = some (.go s') := by
     cases hs : dr T ch.H ops.toList o s with
     | none => rw [hs] at hro; cases hro
     | some q =>
      rw [hs] at hro
      cases q with
      | go s1 => simpa [dY] using hro
      | pan v s1 => simp at hro
    refine eY hT hH.1 h hi hst ?_
    intro ρ1 a1 w1 h1' e1 l1
    exact next s' ρ1 a1 w1 h1' (fun i hi => e1 i (by omega)) (by omega) q2
   ·cases h1
theorem qO : ∀ {b rest : Code} {l : Nat}, findLabel b l = some rest → ∀ x ∈ bm rest, x ∈ bm b
 | .seq a b, rest, l, h, x, hx => by
  simp only [findLabel] at h
  split at h
  ·rename_i r hr
   simp only [Option.some.injEq] at h
   subst h
   simp only [bm, List.mem_append] at hx ⊢
   exact hx.imp (qO hr x) id
  ·simp only [bm, List.mem_append]
   exact .inr (qO h x hx)
 | .label l', rest, l, h, x, hx => by
  simp only [findLabel] at h
  split at h
  ·simp only [Option.some.injEq] at h; subst h; simp [bm] at hx
  ·cases h
 | .skip, rest, l, h, x, hx => by simp [findLabel] at h
 | .region .., rest, l, h, x, hx => by simp [findLabel] at h
 | .cond .., rest, l, h, x, hx => by simp [findLabel] at h
 | .block .., rest, l, h, x, hx => by simp [findLabel] at h
 | .loop _, rest, l, h, x, hx => by simp [findLabel] at h
 | .scope _, rest, l, h, x, hx => by simp [findLabel] at h
 | .rangeFunc .., rest, l, h, x, hx => by simp [findLabel] at h
 | .exit _, rest, l, h, x, hx => by simp [findLabel] at h
 | .goto _, rest, l, h, x, hx => by simp [findLabel] at h
 | .ret, rest, l, h, x, hx => by simp [findLabel] at h
 | .refuse _, rest, l, h, x, hx => by simp [findLabel] at h
theorem ya (hT : aY P T) (hH : aE P ch) (hm : P.follows .mixedOrders = true) (hN : ou P) (heq : ∀ {x y}, eq x y = true → x = y) {il : FuncId → Bool} :
  ∀ (n : Nat) {A : qJ} {inR : Bool} {r : Option Nat} {Y : Option qL} {G : W0 → (Nat → Loc) → Prop} {k : Nat} (c : Code) (s : St) (K : an → St → Option X) (x : X), (inR = true ∨ ∀ b ∈ bm c, ∀ la, A (dO b) = some la → cF P k la b) → inR = true ∨ r = none → GOk k G →
   (∀ y, Y = some y → G = yG y ∧ y.nm < k ∧ scL k y.tm = true ∧ r = none) → cv eq P T ch il n A inR Y c s K = some x → dZ G r P k c s fun o s' => K o s' = some x := by
 intro n
 induction n using Nat.strongRecOn with
 | _ n ih =>
  cases n with
  | zero => intro A inR r Y G k c s K x _ _ _ _ h; simp [cv] at h
  | succ n =>
   intro A inR r Y G k c s K x hA hR hG hY h
   have ih' := @ih n (Nat.lt_succ_self n)
   cases c with
   | skip => exact Jd (by simpa only [cv] using h)
   | label l => exact GO (by simpa only [cv] using h)
   | exit l => exact Je (by simpa only [cv] using h)
   | goto l => exact OI (by simpa only [cv] using h)
   | ret => exact KS (by simpa only [cv] using h)
   | seq a b =>
    simp only [cv] at h
    refine KT hG ((ih' a s _ x (hA.imp (fun h => h) fun h b hb => h b (by simp [bm, hb])) hR hG hY h).mono fun o s' q => ?_)
    cases o with
    | normal => exact ih' b s' K x (hA.imp (fun h => h) fun h b hb => h b (by simp [bm, hb])) hR hG hY q
    | exit i => exact q
    | goto i => exact q
    | ret => exact q
    | pan v => exact q
   | cond c a b =>
    simp only [cv] at h
    split at h
    ·rename_i hc; exact xd hc (ih' a s K x (hA.imp (fun h => h) fun h b hb => h b (by simp [bm, hb])) hR hG hY h)
    ·rename_i hc; exact xd hc (ih' b s K x (hA.imp (fun h => h) fun h b hb => h b (by simp [bm, hb])) hR hG hY h)
    ·cases h
   | block id b =>
    simp only [cv] at h
    refine GP ((ih' b s _ x (hA.imp (fun h => h) fun h b hb => h b (by simpa [bm] using hb)) hR hG hY h).mono fun o s' q => ?_)
    cases o with
    | exit i =>
     simp only [an.inBlock] at q ⊢
     split at q
     ·rename_i e; rw [if_pos e]; exact q
     ·rename_i e; rw [if_neg e]; exact q
    | normal => exact q
    | goto i => exact q
    | ret => exact q
    | pan v => exact q
   | scope b =>
    simp only [cv] at h
    obtain ⟨h0, h⟩ := mh h
    obtain rfl : r = none := hR.resolve_left (by rw [h0]; simp)
    have hA' : ∀ b1 ∈ bm b, ∀ la, A (dO b1) = some la → cF P k la b1 := (hA.resolve_left (by rw [h0]; simp))
    refine LY hG (fun m c s => (∀ b1 ∈ bm c, b1 ∈ bm b) ∧ Hc (fun c s K => cv eq P T ch il n A inR Y c s K) b K m c s = some x) ?_ ⟨fun _ h => h, h⟩
    rintro m c s ⟨hlc, hx⟩
    cases m with
    | zero => cases hx
    | succ m =>
     simp only [Hc] at hx
     refine (ih' c s _ x (.inr fun b1 hb1 => hA' b1 (hlc b1 hb1)) (.inr rfl) hG hY hx).mono fun o s' q => ?_
     cases o with
     | goto l =>
      simp only at q ⊢
      split at q
      ·rename_i rest hf
       exact ⟨rest, m, Nat.lt_succ_self m, hf, qO hf, q⟩
      ·cases q
     | exit i => exact q
     | normal => exact q
     | ret => exact q
     | pan v => exact q
   | loop b =>
    cases hla : cond inR none (A (dO b)) with
    | some la =>
     simp only [cv, hla] at h
     cases hi : inR with
     | true => rw [hi] at hla; cases hla
     | false =>
      rw [hi] at hla
      simp only [cond_false] at hla
      obtain rfl : r = none := hR.resolve_left (by rw [hi]; simp)
      have hok := (hA.resolve_left (by rw [hi]; simp)) b (by simp [bm]) la hla
      rw [la.nat] at h
      obtain ⟨⟨o, s'⟩, q1, q2⟩ := bE_ h
      exact ml ((hok s o s' q1).mono fun o1 s1 hh => by
       obtain ⟨rfl, rfl⟩ := hh
       exact q2)
    | none =>
    have key : ∀ (m : Nat), m ≤ n + 1 → ∀ (s : St), cv eq P T ch il m A inR Y (.loop b) s K = some x → k ≤ s.mem.next → ∀ w0 ρ a w, G w0 ρ → bJ w0 ρ s a w →
      Code.roundsIn (FW r) 0 P b (fun e a' w' => ∃ o s', K o s' = some x ∧ db w0 ρ k o s' e a' w') m a w := by
     intro m
     induction m with
     | zero => intro _ s h; simp [cv] at h
     | succ m ihm =>
      intro hmn s h hn w0 ρ a w hg hr
      simp only [cv, hla] at h
      have h1 := ih m (by omega) b s _ x (hA.imp (fun h => h) fun h b hb => h b (by simp [bm, hb])) hR hG hY h hn w0 ρ a w hg hr
      rw [roundsIn_succ]
      refine wpIn_mono h1 ?_
      rintro e a' w' ⟨o, s', q, ⟨ρ', rfl, h2, h3, h4, h5⟩⟩
      cases o with
      | normal =>
       refine tY ?_ m (ihm (by omega) s' q h4 w0 ρ' a' w' (hG w0 ρ ρ' h3 hg) h2)
       rintro e a w ⟨o, s', q1, q2⟩
       exact ⟨o, s', q1, q2.step h3⟩
      | exit i => exact ⟨_, s', q, ⟨ρ', rfl, h2, h3, h4, h5⟩⟩
      | goto i => exact ⟨_, s', q, ⟨ρ', rfl, h2, h3, h4, h5⟩⟩
      | ret => exact ⟨_, s', q, ⟨ρ', rfl, h2, h3, h4, h5⟩⟩
      | pan v => exact ⟨_, s', q, ⟨ρ', rfl, h2, h3, h4, h5⟩⟩
    intro hn w0 ρ a w hg hr
    exact wpIn_loop_rounds (n + 1) (key (n + 1) (Nat.le_refl _) s h hn w0 ρ a w hg hr)
   | rangeFunc g ps a b =>
    simp only [cv] at h
    obtain ⟨h0, h⟩ := mh h
    obtain rfl : r = none := hR.resolve_left (by rw [h0]; simp)
    split at h
    ·rename_i f cs hg
     split at h
     ·rename_i fn hf
      split at h
      ·rename_i c hb
       refine y8 hT hg hf hb ⟨fn, hf, hN f fn hf, by rw [hb]; rfl⟩ fun hst => ?_
       have hsc : scL (s.mem.next + 2) s.tm = true := cz (by omega) _ hst
       refine (ih' (k := s.mem.next + 2) (G := yG ⟨s.mem.next + 1, ps, a, b, s.tm⟩) (r := none) c _ _ x (.inr fun _ _ _ h => by cases h) (.inr rfl) (J6 (by show s.mem.next + 1 < s.mem.next + 2; omega) hsc) (fun y hy => by
        cases hy
        exact ⟨rfl, by show s.mem.next + 1 < s.mem.next + 2; omega, hsc, rfl⟩) h).mono fun o s' q => ?_
       obtain ⟨ho, q⟩ := bL q
       have ho' : o = .normal ∨ o = .ret := by cases o <;> simp_all [AF]
       split at q
       ·rename_i k1 i1 hd hv hgt
        split at q
        ·rename_i o2 hlv
         exact ⟨ho', hd, ⟨_, hv⟩, k1, i1, o2, hgt, hlv, q⟩
        ·cases q
       ·cases q
      ·cases h
     ·cases h
    ·cases h
   | region id ops d =>
    cases d with
    | true =>
     simp only [cv] at h
     obtain ⟨h0, h⟩ := mh h
     have hd := He hR h0
     intro hn w0 ρ a w hg hr
     rcases AH hH h with ⟨s', ow', h1, h2, hst, h3⟩ | ⟨v, s', ow', m, o, h1, h2, ho, hC, hst, h3⟩
     ·obtain ⟨q1, q2⟩ := bL h1
      refine wpIn_mono (wpIn_region_any hm (v6 mj hd _ (FH hT hH.1 hH.2.2 hst (h3 (fj q1)) (Φ := fun o s' => K o s' = some x) q2 w0 ρ a w hr))) ?_
      rintro e a' w' ⟨o, s', k1, k2⟩
      exact ⟨o, s', k1, k2.less hn⟩
     ·obtain ⟨q1, q2⟩ := bL h1
      obtain ⟨s1, r1, r2⟩ := h3 (fj q1)
      refine wpIn_mono (wpIn_region_any hm (v6 mj hd _ (v7 hT hH.1 hH.2.2 ho hst hC r1 r2 (Φ := fun o s' => K o s' = some x) q2 w0 ρ a w hr))) ?_
      rintro e a' w' ⟨o, s', k1, k2⟩
      exact ⟨o, s', k1, k2.less hn⟩
    | false =>
     simp only [cv] at h
     obtain ⟨h0, h⟩ := mh h
     have hd := He hR h0
     cases hY0 : Y with
     | none =>
      subst hY0
      cases hno : y9 ops.toList with
      | some q =>
       rw [hno] at h
       refine AP hd fun hn w0 ρ a w hr => CX hT hH heq ?_ hn hr
       rw [hno]
       exact h
      | none =>
       rw [hno] at h
       simp only at h
       cases hany : ops.toList.any (QQ il) with
       | false =>
        rw [hany] at h
        simp only [cond_false] at h
        refine AP hd fun hn w0 ρ a w hr => CX hT hH heq ?_ hn hr
        rw [hno]
        exact h
       | true =>
        rw [hany] at h
        simp only [cond_true] at h
        refine AP hd fun hn w0 ρ a w hr => ?_
        have := K6 (P := P) (Q := fun e a' w' => ∃ o s', K o s' = some x ∧ db w0 ρ k o s' e a' w') (k := k) hT hH (x := x) (fun g vs σ kk hx => ?_) ops.toList [] ρ s a w (by simp) hr hn h (fun s' ρ' a' w' q1 q2 q3 q4 => ⟨.normal, s', q1, ⟨ρ', rfl, q2, q3, q4, by simp⟩⟩)
        ·rw [List.range_eq_range']
         simpa using this
        ·split at hx
         rotate_left
         ·cases hx
         rename_i fn hf
         split at hx
         rotate_left
         ·cases hx
         rename_i b hb
         refine ⟨⟨fn, hf, hN g fn hf, by rw [hb]; rfl⟩, fun w1 ρ1 w2 hr1 hs1 => ?_⟩
         have := tZ (R := fun r σ' => ∃ v, r = .ret v ∧ kk v σ' = some x) hT hf hb (σ := σ) (args := vs) ((ih' (inR := false) (r := none) (Y := none) (G := fun _ _ => True) (k := σ.next) b _ _ x (.inr fun _ _ _ h => by cases h) (.inr rfl) (fun _ _ _ _ _ => trivial) (fun y hy => by cases hy) hx).mono fun o s1 q => by
          split at q
          ·rename_i v σ' he
           exact ⟨.ret v, σ', he, v, rfl, q⟩
          ·cases q) w1 ρ1 w2 hr1 hs1
         refine this.mono ?_
         rintro e w' ⟨r1, σ', ρ', ⟨v, rfl, hk⟩, rfl, k4, k5⟩
         exact ⟨v, σ', ρ', hk, rfl, k4, k5⟩
     | some y =>
      subst hY0
      obtain ⟨rfl, hk, hy, rfl⟩ := hY y rfl
      cases hno : y9 ops.toList with
      | some q =>
       rw [hno] at h
       refine AP hd fun hn w0 ρ a w hr => CX hT hH heq ?_ hn hr
       rw [hno]
       exact h
      | none =>
       rw [hno] at h
       simp only at h
       intro hn w0 ρ a w hg hr
       refine wpIn_region ?_
       have := K5 (Q := fun e a' w' => ∃ o s', K o s' = some x ∧ db w0 ρ k o s' e a' w') hT hH hk hy (x := x) (fun vs σ kk hx l => ?_) ops.toList [] ρ s a w (by simp) hg hr hn h (fun s' ρ' a' w' q1 q2 q3 q4 => ⟨.normal, s', q1, ⟨ρ', rfl, q2, q3, q4, by simp⟩⟩) mj
       ·rw [List.range_eq_range']
        simpa using this
       ·refine (ih' (inR := true) (r := some l) (Y := none) (G := fun _ _ => True) (k := σ.next) y.assign _ _ x (.inl rfl) (.inl rfl) (fun _ _ _ _ _ => trivial) (fun y hy => by cases hy) hx).mono fun o s1 q => ?_
        cases o with
        | normal =>
         obtain ⟨q1, q⟩ := bL q
         refine ⟨rfl, jW q1, (ih' (inR := true) (r := some l) (Y := none) (G := fun _ _ => True) (k := σ.next) y.body _ _ x (.inl rfl) (.inl rfl) (fun _ _ _ _ _ => trivial) (fun y hy => by cases hy) q).mono fun o s2 q2 => ?_⟩
         obtain ⟨q3, q2⟩ := bL q2
         split at q2
         ·rename_i j hj
          exact ⟨jW q3, j.1, j.2, hj, q2⟩
         ·cases q2
        | exit i => cases q
        | goto i => cases q
        | ret => cases q
        | pan v => cases q
   | refuse w => simp [cv] at h
end
end Go.Ev
namespace Go.Ev
section
variable {P : Program}
end
structure RI where
 fd : Func
 id : Nat
 ops : Array Oper
 o0 : Oper
 o1 : Oper
 rest : Code
 t3 : Tmp
 t2 : Tmp
theorem KU {o : an} (h : AF o = true) : o = .normal ∨ o = .ret := by cases o <;> simp_all [AF]
section
variable {P : Program}
end
end Go.Ev
namespace Go.Ev
def eqF {X : Type} : X → X → Bool := fun _ _ => false
theorem KR {X : Type} : ∀ {x y : X}, eqF x y = true → x = y := fun h => by cases h
section
variable {P : Program} {T : av} {ch : CH} {A : qJ}
theorem FD.SL (d : FD) {w0 : W0} {ρ : Nat → Loc} {e : Ending} {w' : World} {x : d.X} {v : ab} {σ2 : Mem}
  (hS : shP (d.k + d.B.length) [some d.M] (dX d.k d.B) = true)
  (q2 : (mSt d.k (d.k + d.B.length) (d.F ⟨[v], [], σ2⟩) [some d.M] (dX d.k d.B) [] ⟨[v], [], σ2⟩).bind d.ofL = some x)
  (hc : ∃ ρ', e = sA ρ' (.ret v) ∧ bN w0 ρ d.k ρ' σ2 w' ∧ sc σ2.next v = true) :
  ∃ ρ', e = sA ρ' (.ret (d.val x)) ∧ bN w0 ρ d.k ρ' ⟨d.k + (d.aL x).length, cQ d.k (d.aL x)⟩ w' ∧ sc (d.k + (d.aL x).length) (d.val x) = true := by
 obtain ⟨ls, q3, q4⟩ := bE_ q2
 have hls := d.au _ _ q4
 subst hls
 have hcov := uS hS q3
 obtain ⟨ρ', k3, k4, k5⟩ := hc
 have hSR : bJ w0 ρ' ⟨[v], [], σ2⟩ { tmps := (γL ρ' [v]).toArray, defers := [] } w' :=
  ⟨k4.rel, rfl, by simp only [scL, Bool.and_true]; exact k5, rfl, by simp⟩
 obtain ⟨ρ2, c1, c2⟩ := hcov.2 w0 ρ' _ w' hSR
 have eB : (iB (dX d.k d.B) (iM [some d.M] (d.toL x)).2).1 = cQ d.k (d.aL x) := La
 have eM : (iM [some d.M] (d.toL x)).1 = [some (d.val x)] := rfl
 rw [iSt, eB, eM] at c1
 have hlen : (d.aL x).length = d.B.length := AU
 have e1 : γ ρ2 (d.val x) = γ ρ' v := by
  have := c1.tm
  simp only [bd, qN, γL, List.toArray_inj] at this
  have h2 := congrArg Array.toList this
  simp at h2
  exact h2.symm
 unfold mSt at q3
 split at q3
 ·rename_i hf0
  simp only [fOk, Bool.and_eq_true, beq_iff_eq] at hf0
  split at q3
  ·rename_i a b ha hb'
   simp only [shP, Bool.and_eq_true] at hS
   obtain ⟨M0, m1, m2⟩ := za (n := d.k + d.B.length) _ _ a ha hS.1
   obtain ⟨B1, b1, b2⟩ := Dq (n := d.k + d.B.length) _ b hb' hS.2
   simp only [Option.some.injEq] at q3
   have f1 : iM [some d.M] (a ++ b) = (M0, b) := m1 b
   have f2 : (iB (dX d.k d.B) b).1 = B1 := by have := b1 []; rw [List.append_nil] at this; rw [this]
   rw [q3] at f1
   have f3 : M0 = [some (d.val x)] := by rw [← eM, f1]
   have f4 : B1 = cQ d.k (d.aL x) := by rw [← eB, f1, ← f2]
   subst f3 f4
   have hsv : sc (d.k + d.B.length) (d.val x) = true := m2.2.1
   have hget : ∀ i b, (⟨d.k + (d.aL x).length, cQ d.k (d.aL x)⟩ : Mem).get i = some b → (bd (d.k + d.B.length) [some (d.val x)] (cQ d.k (d.aL x)) []).mem.get i = some b := fun i b h => h
   have R := c1.rel
   refine ⟨ρ2, by rw [k3]; simp only [sA, e1], ⟨R.weaken (fun i b hb _ => hget i b hb) ?_ ?_, fun i hi => (c2 i hi).trans (k4.ext i hi), by simp⟩, ?_⟩
   ·intro i b hb
    show i < d.k + (d.aL x).length
    rw [hlen]
    exact (b2 _ (mn hb)).1
   ·intro i b hb
    show scB (d.k + (d.aL x).length) b = true
    rw [hlen]
    exact Lb (R.sco i b (hget i b hb)) (b2 _ (mn hb)).2.2
   ·show sc (d.k + (d.aL x).length) (d.val x) = true
    rw [hlen]; exact hsv
  ·cases q3
 ·cases q3
def FD.J7 (d : FD) (T : av) (rs : List ResultVar) (o : an) (s : St) : Option d.X :=
 cond (AF o) (match iu (bZ d.pre s).df (bZ d.pre s).mem with
  | some σ' => PN T ⟨(bZ d.pre s).tm, [], σ'⟩ rs fun v => (mSt d.k (d.k + d.B.length) (d.F ⟨[v], [], σ'⟩) [some d.M] (dX d.k d.B) [] ⟨[v], [], σ'⟩).bind d.ofL
  | none => none) none
theorem FD.SF (hT : aY P T) (hH : aE P ch) (hm : P.follows .mixedOrders = true) (hN : ou P) (d : FD) {il : FuncId → Bool} {g : FuncId} {fn : Func} {c : Code} {fuel : Nat} {cargs : LA_} {B0 : List (Nat × ar)} {x : d.X}
  (hf : P.funcs[g]? = some fn) (hb : fn.body = some c) (hA : ∀ b ∈ bm c, ∀ la, A (dO b) = some la → cF P d.k la b)
  (hS : shP (d.k + d.B.length) [some d.M] (dX d.k d.B) = true)
  (hx : cv eqF P T ch il fuel A false none c (bC fn.ntmps cargs ⟨d.k, B0⟩) (d.J7 T fn.results.toList) = some x) :
  nE P g ∧ di P g cargs ⟨d.k, B0⟩ (.ret (d.val x)) ⟨d.k + (d.aL x).length, cQ d.k (d.aL x)⟩ := by
 have h1 := ya (r := none) (Y := none) (G := fun _ _ => True) (k := d.k) hT hH hm hN KR fuel c _ _ x (.inr hA) (.inr rfl) (fun _ _ _ _ _ => trivial) (fun y hy => by cases hy) hx
 have h2 : dq P d.k c (bC fn.ntmps cargs ⟨d.k, B0⟩) fun o s' => (o = .normal ∨ o = .ret) ∧ ∃ σ' v, iu s'.df s'.mem = some σ' ∧ gF T ⟨s'.tm, [], σ'⟩ fn.results.toList = some v ∧
   (mSt d.k (d.k + d.B.length) (d.F ⟨[v], [], σ'⟩) [some d.M] (dX d.k d.B) [] ⟨[v], [], σ'⟩).bind d.ofL = some x := by
  refine pn ?_
  intro hn w0 ρ a w hr
  refine wp_mono (h1.SK hn w0 ρ a w hr) ?_
  rintro e' a' w' ⟨o, s', q, ρ', r1, r2, r3, r4, r5⟩
  unfold FD.J7 at q
  obtain ⟨q1, q⟩ := bL q
  have ho : o = .normal ∨ o = .ret := KU q1
  split at q
  ·rename_i σ' ht
   obtain ⟨v, hv, q⟩ := CL q
   refine ⟨o, s', ⟨?_, bZ d.pre s', kC r4, ho, σ', v, ht, hv, q⟩, ⟨ρ', r1, r2, r3, r4, r5⟩⟩
   rintro v rfl
   rcases ho with h | h <;> cases h
  ·cases q
 refine ⟨⟨fn, hf, hN g fn hf, by rw [hb]; rfl⟩, ?_⟩
 intro w0 ρ w hr hs
 have := tZ (R := fun r σ' => ∃ v, r = .ret v ∧ (mSt d.k (d.k + d.B.length) (d.F ⟨[v], [], σ'⟩) [some d.M] (dX d.k d.B) [] ⟨[v], [], σ'⟩).bind d.ofL = some x) hT hf hb (σ := ⟨d.k, B0⟩) (args := cargs)
  ((ml h2).mono fun o s' q => by
   obtain ⟨ho, σ', v, ht, hv, q⟩ := q
   refine ⟨.ret v, σ', ?_, v, rfl, q⟩
   rcases ho with rfl | rfl <;> simp only [KV, ht, hv, Option.map_some]) w0 ρ w hr hs
 refine this.mono ?_
 rintro e w' ⟨r, σ', ρ', ⟨v, rfl, q⟩, k3, k4, k5⟩
 exact d.SL hS q ⟨ρ', k3, k4, k5⟩
end
end Go.Ev
namespace Go.Ev
section
variable {w0 : W0} {ρ ρ' : Nat → Loc} {σ σ' : Mem} {w w' : World}
def W0.frz (w0 : W0) (ρ : Nat → Loc) (σ : Mem) (w : World) (h : Rel w0 ρ σ w) : W0 :=
 ⟨w, fun k => w0.FC k ∨ ∃ i b, σ.get i = some b ∧ b.alive = true ∧ b.owned = false ∧ (ρ i).blk = k, fun k hk => by
  rcases hk with hk | ⟨i, b, h1, h2, _, rfl⟩
  ·exact Nat.lt_of_lt_of_le (w0.lt k hk) h.size
  ·exact h.inb i b h1 h2⟩
theorem Rel.frz (h : Rel w0 ρ σ w) : Rel (w0.frz ρ σ w h) ρ σ w := by
 refine h.start h.os h.tape h.output (Nat.le_refl _) ?_ fun _ _ => rfl
 intro i b hi ho
 rintro (hp | ⟨j, c, h1, h2, h3, h4⟩)
 ·exact h.own i b hi ho hp
 ·by_cases e : i = j
  ·subst e
   rw [hi] at h1
   cases h1
   rw [ho] at h3
   cases h3
  ·exact h.ap i j b c hi h1 e ho h2 h4.symm
theorem Rel.SJ (h : Rel w0 ρ σ w) (k : Rel (w0.frz ρ σ w h) ρ' σ' w') (he : ∀ i, i < σ.next → ρ' i = ρ i) {σ3 : Mem}
  (h3 : ∀ i b, σ3.get i = some b → b = .dead ∨ σ'.get i = some b ∨ (σ.get i = some b ∧ b.owned = false)) (hl : ∀ i b, σ3.get i = some b → i < σ3.next) (hs : ∀ i b, σ3.get i = some b → scB σ3.next b = true) : Rel w0 ρ' σ3 w' := by
 have eq : ∀ i b, σ.get i = some b → ρ' i = ρ i := fun i b hi => he i (h.lt i b hi)
 have held : ∀ i b, σ.get i = some b → b.alive = true → b.owned = false → w'.heap[(ρ i).blk]? = w.heap[(ρ i).blk]? := fun i b hi ha ho => k.old _ (.inr ⟨i, b, hi, ha, ho, rfl⟩)
 have src : ∀ i b, σ3.get i = some b → b.owned = true → σ'.get i = some b := by
  intro i b hi ho
  rcases h3 i b hi with rfl | q | ⟨_, q⟩
  ·cases ho
  ·exact q
  ·rw [ho] at q; cases q
 refine ⟨hl, hs, ?_, ?_, ?_, ?_, k.os.trans h.os, k.tape.trans h.tape, k.output.trans h.output, Nat.le_trans h.size k.size, fun p hp => (k.old p (.inl hp)).trans (h.old p hp)⟩
 ·intro i b hi
  rcases h3 i b hi with rfl | q | ⟨q, qo⟩
  ·trivial
  ·exact k.ok i b q
  ·rw [eq i b q]
   by_cases ha : b.alive = true
   ·exact dl he (held i b q ha qo) b (h.sco i b q) (h.ok i b q)
   ·exact ma ha (h.ok i b q)
 ·intro i b hi ha
  rcases h3 i b hi with rfl | q | ⟨q, qo⟩
  ·cases ha
  ·exact k.inb i b q ha
  ·rw [eq i b q]; exact Nat.lt_of_lt_of_le (h.inb i b q ha) k.size
 ·intro i j bi bj hi hj hne ho ha
  have qi := src i bi hi ho
  rcases h3 j bj hj with rfl | q | ⟨q, qo⟩
  ·cases ha
  ·exact k.ap i j bi bj qi q hne ho ha
  ·intro e
   exact k.own i bi qi ho (.inr ⟨j, bj, q, ha, qo, by rw [← eq j bj q]; exact e.symm⟩)
 ·intro i b hi ho
  intro hp
  exact k.own i b (src i b hi ho) ho (.inl hp)
end
abbrev RJ := Bool × (Nat → Int)
def Dj (σ σ' : Mem) (a b : Nat) : Bool := (upto σ.next 0).all fun i => Nat.beq i a || Nat.beq i b || (match σ.get i with
 | some B => cond B.owned (match σ'.get i with
  | some C => eqB B C
  | none => false) true
 | none => true)
theorem GM {σ σ' : Mem} {a b : Nat} (h : Dj σ σ' a b = true) {i : Nat} {B : ar} (hi : σ.get i = some B) (hl : i < σ.next) (ha : i ≠ a) (hb : i ≠ b) (ho : B.owned = true) : σ'.get i = some B := by
 unfold Dj at h
 rw [List.all_eq_true] at h
 have := h i (FG (Nat.zero_le _) (by omega))
 have nb : ∀ {x y : Nat}, x ≠ y → Nat.beq x y = false := fun {x y} hxy => by
  cases hc : Nat.beq x y with
  | false => rfl
  | true => exact absurd (Nat.eq_of_beq_eq_true hc) hxy
 rw [nb ha, nb hb, hi] at this
 simp only [Bool.false_or, ho, cond_true] at this
 split at this
 ·rename_i C hC
  rw [hC, NW this]
 ·cases this
def Dk (m : Nat) (d : Nat → Int) (v : ab) : LA_ := (upto m 0).map (fun i => .int .u64 (d i)) ++ [v]
def isU : Option ab → Bool
 | some (.int .u64 _) => true
 | _ => false
def Ot (v : ab) : Option ab → Bool
 | some u => aeq u v
 | none => false
def KO (m : Nat) (cs : LA_) (v : ab) : Bool := Nat.beq cs.length (m + 1) && (upto m 0).all (fun i => isU (cs[i]?)) && Ot v (cs[m]?)
theorem KP : ∀ {n i j : Nat}, j < n → (upto n i)[j]? = some (i + j)
 | 0, i, j, h => by omega
 | n + 1, i, 0, h => rfl
 | n + 1, i, j + 1, h => by
  simp only [upto, List.getElem?_cons_succ]
  rw [KP (by omega)]
  congr 1
  omega
theorem AD : ∀ (n i : Nat), (upto n i).length = n
 | 0, i => rfl
 | n + 1, i => by simp [upto, AD n (i + 1)]
theorem LT {m : Nat} {cs : LA_} {v : ab} (h : KO m cs v = true) : Dk m (fun i => ac cs i) v = cs := by
 simp only [KO, Bool.and_eq_true] at h
 obtain ⟨⟨h1, h2⟩, h3⟩ := h
 have hl := Nat.eq_of_beq_eq_true h1
 rw [List.all_eq_true] at h2
 apply List.ext_getElem?
 intro i
 unfold Dk
 rcases Nat.lt_or_ge i m with hi | hi
 ·rw [List.getElem?_append_left (by simp [AD]; exact hi), List.getElem?_map, KP hi]
  have := h2 i (FG (Nat.zero_le _) (by omega))
  unfold isU at this
  split at this
  ·rename_i z hz
   rw [hz]
   simp [ac, hz]
  ·cases this
 ·rw [List.getElem?_append_right (by simp [AD]; exact hi)]
  simp only [List.length_map, AD]
  rcases Nat.lt_or_ge m i with hi2 | hi2
  ·rw [List.getElem?_eq_none (by simp; omega), List.getElem?_eq_none (by omega)]
  ·obtain rfl : i = m := by omega
   unfold Ot at h3
   split at h3
   ·rename_i u hu
    rw [hu, vY _ _ h3]
    simp
   ·cases h3
def M7 : Option ar → Option (LA_)
 | some (.cells cs true none) => some cs
 | _ => none
theorem PB {b : Option ar} {cs : LA_} (h : M7 b = some cs) : b = some (.cells cs true none) := by
 unfold M7 at h
 split at h
 ·cases h; rfl
 ·cases h
def M8 (σ : Mem) (nm ro m : Nat) (v : ab) (o : an) (s : St) : Option RJ :=
 match o with
 | .normal => cond (qK 4 (s.mem.get nm) && Dj σ s.mem nm nm) (some (true, fun _ => 0)) none
 | .ret => cond (qK 4 (s.mem.get nm) && Dj σ s.mem nm ro) (match M7 (s.mem.get ro) with
  | some cs => cond (KO m cs v) (some (false, fun i => ac cs i)) none
  | none => none) none
 | _ => none
def KQ (P : Program) (T : av) (ch : CH) (il : FuncId → Bool) (n : Nat) (ro m : Nat) (y : qL) (vs : LA_) (σ : Mem) : Option RJ :=
 cv eqF P T ch il n bt true none y.assign ⟨kD y.ps.toList vs y.tm, [], σ⟩ fun o s1 => match o with
  | .normal => cond (qK 0 (s1.mem.get y.nm)) (cv eqF P T ch il n bt true none y.body ⟨s1.tm, s1.df, s1.mem.set y.nm (.ci 4 0)⟩ (M8 σ y.nm ro m (vs.headD .aO))) none
  | _ => none
def AE (σ : Mem) (nm ro m : Nat) (d : Nat → Int) (v : ab) : Mem := (σ.set ro (.cells (Dk m d v) true none)).set nm (.ci 1 0)
def QN (σ : Mem) (nm ro : Nat) (v : ab) : Bool := Nat.blt ro σ.next && !(Nat.beq ro nm) && sc σ.next v && v.fh
def uR {X : Type} (T : av) (ch : CH) (ro m : Nat) (y : qL) (rj : LA_ → Mem → Option RJ) (all : List Oper) : List Oper → St → (St → Option X) → Option X
  | [], s, k => k s
  | o :: r, s, k => match yieldOf y.nm s.tm o with
    | some vs => cond (gj all o s.tm) none (cond (bo all o s.tm)
      (cond (Nat.beq vs.length y.ps.size && qK 0 (s.mem.get y.nm) && QN s.mem y.nm ro (vs.headD .aO)) ((rj vs s.mem).bind fun q => cond q.1
        (uR T ch ro m y rj all r ⟨bR s.tm o.dst (.bool true), s.df, s.mem⟩ k)
        (uR T ch ro m y rj all r ⟨bR s.tm o.dst (.bool false), s.df, AE s.mem y.nm ro m q.2 (vs.headD .aO)⟩ k)) none)
      (uR T ch ro m y rj all r ⟨bR s.tm o.dst (.tup []), s.df, s.mem⟩ k))
    | none => runK T ch all [o] s .nil (fun s' w => cond (owB w) (uR T ch ro m y rj all r s' k) none) (fun _ _ _ => none)
def Mk (σ : Mem) (nm ro m : Nat) (v : ab) (q : RJ) (b : Bool) (σ' : Mem) : Prop :=
 ∃ s2 : Mem, (b = true ∧ q.1 = true ∧ Dj σ s2 nm nm = true ∧ σ' = s2.set nm (.ci 0 0)) ∨
  (b = false ∧ q.1 = false ∧ Dj σ s2 nm ro = true ∧ s2.get ro = some (.cells (Dk m q.2 v) true none) ∧ σ' = s2.set nm (.ci 1 0))
theorem PC {n m : Nat} {d : Nat → Int} {v : ab} (hc : v.fh = true) (hv : sc n v = true) : scC n (Dk m d v) = true := by
 unfold Dk
 generalize upto m 0 = l
 induction l with
 | nil => simp only [List.map_nil, List.nil_append, scC, hc, hv, Bool.and_self]
 | cons a l ih => simp only [List.map_cons, List.cons_append, scC, ab.fh, sc, Bool.true_and]; exact ih
section
variable {P : Program} {T : av} {ch : CH} {X : Type}
theorem PD (hT : aY P T) (hH : aE P ch) (hm : P.follows .mixedOrders = true) (hN : ou P) {il : FuncId → Bool} {n ro m : Nat} {y : qL} {vs : LA_} {σ : Mem} {q : RJ} (hq : KQ P T ch il n ro m y vs σ = some q) (l : Nat) :
  dZ (fun _ _ => True) (some l) P σ.next y.assign ⟨kD y.ps.toList vs y.tm, [], σ⟩ fun o s1 => o = .normal ∧ s1.mem.get y.nm = some (.ci 0 0) ∧
   dZ (fun _ _ => True) (some l) P σ.next y.body ⟨s1.tm, s1.df, s1.mem.set y.nm (.ci 4 0)⟩ fun o s2 => s2.mem.get y.nm = some (.ci 4 0) ∧ ∃ k i, xc o = some (k, i) ∧ Mk σ y.nm ro m (vs.headD .aO) q (Nat.beq k 0) (s2.mem.set y.nm (.ci k i)) := by
 unfold KQ at hq
 refine (ya (inR := true) (r := some l) (Y := none) (G := fun _ _ => True) (k := σ.next) hT hH hm hN KR n y.assign _ _ q (.inl rfl) (.inl rfl) (fun _ _ _ _ _ => trivial) (fun y hy => by cases hy) hq).mono fun o s1 h => ?_
 cases o with
 | normal =>
  obtain ⟨h1, h⟩ := bL h
  refine ⟨rfl, jW h1, (ya (inR := true) (r := some l) (Y := none) (G := fun _ _ => True) (k := σ.next) hT hH hm hN KR n y.body _ _ q (.inl rfl) (.inl rfl) (fun _ _ _ _ _ => trivial) (fun y hy => by cases hy) h).mono fun o s2 h2 => ?_⟩
  cases o with
  | normal =>
   simp only [M8] at h2
   obtain ⟨h3, h2⟩ := bL h2
   rw [Bool.and_eq_true] at h3
   cases h2
   exact ⟨jW h3.1, 0, 0, rfl, s2.mem, .inl ⟨rfl, rfl, h3.2, rfl⟩⟩
  | ret =>
   simp only [M8] at h2
   obtain ⟨h3, h2⟩ := bL h2
   rw [Bool.and_eq_true] at h3
   split at h2
   ·rename_i cs hcs
    obtain ⟨h4, h2⟩ := bL h2
    cases h2
    refine ⟨jW h3.1, 1, 0, rfl, s2.mem, .inr ⟨rfl, rfl, h3.2, ?_, rfl⟩⟩
    rw [PB hcs, LT h4]
   ·cases h2
  | exit i => cases h2
  | goto i => cases h2
  | pan v => cases h2
 | exit i => cases h
 | goto i => cases h
 | ret => cases h
 | pan v => cases h
theorem Jb (hT : aY P T) (hH : aE P ch) (hm : P.follows .mixedOrders = true) (hN : ou P) {il : FuncId → Bool} {n ro m : Nat} {y : qL} {k : Nat} (hk : y.nm < k) (hy : scL k y.tm = true) {x : X}
  {ops : Array Oper} {K : St → Option X} {w0 : W0} {Q : Exit → Act → World → Prop} : ∀ (l pre : List Oper) (ρ : Nat → Loc) (s : St) (a : Act) (w : World), ops.toList = pre ++ l → yG y w0 ρ → bJ w0 ρ s a w → k ≤ s.mem.next →
   uR T ch ro m y (KQ P T ch il n ro m y) ops.toList l s K = some x →
   (∀ s' ρ' a' w', K s' = some x → bJ w0 ρ' s' a' w' → (∀ i, i < k → ρ' i = ρ i) → k ≤ s'.mem.next → Q .normal a' w') → ¬ LetsOut Q → wpOpsIn (FW none) 0 P ops Q (List.range' pre.length l.length) a w
 | [], pre, ρ, s, a, w, he, hG, h, hn, hx, hK, hQ => by
  simp only [uR] at hx
  exact hK s ρ a w hx h (fun _ _ => rfl) hn
 | o :: l, pre, ρ, s, a, w, he, hG, h, hn, hx, hK, hQ => by
  rw [List.length_cons, List.range'_succ, wpOpsIn_cons]
  have hi : ops[pre.length]? = some o := by
   rw [← Array.getElem?_toList, he, List.getElem?_append_right (Nat.le_refl _)]; simp
  have next : ∀ (s1 : St) (ρ1 : Nat → Loc) (a1 : Act) (w1 : World), bJ w0 ρ1 s1 a1 w1 → (∀ i, i < k → ρ1 i = ρ i) → k ≤ s1.mem.next → uR T ch ro m y (KQ P T ch il n ro m y) ops.toList l s1 K = some x → wpOpsIn (FW none) 0 P ops Q (List.range' (pre.length + 1) l.length) a1 w1 := by
   intro s1 ρ1 a1 w1 h1 e1 l1 hx1
   have := Jb hT hH hm hN hk hy l (pre ++ [o]) ρ1 s1 a1 w1 (by simp [he]) (J6 hk hy w0 ρ ρ1 e1 hG) h1 l1 hx1 (fun s' ρ' a' w' q1 q2 q3 q4 => hK s' ρ' a' w' q1 q2 (fun i hi => (q3 i hi).trans (e1 i hi)) q4) hQ
   simpa using this
  simp only [uR] at hx
  split at hx
  ·rename_i vs hvs
   obtain ⟨hg, hx⟩ := mh hx
   have hw : Region.wanted o (yielded ops a.tmps) = bo ops.toList o s.tm := by rw [h.tm]; exact th hg
   unfold wpOpIn
   simp only [hi]
   rw [hw]
   cases hwa : bo ops.toList o s.tm with
   | true =>
    rw [hwa] at hx
    simp only [cond_true, if_true] at hx ⊢
    obtain ⟨hlen, hx⟩ := bL hx
    simp only [Bool.and_eq_true] at hlen
    obtain ⟨⟨hlen, hturn⟩, hout⟩ := hlen
    obtain ⟨q, hq, hx⟩ := bE_ hx
    obtain ⟨fid, D, g1, g3⟩ := hG
    obtain ⟨hex, hsv, hnd⟩ := GN (P := P) h hvs g1
    have hfz := h.rel.frz
    obtain ⟨r1, r2⟩ := Jc (Ψ := Mk s.mem y.nm ro m (vs.headD .aO) q) (Nat.eq_of_beq_eq_true hlen) hn hk hsv hy (PD hT hH hm hN hq) (jW hturn) hfz g3
    refine ⟨fun _ _ => trivial, ?_⟩
    have e : Oper.semAt (FW none).round a.eval o = execOp a.eval o := rfl
    rw [e, hex, r1]
    refine ⟨fun hh => (by cases hh), r2.mono ?_⟩
    rintro e' w' ⟨b, rfl, ρ', σ', ⟨s2, hΨ⟩, hp⟩
    have hgt := jW hturn
    rcases hΨ with ⟨rfl, hq1, hkeep, rfl⟩ | ⟨rfl, hq1, hkeep, hro, rfl⟩
    ·rw [hq1] at hx
     have R : Rel w0 ρ' s.mem w' := by
      refine h.rel.SJ hp.rel hp.ext (fun i b hb => ?_) h.rel.lt h.rel.sco
      by_cases e1 : i = y.nm
      ·subst e1
       rw [hgt] at hb
       cases hb
       exact .inr (.inl (by rw [aF, if_pos rfl]))
      ·cases ho : b.owned with
       | false => exact .inr (.inr ⟨hb, by first | rfl | exact ho⟩)
       | true => exact .inr (.inl (by rw [aF, if_neg (Ne.symm e1)]; exact GM hkeep hb (h.rel.lt i b hb) e1 e1 ho))
     have hp3 : bN w0 ρ s.mem.next ρ' s.mem w' := ⟨R, hp.ext, Nat.le_refl _⟩
     exact next _ ρ' _ w' ((h.congr hp3).put (v := .bool true) (by simp [sc]) o.dst) (fun i hi => hp.ext i (by omega)) hn hx
    ·rw [hq1] at hx
     simp only [QN, Bool.and_eq_true, Bool.not_eq_true'] at hout
     obtain ⟨⟨⟨o1, o2⟩, o3⟩, o4⟩ := hout
     have o1' : ro < s.mem.next := by simpa [Nat.blt_eq] using o1
     have o2' : ro ≠ y.nm := by intro e; rw [e] at o2; simp at o2
     have hnm : y.nm < s.mem.next := by omega
     have R : Rel w0 ρ' (AE s.mem y.nm ro m q.2 (vs.headD .aO)) w' := by
      refine h.rel.SJ hp.rel hp.ext (fun i b hb => ?_) (fun i b hb => ?_) (fun i b hb => ?_)
      ·unfold AE at hb
       rw [aF, aF] at hb
       split at hb
       ·rename_i e1
        subst e1
        cases hb
        exact .inr (.inl (by rw [aF, if_pos rfl]))
       ·rename_i e1
        split at hb
        ·rename_i e2
         subst e2
         cases hb
         exact .inr (.inl (by rw [aF, if_neg e1]; exact hro))
        ·rename_i e2
         cases ho : b.owned with
         | false => exact .inr (.inr ⟨hb, by first | rfl | exact ho⟩)
         | true => exact .inr (.inl (by rw [aF, if_neg e1]; exact GM hkeep hb (h.rel.lt i b hb) (Ne.symm e1) (Ne.symm e2) ho))
      ·unfold AE at hb ⊢
       rw [aF, aF] at hb
       simp only [en]
       split at hb
       ·rename_i e1; omega
       ·split at hb
        ·omega
        ·exact h.rel.lt i b hb
      ·unfold AE at hb ⊢
       rw [aF, aF] at hb
       simp only [en]
       split at hb
       ·cases hb; rfl
       ·split at hb
        ·cases hb; exact PC o4 o3
        ·exact h.rel.sco i b hb
     have hp3 : bN w0 ρ s.mem.next ρ' (AE s.mem y.nm ro m q.2 (vs.headD .aO)) w' := ⟨R, hp.ext, by simp [AE]⟩
     exact next _ ρ' _ w' ((h.congr hp3).put (v := .bool false) (by simp [sc]) o.dst) (fun i hi => hp.ext i (by omega)) (by show k ≤ (AE s.mem y.nm ro m q.2 (vs.headD .aO)).next; simp [AE]; omega) hx
   | false =>
    rw [hwa] at hx
    simp only [cond_false, Bool.false_eq_true, if_false] at hx ⊢
    refine ⟨fun _ _ => trivial, ?_⟩
    rw [mg ρ]
    exact next _ ρ _ w (h.put (v := .tup []) (by simp [sc, scL]) o.dst) (fun _ _ => rfl) hn hx
  ·rcases iP hx with ⟨s', ow', h1, h2, h3⟩ | ⟨v, s', ow', h1, _⟩
   ·obtain ⟨q1, q2⟩ := bL h1
    have hro := h3 (fj q1)
    simp only [dY] at hro
    have hst : dr T ch.H ops.toList o s = some (.go s') := by
     cases hs : dr T ch.H ops.toList o s with
     | none => rw [hs] at hro; cases hro
     | some q =>
      rw [hs] at hro
      cases q with
      | go s1 => simpa [dY] using hro
      | pan v s1 => simp at hro
    refine Dl (K := fun a w => wpOpsIn (FW none) 0 P ops Q (List.range' (pre.length + 1) l.length) a w) hQ (.inr rfl) (fun _ _ q => q) (eY hT hH.1 h hi hst ?_)
    intro ρ1 a1 w1 h1' e1 l1
    exact next s' ρ1 a1 w1 h1' (fun i hi => e1 i (by omega)) (by omega) q2
   ·cases h1
def dF (P : Program) (T : av) (ch : CH) (il : FuncId → Bool) (ro m : Nat) : Nat → Option qL → Code → St → (an → St → Option X) → Option X
  | 0, _, _, _, _ => none
  | n + 1, Y, c, s, K =>
    match c with
    | .seq a b => dF P T ch il ro m n Y a s fun o s' => match o with
      | .normal => dF P T ch il ro m n Y b s' K
      | o => K o s'
    | .cond c a b => match ev s.tm c with
      | some (.bool true) => dF P T ch il ro m n Y a s K
      | some (.bool false) => dF P T ch il ro m n Y b s K
      | _ => none
    | .block id b => dF P T ch il ro m n Y b s fun o s' => match o with
      | .exit i => if i = id then K .normal s' else K (.exit i) s'
      | o => K o s'
    | .loop b => dF P T ch il ro m n Y b s fun o s' => match o with
      | .normal => dF P T ch il ro m n Y (.loop b) s' K
      | o => K o s'
    | .rangeFunc g ps a b => match ev s.tm g with
      | some (.func f [] cs) => match P.funcs[f]? with
        | some fn => match fn.body with
          | some c => dF P T ch il ro m n (some ⟨s.mem.next + 1, ps, a, b, s.tm⟩) c (bC fn.ntmps (.dD (s.mem.next + 1) :: cs) ((s.mem.push .jJ).push (.ci 0 0))) fun o s' => cond (AF o)
            (match s'.df, gF T s' fn.results.toList, s'.mem.get (s.mem.next + 1) with
              | [], some _, some (.ci k i) => (match v5 k i with
                | some o2 => K o2 ⟨s.tm, ⟨w8, [.dD s.mem.next], []⟩ :: s.df, s'.mem.set (s.mem.next + 1) .dead⟩
                | none => none)
              | _, _, _ => none) none
          | none => none
        | none => none
      | _ => none
    | .region _ ops false => match Y with
      | some y => uR T ch ro m y (KQ P T ch il n ro m y) ops.toList ops.toList s (K .normal)
      | none => runK T ch ops.toList ops.toList s .nil (fun s' w => cond (owB w) (K .normal s') none) (fun v s' w => cond (owB w) (K (.pan v) s') none)
    | .region _ ops true => AG T ch ops.toList s .nil (fun s' w => cond (owB w) (K .normal s') none) (fun v s' w => cond (owB w) (K (.pan v) s') none)
    | .skip => K .normal s
    | .label _ => K .normal s
    | .exit id => K (.exit id) s
    | .ret => K .ret s
    | _ => none
theorem LU (hT : aY P T) (hH : aE P ch) (hm : P.follows .mixedOrders = true) (hN : ou P) {il : FuncId → Bool} {ro m : Nat} :
  ∀ (n : Nat) {Y : Option qL} {G : W0 → (Nat → Loc) → Prop} {k : Nat} (c : Code) (s : St) (K : an → St → Option X) (x : X), GOk k G →
   (∀ y, Y = some y → G = yG y ∧ y.nm < k ∧ scL k y.tm = true) → dF P T ch il ro m n Y c s K = some x → dZ G none P k c s fun o s' => K o s' = some x := by
 intro n
 induction n using Nat.strongRecOn with
 | _ n ih =>
  cases n with
  | zero => intro Y G k c s K x _ _ h; simp [dF] at h
  | succ n =>
   intro Y G k c s K x hG hY h
   have ih' := @ih n (Nat.lt_succ_self n)
   cases c with
   | skip => exact Jd (by simpa only [dF] using h)
   | label l => exact GO (by simpa only [dF] using h)
   | exit l => exact Je (by simpa only [dF] using h)
   | goto l => simp [dF] at h
   | ret => exact KS (by simpa only [dF] using h)
   | seq a b =>
    simp only [dF] at h
    refine KT hG ((ih' a s _ x hG hY h).mono fun o s' q => ?_)
    cases o with
    | normal => exact ih' b s' K x hG hY q
    | exit i => exact q
    | goto i => exact q
    | ret => exact q
    | pan v => exact q
   | cond c a b =>
    simp only [dF] at h
    split at h
    ·rename_i hc; exact xd hc (ih' a s K x hG hY h)
    ·rename_i hc; exact xd hc (ih' b s K x hG hY h)
    ·cases h
   | block id b =>
    simp only [dF] at h
    refine GP ((ih' b s _ x hG hY h).mono fun o s' q => ?_)
    cases o with
    | exit i =>
     simp only [an.inBlock] at q ⊢
     split at q
     ·rename_i e; rw [if_pos e]; exact q
     ·rename_i e; rw [if_neg e]; exact q
    | normal => exact q
    | goto i => exact q
    | ret => exact q
    | pan v => exact q
   | scope b => simp [dF] at h
   | loop b =>
    have key : ∀ (j : Nat), j ≤ n + 1 → ∀ (s : St), dF P T ch il ro m j Y (.loop b) s K = some x → k ≤ s.mem.next → ∀ w0 ρ a w, G w0 ρ → bJ w0 ρ s a w →
      Code.roundsIn (FW none) 0 P b (fun e a' w' => ∃ o s', K o s' = some x ∧ db w0 ρ k o s' e a' w') j a w := by
     intro j
     induction j with
     | zero => intro _ s h; simp [dF] at h
     | succ j ihm =>
      intro hmn s h hn w0 ρ a w hg hr
      simp only [dF] at h
      have h1 := ih j (by omega) b s _ x hG hY h hn w0 ρ a w hg hr
      rw [roundsIn_succ]
      refine wpIn_mono h1 ?_
      rintro e a' w' ⟨o, s', q, ⟨ρ', rfl, h2, h3, h4, h5⟩⟩
      cases o with
      | normal =>
       refine tY ?_ j (ihm (by omega) s' q h4 w0 ρ' a' w' (hG w0 ρ ρ' h3 hg) h2)
       rintro e a w ⟨o, s', q1, q2⟩
       exact ⟨o, s', q1, q2.step h3⟩
      | exit i => exact ⟨_, s', q, ⟨ρ', rfl, h2, h3, h4, h5⟩⟩
      | goto i => exact ⟨_, s', q, ⟨ρ', rfl, h2, h3, h4, h5⟩⟩
      | ret => exact ⟨_, s', q, ⟨ρ', rfl, h2, h3, h4, h5⟩⟩
      | pan v => exact ⟨_, s', q, ⟨ρ', rfl, h2, h3, h4, h5⟩⟩
    intro hn w0 ρ a w hg hr
    exact wpIn_loop_rounds (n + 1) (key (n + 1) (Nat.le_refl _) s h hn w0 ρ a w hg hr)
   | rangeFunc g ps a b =>
    simp only [dF] at h
    split at h
    ·rename_i f cs hg
     split at h
     ·rename_i fn hf
      split at h
      ·rename_i c hb
       refine y8 hT hg hf hb ⟨fn, hf, hN f fn hf, by rw [hb]; rfl⟩ fun hst => ?_
       have hsc : scL (s.mem.next + 2) s.tm = true := cz (by omega) _ hst
       refine (ih' (k := s.mem.next + 2) (G := yG ⟨s.mem.next + 1, ps, a, b, s.tm⟩) c _ _ x (J6 (by show s.mem.next + 1 < s.mem.next + 2; omega) hsc) (fun y hy => by
        cases hy
        exact ⟨rfl, by show s.mem.next + 1 < s.mem.next + 2; omega, hsc⟩) h).mono fun o s' q => ?_
       obtain ⟨ho, q⟩ := bL q
       have ho' : o = .normal ∨ o = .ret := by cases o <;> simp_all [AF]
       split at q
       ·rename_i k1 i1 hd hv hgt
        split at q
        ·rename_i o2 hlv
         exact ⟨ho', hd, ⟨_, hv⟩, k1, i1, o2, hgt, hlv, q⟩
        ·cases q
       ·cases q
      ·cases h
     ·cases h
    ·cases h
   | region id ops d =>
    cases d with
    | true =>
     simp only [dF] at h
     have hd : (∀ o ∈ ops.toList, mS o.op = false) ∨ (none : Option Nat) = none := .inr rfl
     intro hn w0 ρ a w hg hr
     rcases AH hH h with ⟨s', ow', h1, h2, hst, h3⟩ | ⟨v, s', ow', m, o, h1, h2, ho, hC, hst, h3⟩
     ·obtain ⟨q1, q2⟩ := bL h1
      refine wpIn_mono (wpIn_region_any hm (v6 mj hd _ (FH hT hH.1 hH.2.2 hst (h3 (fj q1)) (Φ := fun o s' => K o s' = some x) q2 w0 ρ a w hr))) ?_
      rintro e a' w' ⟨o, s', k1, k2⟩
      exact ⟨o, s', k1, k2.less hn⟩
     ·obtain ⟨q1, q2⟩ := bL h1
      obtain ⟨s1, r1, r2⟩ := h3 (fj q1)
      refine wpIn_mono (wpIn_region_any hm (v6 mj hd _ (v7 hT hH.1 hH.2.2 ho hst hC r1 r2 (Φ := fun o s' => K o s' = some x) q2 w0 ρ a w hr))) ?_
      rintro e a' w' ⟨o, s', k1, k2⟩
      exact ⟨o, s', k1, k2.less hn⟩
    | false =>
     simp only [dF] at h
     cases hY0 : Y with
     | none =>
      subst hY0
      simp only at h
      rcases iP h with ⟨s', ow', h1, h2, h3⟩ | ⟨v, s', ow', h1, h2, h3⟩
      ·obtain ⟨q1, q2⟩ := bL h1
       intro hn w0 ρ a w hg hr
       have := ml (G := fun _ _ => True) (n := s.mem.next) (uQ (id := id) (ops := ops) hT hH.1 (h3 (fj q1)) (Φ := fun o1 s1 => K o1 s1 = some x) q2).v9
       exact wpIn_mono (this (Nat.le_refl _) w0 ρ a w trivial hr) (by rintro e a' w' ⟨o, s1, k1, k2⟩; exact ⟨o, s1, k1, k2.less hn⟩)
      ·obtain ⟨q1, q2⟩ := bL h1
       intro hn w0 ρ a w hg hr
       have := ml (G := fun _ _ => True) (n := s.mem.next) (uQ (id := id) (ops := ops) hT hH.1 (h3 (fj q1)) (Φ := fun o1 s1 => K o1 s1 = some x) q2).v9
       exact wpIn_mono (this (Nat.le_refl _) w0 ρ a w trivial hr) (by rintro e a' w' ⟨o, s1, k1, k2⟩; exact ⟨o, s1, k1, k2.less hn⟩)
     | some y =>
      subst hY0
      obtain ⟨rfl, hk, hy⟩ := hY y rfl
      simp only at h
      intro hn w0 ρ a w hg hr
      refine wpIn_region ?_
      have := Jb (Q := fun e a' w' => ∃ o s', K o s' = some x ∧ db w0 ρ k o s' e a' w') hT hH hm hN hk hy (x := x) ops.toList [] ρ s a w (by simp) hg hr hn h (fun s' ρ' a' w' q1 q2 q3 q4 => ⟨.normal, s', q1, ⟨ρ', rfl, q2, q3, q4, by simp⟩⟩) mj
      rw [List.range_eq_range']
      simpa using this
   | refuse w => simp [dF] at h
theorem FD.MT (hT : aY P T) (hH : aE P ch) (hm : P.follows .mixedOrders = true) (hN : ou P) (d : FD) {il : FuncId → Bool} {ro m : Nat} {g : FuncId} {fn : Func} {c : Code} {fuel : Nat} {cargs : LA_} {B0 : List (Nat × ar)} {x : d.X}
  (hf : P.funcs[g]? = some fn) (hb : fn.body = some c)
  (hS : shP (d.k + d.B.length) [some d.M] (dX d.k d.B) = true)
  (hx : dF P T ch il ro m fuel none c (bC fn.ntmps cargs ⟨d.k, B0⟩) (d.J7 T fn.results.toList) = some x) :
  nE P g ∧ di P g cargs ⟨d.k, B0⟩ (.ret (d.val x)) ⟨d.k + (d.aL x).length, cQ d.k (d.aL x)⟩ := by
 have h1 := LU (Y := none) (G := fun _ _ => True) (k := d.k) hT hH hm hN fuel c _ _ x (fun _ _ _ _ _ => trivial) (fun y hy => by cases hy) hx
 have h2 : dq P d.k c (bC fn.ntmps cargs ⟨d.k, B0⟩) fun o s' => (o = .normal ∨ o = .ret) ∧ ∃ σ' v, iu s'.df s'.mem = some σ' ∧ gF T ⟨s'.tm, [], σ'⟩ fn.results.toList = some v ∧
   (mSt d.k (d.k + d.B.length) (d.F ⟨[v], [], σ'⟩) [some d.M] (dX d.k d.B) [] ⟨[v], [], σ'⟩).bind d.ofL = some x := by
  refine pn ?_
  intro hn w0 ρ a w hr
  refine wp_mono (h1.SK hn w0 ρ a w hr) ?_
  rintro e' a' w' ⟨o, s', q, ρ', r1, r2, r3, r4, r5⟩
  unfold FD.J7 at q
  obtain ⟨q1, q⟩ := bL q
  have ho : o = .normal ∨ o = .ret := KU q1
  split at q
  ·rename_i σ' ht
   obtain ⟨v, hv, q⟩ := CL q
   refine ⟨o, s', ⟨?_, bZ d.pre s', kC r4, ho, σ', v, ht, hv, q⟩, ⟨ρ', r1, r2, r3, r4, r5⟩⟩
   rintro v rfl
   rcases ho with h | h <;> cases h
  ·cases q
 refine ⟨⟨fn, hf, hN g fn hf, by rw [hb]; rfl⟩, ?_⟩
 intro w0 ρ w hr hs
 have := tZ (R := fun r σ' => ∃ v, r = .ret v ∧ (mSt d.k (d.k + d.B.length) (d.F ⟨[v], [], σ'⟩) [some d.M] (dX d.k d.B) [] ⟨[v], [], σ'⟩).bind d.ofL = some x) hT hf hb (σ := ⟨d.k, B0⟩) (args := cargs)
  ((ml h2).mono fun o s' q => by
   obtain ⟨ho, σ', v, ht, hv, q⟩ := q
   refine ⟨.ret v, σ', ?_, v, rfl, q⟩
   rcases ho with rfl | rfl <;> simp only [KV, ht, hv, Option.map_some]) w0 ρ w hr hs
 refine this.mono ?_
 rintro e w' ⟨r, σ', ρ', ⟨v, rfl, q⟩, k3, k4, k5⟩
 exact d.SL hS q ⟨ρ', k3, k4, k5⟩
end
end Go.Ev
