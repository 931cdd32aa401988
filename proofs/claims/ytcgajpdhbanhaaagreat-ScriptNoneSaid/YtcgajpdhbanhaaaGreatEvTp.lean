import Derived.Test.YtcgajpdhbanhaaaGreatEvFc
import Derived.Test.YtcgajpdhbanhaaaGreatEvR
namespace Go.Ev
open Go.ChangeShapes Go.WideShapes Go.ChangeAt Go.RowKit Go.Deep
set_option linter.unusedVariables false
def eqU : Unit → Unit → Bool := fun _ _ => true
theorem eqU_eq : ∀ {x y : Unit}, eqU x y = true → x = y := fun _ => rfl
def trueK (T : TTab) (rs : List ResultVar) (o : AOut) (s : St) : Option Unit :=
  match endA T rs o s with
  | some (.ret (.bool true), _) => some ()
  | _ => none
theorem row_of_run {P : Program} {T : TTab} {ch : CH} (hT : TabOk P T) (hm : P.follows .mixedOrders = true) (hl : CHOk P ch) {g : FuncId} {fn : Func} {c : Code} (hf : P.funcs[g]? = some fn) (hb : fn.body = some c)
    {fuel : Nat} {args : List AVal} {σ : Mem} {w : World} {ρ : Nat → Loc} (R : Rel (W0.all w) ρ σ w) (hs : scL σ.next args = true)
    (h : evalN eqU T ch fuel c (initSt fn.ntmps args σ) (trueK T fn.results.toList) = some ()) : Calls P g (γL ρ args).toArray w fun e w' => e = .returned (.bool true) ∧ Below w.heap.size w w' := by
  have hA := (evalN_sound (k := σ.next) hT hl hm eqU_eq fuel c _ _ () h)
  have := call_of_body (R := fun r _ => r = .ret (.bool true)) hT hf hb (σ := σ) (args := args) ((AWPn.to_awp (s := initSt fn.ntmps args σ) hA).mono fun o s q => by
    unfold trueK at q
    split at q
    · rename_i σ' he
      exact ⟨_, σ', he, rfl⟩
    · cases q) (W0.all w) ρ w R hs
  refine this.mono ?_
  rintro e w' ⟨r, σ', ρ', rfl, rfl, k, _⟩
  exact ⟨rfl, k.rel.os, k.rel.tape, k.rel.output, k.rel.size, fun q hq => k.rel.old q hq⟩
def zOf (l : List Value) (i : Nat) : Int := match l[i]? with
  | some (.int _ z) => z
  | _ => 0
def sOf (l : List Value) (i : Nat) : Option Addr × Nat × Nat := match l[i]? with
  | some (.slice a b c) => (a, b, c)
  | _ => (none, 0, 0)
def valsO (Z : Nat → Int) (S : Nat → Option Addr × Nat × Nat) (B : Nat → ByteArray) : List Nat → Nat → List Value
  | [], _ => []
  | 0 :: r, i => .int .i64 (Z i) :: valsO Z S B r (i + 1)
  | 1 :: r, i => .slice (S i).1 (S i).2.1 (S i).2.2 :: valsO Z S B r (i + 1)
  | _ :: r, i => .string (B i) :: valsO Z S B r (i + 1)
def tsO (P : Program) : List TypeId → List Nat → Bool
  | [], [] => true
  | u :: ts, k :: ks => (match P.underlying u with
    | some (.int .i64) => Nat.beq k 0
    | some (.slice _) => Nat.beq k 1
    | some .string => Nat.beq k 2
    | _ => false) && tsO P ts ks
  | _, _ => false
def bOf (l : List Value) (i : Nat) : ByteArray := match l[i]? with
  | some (.string s) => s
  | _ => ByteArray.empty
theorem valsO_eq {P : Program} {w : World} {r : Reach} {b0 : Nat} {l0 : List Value} : ∀ {ts : List TypeId} {ks : List Nat} {l : List Value} {i : Nat}, tsO P ts ks = true → l.length = ts.length → (∀ (j : Nat) (v : Value), l[j]? = some v → l0[i + j]? = some v) →
    (∀ (j : Nat) (v : Value), l[j]? = some v → ∃ u, ts[j]? = some u ∧ Cell.okWide P w r b0 u v) → l = valsO (zOf l0) (sOf l0) (bOf l0) ks i
  | [], [], [], _, _, _, _, _ => rfl
  | [], _ :: _, _, _, h, _, _, _ => by simp [tsO] at h
  | _ :: _, [], _, _, h, _, _, _ => by simp [tsO] at h
  | [], [], _ :: _, _, _, h, _, _ => by simp at h
  | _ :: _, _ :: _, [], _, _, h, _, _ => by simp at h
  | u :: ts, k :: ks, v :: l, i, h, hn, h0, hv => by
    simp only [tsO, Bool.and_eq_true] at h
    have ih := valsO_eq (w := w) (r := r) (b0 := b0) (l0 := l0) (i := i + 1) h.2 (l := l) (by simpa using hn) (fun j x hx => by
      have := h0 (j + 1) x (by simpa using hx)
      rw [show i + 1 + j = i + (j + 1) by omega]; exact this) (fun j x hx => by
      obtain ⟨u', q1, q2⟩ := hv (j + 1) x (by simpa using hx)
      exact ⟨u', by simpa using q1, q2⟩)
    obtain ⟨u', q1, q2⟩ := hv 0 v rfl
    simp only [List.getElem?_cons_zero, Option.some.injEq] at q1
    subst q1
    have hi : l0[i]? = some v := by simpa using h0 0 v rfl
    have h1 := h.1
    split at h1
    · rename_i hu
      obtain rfl := Nat.eq_of_beq_eq_true h1
      obtain ⟨n, rfl⟩ := Go.WideShapes.okWide_int hu (by unfold Value.okWide; rw [hu]; exact q2)
      simp only [valsO, zOf, hi]
      rw [← ih]
    · rename_i e hu
      obtain rfl := Nat.eq_of_beq_eq_true h1
      obtain ⟨a, len, cap, rfl⟩ := Go.WideShapes.okWide_slice hu (by unfold Value.okWide; rw [hu]; exact q2)
      simp only [valsO, sOf, hi]
      rw [← ih]
    · rename_i hu
      obtain rfl := Nat.eq_of_beq_eq_true h1
      obtain ⟨s, rfl⟩ := Go.WideShapes.okWide_string hu (by unfold Value.okWide; rw [hu]; exact q2)
      simp only [valsO, bOf, hi]
      rw [← ih]
    · cases h1
theorem open_valsO {P : Program} {w : World} {r : Reach} {b0 : Nat} {t : TypeId} {fs : Array Field} {ts : List TypeId} {ks : List Nat} {v : Value} (ht : P.underlying t = some (.struct fs)) (hc : P.cellTypes P.depth t = some ts) (hn : P.cellsOf t = ts.length)
    (hk : tsO P ts ks = true) (hv : Value.okWide P w r b0 t v) : ∃ Z S B, v = .agg (valsO Z S B ks 0).toArray := by
  unfold Value.okWide at hv
  rw [ht] at hv
  obtain ⟨cs, rfl, hsz, ts', h1, _, h2⟩ := hv
  rw [hc] at h1
  obtain rfl : ts = ts' := by simpa using h1
  obtain ⟨l⟩ := cs
  have hl : l.length = ts.length := by simpa [hn] using hsz
  have := valsO_eq (l0 := l) (l := l) (i := 0) hk hl (fun j v h => by simpa using h) (fun j v h => by
    obtain ⟨u, q1, q2⟩ := h2 j v (by simpa using h)
    have hj : j < ts.length := by rw [← hl]; exact (List.getElem?_eq_some_iff.1 h).1
    rw [Nat.mod_eq_of_lt hj] at q1
    exact ⟨u, q1, q2⟩)
  exact ⟨_, _, _, by rw [← this]⟩
end Go.Ev

