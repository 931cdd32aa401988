/- What functions of wide compute, and that they do. Printed. No statement is proved here. -/
import Derived.Test.YtjmefokfnehefaaGreatEvU
import Derived.Test.YtjmefokfnehefaaGreatEvT
import Derived.Test.YtjmefokfnehefaaGreatWideA
namespace Go.Ev
open Go.Proofs
set_option linter.unusedVariables false
set_option linter.unusedSimpArgs false
set_option maxRecDepth 100000
/-! ### 99: ninepin/wide.Shr -/

noncomputable def ch_f_wide_Shr : CH := (CH.inl Tryz.prog tyTab [146] 60 (CH.inl Tryz.prog tyTab [146] 60 CH.none CH.none) CH.none)
theorem ch_f_wide_Shr_ok : CHOk Tryz.prog ch_f_wide_Shr := (CH.inl_ok tab_ok mixed noNum (CH.inl_ok tab_ok mixed noNum CH.none_ok CH.none_ok) CH.none_ok)

/-- A round of the loop at 9. -/
noncomputable def f_wide_Shr_L9k {R : Type} (cc : Int × List AVal × Nat × List AVal × Nat × Int × Nat) (v : List AVal × Int) (kn : (List AVal × Int) → Option R) (ke : ((List AVal)) → Option R) : Option R :=
  (cond (decide (v.2 < 8)) (cond (decide ((IntKind.wrap .i64 (v.2 + (IntKind.wrap .i64 (Int.tdiv cc.1 64)))) < 8)) (need (decide (0 ≤ (IntKind.wrap .i64 (v.2 + (IntKind.wrap .i64 (Int.tdiv cc.1 64))))) && decide ((IntKind.wrap .i64 (v.2 + (IntKind.wrap .i64 (Int.tdiv cc.1 64)))) < ((8 : Nat) : Int))) (need (rowOk [.int .u64] cc.2.2.2.1 (0 + (Int.toNat (IntKind.wrap .i64 (v.2 + (IntKind.wrap .i64 (Int.tdiv cc.1 64)))) * 1))) (need (!decide ((Int.tmod cc.1 64) < 0)) (need (decide (0 ≤ v.2) && decide (v.2 < ((8 : Nat) : Int))) (need (decide ((0 + (Int.toNat v.2 * 1)) + 1 ≤ List.length v.1)) (cond (decide ((Int.tmod cc.1 64) > 0)) (need (decide (0 ≤ v.2) && decide (v.2 < ((8 : Nat) : Int))) (need (rowOk [.int .u64] (spliced v.1 (0 + (Int.toNat v.2 * 1)) [.int .u64 (ishr .u64 (geti cc.2.2.2.1 ((0 + (Int.toNat (IntKind.wrap .i64 (v.2 + (IntKind.wrap .i64 (Int.tdiv cc.1 64)))) * 1)) + 0)) (Int.tmod cc.1 64))]) (0 + (Int.toNat v.2 * 1))) (cond (decide ((IntKind.wrap .i64 ((IntKind.wrap .i64 (v.2 + (IntKind.wrap .i64 (Int.tdiv cc.1 64)))) + 1)) < 8)) (need (decide (0 ≤ (IntKind.wrap .i64 ((IntKind.wrap .i64 (v.2 + (IntKind.wrap .i64 (Int.tdiv cc.1 64)))) + 1))) && decide ((IntKind.wrap .i64 ((IntKind.wrap .i64 (v.2 + (IntKind.wrap .i64 (Int.tdiv cc.1 64)))) + 1)) < ((8 : Nat) : Int))) (need (rowOk [.int .u64] cc.2.2.2.1 (0 + (Int.toNat (IntKind.wrap .i64 ((IntKind.wrap .i64 (v.2 + (IntKind.wrap .i64 (Int.tdiv cc.1 64)))) + 1)) * 1))) (need (!decide ((IntKind.wrap .i64 (64 - (Int.tmod cc.1 64))) < 0)) (need (decide (0 ≤ v.2) && decide (v.2 < ((8 : Nat) : Int))) (need (decide ((0 + (Int.toNat v.2 * 1)) + 1 ≤ List.length (spliced v.1 (0 + (Int.toNat v.2 * 1)) [.int .u64 (ishr .u64 (geti cc.2.2.2.1 ((0 + (Int.toNat (IntKind.wrap .i64 (v.2 + (IntKind.wrap .i64 (Int.tdiv cc.1 64)))) * 1)) + 0)) (Int.tmod cc.1 64))]))) (kn ((spliced (spliced v.1 (0 + (Int.toNat v.2 * 1)) [.int .u64 (ishr .u64 (geti cc.2.2.2.1 ((0 + (Int.toNat (IntKind.wrap .i64 (v.2 + (IntKind.wrap .i64 (Int.tdiv cc.1 64)))) * 1)) + 0)) (Int.tmod cc.1 64))]) (0 + (Int.toNat v.2 * 1)) [.int .u64 (ior .u64 (geti (spliced v.1 (0 + (Int.toNat v.2 * 1)) [.int .u64 (ishr .u64 (geti cc.2.2.2.1 ((0 + (Int.toNat (IntKind.wrap .i64 (v.2 + (IntKind.wrap .i64 (Int.tdiv cc.1 64)))) * 1)) + 0)) (Int.tmod cc.1 64))]) ((0 + (Int.toNat v.2 * 1)) + 0)) (ishl .u64 (geti cc.2.2.2.1 ((0 + (Int.toNat (IntKind.wrap .i64 ((IntKind.wrap .i64 (v.2 + (IntKind.wrap .i64 (Int.tdiv cc.1 64)))) + 1)) * 1)) + 0)) (IntKind.wrap .i64 (64 - (Int.tmod cc.1 64)))))]), (IntKind.wrap .i64 (v.2 + 1))))))))) (need (!decide ((IntKind.wrap .i64 (64 - (Int.tmod cc.1 64))) < 0)) (need (decide (0 ≤ v.2) && decide (v.2 < ((8 : Nat) : Int))) (need (decide ((0 + (Int.toNat v.2 * 1)) + 1 ≤ List.length (spliced v.1 (0 + (Int.toNat v.2 * 1)) [.int .u64 (ishr .u64 (geti cc.2.2.2.1 ((0 + (Int.toNat (IntKind.wrap .i64 (v.2 + (IntKind.wrap .i64 (Int.tdiv cc.1 64)))) * 1)) + 0)) (Int.tmod cc.1 64))]))) (kn ((spliced (spliced v.1 (0 + (Int.toNat v.2 * 1)) [.int .u64 (ishr .u64 (geti cc.2.2.2.1 ((0 + (Int.toNat (IntKind.wrap .i64 (v.2 + (IntKind.wrap .i64 (Int.tdiv cc.1 64)))) * 1)) + 0)) (Int.tmod cc.1 64))]) (0 + (Int.toNat v.2 * 1)) [.int .u64 (ior .u64 (geti (spliced v.1 (0 + (Int.toNat v.2 * 1)) [.int .u64 (ishr .u64 (geti cc.2.2.2.1 ((0 + (Int.toNat (IntKind.wrap .i64 (v.2 + (IntKind.wrap .i64 (Int.tdiv cc.1 64)))) * 1)) + 0)) (Int.tmod cc.1 64))]) ((0 + (Int.toNat v.2 * 1)) + 0)) (ishl .u64 cc.2.2.2.2.2.1 (IntKind.wrap .i64 (64 - (Int.tmod cc.1 64)))))]), (IntKind.wrap .i64 (v.2 + 1)))))))))) (kn ((spliced v.1 (0 + (Int.toNat v.2 * 1)) [.int .u64 (ishr .u64 (geti cc.2.2.2.1 ((0 + (Int.toNat (IntKind.wrap .i64 (v.2 + (IntKind.wrap .i64 (Int.tdiv cc.1 64)))) * 1)) + 0)) (Int.tmod cc.1 64))]), (IntKind.wrap .i64 (v.2 + 1)))))))))) (need (!decide ((Int.tmod cc.1 64) < 0)) (need (decide (0 ≤ v.2) && decide (v.2 < ((8 : Nat) : Int))) (need (decide ((0 + (Int.toNat v.2 * 1)) + 1 ≤ List.length v.1)) (cond (decide ((Int.tmod cc.1 64) > 0)) (need (decide (0 ≤ v.2) && decide (v.2 < ((8 : Nat) : Int))) (need (rowOk [.int .u64] (spliced v.1 (0 + (Int.toNat v.2 * 1)) [.int .u64 (ishr .u64 cc.2.2.2.2.2.1 (Int.tmod cc.1 64))]) (0 + (Int.toNat v.2 * 1))) (cond (decide ((IntKind.wrap .i64 ((IntKind.wrap .i64 (v.2 + (IntKind.wrap .i64 (Int.tdiv cc.1 64)))) + 1)) < 8)) (need (decide (0 ≤ (IntKind.wrap .i64 ((IntKind.wrap .i64 (v.2 + (IntKind.wrap .i64 (Int.tdiv cc.1 64)))) + 1))) && decide ((IntKind.wrap .i64 ((IntKind.wrap .i64 (v.2 + (IntKind.wrap .i64 (Int.tdiv cc.1 64)))) + 1)) < ((8 : Nat) : Int))) (need (rowOk [.int .u64] cc.2.2.2.1 (0 + (Int.toNat (IntKind.wrap .i64 ((IntKind.wrap .i64 (v.2 + (IntKind.wrap .i64 (Int.tdiv cc.1 64)))) + 1)) * 1))) (need (!decide ((IntKind.wrap .i64 (64 - (Int.tmod cc.1 64))) < 0)) (need (decide (0 ≤ v.2) && decide (v.2 < ((8 : Nat) : Int))) (need (decide ((0 + (Int.toNat v.2 * 1)) + 1 ≤ List.length (spliced v.1 (0 + (Int.toNat v.2 * 1)) [.int .u64 (ishr .u64 cc.2.2.2.2.2.1 (Int.tmod cc.1 64))]))) (kn ((spliced (spliced v.1 (0 + (Int.toNat v.2 * 1)) [.int .u64 (ishr .u64 cc.2.2.2.2.2.1 (Int.tmod cc.1 64))]) (0 + (Int.toNat v.2 * 1)) [.int .u64 (ior .u64 (geti (spliced v.1 (0 + (Int.toNat v.2 * 1)) [.int .u64 (ishr .u64 cc.2.2.2.2.2.1 (Int.tmod cc.1 64))]) ((0 + (Int.toNat v.2 * 1)) + 0)) (ishl .u64 (geti cc.2.2.2.1 ((0 + (Int.toNat (IntKind.wrap .i64 ((IntKind.wrap .i64 (v.2 + (IntKind.wrap .i64 (Int.tdiv cc.1 64)))) + 1)) * 1)) + 0)) (IntKind.wrap .i64 (64 - (Int.tmod cc.1 64)))))]), (IntKind.wrap .i64 (v.2 + 1))))))))) (need (!decide ((IntKind.wrap .i64 (64 - (Int.tmod cc.1 64))) < 0)) (need (decide (0 ≤ v.2) && decide (v.2 < ((8 : Nat) : Int))) (need (decide ((0 + (Int.toNat v.2 * 1)) + 1 ≤ List.length (spliced v.1 (0 + (Int.toNat v.2 * 1)) [.int .u64 (ishr .u64 cc.2.2.2.2.2.1 (Int.tmod cc.1 64))]))) (kn ((spliced (spliced v.1 (0 + (Int.toNat v.2 * 1)) [.int .u64 (ishr .u64 cc.2.2.2.2.2.1 (Int.tmod cc.1 64))]) (0 + (Int.toNat v.2 * 1)) [.int .u64 (ior .u64 (geti (spliced v.1 (0 + (Int.toNat v.2 * 1)) [.int .u64 (ishr .u64 cc.2.2.2.2.2.1 (Int.tmod cc.1 64))]) ((0 + (Int.toNat v.2 * 1)) + 0)) (ishl .u64 cc.2.2.2.2.2.1 (IntKind.wrap .i64 (64 - (Int.tmod cc.1 64)))))]), (IntKind.wrap .i64 (v.2 + 1)))))))))) (kn ((spliced v.1 (0 + (Int.toNat v.2 * 1)) [.int .u64 (ishr .u64 cc.2.2.2.2.2.1 (Int.tmod cc.1 64))]), (IntKind.wrap .i64 (v.2 + 1))))))))) (ke v.1))

noncomputable def f_wide_Shr_L9s (cc : Int × List AVal × Nat × List AVal × Nat × Int × Nat) (v : List AVal × Int) : Option ((List AVal × Int) ⊕ ((List AVal))) := f_wide_Shr_L9k cc v (fun v => some (Sum.inl v)) fun e => some (Sum.inr e)

noncomputable def f_wide_Shr_L9 (cc : Int × List AVal × Nat × List AVal × Nat × Int × Nat) (v : List AVal × Int) : Option ((List AVal)) := loopF (f_wide_Shr_L9s cc) v

def f_wide_Shr_L9toL (cc : Int × List AVal × Nat × List AVal × Nat × Int × Nat) (v : List AVal × Int) : List Leaf := [.I cc.1, .I v.2, .C cc.2.1, .N cc.2.2.1, .C cc.2.2.2.1, .N cc.2.2.2.2.1, .I cc.2.2.2.2.2.1, .C v.1, .N cc.2.2.2.2.2.2]
def f_wide_Shr_L9ofL (ls : List Leaf) : Option ((Int × List AVal × Nat × List AVal × Nat × Int × Nat) × (List AVal × Int)) := match ls with
  | [.I x0, .I x1, .C x2, .N x3, .C x4, .N x5, .I x6, .C x7, .N x8] => some ((x0, x2, x3, x4, x5, x6, x8), (x7, x1))
  | _ => none
def f_wide_Shr_L9out (e : (List AVal)) : AOut := ((fun e => .exit 0) e)
def f_wide_Shr_L9toE (cc : Int × List AVal × Nat × List AVal × Nat × Int × Nat) (e : (List AVal)) : List Leaf := ((fun e => [.C cc.2.1, .N cc.2.2.1, .C e, .N cc.2.2.2.2.2.2]) e)
def f_wide_Shr_L9conE (cc : Int × List AVal × Nat × List AVal × Nat × Int × Nat) (e : (List AVal)) : List Leaf := ((fun e => [.C cc.2.1, .N cc.2.2.1, .N cc.2.2.2.2.2.2]) e)
def f_wide_Shr_L9ofE (o : AOut) (ls : List Leaf) : Option (((List AVal)) × List Leaf) := match o with
  | .exit 0 => (match ls with
    | [.C x0, .N x1, .C x2, .N x3] => some (x2, [.C x0, .N x1, .N x3])
    | _ => none)
  | _ => none
theorem f_wide_Shr_L9ofE_ok : ∀ o ls e cl cc, f_wide_Shr_L9ofE o ls = some (e, cl) → cl = f_wide_Shr_L9conE cc e → ls = f_wide_Shr_L9toE cc e ∧ f_wide_Shr_L9out e = o ∧ o ≠ .normal ∧ ∀ v, o = .pan v → sc 0 v = true := by
  intro o ls e cl cc h hc
  unfold f_wide_Shr_L9ofE at h
  split at h
  · split at h
    · cases h
      simp only [f_wide_Shr_L9conE, Sum.elim_inl, Sum.elim_inr, List.cons.injEq, Leaf.I.injEq, Leaf.B.injEq, Leaf.S.injEq, Leaf.N.injEq, Leaf.C.injEq, Leaf.E.injEq, and_true] at hc
      obtain ⟨rfl, rfl, rfl⟩ := hc
      exact ⟨rfl, rfl, by simp, by intro v hv; cases hv <;> rfl⟩
    · cases h
  · cases h
def f_wide_Shr_L9sh (o : AOut) : ExS := match o with
  | .exit 0 => ⟨2, [none, none, none, none, some (.ptr 0 0), none, none, some (.ptr 1 0), none, none, none, none, none, none, none, none, none, none, none, none, none, none, none, none, none, none, none, none, none, none, none, none, none, none, none, none, none, none, none, none, none, none, none, none, none, none, none, none, none, none, none, none, none, none, none, none], [(0, .vec 8 true), (1, .vec 8 true)], fun s => [nameAt s 4 [], nameAt s 7 []], [], []⟩
  | _ => ⟨0, [], [], fun _ => [], [], []⟩
theorem f_wide_Shr_L9nat {R : Type} (cc : Int × List AVal × Nat × List AVal × Nat × Int × Nat) (v : List AVal × Int) (kn : (List AVal × Int) → Option R) (ke : ((List AVal)) → Option R) : f_wide_Shr_L9k cc v kn ke = (f_wide_Shr_L9k cc v (fun v => some (Sum.inl v)) fun e => some (Sum.inr e)).bind (Sum.elim kn ke) := by
  simp only [f_wide_Shr_L9k, cond_bind, need_nat, Option.bind_assoc, sum_bind, lookC_bind, Option.bind_some, Option.bind_none, Sum.elim_inl, Sum.elim_inr]
noncomputable def f_wide_Shr_L9d : LD where
  CC := Int × List AVal × Nat × List AVal × Nat × Int × Nat
  V := List AVal × Int
  E := (List AVal)
  n := 0
  K := 4
  M := [none, some (.int .i64), none, none, some (.ptr 0 0), none, some (.func 146 [] [.ptr 1 0, .ptr 2 0]), some (.ptr 3 0), none, none, none, none, none, none, none, none, none, none, none, none, none, none, some (.int .i64), none, none, none, none, none, none, none, none, none, none, none, none, none, none, none, none, none, none, none, none, none, none, none, none, none, none, none, none, none, none, none, none, none]
  B := [(0, .vec 8 true), (1, .vec 8 true), (2, .cells [.int .u64] true none), (3, .vec 8 true)]
  D := []
  pre := []
  F := fun s => [nameAt s 4 [], nameAt s 6 [.k 0], nameAt s 6 [.k 1], nameAt s 7 []]
  toL := f_wide_Shr_L9toL
  ofL := f_wide_Shr_L9ofL
  ofL_ok := fun ls c v h => by
    unfold f_wide_Shr_L9ofL at h
    split at h
    · cases h; rfl
    · cases h
  stepK := f_wide_Shr_L9k
  nat := f_wide_Shr_L9nat
  sh := f_wide_Shr_L9sh
  out := f_wide_Shr_L9out
  toE := f_wide_Shr_L9toE
  conE := f_wide_Shr_L9conE
  ofE := f_wide_Shr_L9ofE
  ofE_ok := f_wide_Shr_L9ofE_ok
  post := fun cc e k => ((fun e => k (.exit 0) (canonSt 2 [none, none, none, none, some (.ptr 0 0), none, none, some (.ptr 1 0), none, none, none, none, none, none, none, none, none, none, none, none, none, none, none, none, none, none, none, none, none, none, none, none, none, none, none, none, none, none, none, none, none, none, none, none, none, none, none, none, none, none, none, none, none, none, none, none] [(0, .vec cc.2.1 cc.2.2.1 8 true), (1, .vec e cc.2.2.2.2.2.2 8 true)] [])) e)
  post_eq := fun cc e k => by rfl

theorem f_wide_Shr_L9_ok : LaOk Tryz.prog 0 f_wide_Shr_L9d.la (loopAt Tryz.f99 0) :=
  LD.ok (ch := ch_f_wide_Shr) (A := noAnns) tab_ok ch_f_wide_Shr_ok mixed (fuel := 60) ⟨by kernel_rfl, fun e => by kernel_rfl, fun cc v => by kernel_rfl, loops_ok (l := []) (by kernel_rfl) trivial⟩

/-- ninepin/wide.Shr. -/
noncomputable def f_wide_Shr (a0 : Int) (a1 : Int) (a2 : Int) (a3 : Int) (a4 : Int) (a5 : Int) (a6 : Int) (a7 : Int) (a8 : Int) : Option (Int × Int × Int × Int × Int × Int × Int × Int) :=
  (cond (decide (a8 < 0)) (some (a0, a1, a2, a3, a4, a5, a6, a7)) (cond (decide (a8 > 511)) (Option.bind (f_wide_Shr_L9 (511, ([.int .u64 0, .int .u64 0, .int .u64 0, .int .u64 0, .int .u64 0, .int .u64 0, .int .u64 0, .int .u64 0] : List AVal), 1, ([.int .u64 a0, .int .u64 a1, .int .u64 a2, .int .u64 a3, .int .u64 a4, .int .u64 a5, .int .u64 a6, .int .u64 a7] : List AVal), 1, (IntKind.wrap .u64 (ishr .i64 (IntKind.wrap .i64 a7) 63)), 1) (([.int .u64 0, .int .u64 0, .int .u64 0, .int .u64 0, .int .u64 0, .int .u64 0, .int .u64 0, .int .u64 0] : List AVal), 0)) fun e1 => (need (rowOk [.int .u64, .int .u64, .int .u64, .int .u64, .int .u64, .int .u64, .int .u64, .int .u64] e1 0) (need (decide (0 + 8 ≤ List.length ([.int .u64 0, .int .u64 0, .int .u64 0, .int .u64 0, .int .u64 0, .int .u64 0, .int .u64 0, .int .u64 0] : List AVal))) (need (rowOk [.int .u64, .int .u64, .int .u64, .int .u64, .int .u64, .int .u64, .int .u64, .int .u64] (spliced ([.int .u64 0, .int .u64 0, .int .u64 0, .int .u64 0, .int .u64 0, .int .u64 0, .int .u64 0, .int .u64 0] : List AVal) 0 [.int .u64 (geti e1 0), .int .u64 (geti e1 1), .int .u64 (geti e1 2), .int .u64 (geti e1 3), .int .u64 (geti e1 4), .int .u64 (geti e1 5), .int .u64 (geti e1 6), .int .u64 (geti e1 7)]) 0) (some ((geti (spliced ([.int .u64 0, .int .u64 0, .int .u64 0, .int .u64 0, .int .u64 0, .int .u64 0, .int .u64 0, .int .u64 0] : List AVal) 0 [.int .u64 (geti e1 0), .int .u64 (geti e1 1), .int .u64 (geti e1 2), .int .u64 (geti e1 3), .int .u64 (geti e1 4), .int .u64 (geti e1 5), .int .u64 (geti e1 6), .int .u64 (geti e1 7)]) 0), (geti (spliced ([.int .u64 0, .int .u64 0, .int .u64 0, .int .u64 0, .int .u64 0, .int .u64 0, .int .u64 0, .int .u64 0] : List AVal) 0 [.int .u64 (geti e1 0), .int .u64 (geti e1 1), .int .u64 (geti e1 2), .int .u64 (geti e1 3), .int .u64 (geti e1 4), .int .u64 (geti e1 5), .int .u64 (geti e1 6), .int .u64 (geti e1 7)]) 1), (geti (spliced ([.int .u64 0, .int .u64 0, .int .u64 0, .int .u64 0, .int .u64 0, .int .u64 0, .int .u64 0, .int .u64 0] : List AVal) 0 [.int .u64 (geti e1 0), .int .u64 (geti e1 1), .int .u64 (geti e1 2), .int .u64 (geti e1 3), .int .u64 (geti e1 4), .int .u64 (geti e1 5), .int .u64 (geti e1 6), .int .u64 (geti e1 7)]) 2), (geti (spliced ([.int .u64 0, .int .u64 0, .int .u64 0, .int .u64 0, .int .u64 0, .int .u64 0, .int .u64 0, .int .u64 0] : List AVal) 0 [.int .u64 (geti e1 0), .int .u64 (geti e1 1), .int .u64 (geti e1 2), .int .u64 (geti e1 3), .int .u64 (geti e1 4), .int .u64 (geti e1 5), .int .u64 (geti e1 6), .int .u64 (geti e1 7)]) 3), (geti (spliced ([.int .u64 0, .int .u64 0, .int .u64 0, .int .u64 0, .int .u64 0, .int .u64 0, .int .u64 0, .int .u64 0] : List AVal) 0 [.int .u64 (geti e1 0), .int .u64 (geti e1 1), .int .u64 (geti e1 2), .int .u64 (geti e1 3), .int .u64 (geti e1 4), .int .u64 (geti e1 5), .int .u64 (geti e1 6), .int .u64 (geti e1 7)]) 4), (geti (spliced ([.int .u64 0, .int .u64 0, .int .u64 0, .int .u64 0, .int .u64 0, .int .u64 0, .int .u64 0, .int .u64 0] : List AVal) 0 [.int .u64 (geti e1 0), .int .u64 (geti e1 1), .int .u64 (geti e1 2), .int .u64 (geti e1 3), .int .u64 (geti e1 4), .int .u64 (geti e1 5), .int .u64 (geti e1 6), .int .u64 (geti e1 7)]) 5), (geti (spliced ([.int .u64 0, .int .u64 0, .int .u64 0, .int .u64 0, .int .u64 0, .int .u64 0, .int .u64 0, .int .u64 0] : List AVal) 0 [.int .u64 (geti e1 0), .int .u64 (geti e1 1), .int .u64 (geti e1 2), .int .u64 (geti e1 3), .int .u64 (geti e1 4), .int .u64 (geti e1 5), .int .u64 (geti e1 6), .int .u64 (geti e1 7)]) 6), (geti (spliced ([.int .u64 0, .int .u64 0, .int .u64 0, .int .u64 0, .int .u64 0, .int .u64 0, .int .u64 0, .int .u64 0] : List AVal) 0 [.int .u64 (geti e1 0), .int .u64 (geti e1 1), .int .u64 (geti e1 2), .int .u64 (geti e1 3), .int .u64 (geti e1 4), .int .u64 (geti e1 5), .int .u64 (geti e1 6), .int .u64 (geti e1 7)]) 7))))))) (Option.bind (f_wide_Shr_L9 (a8, ([.int .u64 0, .int .u64 0, .int .u64 0, .int .u64 0, .int .u64 0, .int .u64 0, .int .u64 0, .int .u64 0] : List AVal), 1, ([.int .u64 a0, .int .u64 a1, .int .u64 a2, .int .u64 a3, .int .u64 a4, .int .u64 a5, .int .u64 a6, .int .u64 a7] : List AVal), 1, (IntKind.wrap .u64 (ishr .i64 (IntKind.wrap .i64 a7) 63)), 1) (([.int .u64 0, .int .u64 0, .int .u64 0, .int .u64 0, .int .u64 0, .int .u64 0, .int .u64 0, .int .u64 0] : List AVal), 0)) fun e2 => (need (rowOk [.int .u64, .int .u64, .int .u64, .int .u64, .int .u64, .int .u64, .int .u64, .int .u64] e2 0) (need (decide (0 + 8 ≤ List.length ([.int .u64 0, .int .u64 0, .int .u64 0, .int .u64 0, .int .u64 0, .int .u64 0, .int .u64 0, .int .u64 0] : List AVal))) (need (rowOk [.int .u64, .int .u64, .int .u64, .int .u64, .int .u64, .int .u64, .int .u64, .int .u64] (spliced ([.int .u64 0, .int .u64 0, .int .u64 0, .int .u64 0, .int .u64 0, .int .u64 0, .int .u64 0, .int .u64 0] : List AVal) 0 [.int .u64 (geti e2 0), .int .u64 (geti e2 1), .int .u64 (geti e2 2), .int .u64 (geti e2 3), .int .u64 (geti e2 4), .int .u64 (geti e2 5), .int .u64 (geti e2 6), .int .u64 (geti e2 7)]) 0) (some ((geti (spliced ([.int .u64 0, .int .u64 0, .int .u64 0, .int .u64 0, .int .u64 0, .int .u64 0, .int .u64 0, .int .u64 0] : List AVal) 0 [.int .u64 (geti e2 0), .int .u64 (geti e2 1), .int .u64 (geti e2 2), .int .u64 (geti e2 3), .int .u64 (geti e2 4), .int .u64 (geti e2 5), .int .u64 (geti e2 6), .int .u64 (geti e2 7)]) 0), (geti (spliced ([.int .u64 0, .int .u64 0, .int .u64 0, .int .u64 0, .int .u64 0, .int .u64 0, .int .u64 0, .int .u64 0] : List AVal) 0 [.int .u64 (geti e2 0), .int .u64 (geti e2 1), .int .u64 (geti e2 2), .int .u64 (geti e2 3), .int .u64 (geti e2 4), .int .u64 (geti e2 5), .int .u64 (geti e2 6), .int .u64 (geti e2 7)]) 1), (geti (spliced ([.int .u64 0, .int .u64 0, .int .u64 0, .int .u64 0, .int .u64 0, .int .u64 0, .int .u64 0, .int .u64 0] : List AVal) 0 [.int .u64 (geti e2 0), .int .u64 (geti e2 1), .int .u64 (geti e2 2), .int .u64 (geti e2 3), .int .u64 (geti e2 4), .int .u64 (geti e2 5), .int .u64 (geti e2 6), .int .u64 (geti e2 7)]) 2), (geti (spliced ([.int .u64 0, .int .u64 0, .int .u64 0, .int .u64 0, .int .u64 0, .int .u64 0, .int .u64 0, .int .u64 0] : List AVal) 0 [.int .u64 (geti e2 0), .int .u64 (geti e2 1), .int .u64 (geti e2 2), .int .u64 (geti e2 3), .int .u64 (geti e2 4), .int .u64 (geti e2 5), .int .u64 (geti e2 6), .int .u64 (geti e2 7)]) 3), (geti (spliced ([.int .u64 0, .int .u64 0, .int .u64 0, .int .u64 0, .int .u64 0, .int .u64 0, .int .u64 0, .int .u64 0] : List AVal) 0 [.int .u64 (geti e2 0), .int .u64 (geti e2 1), .int .u64 (geti e2 2), .int .u64 (geti e2 3), .int .u64 (geti e2 4), .int .u64 (geti e2 5), .int .u64 (geti e2 6), .int .u64 (geti e2 7)]) 4), (geti (spliced ([.int .u64 0, .int .u64 0, .int .u64 0, .int .u64 0, .int .u64 0, .int .u64 0, .int .u64 0, .int .u64 0] : List AVal) 0 [.int .u64 (geti e2 0), .int .u64 (geti e2 1), .int .u64 (geti e2 2), .int .u64 (geti e2 3), .int .u64 (geti e2 4), .int .u64 (geti e2 5), .int .u64 (geti e2 6), .int .u64 (geti e2 7)]) 5), (geti (spliced ([.int .u64 0, .int .u64 0, .int .u64 0, .int .u64 0, .int .u64 0, .int .u64 0, .int .u64 0, .int .u64 0] : List AVal) 0 [.int .u64 (geti e2 0), .int .u64 (geti e2 1), .int .u64 (geti e2 2), .int .u64 (geti e2 3), .int .u64 (geti e2 4), .int .u64 (geti e2 5), .int .u64 (geti e2 6), .int .u64 (geti e2 7)]) 6), (geti (spliced ([.int .u64 0, .int .u64 0, .int .u64 0, .int .u64 0, .int .u64 0, .int .u64 0, .int .u64 0, .int .u64 0] : List AVal) 0 [.int .u64 (geti e2 0), .int .u64 (geti e2 1), .int .u64 (geti e2 2), .int .u64 (geti e2 3), .int .u64 (geti e2 4), .int .u64 (geti e2 5), .int .u64 (geti e2 6), .int .u64 (geti e2 7)]) 7)))))))))

def f_wide_Shr_d : FD where
  X := Int × Int × Int × Int × Int × Int × Int × Int
  k := 0
  pre := []
  F := fun s => []
  M := .agg [.int .u64, .int .u64, .int .u64, .int .u64, .int .u64, .int .u64, .int .u64, .int .u64]
  B := []
  toL := fun x => [.I x.1, .I x.2.1, .I x.2.2.1, .I x.2.2.2.1, .I x.2.2.2.2.1, .I x.2.2.2.2.2.1, .I x.2.2.2.2.2.2.1, .I x.2.2.2.2.2.2.2]
  ofL := fun ls => match ls with
    | [.I x0, .I x1, .I x2, .I x3, .I x4, .I x5, .I x6, .I x7] => some (x0, x1, x2, x3, x4, x5, x6, x7)
    | _ => none
  ofL_ok := fun ls x h => by
    split at h
    · cases h; rfl
    · cases h

theorem f_wide_Shr_sem (a0 : Int) (a1 : Int) (a2 : Int) (a3 : Int) (a4 : Int) (a5 : Int) (a6 : Int) (a7 : Int) (a8 : Int) (x : Int × Int × Int × Int × Int × Int × Int × Int) (h : f_wide_Shr a0 a1 a2 a3 a4 a5 a6 a7 a8 = some x) : IsFn Tryz.prog 99 ∧ SemCall Tryz.prog 99 [.agg [.int .u64 a0, .int .u64 a1, .int .u64 a2, .int .u64 a3, .int .u64 a4, .int .u64 a5, .int .u64 a6, .int .u64 a7], .int .i64 a8] ⟨0, numB 0 []⟩ (.ret (f_wide_Shr_d.val x)) ⟨0 + (f_wide_Shr_d.blks x).length, numB 0 (f_wide_Shr_d.blks x)⟩ :=
  FD.sem (ch := ch_f_wide_Shr) (A := annsOf [(9, f_wide_Shr_L9d.la)]) (fn := Tryz.f99) (c := bodyOf Tryz.f99) (fuel := 60) tab_ok ch_f_wide_Shr_ok mixed noNum f_wide_Shr_d Tryz.func99 (by kernel_rfl) (loops_ok (l := [loopAt Tryz.f99 0]) (by kernel_rfl) ⟨ann_one (by kernel_rfl) f_wide_Shr_L9_ok, trivial⟩)
    (by kernel_rfl) (Eq.trans (by kernel_rfl) h)

noncomputable def h_wide_Shr : HK where
  call := fun args σ k => match args with
    | [.agg [.int .u64 a0, .int .u64 a1, .int .u64 a2, .int .u64 a3, .int .u64 a4, .int .u64 a5, .int .u64 a6, .int .u64 a7], .int .i64 a8] => Option.bind (f_wide_Shr a0 a1 a2 a3 a4 a5 a6 a7 a8) fun y => retK σ 0 (f_wide_Shr_d.val y) (f_wide_Shr_d.blks y) k
    | _ => none
  nat := fun args σ k => by
    repeat' split
    all_goals simp only [lendK_nat, Option.bind_assoc, Option.bind_none, retK, Option.bind_some]
  pure := true
  pok := fun _ args σ r σ' h => by
    split at h
    · exact pure_of h (fun y => rfl) (fun y f => rfl)
    · cases h
theorem h_wide_Shr_ok : HKOk Tryz.prog 99 h_wide_Shr := by
  intro args σ r σ' h
  simp only [h_wide_Shr] at h
  split at h
  · rename_i a0 a1 a2 a3 a4 a5 a6 a7 a8
    obtain ⟨y, hy, h⟩ := Option.bind_eq_some_iff.1 h
    exact lifted (xs := []) (ls := []) (cargs := [.agg [.int .u64 a0, .int .u64 a1, .int .u64 a2, .int .u64 a3, .int .u64 a4, .int .u64 a5, .int .u64 a6, .int .u64 a7], .int .i64 a8]) (Lent.of trivial) rfl (f_wide_Shr_sem a0 a1 a2 a3 a4 a5 a6 a7 a8 y hy) rfl rfl rfl rfl h
  · cases h

end Go.Ev
namespace Go.Ev
open Go.Proofs
set_option linter.unusedVariables false
set_option linter.unusedSimpArgs false
set_option maxRecDepth 100000
/-! ### 51: ninepin/wide.Shl -/

noncomputable def ch_f_wide_Shl : CH := (CH.add 99 h_wide_Shr CH.none)
theorem ch_f_wide_Shl_ok : CHOk Tryz.prog ch_f_wide_Shl := (CH.add_ok h_wide_Shr_ok CH.none_ok)

/-- A round of the loop at 9. -/
noncomputable def f_wide_Shl_L9k {R : Type} (cc : Int × List AVal × Nat × List AVal × Nat × Nat) (v : List AVal × Int) (kn : (List AVal × Int) → Option R) (ke : ((List AVal)) → Option R) : Option R :=
  (cond (decide (v.2 ≥ 0)) (cond (decide ((IntKind.wrap .i64 (v.2 - (IntKind.wrap .i64 (Int.tdiv cc.1 64)))) ≥ 0)) (need (decide (0 ≤ (IntKind.wrap .i64 (v.2 - (IntKind.wrap .i64 (Int.tdiv cc.1 64))))) && decide ((IntKind.wrap .i64 (v.2 - (IntKind.wrap .i64 (Int.tdiv cc.1 64)))) < ((8 : Nat) : Int))) (need (rowOk [.int .u64] cc.2.1 (0 + (Int.toNat (IntKind.wrap .i64 (v.2 - (IntKind.wrap .i64 (Int.tdiv cc.1 64)))) * 1))) (need (!decide ((Int.tmod cc.1 64) < 0)) (need (decide (0 ≤ v.2) && decide (v.2 < ((8 : Nat) : Int))) (need (decide ((0 + (Int.toNat v.2 * 1)) + 1 ≤ List.length v.1)) (cond (decide ((Int.tmod cc.1 64) > 0)) (cond (decide ((IntKind.wrap .i64 (v.2 - (IntKind.wrap .i64 (Int.tdiv cc.1 64)))) > 0)) (need (decide (0 ≤ v.2) && decide (v.2 < ((8 : Nat) : Int))) (need (rowOk [.int .u64] (spliced v.1 (0 + (Int.toNat v.2 * 1)) [.int .u64 (ishl .u64 (geti cc.2.1 ((0 + (Int.toNat (IntKind.wrap .i64 (v.2 - (IntKind.wrap .i64 (Int.tdiv cc.1 64)))) * 1)) + 0)) (Int.tmod cc.1 64))]) (0 + (Int.toNat v.2 * 1))) (need (decide (0 ≤ (IntKind.wrap .i64 ((IntKind.wrap .i64 (v.2 - (IntKind.wrap .i64 (Int.tdiv cc.1 64)))) - 1))) && decide ((IntKind.wrap .i64 ((IntKind.wrap .i64 (v.2 - (IntKind.wrap .i64 (Int.tdiv cc.1 64)))) - 1)) < ((8 : Nat) : Int))) (need (rowOk [.int .u64] cc.2.1 (0 + (Int.toNat (IntKind.wrap .i64 ((IntKind.wrap .i64 (v.2 - (IntKind.wrap .i64 (Int.tdiv cc.1 64)))) - 1)) * 1))) (need (!decide ((IntKind.wrap .i64 (64 - (Int.tmod cc.1 64))) < 0)) (need (decide (0 ≤ v.2) && decide (v.2 < ((8 : Nat) : Int))) (need (decide ((0 + (Int.toNat v.2 * 1)) + 1 ≤ List.length (spliced v.1 (0 + (Int.toNat v.2 * 1)) [.int .u64 (ishl .u64 (geti cc.2.1 ((0 + (Int.toNat (IntKind.wrap .i64 (v.2 - (IntKind.wrap .i64 (Int.tdiv cc.1 64)))) * 1)) + 0)) (Int.tmod cc.1 64))]))) (kn ((spliced (spliced v.1 (0 + (Int.toNat v.2 * 1)) [.int .u64 (ishl .u64 (geti cc.2.1 ((0 + (Int.toNat (IntKind.wrap .i64 (v.2 - (IntKind.wrap .i64 (Int.tdiv cc.1 64)))) * 1)) + 0)) (Int.tmod cc.1 64))]) (0 + (Int.toNat v.2 * 1)) [.int .u64 (ior .u64 (geti (spliced v.1 (0 + (Int.toNat v.2 * 1)) [.int .u64 (ishl .u64 (geti cc.2.1 ((0 + (Int.toNat (IntKind.wrap .i64 (v.2 - (IntKind.wrap .i64 (Int.tdiv cc.1 64)))) * 1)) + 0)) (Int.tmod cc.1 64))]) ((0 + (Int.toNat v.2 * 1)) + 0)) (ishr .u64 (geti cc.2.1 ((0 + (Int.toNat (IntKind.wrap .i64 ((IntKind.wrap .i64 (v.2 - (IntKind.wrap .i64 (Int.tdiv cc.1 64)))) - 1)) * 1)) + 0)) (IntKind.wrap .i64 (64 - (Int.tmod cc.1 64)))))]), (IntKind.wrap .i64 (v.2 - 1))))))))))) (kn ((spliced v.1 (0 + (Int.toNat v.2 * 1)) [.int .u64 (ishl .u64 (geti cc.2.1 ((0 + (Int.toNat (IntKind.wrap .i64 (v.2 - (IntKind.wrap .i64 (Int.tdiv cc.1 64)))) * 1)) + 0)) (Int.tmod cc.1 64))]), (IntKind.wrap .i64 (v.2 - 1))))) (kn ((spliced v.1 (0 + (Int.toNat v.2 * 1)) [.int .u64 (ishl .u64 (geti cc.2.1 ((0 + (Int.toNat (IntKind.wrap .i64 (v.2 - (IntKind.wrap .i64 (Int.tdiv cc.1 64)))) * 1)) + 0)) (Int.tmod cc.1 64))]), (IntKind.wrap .i64 (v.2 - 1)))))))))) (kn (v.1, (IntKind.wrap .i64 (v.2 - 1))))) (ke v.1))

noncomputable def f_wide_Shl_L9s (cc : Int × List AVal × Nat × List AVal × Nat × Nat) (v : List AVal × Int) : Option ((List AVal × Int) ⊕ ((List AVal))) := f_wide_Shl_L9k cc v (fun v => some (Sum.inl v)) fun e => some (Sum.inr e)

noncomputable def f_wide_Shl_L9 (cc : Int × List AVal × Nat × List AVal × Nat × Nat) (v : List AVal × Int) : Option ((List AVal)) := loopF (f_wide_Shl_L9s cc) v

def f_wide_Shl_L9toL (cc : Int × List AVal × Nat × List AVal × Nat × Nat) (v : List AVal × Int) : List Leaf := [.I cc.1, .I v.2, .C cc.2.1, .N cc.2.2.1, .C cc.2.2.2.1, .N cc.2.2.2.2.1, .C v.1, .N cc.2.2.2.2.2]
def f_wide_Shl_L9ofL (ls : List Leaf) : Option ((Int × List AVal × Nat × List AVal × Nat × Nat) × (List AVal × Int)) := match ls with
  | [.I x0, .I x1, .C x2, .N x3, .C x4, .N x5, .C x6, .N x7] => some ((x0, x2, x3, x4, x5, x7), (x6, x1))
  | _ => none
def f_wide_Shl_L9out (e : (List AVal)) : AOut := ((fun e => .exit 0) e)
def f_wide_Shl_L9toE (cc : Int × List AVal × Nat × List AVal × Nat × Nat) (e : (List AVal)) : List Leaf := ((fun e => [.I cc.1, .C cc.2.1, .N cc.2.2.1, .C cc.2.2.2.1, .N cc.2.2.2.2.1, .C e, .N cc.2.2.2.2.2]) e)
def f_wide_Shl_L9conE (cc : Int × List AVal × Nat × List AVal × Nat × Nat) (e : (List AVal)) : List Leaf := ((fun e => [.I cc.1, .C cc.2.1, .N cc.2.2.1, .C cc.2.2.2.1, .N cc.2.2.2.2.1, .N cc.2.2.2.2.2]) e)
def f_wide_Shl_L9ofE (o : AOut) (ls : List Leaf) : Option (((List AVal)) × List Leaf) := match o with
  | .exit 0 => (match ls with
    | [.I x0, .C x1, .N x2, .C x3, .N x4, .C x5, .N x6] => some (x5, [.I x0, .C x1, .N x2, .C x3, .N x4, .N x6])
    | _ => none)
  | _ => none
theorem f_wide_Shl_L9ofE_ok : ∀ o ls e cl cc, f_wide_Shl_L9ofE o ls = some (e, cl) → cl = f_wide_Shl_L9conE cc e → ls = f_wide_Shl_L9toE cc e ∧ f_wide_Shl_L9out e = o ∧ o ≠ .normal ∧ ∀ v, o = .pan v → sc 0 v = true := by
  intro o ls e cl cc h hc
  unfold f_wide_Shl_L9ofE at h
  split at h
  · split at h
    · cases h
      simp only [f_wide_Shl_L9conE, Sum.elim_inl, Sum.elim_inr, List.cons.injEq, Leaf.I.injEq, Leaf.B.injEq, Leaf.S.injEq, Leaf.N.injEq, Leaf.C.injEq, Leaf.E.injEq, and_true] at hc
      obtain ⟨rfl, rfl, rfl, rfl, rfl, rfl⟩ := hc
      exact ⟨rfl, rfl, by simp, by intro v hv; cases hv <;> rfl⟩
    · cases h
  · cases h
def f_wide_Shl_L9sh (o : AOut) : ExS := match o with
  | .exit 0 => ⟨3, [none, some (.int .i64), some (.ptr 0 0), none, some (.ptr 1 0), none, some (.ptr 2 0), none, none, none, none, none, none, none, none, none, none, none, none, none, none, none, none, none, none, none, none, none, none, none, none, none, none, none, none, none, none, none, none, none, none, none, none, none, none, none, none, none, none, none, none, none, none, none, none, none, none, none, none, none, none, none, none, none, none, none, none, none, none], [(0, .vec 8 true), (1, .vec 8 true), (2, .vec 8 true)], fun s => [nameAt s 2 [], nameAt s 4 [], nameAt s 6 []], [], []⟩
  | _ => ⟨0, [], [], fun _ => [], [], []⟩
theorem f_wide_Shl_L9nat {R : Type} (cc : Int × List AVal × Nat × List AVal × Nat × Nat) (v : List AVal × Int) (kn : (List AVal × Int) → Option R) (ke : ((List AVal)) → Option R) : f_wide_Shl_L9k cc v kn ke = (f_wide_Shl_L9k cc v (fun v => some (Sum.inl v)) fun e => some (Sum.inr e)).bind (Sum.elim kn ke) := by
  simp only [f_wide_Shl_L9k, cond_bind, need_nat, Option.bind_assoc, sum_bind, lookC_bind, Option.bind_some, Option.bind_none, Sum.elim_inl, Sum.elim_inr]
noncomputable def f_wide_Shl_L9d : LD where
  CC := Int × List AVal × Nat × List AVal × Nat × Nat
  V := List AVal × Int
  E := (List AVal)
  n := 0
  K := 3
  M := [none, some (.int .i64), some (.ptr 0 0), none, some (.ptr 1 0), none, some (.ptr 2 0), some (.int .i64), none, none, none, none, none, none, none, none, none, none, none, none, none, none, none, none, none, none, none, none, none, none, none, none, none, none, none, none, none, none, none, none, none, none, none, none, none, none, none, none, none, none, none, none, none, none, none, none, none, none, none, none, none, none, none, none, none, none, none, none, none]
  B := [(0, .vec 8 true), (1, .vec 8 true), (2, .vec 8 true)]
  D := []
  pre := []
  F := fun s => [nameAt s 2 [], nameAt s 4 [], nameAt s 6 []]
  toL := f_wide_Shl_L9toL
  ofL := f_wide_Shl_L9ofL
  ofL_ok := fun ls c v h => by
    unfold f_wide_Shl_L9ofL at h
    split at h
    · cases h; rfl
    · cases h
  stepK := f_wide_Shl_L9k
  nat := f_wide_Shl_L9nat
  sh := f_wide_Shl_L9sh
  out := f_wide_Shl_L9out
  toE := f_wide_Shl_L9toE
  conE := f_wide_Shl_L9conE
  ofE := f_wide_Shl_L9ofE
  ofE_ok := f_wide_Shl_L9ofE_ok
  post := fun cc e k => ((fun e => k (.exit 0) (canonSt 3 [none, some (.int .i64 cc.1), some (.ptr 0 0), none, some (.ptr 1 0), none, some (.ptr 2 0), none, none, none, none, none, none, none, none, none, none, none, none, none, none, none, none, none, none, none, none, none, none, none, none, none, none, none, none, none, none, none, none, none, none, none, none, none, none, none, none, none, none, none, none, none, none, none, none, none, none, none, none, none, none, none, none, none, none, none, none, none, none] [(0, .vec cc.2.1 cc.2.2.1 8 true), (1, .vec cc.2.2.2.1 cc.2.2.2.2.1 8 true), (2, .vec e cc.2.2.2.2.2 8 true)] [])) e)
  post_eq := fun cc e k => by rfl

theorem f_wide_Shl_L9_ok : LaOk Tryz.prog 0 f_wide_Shl_L9d.la (loopAt Tryz.f51 0) :=
  LD.ok (ch := ch_f_wide_Shl) (A := noAnns) tab_ok ch_f_wide_Shl_ok mixed (fuel := 60) ⟨by kernel_rfl, fun e => by kernel_rfl, fun cc v => by kernel_rfl, loops_ok (l := []) (by kernel_rfl) trivial⟩

/-- ninepin/wide.Shl. -/
noncomputable def f_wide_Shl (a0 : Int) (a1 : Int) (a2 : Int) (a3 : Int) (a4 : Int) (a5 : Int) (a6 : Int) (a7 : Int) (a8 : Int) : Option (Int × Int × Int × Int × Int × Int × Int × Int × Bool) :=
  (cond (decide (a8 < 0)) (some (0, 0, 0, 0, 0, 0, 0, 0, false)) (cond (a0 == 0 && (a1 == 0 && (a2 == 0 && (a3 == 0 && (a4 == 0 && (a5 == 0 && (a6 == 0 && (a7 == 0 && true)))))))) (some (a0, a1, a2, a3, a4, a5, a6, a7, true)) (cond (decide (a8 > 511)) (some (0, 0, 0, 0, 0, 0, 0, 0, false)) (Option.bind (f_wide_Shl_L9 (a8, ([.int .u64 a0, .int .u64 a1, .int .u64 a2, .int .u64 a3, .int .u64 a4, .int .u64 a5, .int .u64 a6, .int .u64 a7] : List AVal), 1, ([.int .u64 0, .int .u64 0, .int .u64 0, .int .u64 0, .int .u64 0, .int .u64 0, .int .u64 0, .int .u64 0] : List AVal), 1, 1) (([.int .u64 0, .int .u64 0, .int .u64 0, .int .u64 0, .int .u64 0, .int .u64 0, .int .u64 0, .int .u64 0] : List AVal), 7)) fun e1 => (need (rowOk [.int .u64, .int .u64, .int .u64, .int .u64, .int .u64, .int .u64, .int .u64, .int .u64] e1 0) (Option.bind (f_wide_Shr (geti e1 0) (geti e1 1) (geti e1 2) (geti e1 3) (geti e1 4) (geti e1 5) (geti e1 6) (geti e1 7) a8) fun r2 => (need (rowOk [.int .u64, .int .u64, .int .u64, .int .u64, .int .u64, .int .u64, .int .u64, .int .u64] ([.int .u64 a0, .int .u64 a1, .int .u64 a2, .int .u64 a3, .int .u64 a4, .int .u64 a5, .int .u64 a6, .int .u64 a7] : List AVal) 0) (cond (!(r2.1 == (geti ([.int .u64 a0, .int .u64 a1, .int .u64 a2, .int .u64 a3, .int .u64 a4, .int .u64 a5, .int .u64 a6, .int .u64 a7] : List AVal) 0) && (r2.2.1 == (geti ([.int .u64 a0, .int .u64 a1, .int .u64 a2, .int .u64 a3, .int .u64 a4, .int .u64 a5, .int .u64 a6, .int .u64 a7] : List AVal) 1) && (r2.2.2.1 == (geti ([.int .u64 a0, .int .u64 a1, .int .u64 a2, .int .u64 a3, .int .u64 a4, .int .u64 a5, .int .u64 a6, .int .u64 a7] : List AVal) 2) && (r2.2.2.2.1 == (geti ([.int .u64 a0, .int .u64 a1, .int .u64 a2, .int .u64 a3, .int .u64 a4, .int .u64 a5, .int .u64 a6, .int .u64 a7] : List AVal) 3) && (r2.2.2.2.2.1 == (geti ([.int .u64 a0, .int .u64 a1, .int .u64 a2, .int .u64 a3, .int .u64 a4, .int .u64 a5, .int .u64 a6, .int .u64 a7] : List AVal) 4) && (r2.2.2.2.2.2.1 == (geti ([.int .u64 a0, .int .u64 a1, .int .u64 a2, .int .u64 a3, .int .u64 a4, .int .u64 a5, .int .u64 a6, .int .u64 a7] : List AVal) 5) && (r2.2.2.2.2.2.2.1 == (geti ([.int .u64 a0, .int .u64 a1, .int .u64 a2, .int .u64 a3, .int .u64 a4, .int .u64 a5, .int .u64 a6, .int .u64 a7] : List AVal) 6) && (r2.2.2.2.2.2.2.2 == (geti ([.int .u64 a0, .int .u64 a1, .int .u64 a2, .int .u64 a3, .int .u64 a4, .int .u64 a5, .int .u64 a6, .int .u64 a7] : List AVal) 7) && true))))))))) (need (decide (0 + 8 ≤ List.length ([.int .u64 0, .int .u64 0, .int .u64 0, .int .u64 0, .int .u64 0, .int .u64 0, .int .u64 0, .int .u64 0] : List AVal))) (need (rowOk [.int .u64, .int .u64, .int .u64, .int .u64, .int .u64, .int .u64, .int .u64, .int .u64] (spliced ([.int .u64 0, .int .u64 0, .int .u64 0, .int .u64 0, .int .u64 0, .int .u64 0, .int .u64 0, .int .u64 0] : List AVal) 0 [.int .u64 0, .int .u64 0, .int .u64 0, .int .u64 0, .int .u64 0, .int .u64 0, .int .u64 0, .int .u64 0]) 0) (some ((geti (spliced ([.int .u64 0, .int .u64 0, .int .u64 0, .int .u64 0, .int .u64 0, .int .u64 0, .int .u64 0, .int .u64 0] : List AVal) 0 [.int .u64 0, .int .u64 0, .int .u64 0, .int .u64 0, .int .u64 0, .int .u64 0, .int .u64 0, .int .u64 0]) 0), (geti (spliced ([.int .u64 0, .int .u64 0, .int .u64 0, .int .u64 0, .int .u64 0, .int .u64 0, .int .u64 0, .int .u64 0] : List AVal) 0 [.int .u64 0, .int .u64 0, .int .u64 0, .int .u64 0, .int .u64 0, .int .u64 0, .int .u64 0, .int .u64 0]) 1), (geti (spliced ([.int .u64 0, .int .u64 0, .int .u64 0, .int .u64 0, .int .u64 0, .int .u64 0, .int .u64 0, .int .u64 0] : List AVal) 0 [.int .u64 0, .int .u64 0, .int .u64 0, .int .u64 0, .int .u64 0, .int .u64 0, .int .u64 0, .int .u64 0]) 2), (geti (spliced ([.int .u64 0, .int .u64 0, .int .u64 0, .int .u64 0, .int .u64 0, .int .u64 0, .int .u64 0, .int .u64 0] : List AVal) 0 [.int .u64 0, .int .u64 0, .int .u64 0, .int .u64 0, .int .u64 0, .int .u64 0, .int .u64 0, .int .u64 0]) 3), (geti (spliced ([.int .u64 0, .int .u64 0, .int .u64 0, .int .u64 0, .int .u64 0, .int .u64 0, .int .u64 0, .int .u64 0] : List AVal) 0 [.int .u64 0, .int .u64 0, .int .u64 0, .int .u64 0, .int .u64 0, .int .u64 0, .int .u64 0, .int .u64 0]) 4), (geti (spliced ([.int .u64 0, .int .u64 0, .int .u64 0, .int .u64 0, .int .u64 0, .int .u64 0, .int .u64 0, .int .u64 0] : List AVal) 0 [.int .u64 0, .int .u64 0, .int .u64 0, .int .u64 0, .int .u64 0, .int .u64 0, .int .u64 0, .int .u64 0]) 5), (geti (spliced ([.int .u64 0, .int .u64 0, .int .u64 0, .int .u64 0, .int .u64 0, .int .u64 0, .int .u64 0, .int .u64 0] : List AVal) 0 [.int .u64 0, .int .u64 0, .int .u64 0, .int .u64 0, .int .u64 0, .int .u64 0, .int .u64 0, .int .u64 0]) 6), (geti (spliced ([.int .u64 0, .int .u64 0, .int .u64 0, .int .u64 0, .int .u64 0, .int .u64 0, .int .u64 0, .int .u64 0] : List AVal) 0 [.int .u64 0, .int .u64 0, .int .u64 0, .int .u64 0, .int .u64 0, .int .u64 0, .int .u64 0, .int .u64 0]) 7), false)))) (need (decide (0 + 8 ≤ List.length ([.int .u64 0, .int .u64 0, .int .u64 0, .int .u64 0, .int .u64 0, .int .u64 0, .int .u64 0, .int .u64 0] : List AVal))) (need (rowOk [.int .u64, .int .u64, .int .u64, .int .u64, .int .u64, .int .u64, .int .u64, .int .u64] (spliced ([.int .u64 0, .int .u64 0, .int .u64 0, .int .u64 0, .int .u64 0, .int .u64 0, .int .u64 0, .int .u64 0] : List AVal) 0 [.int .u64 (geti e1 0), .int .u64 (geti e1 1), .int .u64 (geti e1 2), .int .u64 (geti e1 3), .int .u64 (geti e1 4), .int .u64 (geti e1 5), .int .u64 (geti e1 6), .int .u64 (geti e1 7)]) 0) (some ((geti (spliced ([.int .u64 0, .int .u64 0, .int .u64 0, .int .u64 0, .int .u64 0, .int .u64 0, .int .u64 0, .int .u64 0] : List AVal) 0 [.int .u64 (geti e1 0), .int .u64 (geti e1 1), .int .u64 (geti e1 2), .int .u64 (geti e1 3), .int .u64 (geti e1 4), .int .u64 (geti e1 5), .int .u64 (geti e1 6), .int .u64 (geti e1 7)]) 0), (geti (spliced ([.int .u64 0, .int .u64 0, .int .u64 0, .int .u64 0, .int .u64 0, .int .u64 0, .int .u64 0, .int .u64 0] : List AVal) 0 [.int .u64 (geti e1 0), .int .u64 (geti e1 1), .int .u64 (geti e1 2), .int .u64 (geti e1 3), .int .u64 (geti e1 4), .int .u64 (geti e1 5), .int .u64 (geti e1 6), .int .u64 (geti e1 7)]) 1), (geti (spliced ([.int .u64 0, .int .u64 0, .int .u64 0, .int .u64 0, .int .u64 0, .int .u64 0, .int .u64 0, .int .u64 0] : List AVal) 0 [.int .u64 (geti e1 0), .int .u64 (geti e1 1), .int .u64 (geti e1 2), .int .u64 (geti e1 3), .int .u64 (geti e1 4), .int .u64 (geti e1 5), .int .u64 (geti e1 6), .int .u64 (geti e1 7)]) 2), (geti (spliced ([.int .u64 0, .int .u64 0, .int .u64 0, .int .u64 0, .int .u64 0, .int .u64 0, .int .u64 0, .int .u64 0] : List AVal) 0 [.int .u64 (geti e1 0), .int .u64 (geti e1 1), .int .u64 (geti e1 2), .int .u64 (geti e1 3), .int .u64 (geti e1 4), .int .u64 (geti e1 5), .int .u64 (geti e1 6), .int .u64 (geti e1 7)]) 3), (geti (spliced ([.int .u64 0, .int .u64 0, .int .u64 0, .int .u64 0, .int .u64 0, .int .u64 0, .int .u64 0, .int .u64 0] : List AVal) 0 [.int .u64 (geti e1 0), .int .u64 (geti e1 1), .int .u64 (geti e1 2), .int .u64 (geti e1 3), .int .u64 (geti e1 4), .int .u64 (geti e1 5), .int .u64 (geti e1 6), .int .u64 (geti e1 7)]) 4), (geti (spliced ([.int .u64 0, .int .u64 0, .int .u64 0, .int .u64 0, .int .u64 0, .int .u64 0, .int .u64 0, .int .u64 0] : List AVal) 0 [.int .u64 (geti e1 0), .int .u64 (geti e1 1), .int .u64 (geti e1 2), .int .u64 (geti e1 3), .int .u64 (geti e1 4), .int .u64 (geti e1 5), .int .u64 (geti e1 6), .int .u64 (geti e1 7)]) 5), (geti (spliced ([.int .u64 0, .int .u64 0, .int .u64 0, .int .u64 0, .int .u64 0, .int .u64 0, .int .u64 0, .int .u64 0] : List AVal) 0 [.int .u64 (geti e1 0), .int .u64 (geti e1 1), .int .u64 (geti e1 2), .int .u64 (geti e1 3), .int .u64 (geti e1 4), .int .u64 (geti e1 5), .int .u64 (geti e1 6), .int .u64 (geti e1 7)]) 6), (geti (spliced ([.int .u64 0, .int .u64 0, .int .u64 0, .int .u64 0, .int .u64 0, .int .u64 0, .int .u64 0, .int .u64 0] : List AVal) 0 [.int .u64 (geti e1 0), .int .u64 (geti e1 1), .int .u64 (geti e1 2), .int .u64 (geti e1 3), .int .u64 (geti e1 4), .int .u64 (geti e1 5), .int .u64 (geti e1 6), .int .u64 (geti e1 7)]) 7), true))))))))))))

def f_wide_Shl_d : FD where
  X := Int × Int × Int × Int × Int × Int × Int × Int × Bool
  k := 0
  pre := []
  F := fun s => []
  M := .tup [.agg [.int .u64, .int .u64, .int .u64, .int .u64, .int .u64, .int .u64, .int .u64, .int .u64], .bool]
  B := []
  toL := fun x => [.I x.1, .I x.2.1, .I x.2.2.1, .I x.2.2.2.1, .I x.2.2.2.2.1, .I x.2.2.2.2.2.1, .I x.2.2.2.2.2.2.1, .I x.2.2.2.2.2.2.2.1, .B x.2.2.2.2.2.2.2.2]
  ofL := fun ls => match ls with
    | [.I x0, .I x1, .I x2, .I x3, .I x4, .I x5, .I x6, .I x7, .B x8] => some (x0, x1, x2, x3, x4, x5, x6, x7, x8)
    | _ => none
  ofL_ok := fun ls x h => by
    split at h
    · cases h; rfl
    · cases h

theorem f_wide_Shl_sem (a0 : Int) (a1 : Int) (a2 : Int) (a3 : Int) (a4 : Int) (a5 : Int) (a6 : Int) (a7 : Int) (a8 : Int) (x : Int × Int × Int × Int × Int × Int × Int × Int × Bool) (h : f_wide_Shl a0 a1 a2 a3 a4 a5 a6 a7 a8 = some x) : IsFn Tryz.prog 51 ∧ SemCall Tryz.prog 51 [.agg [.int .u64 a0, .int .u64 a1, .int .u64 a2, .int .u64 a3, .int .u64 a4, .int .u64 a5, .int .u64 a6, .int .u64 a7], .int .i64 a8] ⟨0, numB 0 []⟩ (.ret (f_wide_Shl_d.val x)) ⟨0 + (f_wide_Shl_d.blks x).length, numB 0 (f_wide_Shl_d.blks x)⟩ :=
  FD.sem (ch := ch_f_wide_Shl) (A := annsOf [(9, f_wide_Shl_L9d.la)]) (fn := Tryz.f51) (c := bodyOf Tryz.f51) (fuel := 60) tab_ok ch_f_wide_Shl_ok mixed noNum f_wide_Shl_d Tryz.func51 (by kernel_rfl) (loops_ok (l := [loopAt Tryz.f51 0]) (by kernel_rfl) ⟨ann_one (by kernel_rfl) f_wide_Shl_L9_ok, trivial⟩)
    (by kernel_rfl) (Eq.trans (by kernel_rfl) h)

noncomputable def h_wide_Shl : HK where
  call := fun args σ k => match args with
    | [.agg [.int .u64 a0, .int .u64 a1, .int .u64 a2, .int .u64 a3, .int .u64 a4, .int .u64 a5, .int .u64 a6, .int .u64 a7], .int .i64 a8] => Option.bind (f_wide_Shl a0 a1 a2 a3 a4 a5 a6 a7 a8) fun y => retK σ 0 (f_wide_Shl_d.val y) (f_wide_Shl_d.blks y) k
    | _ => none
  nat := fun args σ k => by
    repeat' split
    all_goals simp only [lendK_nat, Option.bind_assoc, Option.bind_none, retK, Option.bind_some]
  pure := true
  pok := fun _ args σ r σ' h => by
    split at h
    · exact pure_of h (fun y => rfl) (fun y f => rfl)
    · cases h
theorem h_wide_Shl_ok : HKOk Tryz.prog 51 h_wide_Shl := by
  intro args σ r σ' h
  simp only [h_wide_Shl] at h
  split at h
  · rename_i a0 a1 a2 a3 a4 a5 a6 a7 a8
    obtain ⟨y, hy, h⟩ := Option.bind_eq_some_iff.1 h
    exact lifted (xs := []) (ls := []) (cargs := [.agg [.int .u64 a0, .int .u64 a1, .int .u64 a2, .int .u64 a3, .int .u64 a4, .int .u64 a5, .int .u64 a6, .int .u64 a7], .int .i64 a8]) (Lent.of trivial) rfl (f_wide_Shl_sem a0 a1 a2 a3 a4 a5 a6 a7 a8 y hy) rfl rfl rfl rfl h
  · cases h

end Go.Ev
namespace Go.Ev
open Go.Proofs
set_option linter.unusedVariables false
set_option linter.unusedSimpArgs false
set_option maxRecDepth 100000
/-! ### 158: ninepin/wide.left -/

noncomputable def ch_f_wide_left : CH := CH.none
theorem ch_f_wide_left_ok : CHOk Tryz.prog ch_f_wide_left := CH.none_ok

/-- A round of the loop at 3. -/
noncomputable def f_wide_left_L3k {R : Type} (cc : Int × List AVal × Nat × List AVal × Nat × Nat) (v : List AVal × Int) (kn : (List AVal × Int) → Option R) (ke : ((List AVal)) → Option R) : Option R :=
  (cond (decide (v.2 < 8)) (need (decide (0 ≤ (IntKind.wrap .i64 (v.2 - (IntKind.wrap .i64 (Int.tdiv cc.1 64))))) && decide ((IntKind.wrap .i64 (v.2 - (IntKind.wrap .i64 (Int.tdiv cc.1 64)))) < ((8 : Nat) : Int))) (need (rowOk [.int .u64] cc.2.1 (0 + (Int.toNat (IntKind.wrap .i64 (v.2 - (IntKind.wrap .i64 (Int.tdiv cc.1 64)))) * 1))) (need (!decide ((Int.tmod cc.1 64) < 0)) (need (decide (0 ≤ v.2) && decide (v.2 < ((8 : Nat) : Int))) (need (decide ((0 + (Int.toNat v.2 * 1)) + 1 ≤ List.length v.1)) (cond (decide ((Int.tmod cc.1 64) > 0)) (cond (decide (v.2 > (IntKind.wrap .i64 (Int.tdiv cc.1 64)))) (need (decide (0 ≤ v.2) && decide (v.2 < ((8 : Nat) : Int))) (need (rowOk [.int .u64] (spliced v.1 (0 + (Int.toNat v.2 * 1)) [.int .u64 (ishl .u64 (geti cc.2.1 ((0 + (Int.toNat (IntKind.wrap .i64 (v.2 - (IntKind.wrap .i64 (Int.tdiv cc.1 64)))) * 1)) + 0)) (Int.tmod cc.1 64))]) (0 + (Int.toNat v.2 * 1))) (need (decide (0 ≤ (IntKind.wrap .i64 ((IntKind.wrap .i64 (v.2 - (IntKind.wrap .i64 (Int.tdiv cc.1 64)))) - 1))) && decide ((IntKind.wrap .i64 ((IntKind.wrap .i64 (v.2 - (IntKind.wrap .i64 (Int.tdiv cc.1 64)))) - 1)) < ((8 : Nat) : Int))) (need (rowOk [.int .u64] cc.2.1 (0 + (Int.toNat (IntKind.wrap .i64 ((IntKind.wrap .i64 (v.2 - (IntKind.wrap .i64 (Int.tdiv cc.1 64)))) - 1)) * 1))) (need (!decide ((IntKind.wrap .i64 (64 - (Int.tmod cc.1 64))) < 0)) (need (decide (0 ≤ v.2) && decide (v.2 < ((8 : Nat) : Int))) (need (decide ((0 + (Int.toNat v.2 * 1)) + 1 ≤ List.length (spliced v.1 (0 + (Int.toNat v.2 * 1)) [.int .u64 (ishl .u64 (geti cc.2.1 ((0 + (Int.toNat (IntKind.wrap .i64 (v.2 - (IntKind.wrap .i64 (Int.tdiv cc.1 64)))) * 1)) + 0)) (Int.tmod cc.1 64))]))) (kn ((spliced (spliced v.1 (0 + (Int.toNat v.2 * 1)) [.int .u64 (ishl .u64 (geti cc.2.1 ((0 + (Int.toNat (IntKind.wrap .i64 (v.2 - (IntKind.wrap .i64 (Int.tdiv cc.1 64)))) * 1)) + 0)) (Int.tmod cc.1 64))]) (0 + (Int.toNat v.2 * 1)) [.int .u64 (ior .u64 (geti (spliced v.1 (0 + (Int.toNat v.2 * 1)) [.int .u64 (ishl .u64 (geti cc.2.1 ((0 + (Int.toNat (IntKind.wrap .i64 (v.2 - (IntKind.wrap .i64 (Int.tdiv cc.1 64)))) * 1)) + 0)) (Int.tmod cc.1 64))]) ((0 + (Int.toNat v.2 * 1)) + 0)) (ishr .u64 (geti cc.2.1 ((0 + (Int.toNat (IntKind.wrap .i64 ((IntKind.wrap .i64 (v.2 - (IntKind.wrap .i64 (Int.tdiv cc.1 64)))) - 1)) * 1)) + 0)) (IntKind.wrap .i64 (64 - (Int.tmod cc.1 64)))))]), (IntKind.wrap .i64 (v.2 + 1))))))))))) (kn ((spliced v.1 (0 + (Int.toNat v.2 * 1)) [.int .u64 (ishl .u64 (geti cc.2.1 ((0 + (Int.toNat (IntKind.wrap .i64 (v.2 - (IntKind.wrap .i64 (Int.tdiv cc.1 64)))) * 1)) + 0)) (Int.tmod cc.1 64))]), (IntKind.wrap .i64 (v.2 + 1))))) (kn ((spliced v.1 (0 + (Int.toNat v.2 * 1)) [.int .u64 (ishl .u64 (geti cc.2.1 ((0 + (Int.toNat (IntKind.wrap .i64 (v.2 - (IntKind.wrap .i64 (Int.tdiv cc.1 64)))) * 1)) + 0)) (Int.tmod cc.1 64))]), (IntKind.wrap .i64 (v.2 + 1)))))))))) (ke v.1))

noncomputable def f_wide_left_L3s (cc : Int × List AVal × Nat × List AVal × Nat × Nat) (v : List AVal × Int) : Option ((List AVal × Int) ⊕ ((List AVal))) := f_wide_left_L3k cc v (fun v => some (Sum.inl v)) fun e => some (Sum.inr e)

noncomputable def f_wide_left_L3 (cc : Int × List AVal × Nat × List AVal × Nat × Nat) (v : List AVal × Int) : Option ((List AVal)) := loopF (f_wide_left_L3s cc) v

def f_wide_left_L3toL (cc : Int × List AVal × Nat × List AVal × Nat × Nat) (v : List AVal × Int) : List Leaf := [.I cc.1, .I v.2, .C cc.2.1, .N cc.2.2.1, .C cc.2.2.2.1, .N cc.2.2.2.2.1, .C v.1, .N cc.2.2.2.2.2]
def f_wide_left_L3ofL (ls : List Leaf) : Option ((Int × List AVal × Nat × List AVal × Nat × Nat) × (List AVal × Int)) := match ls with
  | [.I x0, .I x1, .C x2, .N x3, .C x4, .N x5, .C x6, .N x7] => some ((x0, x2, x3, x4, x5, x7), (x6, x1))
  | _ => none
def f_wide_left_L3out (e : (List AVal)) : AOut := ((fun e => .exit 0) e)
def f_wide_left_L3toE (cc : Int × List AVal × Nat × List AVal × Nat × Nat) (e : (List AVal)) : List Leaf := ((fun e => [.C cc.2.2.2.1, .N cc.2.2.2.2.1, .C e, .N cc.2.2.2.2.2]) e)
def f_wide_left_L3conE (cc : Int × List AVal × Nat × List AVal × Nat × Nat) (e : (List AVal)) : List Leaf := ((fun e => [.C cc.2.2.2.1, .N cc.2.2.2.2.1, .N cc.2.2.2.2.2]) e)
def f_wide_left_L3ofE (o : AOut) (ls : List Leaf) : Option (((List AVal)) × List Leaf) := match o with
  | .exit 0 => (match ls with
    | [.C x0, .N x1, .C x2, .N x3] => some (x2, [.C x0, .N x1, .N x3])
    | _ => none)
  | _ => none
theorem f_wide_left_L3ofE_ok : ∀ o ls e cl cc, f_wide_left_L3ofE o ls = some (e, cl) → cl = f_wide_left_L3conE cc e → ls = f_wide_left_L3toE cc e ∧ f_wide_left_L3out e = o ∧ o ≠ .normal ∧ ∀ v, o = .pan v → sc 0 v = true := by
  intro o ls e cl cc h hc
  unfold f_wide_left_L3ofE at h
  split at h
  · split at h
    · cases h
      simp only [f_wide_left_L3conE, Sum.elim_inl, Sum.elim_inr, List.cons.injEq, Leaf.I.injEq, Leaf.B.injEq, Leaf.S.injEq, Leaf.N.injEq, Leaf.C.injEq, Leaf.E.injEq, and_true] at hc
      obtain ⟨rfl, rfl, rfl⟩ := hc
      exact ⟨rfl, rfl, by simp, by intro v hv; cases hv <;> rfl⟩
    · cases h
  · cases h
def f_wide_left_L3sh (o : AOut) : ExS := match o with
  | .exit 0 => ⟨2, [none, none, none, none, some (.ptr 0 0), some (.ptr 1 0), none, none, none, none, none, none, none, none, none, none, none, none, none, none, none, none, none, none, none, none, none, none, none, none, none, none, none, none, none, none, none, none, none, none, none, none, none, none, none, none, none, none, none, none], [(0, .vec 8 true), (1, .vec 8 true)], fun s => [nameAt s 4 [], nameAt s 5 []], [], []⟩
  | _ => ⟨0, [], [], fun _ => [], [], []⟩
theorem f_wide_left_L3nat {R : Type} (cc : Int × List AVal × Nat × List AVal × Nat × Nat) (v : List AVal × Int) (kn : (List AVal × Int) → Option R) (ke : ((List AVal)) → Option R) : f_wide_left_L3k cc v kn ke = (f_wide_left_L3k cc v (fun v => some (Sum.inl v)) fun e => some (Sum.inr e)).bind (Sum.elim kn ke) := by
  simp only [f_wide_left_L3k, cond_bind, need_nat, Option.bind_assoc, sum_bind, lookC_bind, Option.bind_some, Option.bind_none, Sum.elim_inl, Sum.elim_inr]
noncomputable def f_wide_left_L3d : LD where
  CC := Int × List AVal × Nat × List AVal × Nat × Nat
  V := List AVal × Int
  E := (List AVal)
  n := 0
  K := 3
  M := [none, some (.int .i64), some (.ptr 0 0), none, some (.ptr 1 0), some (.ptr 2 0), some (.int .i64), none, none, none, none, none, none, none, none, none, none, none, none, none, none, none, none, none, none, none, none, none, none, none, none, none, none, none, none, none, none, none, none, none, none, none, none, none, none, none, none, none, none, none]
  B := [(0, .vec 8 true), (1, .vec 8 true), (2, .vec 8 true)]
  D := []
  pre := []
  F := fun s => [nameAt s 2 [], nameAt s 4 [], nameAt s 5 []]
  toL := f_wide_left_L3toL
  ofL := f_wide_left_L3ofL
  ofL_ok := fun ls c v h => by
    unfold f_wide_left_L3ofL at h
    split at h
    · cases h; rfl
    · cases h
  stepK := f_wide_left_L3k
  nat := f_wide_left_L3nat
  sh := f_wide_left_L3sh
  out := f_wide_left_L3out
  toE := f_wide_left_L3toE
  conE := f_wide_left_L3conE
  ofE := f_wide_left_L3ofE
  ofE_ok := f_wide_left_L3ofE_ok
  post := fun cc e k => ((fun e => k (.exit 0) (canonSt 2 [none, none, none, none, some (.ptr 0 0), some (.ptr 1 0), none, none, none, none, none, none, none, none, none, none, none, none, none, none, none, none, none, none, none, none, none, none, none, none, none, none, none, none, none, none, none, none, none, none, none, none, none, none, none, none, none, none, none, none] [(0, .vec cc.2.2.2.1 cc.2.2.2.2.1 8 true), (1, .vec e cc.2.2.2.2.2 8 true)] [])) e)
  post_eq := fun cc e k => by rfl

theorem f_wide_left_L3_ok : LaOk Tryz.prog 0 f_wide_left_L3d.la (loopAt Tryz.f158 0) :=
  LD.ok (ch := ch_f_wide_left) (A := noAnns) tab_ok ch_f_wide_left_ok mixed (fuel := 60) ⟨by kernel_rfl, fun e => by kernel_rfl, fun cc v => by kernel_rfl, loops_ok (l := []) (by kernel_rfl) trivial⟩

/-- ninepin/wide.left. -/
noncomputable def f_wide_left (a0 : Int) (a1 : Int) (a2 : Int) (a3 : Int) (a4 : Int) (a5 : Int) (a6 : Int) (a7 : Int) (a8 : Int) : Option (Int × Int × Int × Int × Int × Int × Int × Int) :=
  (Option.bind (f_wide_left_L3 (a8, ([.int .u64 a0, .int .u64 a1, .int .u64 a2, .int .u64 a3, .int .u64 a4, .int .u64 a5, .int .u64 a6, .int .u64 a7] : List AVal), 1, ([.int .u64 0, .int .u64 0, .int .u64 0, .int .u64 0, .int .u64 0, .int .u64 0, .int .u64 0, .int .u64 0] : List AVal), 1, 1) (([.int .u64 0, .int .u64 0, .int .u64 0, .int .u64 0, .int .u64 0, .int .u64 0, .int .u64 0, .int .u64 0] : List AVal), (IntKind.wrap .i64 (Int.tdiv a8 64)))) fun e1 => (need (rowOk [.int .u64, .int .u64, .int .u64, .int .u64, .int .u64, .int .u64, .int .u64, .int .u64] e1 0) (need (decide (0 + 8 ≤ List.length ([.int .u64 0, .int .u64 0, .int .u64 0, .int .u64 0, .int .u64 0, .int .u64 0, .int .u64 0, .int .u64 0] : List AVal))) (need (rowOk [.int .u64, .int .u64, .int .u64, .int .u64, .int .u64, .int .u64, .int .u64, .int .u64] (spliced ([.int .u64 0, .int .u64 0, .int .u64 0, .int .u64 0, .int .u64 0, .int .u64 0, .int .u64 0, .int .u64 0] : List AVal) 0 [.int .u64 (geti e1 0), .int .u64 (geti e1 1), .int .u64 (geti e1 2), .int .u64 (geti e1 3), .int .u64 (geti e1 4), .int .u64 (geti e1 5), .int .u64 (geti e1 6), .int .u64 (geti e1 7)]) 0) (some ((geti (spliced ([.int .u64 0, .int .u64 0, .int .u64 0, .int .u64 0, .int .u64 0, .int .u64 0, .int .u64 0, .int .u64 0] : List AVal) 0 [.int .u64 (geti e1 0), .int .u64 (geti e1 1), .int .u64 (geti e1 2), .int .u64 (geti e1 3), .int .u64 (geti e1 4), .int .u64 (geti e1 5), .int .u64 (geti e1 6), .int .u64 (geti e1 7)]) 0), (geti (spliced ([.int .u64 0, .int .u64 0, .int .u64 0, .int .u64 0, .int .u64 0, .int .u64 0, .int .u64 0, .int .u64 0] : List AVal) 0 [.int .u64 (geti e1 0), .int .u64 (geti e1 1), .int .u64 (geti e1 2), .int .u64 (geti e1 3), .int .u64 (geti e1 4), .int .u64 (geti e1 5), .int .u64 (geti e1 6), .int .u64 (geti e1 7)]) 1), (geti (spliced ([.int .u64 0, .int .u64 0, .int .u64 0, .int .u64 0, .int .u64 0, .int .u64 0, .int .u64 0, .int .u64 0] : List AVal) 0 [.int .u64 (geti e1 0), .int .u64 (geti e1 1), .int .u64 (geti e1 2), .int .u64 (geti e1 3), .int .u64 (geti e1 4), .int .u64 (geti e1 5), .int .u64 (geti e1 6), .int .u64 (geti e1 7)]) 2), (geti (spliced ([.int .u64 0, .int .u64 0, .int .u64 0, .int .u64 0, .int .u64 0, .int .u64 0, .int .u64 0, .int .u64 0] : List AVal) 0 [.int .u64 (geti e1 0), .int .u64 (geti e1 1), .int .u64 (geti e1 2), .int .u64 (geti e1 3), .int .u64 (geti e1 4), .int .u64 (geti e1 5), .int .u64 (geti e1 6), .int .u64 (geti e1 7)]) 3), (geti (spliced ([.int .u64 0, .int .u64 0, .int .u64 0, .int .u64 0, .int .u64 0, .int .u64 0, .int .u64 0, .int .u64 0] : List AVal) 0 [.int .u64 (geti e1 0), .int .u64 (geti e1 1), .int .u64 (geti e1 2), .int .u64 (geti e1 3), .int .u64 (geti e1 4), .int .u64 (geti e1 5), .int .u64 (geti e1 6), .int .u64 (geti e1 7)]) 4), (geti (spliced ([.int .u64 0, .int .u64 0, .int .u64 0, .int .u64 0, .int .u64 0, .int .u64 0, .int .u64 0, .int .u64 0] : List AVal) 0 [.int .u64 (geti e1 0), .int .u64 (geti e1 1), .int .u64 (geti e1 2), .int .u64 (geti e1 3), .int .u64 (geti e1 4), .int .u64 (geti e1 5), .int .u64 (geti e1 6), .int .u64 (geti e1 7)]) 5), (geti (spliced ([.int .u64 0, .int .u64 0, .int .u64 0, .int .u64 0, .int .u64 0, .int .u64 0, .int .u64 0, .int .u64 0] : List AVal) 0 [.int .u64 (geti e1 0), .int .u64 (geti e1 1), .int .u64 (geti e1 2), .int .u64 (geti e1 3), .int .u64 (geti e1 4), .int .u64 (geti e1 5), .int .u64 (geti e1 6), .int .u64 (geti e1 7)]) 6), (geti (spliced ([.int .u64 0, .int .u64 0, .int .u64 0, .int .u64 0, .int .u64 0, .int .u64 0, .int .u64 0, .int .u64 0] : List AVal) 0 [.int .u64 (geti e1 0), .int .u64 (geti e1 1), .int .u64 (geti e1 2), .int .u64 (geti e1 3), .int .u64 (geti e1 4), .int .u64 (geti e1 5), .int .u64 (geti e1 6), .int .u64 (geti e1 7)]) 7)))))))

def f_wide_left_d : FD where
  X := Int × Int × Int × Int × Int × Int × Int × Int
  k := 0
  pre := []
  F := fun s => []
  M := .agg [.int .u64, .int .u64, .int .u64, .int .u64, .int .u64, .int .u64, .int .u64, .int .u64]
  B := []
  toL := fun x => [.I x.1, .I x.2.1, .I x.2.2.1, .I x.2.2.2.1, .I x.2.2.2.2.1, .I x.2.2.2.2.2.1, .I x.2.2.2.2.2.2.1, .I x.2.2.2.2.2.2.2]
  ofL := fun ls => match ls with
    | [.I x0, .I x1, .I x2, .I x3, .I x4, .I x5, .I x6, .I x7] => some (x0, x1, x2, x3, x4, x5, x6, x7)
    | _ => none
  ofL_ok := fun ls x h => by
    split at h
    · cases h; rfl
    · cases h

theorem f_wide_left_sem (a0 : Int) (a1 : Int) (a2 : Int) (a3 : Int) (a4 : Int) (a5 : Int) (a6 : Int) (a7 : Int) (a8 : Int) (x : Int × Int × Int × Int × Int × Int × Int × Int) (h : f_wide_left a0 a1 a2 a3 a4 a5 a6 a7 a8 = some x) : IsFn Tryz.prog 158 ∧ SemCall Tryz.prog 158 [.agg [.int .u64 a0, .int .u64 a1, .int .u64 a2, .int .u64 a3, .int .u64 a4, .int .u64 a5, .int .u64 a6, .int .u64 a7], .int .i64 a8] ⟨0, numB 0 []⟩ (.ret (f_wide_left_d.val x)) ⟨0 + (f_wide_left_d.blks x).length, numB 0 (f_wide_left_d.blks x)⟩ :=
  FD.sem (ch := ch_f_wide_left) (A := annsOf [(3, f_wide_left_L3d.la)]) (fn := Tryz.f158) (c := bodyOf Tryz.f158) (fuel := 60) tab_ok ch_f_wide_left_ok mixed noNum f_wide_left_d Tryz.func158 (by kernel_rfl) (loops_ok (l := [loopAt Tryz.f158 0]) (by kernel_rfl) ⟨ann_one (by kernel_rfl) f_wide_left_L3_ok, trivial⟩)
    (by kernel_rfl) (Eq.trans (by kernel_rfl) h)

noncomputable def h_wide_left : HK where
  call := fun args σ k => match args with
    | [.agg [.int .u64 a0, .int .u64 a1, .int .u64 a2, .int .u64 a3, .int .u64 a4, .int .u64 a5, .int .u64 a6, .int .u64 a7], .int .i64 a8] => Option.bind (f_wide_left a0 a1 a2 a3 a4 a5 a6 a7 a8) fun y => retK σ 0 (f_wide_left_d.val y) (f_wide_left_d.blks y) k
    | _ => none
  nat := fun args σ k => by
    repeat' split
    all_goals simp only [lendK_nat, Option.bind_assoc, Option.bind_none, retK, Option.bind_some]
  pure := true
  pok := fun _ args σ r σ' h => by
    split at h
    · exact pure_of h (fun y => rfl) (fun y f => rfl)
    · cases h
theorem h_wide_left_ok : HKOk Tryz.prog 158 h_wide_left := by
  intro args σ r σ' h
  simp only [h_wide_left] at h
  split at h
  · rename_i a0 a1 a2 a3 a4 a5 a6 a7 a8
    obtain ⟨y, hy, h⟩ := Option.bind_eq_some_iff.1 h
    exact lifted (xs := []) (ls := []) (cargs := [.agg [.int .u64 a0, .int .u64 a1, .int .u64 a2, .int .u64 a3, .int .u64 a4, .int .u64 a5, .int .u64 a6, .int .u64 a7], .int .i64 a8]) (Lent.of trivial) rfl (f_wide_left_sem a0 a1 a2 a3 a4 a5 a6 a7 a8 y hy) rfl rfl rfl rfl h
  · cases h

end Go.Ev
namespace Go.Ev
open Go.Proofs
set_option linter.unusedVariables false
set_option linter.unusedSimpArgs false
set_option maxRecDepth 100000
/-! ### 159: ninepin/wide.half -/

noncomputable def ch_f_wide_half : CH := CH.none
theorem ch_f_wide_half_ok : CHOk Tryz.prog ch_f_wide_half := CH.none_ok

/-- ninepin/wide.half. -/
noncomputable def f_wide_half (a0 : Int) (a1 : Int) (a2 : Int) (a3 : Int) (a4 : Int) (a5 : Int) (a6 : Int) (a7 : Int) : Option (Int × Int × Int × Int × Int × Int × Int × Int) :=
  (some ((ior .u64 (ishr .u64 a0 1) (ishl .u64 a1 63)), (ior .u64 (ishr .u64 a1 1) (ishl .u64 a2 63)), (ior .u64 (ishr .u64 a2 1) (ishl .u64 a3 63)), (ior .u64 (ishr .u64 a3 1) (ishl .u64 a4 63)), (ior .u64 (ishr .u64 a4 1) (ishl .u64 a5 63)), (ior .u64 (ishr .u64 a5 1) (ishl .u64 a6 63)), (ior .u64 (ishr .u64 a6 1) (ishl .u64 a7 63)), (ishr .u64 a7 1)))

def f_wide_half_d : FD where
  X := Int × Int × Int × Int × Int × Int × Int × Int
  k := 0
  pre := []
  F := fun s => []
  M := .agg [.int .u64, .int .u64, .int .u64, .int .u64, .int .u64, .int .u64, .int .u64, .int .u64]
  B := []
  toL := fun x => [.I x.1, .I x.2.1, .I x.2.2.1, .I x.2.2.2.1, .I x.2.2.2.2.1, .I x.2.2.2.2.2.1, .I x.2.2.2.2.2.2.1, .I x.2.2.2.2.2.2.2]
  ofL := fun ls => match ls with
    | [.I x0, .I x1, .I x2, .I x3, .I x4, .I x5, .I x6, .I x7] => some (x0, x1, x2, x3, x4, x5, x6, x7)
    | _ => none
  ofL_ok := fun ls x h => by
    split at h
    · cases h; rfl
    · cases h

theorem f_wide_half_sem (a0 : Int) (a1 : Int) (a2 : Int) (a3 : Int) (a4 : Int) (a5 : Int) (a6 : Int) (a7 : Int) (x : Int × Int × Int × Int × Int × Int × Int × Int) (h : f_wide_half a0 a1 a2 a3 a4 a5 a6 a7 = some x) : IsFn Tryz.prog 159 ∧ SemCall Tryz.prog 159 [.agg [.int .u64 a0, .int .u64 a1, .int .u64 a2, .int .u64 a3, .int .u64 a4, .int .u64 a5, .int .u64 a6, .int .u64 a7]] ⟨0, numB 0 []⟩ (.ret (f_wide_half_d.val x)) ⟨0 + (f_wide_half_d.blks x).length, numB 0 (f_wide_half_d.blks x)⟩ :=
  FD.sem (ch := ch_f_wide_half) (A := noAnns) (fn := Tryz.f159) (c := bodyOf Tryz.f159) (fuel := 60) tab_ok ch_f_wide_half_ok mixed noNum f_wide_half_d Tryz.func159 (by kernel_rfl) (loops_ok (l := [loopAt Tryz.f159 0]) (by kernel_rfl) ⟨(ann_none (by kernel_rfl)), trivial⟩)
    (by kernel_rfl) (Eq.trans (by kernel_rfl) h)

noncomputable def h_wide_half : HK where
  call := fun args σ k => match args with
    | [.agg [.int .u64 a0, .int .u64 a1, .int .u64 a2, .int .u64 a3, .int .u64 a4, .int .u64 a5, .int .u64 a6, .int .u64 a7]] => Option.bind (f_wide_half a0 a1 a2 a3 a4 a5 a6 a7) fun y => retK σ 0 (f_wide_half_d.val y) (f_wide_half_d.blks y) k
    | _ => none
  nat := fun args σ k => by
    repeat' split
    all_goals simp only [lendK_nat, Option.bind_assoc, Option.bind_none, retK, Option.bind_some]
  pure := true
  pok := fun _ args σ r σ' h => by
    split at h
    · exact pure_of h (fun y => rfl) (fun y f => rfl)
    · cases h
theorem h_wide_half_ok : HKOk Tryz.prog 159 h_wide_half := by
  intro args σ r σ' h
  simp only [h_wide_half] at h
  split at h
  · rename_i a0 a1 a2 a3 a4 a5 a6 a7
    obtain ⟨y, hy, h⟩ := Option.bind_eq_some_iff.1 h
    exact lifted (xs := []) (ls := []) (cargs := [.agg [.int .u64 a0, .int .u64 a1, .int .u64 a2, .int .u64 a3, .int .u64 a4, .int .u64 a5, .int .u64 a6, .int .u64 a7]]) (Lent.of trivial) rfl (f_wide_half_sem a0 a1 a2 a3 a4 a5 a6 a7 y hy) rfl rfl rfl rfl h
  · cases h

end Go.Ev
namespace Go.Ev
open Go.Proofs
set_option linter.unusedVariables false
set_option linter.unusedSimpArgs false
set_option maxRecDepth 100000
/-! ### 130: ninepin/wide.parts -/

noncomputable def ch_f_wide_parts : CH := (CH.add 159 h_wide_half (CH.add 158 h_wide_left (CH.add 157 h_wide_length (CH.add 131 h_wide_not (CH.add 100 h_wide_above (CH.add 66 h_wide_plus CH.none))))))
theorem ch_f_wide_parts_ok : CHOk Tryz.prog ch_f_wide_parts := (CH.add_ok h_wide_half_ok (CH.add_ok h_wide_left_ok (CH.add_ok h_wide_length_ok (CH.add_ok h_wide_not_ok (CH.add_ok h_wide_above_ok (CH.add_ok h_wide_plus_ok CH.none_ok))))))

/-- A round of the loop at 6. -/
noncomputable def f_wide_parts_L6k {R : Type} (cc : Nat × Nat) (v : List AVal × List AVal × Int × List AVal × Nat) (kn : (List AVal × List AVal × Int × List AVal × Nat) → Option R) (ke : ((List AVal × List AVal)) → Option R) : Option R :=
  (cond (decide (v.2.2.1 ≥ 0)) (need (rowOk [.int .u64, .int .u64, .int .u64, .int .u64, .int .u64, .int .u64, .int .u64, .int .u64] v.2.1 0) (need (rowOk [.int .u64, .int .u64, .int .u64, .int .u64, .int .u64, .int .u64, .int .u64, .int .u64] v.2.2.2.1 0) (Option.bind (f_wide_above (geti v.2.1 0) (geti v.2.1 1) (geti v.2.1 2) (geti v.2.1 3) (geti v.2.1 4) (geti v.2.1 5) (geti v.2.1 6) (geti v.2.1 7) (geti v.2.2.2.1 0) (geti v.2.2.2.1 1) (geti v.2.2.2.1 2) (geti v.2.2.2.1 3) (geti v.2.2.2.1 4) (geti v.2.2.2.1 5) (geti v.2.2.2.1 6) (geti v.2.2.2.1 7)) fun r4 => (cond (decide (r4 ≥ 0)) (need (rowOk [.int .u64, .int .u64, .int .u64, .int .u64, .int .u64, .int .u64, .int .u64, .int .u64] v.2.1 0) (need (rowOk [.int .u64, .int .u64, .int .u64, .int .u64, .int .u64, .int .u64, .int .u64, .int .u64] v.2.2.2.1 0) (Option.bind (f_wide_not (geti v.2.2.2.1 0) (geti v.2.2.2.1 1) (geti v.2.2.2.1 2) (geti v.2.2.2.1 3) (geti v.2.2.2.1 4) (geti v.2.2.2.1 5) (geti v.2.2.2.1 6) (geti v.2.2.2.1 7)) fun r5 => (Option.bind (f_wide_plus (geti v.2.1 0) (geti v.2.1 1) (geti v.2.1 2) (geti v.2.1 3) (geti v.2.1 4) (geti v.2.1 5) (geti v.2.1 6) (geti v.2.1 7) r5.1 r5.2.1 r5.2.2.1 r5.2.2.2.1 r5.2.2.2.2.1 r5.2.2.2.2.2.1 r5.2.2.2.2.2.2.1 r5.2.2.2.2.2.2.2 1) fun r6 => (need (decide (0 + 8 ≤ List.length v.2.1)) (need (decide (0 ≤ (IntKind.wrap .i64 (Int.tdiv v.2.2.1 64))) && decide ((IntKind.wrap .i64 (Int.tdiv v.2.2.1 64)) < ((8 : Nat) : Int))) (need (rowOk [.int .u64] v.1 (0 + (Int.toNat (IntKind.wrap .i64 (Int.tdiv v.2.2.1 64)) * 1))) (need (!decide ((Int.tmod v.2.2.1 64) < 0)) (need (decide (0 ≤ (IntKind.wrap .i64 (Int.tdiv v.2.2.1 64))) && decide ((IntKind.wrap .i64 (Int.tdiv v.2.2.1 64)) < ((8 : Nat) : Int))) (need (decide ((0 + (Int.toNat (IntKind.wrap .i64 (Int.tdiv v.2.2.1 64)) * 1)) + 1 ≤ List.length v.1)) (need (rowOk [.int .u64, .int .u64, .int .u64, .int .u64, .int .u64, .int .u64, .int .u64, .int .u64] v.2.2.2.1 0) (Option.bind (f_wide_half (geti v.2.2.2.1 0) (geti v.2.2.2.1 1) (geti v.2.2.2.1 2) (geti v.2.2.2.1 3) (geti v.2.2.2.1 4) (geti v.2.2.2.1 5) (geti v.2.2.2.1 6) (geti v.2.2.2.1 7)) fun r7 => (need (decide (0 + 8 ≤ List.length v.2.2.2.1)) (need (rowOk [.int .u64, .int .u64, .int .u64, .int .u64, .int .u64, .int .u64, .int .u64, .int .u64] (spliced v.2.2.2.1 0 [.int .u64 r7.1, .int .u64 r7.2.1, .int .u64 r7.2.2.1, .int .u64 r7.2.2.2.1, .int .u64 r7.2.2.2.2.1, .int .u64 r7.2.2.2.2.2.1, .int .u64 r7.2.2.2.2.2.2.1, .int .u64 r7.2.2.2.2.2.2.2]) 0) (kn ((spliced v.1 (0 + (Int.toNat (IntKind.wrap .i64 (Int.tdiv v.2.2.1 64)) * 1)) [.int .u64 (ior .u64 (geti v.1 ((0 + (Int.toNat (IntKind.wrap .i64 (Int.tdiv v.2.2.1 64)) * 1)) + 0)) (ishl .u64 1 (Int.tmod v.2.2.1 64)))]), (spliced v.2.1 0 [.int .u64 r6.1, .int .u64 r6.2.1, .int .u64 r6.2.2.1, .int .u64 r6.2.2.2.1, .int .u64 r6.2.2.2.2.1, .int .u64 r6.2.2.2.2.2.1, .int .u64 r6.2.2.2.2.2.2.1, .int .u64 r6.2.2.2.2.2.2.2]), (IntKind.wrap .i64 (v.2.2.1 - 1)), ([.int .u64 (geti (spliced v.2.2.2.1 0 [.int .u64 r7.1, .int .u64 r7.2.1, .int .u64 r7.2.2.1, .int .u64 r7.2.2.2.1, .int .u64 r7.2.2.2.2.1, .int .u64 r7.2.2.2.2.2.1, .int .u64 r7.2.2.2.2.2.2.1, .int .u64 r7.2.2.2.2.2.2.2]) 0), .int .u64 (geti (spliced v.2.2.2.1 0 [.int .u64 r7.1, .int .u64 r7.2.1, .int .u64 r7.2.2.1, .int .u64 r7.2.2.2.1, .int .u64 r7.2.2.2.2.1, .int .u64 r7.2.2.2.2.2.1, .int .u64 r7.2.2.2.2.2.2.1, .int .u64 r7.2.2.2.2.2.2.2]) 1), .int .u64 (geti (spliced v.2.2.2.1 0 [.int .u64 r7.1, .int .u64 r7.2.1, .int .u64 r7.2.2.1, .int .u64 r7.2.2.2.1, .int .u64 r7.2.2.2.2.1, .int .u64 r7.2.2.2.2.2.1, .int .u64 r7.2.2.2.2.2.2.1, .int .u64 r7.2.2.2.2.2.2.2]) 2), .int .u64 (geti (spliced v.2.2.2.1 0 [.int .u64 r7.1, .int .u64 r7.2.1, .int .u64 r7.2.2.1, .int .u64 r7.2.2.2.1, .int .u64 r7.2.2.2.2.1, .int .u64 r7.2.2.2.2.2.1, .int .u64 r7.2.2.2.2.2.2.1, .int .u64 r7.2.2.2.2.2.2.2]) 3), .int .u64 (geti (spliced v.2.2.2.1 0 [.int .u64 r7.1, .int .u64 r7.2.1, .int .u64 r7.2.2.1, .int .u64 r7.2.2.2.1, .int .u64 r7.2.2.2.2.1, .int .u64 r7.2.2.2.2.2.1, .int .u64 r7.2.2.2.2.2.2.1, .int .u64 r7.2.2.2.2.2.2.2]) 4), .int .u64 (geti (spliced v.2.2.2.1 0 [.int .u64 r7.1, .int .u64 r7.2.1, .int .u64 r7.2.2.1, .int .u64 r7.2.2.2.1, .int .u64 r7.2.2.2.2.1, .int .u64 r7.2.2.2.2.2.1, .int .u64 r7.2.2.2.2.2.2.1, .int .u64 r7.2.2.2.2.2.2.2]) 5), .int .u64 (geti (spliced v.2.2.2.1 0 [.int .u64 r7.1, .int .u64 r7.2.1, .int .u64 r7.2.2.1, .int .u64 r7.2.2.2.1, .int .u64 r7.2.2.2.2.1, .int .u64 r7.2.2.2.2.2.1, .int .u64 r7.2.2.2.2.2.2.1, .int .u64 r7.2.2.2.2.2.2.2]) 6), .int .u64 (geti (spliced v.2.2.2.1 0 [.int .u64 r7.1, .int .u64 r7.2.1, .int .u64 r7.2.2.1, .int .u64 r7.2.2.2.1, .int .u64 r7.2.2.2.2.1, .int .u64 r7.2.2.2.2.2.1, .int .u64 r7.2.2.2.2.2.2.1, .int .u64 r7.2.2.2.2.2.2.2]) 7)] : List AVal), 1)))))))))))))))) (need (rowOk [.int .u64, .int .u64, .int .u64, .int .u64, .int .u64, .int .u64, .int .u64, .int .u64] v.2.2.2.1 0) (Option.bind (f_wide_half (geti v.2.2.2.1 0) (geti v.2.2.2.1 1) (geti v.2.2.2.1 2) (geti v.2.2.2.1 3) (geti v.2.2.2.1 4) (geti v.2.2.2.1 5) (geti v.2.2.2.1 6) (geti v.2.2.2.1 7)) fun r8 => (need (decide (0 + 8 ≤ List.length v.2.2.2.1)) (need (rowOk [.int .u64, .int .u64, .int .u64, .int .u64, .int .u64, .int .u64, .int .u64, .int .u64] (spliced v.2.2.2.1 0 [.int .u64 r8.1, .int .u64 r8.2.1, .int .u64 r8.2.2.1, .int .u64 r8.2.2.2.1, .int .u64 r8.2.2.2.2.1, .int .u64 r8.2.2.2.2.2.1, .int .u64 r8.2.2.2.2.2.2.1, .int .u64 r8.2.2.2.2.2.2.2]) 0) (kn (v.1, v.2.1, (IntKind.wrap .i64 (v.2.2.1 - 1)), ([.int .u64 (geti (spliced v.2.2.2.1 0 [.int .u64 r8.1, .int .u64 r8.2.1, .int .u64 r8.2.2.1, .int .u64 r8.2.2.2.1, .int .u64 r8.2.2.2.2.1, .int .u64 r8.2.2.2.2.2.1, .int .u64 r8.2.2.2.2.2.2.1, .int .u64 r8.2.2.2.2.2.2.2]) 0), .int .u64 (geti (spliced v.2.2.2.1 0 [.int .u64 r8.1, .int .u64 r8.2.1, .int .u64 r8.2.2.1, .int .u64 r8.2.2.2.1, .int .u64 r8.2.2.2.2.1, .int .u64 r8.2.2.2.2.2.1, .int .u64 r8.2.2.2.2.2.2.1, .int .u64 r8.2.2.2.2.2.2.2]) 1), .int .u64 (geti (spliced v.2.2.2.1 0 [.int .u64 r8.1, .int .u64 r8.2.1, .int .u64 r8.2.2.1, .int .u64 r8.2.2.2.1, .int .u64 r8.2.2.2.2.1, .int .u64 r8.2.2.2.2.2.1, .int .u64 r8.2.2.2.2.2.2.1, .int .u64 r8.2.2.2.2.2.2.2]) 2), .int .u64 (geti (spliced v.2.2.2.1 0 [.int .u64 r8.1, .int .u64 r8.2.1, .int .u64 r8.2.2.1, .int .u64 r8.2.2.2.1, .int .u64 r8.2.2.2.2.1, .int .u64 r8.2.2.2.2.2.1, .int .u64 r8.2.2.2.2.2.2.1, .int .u64 r8.2.2.2.2.2.2.2]) 3), .int .u64 (geti (spliced v.2.2.2.1 0 [.int .u64 r8.1, .int .u64 r8.2.1, .int .u64 r8.2.2.1, .int .u64 r8.2.2.2.1, .int .u64 r8.2.2.2.2.1, .int .u64 r8.2.2.2.2.2.1, .int .u64 r8.2.2.2.2.2.2.1, .int .u64 r8.2.2.2.2.2.2.2]) 4), .int .u64 (geti (spliced v.2.2.2.1 0 [.int .u64 r8.1, .int .u64 r8.2.1, .int .u64 r8.2.2.1, .int .u64 r8.2.2.2.1, .int .u64 r8.2.2.2.2.1, .int .u64 r8.2.2.2.2.2.1, .int .u64 r8.2.2.2.2.2.2.1, .int .u64 r8.2.2.2.2.2.2.2]) 5), .int .u64 (geti (spliced v.2.2.2.1 0 [.int .u64 r8.1, .int .u64 r8.2.1, .int .u64 r8.2.2.1, .int .u64 r8.2.2.2.1, .int .u64 r8.2.2.2.2.1, .int .u64 r8.2.2.2.2.2.1, .int .u64 r8.2.2.2.2.2.2.1, .int .u64 r8.2.2.2.2.2.2.2]) 6), .int .u64 (geti (spliced v.2.2.2.1 0 [.int .u64 r8.1, .int .u64 r8.2.1, .int .u64 r8.2.2.1, .int .u64 r8.2.2.2.1, .int .u64 r8.2.2.2.2.1, .int .u64 r8.2.2.2.2.2.1, .int .u64 r8.2.2.2.2.2.2.1, .int .u64 r8.2.2.2.2.2.2.2]) 7)] : List AVal), 1)))))))))) (ke (v.1, v.2.1)))

noncomputable def f_wide_parts_L6s (cc : Nat × Nat) (v : List AVal × List AVal × Int × List AVal × Nat) : Option ((List AVal × List AVal × Int × List AVal × Nat) ⊕ ((List AVal × List AVal))) := f_wide_parts_L6k cc v (fun v => some (Sum.inl v)) fun e => some (Sum.inr e)

noncomputable def f_wide_parts_L6 (cc : Nat × Nat) (v : List AVal × List AVal × Int × List AVal × Nat) : Option ((List AVal × List AVal)) := loopF (f_wide_parts_L6s cc) v

def f_wide_parts_L6toL (cc : Nat × Nat) (v : List AVal × List AVal × Int × List AVal × Nat) : List Leaf := [.I v.2.2.1, .C v.1, .N cc.1, .C v.2.1, .N cc.2, .C v.2.2.2.1, .N v.2.2.2.2]
def f_wide_parts_L6ofL (ls : List Leaf) : Option ((Nat × Nat) × (List AVal × List AVal × Int × List AVal × Nat)) := match ls with
  | [.I x0, .C x1, .N x2, .C x3, .N x4, .C x5, .N x6] => some ((x2, x4), (x1, x3, x0, x5, x6))
  | _ => none
def f_wide_parts_L6out (e : (List AVal × List AVal)) : AOut := ((fun e => .exit 0) e)
def f_wide_parts_L6toE (cc : Nat × Nat) (e : (List AVal × List AVal)) : List Leaf := ((fun e => [.C e.1, .N cc.1, .C e.2, .N cc.2]) e)
def f_wide_parts_L6conE (cc : Nat × Nat) (e : (List AVal × List AVal)) : List Leaf := ((fun e => [.N cc.1, .N cc.2]) e)
def f_wide_parts_L6ofE (o : AOut) (ls : List Leaf) : Option (((List AVal × List AVal)) × List Leaf) := match o with
  | .exit 0 => (match ls with
    | [.C x0, .N x1, .C x2, .N x3] => some ((x0, x2), [.N x1, .N x3])
    | _ => none)
  | _ => none
theorem f_wide_parts_L6ofE_ok : ∀ o ls e cl cc, f_wide_parts_L6ofE o ls = some (e, cl) → cl = f_wide_parts_L6conE cc e → ls = f_wide_parts_L6toE cc e ∧ f_wide_parts_L6out e = o ∧ o ≠ .normal ∧ ∀ v, o = .pan v → sc 0 v = true := by
  intro o ls e cl cc h hc
  unfold f_wide_parts_L6ofE at h
  split at h
  · split at h
    · cases h
      simp only [f_wide_parts_L6conE, Sum.elim_inl, Sum.elim_inr, List.cons.injEq, Leaf.I.injEq, Leaf.B.injEq, Leaf.S.injEq, Leaf.N.injEq, Leaf.C.injEq, Leaf.E.injEq, and_true] at hc
      obtain ⟨rfl, rfl⟩ := hc
      exact ⟨rfl, rfl, by simp, by intro v hv; cases hv <;> rfl⟩
    · cases h
  · cases h
def f_wide_parts_L6sh (o : AOut) : ExS := match o with
  | .exit 0 => ⟨2, [none, none, none, none, some (.ptr 0 0), some (.ptr 1 0), none, none, none, none, none, none, none, none, none, none, none, none, none, none, none, none, none, none, none, none, none, none, none, none, none, none, none, none, none, none, none, none, none, none, none, none, none, none, none, none, none], [(0, .vec 8 true), (1, .vec 8 true)], fun s => [nameAt s 4 [], nameAt s 5 []], [], []⟩
  | _ => ⟨0, [], [], fun _ => [], [], []⟩
theorem f_wide_parts_L6nat {R : Type} (cc : Nat × Nat) (v : List AVal × List AVal × Int × List AVal × Nat) (kn : (List AVal × List AVal × Int × List AVal × Nat) → Option R) (ke : ((List AVal × List AVal)) → Option R) : f_wide_parts_L6k cc v kn ke = (f_wide_parts_L6k cc v (fun v => some (Sum.inl v)) fun e => some (Sum.inr e)).bind (Sum.elim kn ke) := by
  simp only [f_wide_parts_L6k, cond_bind, need_nat, Option.bind_assoc, sum_bind, lookC_bind, Option.bind_some, Option.bind_none, Sum.elim_inl, Sum.elim_inr]
noncomputable def f_wide_parts_L6d : LD where
  CC := Nat × Nat
  V := List AVal × List AVal × Int × List AVal × Nat
  E := (List AVal × List AVal)
  n := 0
  K := 3
  M := [none, none, none, none, some (.ptr 0 0), some (.ptr 1 0), some (.int .i64), some (.ptr 2 0), none, none, none, none, none, none, none, none, none, none, none, none, none, none, none, none, none, none, none, none, none, none, none, none, none, none, none, none, none, none, none, none, none, none, none, none, none, none, none]
  B := [(0, .vec 8 true), (1, .vec 8 true), (2, .vec 8 true)]
  D := []
  pre := []
  F := fun s => [nameAt s 4 [], nameAt s 5 [], nameAt s 7 []]
  toL := f_wide_parts_L6toL
  ofL := f_wide_parts_L6ofL
  ofL_ok := fun ls c v h => by
    unfold f_wide_parts_L6ofL at h
    split at h
    · cases h; rfl
    · cases h
  stepK := f_wide_parts_L6k
  nat := f_wide_parts_L6nat
  sh := f_wide_parts_L6sh
  out := f_wide_parts_L6out
  toE := f_wide_parts_L6toE
  conE := f_wide_parts_L6conE
  ofE := f_wide_parts_L6ofE
  ofE_ok := f_wide_parts_L6ofE_ok
  post := fun cc e k => ((fun e => k (.exit 0) (canonSt 2 [none, none, none, none, some (.ptr 0 0), some (.ptr 1 0), none, none, none, none, none, none, none, none, none, none, none, none, none, none, none, none, none, none, none, none, none, none, none, none, none, none, none, none, none, none, none, none, none, none, none, none, none, none, none, none, none] [(0, .vec e.1 cc.1 8 true), (1, .vec e.2 cc.2 8 true)] [])) e)
  post_eq := fun cc e k => by rfl

theorem f_wide_parts_L6_ok : LaOk Tryz.prog 0 f_wide_parts_L6d.la (loopAt Tryz.f130 0) :=
  LD.ok (ch := ch_f_wide_parts) (A := noAnns) tab_ok ch_f_wide_parts_ok mixed (fuel := 60) ⟨by kernel_rfl, fun e => by kernel_rfl, fun cc v => by kernel_rfl, loops_ok (l := []) (by kernel_rfl) trivial⟩

/-- ninepin/wide.parts. -/
noncomputable def f_wide_parts (a0 : Int) (a1 : Int) (a2 : Int) (a3 : Int) (a4 : Int) (a5 : Int) (a6 : Int) (a7 : Int) (a8 : Int) (a9 : Int) (a10 : Int) (a11 : Int) (a12 : Int) (a13 : Int) (a14 : Int) (a15 : Int) : Option (Int × Int × Int × Int × Int × Int × Int × Int × Int × Int × Int × Int × Int × Int × Int × Int) :=
  (Option.bind (f_wide_length a0 a1 a2 a3 a4 a5 a6 a7) fun r1 => (Option.bind (f_wide_length a8 a9 a10 a11 a12 a13 a14 a15) fun r2 => (cond (decide ((IntKind.wrap .i64 (r1 - r2)) < 0)) (some (0, 0, 0, 0, 0, 0, 0, 0, a0, a1, a2, a3, a4, a5, a6, a7)) (Option.bind (f_wide_left a8 a9 a10 a11 a12 a13 a14 a15 (IntKind.wrap .i64 (r1 - r2))) fun r3 => (Option.bind (f_wide_parts_L6 (1, 1) (([.int .u64 0, .int .u64 0, .int .u64 0, .int .u64 0, .int .u64 0, .int .u64 0, .int .u64 0, .int .u64 0] : List AVal), ([.int .u64 a0, .int .u64 a1, .int .u64 a2, .int .u64 a3, .int .u64 a4, .int .u64 a5, .int .u64 a6, .int .u64 a7] : List AVal), (IntKind.wrap .i64 (r1 - r2)), ([.int .u64 r3.1, .int .u64 r3.2.1, .int .u64 r3.2.2.1, .int .u64 r3.2.2.2.1, .int .u64 r3.2.2.2.2.1, .int .u64 r3.2.2.2.2.2.1, .int .u64 r3.2.2.2.2.2.2.1, .int .u64 r3.2.2.2.2.2.2.2] : List AVal), 1)) fun e4 => (need (rowOk [.int .u64, .int .u64, .int .u64, .int .u64, .int .u64, .int .u64, .int .u64, .int .u64] e4.1 0) (need (rowOk [.int .u64, .int .u64, .int .u64, .int .u64, .int .u64, .int .u64, .int .u64, .int .u64] e4.2 0) (need (decide (0 + 8 ≤ List.length e4.1)) (need (decide (0 + 8 ≤ List.length e4.2)) (need (rowOk [.int .u64, .int .u64, .int .u64, .int .u64, .int .u64, .int .u64, .int .u64, .int .u64] (spliced e4.1 0 [.int .u64 (geti e4.1 0), .int .u64 (geti e4.1 1), .int .u64 (geti e4.1 2), .int .u64 (geti e4.1 3), .int .u64 (geti e4.1 4), .int .u64 (geti e4.1 5), .int .u64 (geti e4.1 6), .int .u64 (geti e4.1 7)]) 0) (need (rowOk [.int .u64, .int .u64, .int .u64, .int .u64, .int .u64, .int .u64, .int .u64, .int .u64] (spliced e4.2 0 [.int .u64 (geti e4.2 0), .int .u64 (geti e4.2 1), .int .u64 (geti e4.2 2), .int .u64 (geti e4.2 3), .int .u64 (geti e4.2 4), .int .u64 (geti e4.2 5), .int .u64 (geti e4.2 6), .int .u64 (geti e4.2 7)]) 0) (some ((geti (spliced e4.1 0 [.int .u64 (geti e4.1 0), .int .u64 (geti e4.1 1), .int .u64 (geti e4.1 2), .int .u64 (geti e4.1 3), .int .u64 (geti e4.1 4), .int .u64 (geti e4.1 5), .int .u64 (geti e4.1 6), .int .u64 (geti e4.1 7)]) 0), (geti (spliced e4.1 0 [.int .u64 (geti e4.1 0), .int .u64 (geti e4.1 1), .int .u64 (geti e4.1 2), .int .u64 (geti e4.1 3), .int .u64 (geti e4.1 4), .int .u64 (geti e4.1 5), .int .u64 (geti e4.1 6), .int .u64 (geti e4.1 7)]) 1), (geti (spliced e4.1 0 [.int .u64 (geti e4.1 0), .int .u64 (geti e4.1 1), .int .u64 (geti e4.1 2), .int .u64 (geti e4.1 3), .int .u64 (geti e4.1 4), .int .u64 (geti e4.1 5), .int .u64 (geti e4.1 6), .int .u64 (geti e4.1 7)]) 2), (geti (spliced e4.1 0 [.int .u64 (geti e4.1 0), .int .u64 (geti e4.1 1), .int .u64 (geti e4.1 2), .int .u64 (geti e4.1 3), .int .u64 (geti e4.1 4), .int .u64 (geti e4.1 5), .int .u64 (geti e4.1 6), .int .u64 (geti e4.1 7)]) 3), (geti (spliced e4.1 0 [.int .u64 (geti e4.1 0), .int .u64 (geti e4.1 1), .int .u64 (geti e4.1 2), .int .u64 (geti e4.1 3), .int .u64 (geti e4.1 4), .int .u64 (geti e4.1 5), .int .u64 (geti e4.1 6), .int .u64 (geti e4.1 7)]) 4), (geti (spliced e4.1 0 [.int .u64 (geti e4.1 0), .int .u64 (geti e4.1 1), .int .u64 (geti e4.1 2), .int .u64 (geti e4.1 3), .int .u64 (geti e4.1 4), .int .u64 (geti e4.1 5), .int .u64 (geti e4.1 6), .int .u64 (geti e4.1 7)]) 5), (geti (spliced e4.1 0 [.int .u64 (geti e4.1 0), .int .u64 (geti e4.1 1), .int .u64 (geti e4.1 2), .int .u64 (geti e4.1 3), .int .u64 (geti e4.1 4), .int .u64 (geti e4.1 5), .int .u64 (geti e4.1 6), .int .u64 (geti e4.1 7)]) 6), (geti (spliced e4.1 0 [.int .u64 (geti e4.1 0), .int .u64 (geti e4.1 1), .int .u64 (geti e4.1 2), .int .u64 (geti e4.1 3), .int .u64 (geti e4.1 4), .int .u64 (geti e4.1 5), .int .u64 (geti e4.1 6), .int .u64 (geti e4.1 7)]) 7), (geti (spliced e4.2 0 [.int .u64 (geti e4.2 0), .int .u64 (geti e4.2 1), .int .u64 (geti e4.2 2), .int .u64 (geti e4.2 3), .int .u64 (geti e4.2 4), .int .u64 (geti e4.2 5), .int .u64 (geti e4.2 6), .int .u64 (geti e4.2 7)]) 0), (geti (spliced e4.2 0 [.int .u64 (geti e4.2 0), .int .u64 (geti e4.2 1), .int .u64 (geti e4.2 2), .int .u64 (geti e4.2 3), .int .u64 (geti e4.2 4), .int .u64 (geti e4.2 5), .int .u64 (geti e4.2 6), .int .u64 (geti e4.2 7)]) 1), (geti (spliced e4.2 0 [.int .u64 (geti e4.2 0), .int .u64 (geti e4.2 1), .int .u64 (geti e4.2 2), .int .u64 (geti e4.2 3), .int .u64 (geti e4.2 4), .int .u64 (geti e4.2 5), .int .u64 (geti e4.2 6), .int .u64 (geti e4.2 7)]) 2), (geti (spliced e4.2 0 [.int .u64 (geti e4.2 0), .int .u64 (geti e4.2 1), .int .u64 (geti e4.2 2), .int .u64 (geti e4.2 3), .int .u64 (geti e4.2 4), .int .u64 (geti e4.2 5), .int .u64 (geti e4.2 6), .int .u64 (geti e4.2 7)]) 3), (geti (spliced e4.2 0 [.int .u64 (geti e4.2 0), .int .u64 (geti e4.2 1), .int .u64 (geti e4.2 2), .int .u64 (geti e4.2 3), .int .u64 (geti e4.2 4), .int .u64 (geti e4.2 5), .int .u64 (geti e4.2 6), .int .u64 (geti e4.2 7)]) 4), (geti (spliced e4.2 0 [.int .u64 (geti e4.2 0), .int .u64 (geti e4.2 1), .int .u64 (geti e4.2 2), .int .u64 (geti e4.2 3), .int .u64 (geti e4.2 4), .int .u64 (geti e4.2 5), .int .u64 (geti e4.2 6), .int .u64 (geti e4.2 7)]) 5), (geti (spliced e4.2 0 [.int .u64 (geti e4.2 0), .int .u64 (geti e4.2 1), .int .u64 (geti e4.2 2), .int .u64 (geti e4.2 3), .int .u64 (geti e4.2 4), .int .u64 (geti e4.2 5), .int .u64 (geti e4.2 6), .int .u64 (geti e4.2 7)]) 6), (geti (spliced e4.2 0 [.int .u64 (geti e4.2 0), .int .u64 (geti e4.2 1), .int .u64 (geti e4.2 2), .int .u64 (geti e4.2 3), .int .u64 (geti e4.2 4), .int .u64 (geti e4.2 5), .int .u64 (geti e4.2 6), .int .u64 (geti e4.2 7)]) 7))))))))))))))

def f_wide_parts_d : FD where
  X := Int × Int × Int × Int × Int × Int × Int × Int × Int × Int × Int × Int × Int × Int × Int × Int
  k := 0
  pre := []
  F := fun s => []
  M := .tup [.agg [.int .u64, .int .u64, .int .u64, .int .u64, .int .u64, .int .u64, .int .u64, .int .u64], .agg [.int .u64, .int .u64, .int .u64, .int .u64, .int .u64, .int .u64, .int .u64, .int .u64]]
  B := []
  toL := fun x => [.I x.1, .I x.2.1, .I x.2.2.1, .I x.2.2.2.1, .I x.2.2.2.2.1, .I x.2.2.2.2.2.1, .I x.2.2.2.2.2.2.1, .I x.2.2.2.2.2.2.2.1, .I x.2.2.2.2.2.2.2.2.1, .I x.2.2.2.2.2.2.2.2.2.1, .I x.2.2.2.2.2.2.2.2.2.2.1, .I x.2.2.2.2.2.2.2.2.2.2.2.1, .I x.2.2.2.2.2.2.2.2.2.2.2.2.1, .I x.2.2.2.2.2.2.2.2.2.2.2.2.2.1, .I x.2.2.2.2.2.2.2.2.2.2.2.2.2.2.1, .I x.2.2.2.2.2.2.2.2.2.2.2.2.2.2.2]
  ofL := fun ls => match ls with
    | [.I x0, .I x1, .I x2, .I x3, .I x4, .I x5, .I x6, .I x7, .I x8, .I x9, .I x10, .I x11, .I x12, .I x13, .I x14, .I x15] => some (x0, x1, x2, x3, x4, x5, x6, x7, x8, x9, x10, x11, x12, x13, x14, x15)
    | _ => none
  ofL_ok := fun ls x h => by
    split at h
    · cases h; rfl
    · cases h

theorem f_wide_parts_sem (a0 : Int) (a1 : Int) (a2 : Int) (a3 : Int) (a4 : Int) (a5 : Int) (a6 : Int) (a7 : Int) (a8 : Int) (a9 : Int) (a10 : Int) (a11 : Int) (a12 : Int) (a13 : Int) (a14 : Int) (a15 : Int) (x : Int × Int × Int × Int × Int × Int × Int × Int × Int × Int × Int × Int × Int × Int × Int × Int) (h : f_wide_parts a0 a1 a2 a3 a4 a5 a6 a7 a8 a9 a10 a11 a12 a13 a14 a15 = some x) : IsFn Tryz.prog 130 ∧ SemCall Tryz.prog 130 [.agg [.int .u64 a0, .int .u64 a1, .int .u64 a2, .int .u64 a3, .int .u64 a4, .int .u64 a5, .int .u64 a6, .int .u64 a7], .agg [.int .u64 a8, .int .u64 a9, .int .u64 a10, .int .u64 a11, .int .u64 a12, .int .u64 a13, .int .u64 a14, .int .u64 a15]] ⟨0, numB 0 []⟩ (.ret (f_wide_parts_d.val x)) ⟨0 + (f_wide_parts_d.blks x).length, numB 0 (f_wide_parts_d.blks x)⟩ :=
  FD.sem (ch := ch_f_wide_parts) (A := annsOf [(6, f_wide_parts_L6d.la)]) (fn := Tryz.f130) (c := bodyOf Tryz.f130) (fuel := 60) tab_ok ch_f_wide_parts_ok mixed noNum f_wide_parts_d Tryz.func130 (by kernel_rfl) (loops_ok (l := [loopAt Tryz.f130 0]) (by kernel_rfl) ⟨ann_one (by kernel_rfl) f_wide_parts_L6_ok, trivial⟩)
    (by kernel_rfl) (Eq.trans (by kernel_rfl) h)

noncomputable def h_wide_parts : HK where
  call := fun args σ k => match args with
    | [.agg [.int .u64 a0, .int .u64 a1, .int .u64 a2, .int .u64 a3, .int .u64 a4, .int .u64 a5, .int .u64 a6, .int .u64 a7], .agg [.int .u64 a8, .int .u64 a9, .int .u64 a10, .int .u64 a11, .int .u64 a12, .int .u64 a13, .int .u64 a14, .int .u64 a15]] => Option.bind (f_wide_parts a0 a1 a2 a3 a4 a5 a6 a7 a8 a9 a10 a11 a12 a13 a14 a15) fun y => retK σ 0 (f_wide_parts_d.val y) (f_wide_parts_d.blks y) k
    | _ => none
  nat := fun args σ k => by
    repeat' split
    all_goals simp only [lendK_nat, Option.bind_assoc, Option.bind_none, retK, Option.bind_some]
  pure := true
  pok := fun _ args σ r σ' h => by
    split at h
    · exact pure_of h (fun y => rfl) (fun y f => rfl)
    · cases h
theorem h_wide_parts_ok : HKOk Tryz.prog 130 h_wide_parts := by
  intro args σ r σ' h
  simp only [h_wide_parts] at h
  split at h
  · rename_i a0 a1 a2 a3 a4 a5 a6 a7 a8 a9 a10 a11 a12 a13 a14 a15
    obtain ⟨y, hy, h⟩ := Option.bind_eq_some_iff.1 h
    exact lifted (xs := []) (ls := []) (cargs := [.agg [.int .u64 a0, .int .u64 a1, .int .u64 a2, .int .u64 a3, .int .u64 a4, .int .u64 a5, .int .u64 a6, .int .u64 a7], .agg [.int .u64 a8, .int .u64 a9, .int .u64 a10, .int .u64 a11, .int .u64 a12, .int .u64 a13, .int .u64 a14, .int .u64 a15]]) (Lent.of trivial) rfl (f_wide_parts_sem a0 a1 a2 a3 a4 a5 a6 a7 a8 a9 a10 a11 a12 a13 a14 a15 y hy) rfl rfl rfl rfl h
  · cases h

end Go.Ev
namespace Go.Ev
open Go.Proofs
set_option linter.unusedVariables false
set_option linter.unusedSimpArgs false
set_option maxRecDepth 100000
/-! ### 64: ninepin/wide.signed -/

noncomputable def ch_f_wide_signed : CH := (CH.add 103 h_wide_minus (CH.add 65 h_wide_negative CH.none))
theorem ch_f_wide_signed_ok : CHOk Tryz.prog ch_f_wide_signed := (CH.add_ok h_wide_minus_ok (CH.add_ok h_wide_negative_ok CH.none_ok))

/-- ninepin/wide.signed. -/
noncomputable def f_wide_signed (a0 : Int) (a1 : Int) (a2 : Int) (a3 : Int) (a4 : Int) (a5 : Int) (a6 : Int) (a7 : Int) (q8 : Bool) : Option (Int × Int × Int × Int × Int × Int × Int × Int) :=
  (cond q8 (Option.bind (f_wide_minus a0 a1 a2 a3 a4 a5 a6 a7) fun r1 => (cond (!(r1.1 == 0 && (r1.2.1 == 0 && (r1.2.2.1 == 0 && (r1.2.2.2.1 == 0 && (r1.2.2.2.2.1 == 0 && (r1.2.2.2.2.2.1 == 0 && (r1.2.2.2.2.2.2.1 == 0 && (r1.2.2.2.2.2.2.2 == 0 && true))))))))) (Option.bind (f_wide_negative r1.1 r1.2.1 r1.2.2.1 r1.2.2.2.1 r1.2.2.2.2.1 r1.2.2.2.2.2.1 r1.2.2.2.2.2.2.1 r1.2.2.2.2.2.2.2) fun r2 => (cond r2 (cond q8 (some (r1.1, r1.2.1, r1.2.2.1, r1.2.2.2.1, r1.2.2.2.2.1, r1.2.2.2.2.2.1, r1.2.2.2.2.2.2.1, r1.2.2.2.2.2.2.2)) none) (cond q8 none (some (r1.1, r1.2.1, r1.2.2.1, r1.2.2.2.1, r1.2.2.2.2.1, r1.2.2.2.2.2.1, r1.2.2.2.2.2.2.1, r1.2.2.2.2.2.2.2))))) (some (r1.1, r1.2.1, r1.2.2.1, r1.2.2.2.1, r1.2.2.2.2.1, r1.2.2.2.2.2.1, r1.2.2.2.2.2.2.1, r1.2.2.2.2.2.2.2)))) (cond (!(a0 == 0 && (a1 == 0 && (a2 == 0 && (a3 == 0 && (a4 == 0 && (a5 == 0 && (a6 == 0 && (a7 == 0 && true))))))))) (Option.bind (f_wide_negative a0 a1 a2 a3 a4 a5 a6 a7) fun r3 => (cond r3 (cond q8 (some (a0, a1, a2, a3, a4, a5, a6, a7)) none) (cond q8 none (some (a0, a1, a2, a3, a4, a5, a6, a7))))) (some (a0, a1, a2, a3, a4, a5, a6, a7))))

def f_wide_signed_d : FD where
  X := Int × Int × Int × Int × Int × Int × Int × Int
  k := 0
  pre := []
  F := fun s => []
  M := .agg [.int .u64, .int .u64, .int .u64, .int .u64, .int .u64, .int .u64, .int .u64, .int .u64]
  B := []
  toL := fun x => [.I x.1, .I x.2.1, .I x.2.2.1, .I x.2.2.2.1, .I x.2.2.2.2.1, .I x.2.2.2.2.2.1, .I x.2.2.2.2.2.2.1, .I x.2.2.2.2.2.2.2]
  ofL := fun ls => match ls with
    | [.I x0, .I x1, .I x2, .I x3, .I x4, .I x5, .I x6, .I x7] => some (x0, x1, x2, x3, x4, x5, x6, x7)
    | _ => none
  ofL_ok := fun ls x h => by
    split at h
    · cases h; rfl
    · cases h

theorem f_wide_signed_sem (a0 : Int) (a1 : Int) (a2 : Int) (a3 : Int) (a4 : Int) (a5 : Int) (a6 : Int) (a7 : Int) (q8 : Bool) (x : Int × Int × Int × Int × Int × Int × Int × Int) (h : f_wide_signed a0 a1 a2 a3 a4 a5 a6 a7 q8 = some x) : IsFn Tryz.prog 64 ∧ SemCall Tryz.prog 64 [.agg [.int .u64 a0, .int .u64 a1, .int .u64 a2, .int .u64 a3, .int .u64 a4, .int .u64 a5, .int .u64 a6, .int .u64 a7], .bool q8] ⟨0, numB 0 []⟩ (.ret (f_wide_signed_d.val x)) ⟨0 + (f_wide_signed_d.blks x).length, numB 0 (f_wide_signed_d.blks x)⟩ :=
  FD.sem (ch := ch_f_wide_signed) (A := noAnns) (fn := Tryz.f64) (c := bodyOf Tryz.f64) (fuel := 60) tab_ok ch_f_wide_signed_ok mixed noNum f_wide_signed_d Tryz.func64 (by kernel_rfl) (loops_ok (l := []) (by kernel_rfl) trivial)
    (by kernel_rfl) (Eq.trans (by kernel_rfl) h)

noncomputable def h_wide_signed : HK where
  call := fun args σ k => match args with
    | [.agg [.int .u64 a0, .int .u64 a1, .int .u64 a2, .int .u64 a3, .int .u64 a4, .int .u64 a5, .int .u64 a6, .int .u64 a7], .bool q8] => Option.bind (f_wide_signed a0 a1 a2 a3 a4 a5 a6 a7 q8) fun y => retK σ 0 (f_wide_signed_d.val y) (f_wide_signed_d.blks y) k
    | _ => none
  nat := fun args σ k => by
    repeat' split
    all_goals simp only [lendK_nat, Option.bind_assoc, Option.bind_none, retK, Option.bind_some]
  pure := true
  pok := fun _ args σ r σ' h => by
    split at h
    · exact pure_of h (fun y => rfl) (fun y f => rfl)
    · cases h
theorem h_wide_signed_ok : HKOk Tryz.prog 64 h_wide_signed := by
  intro args σ r σ' h
  simp only [h_wide_signed] at h
  split at h
  · rename_i a0 a1 a2 a3 a4 a5 a6 a7 q8
    obtain ⟨y, hy, h⟩ := Option.bind_eq_some_iff.1 h
    exact lifted (xs := []) (ls := []) (cargs := [.agg [.int .u64 a0, .int .u64 a1, .int .u64 a2, .int .u64 a3, .int .u64 a4, .int .u64 a5, .int .u64 a6, .int .u64 a7], .bool q8]) (Lent.of trivial) rfl (f_wide_signed_sem a0 a1 a2 a3 a4 a5 a6 a7 q8 y hy) rfl rfl rfl rfl h
  · cases h

end Go.Ev
