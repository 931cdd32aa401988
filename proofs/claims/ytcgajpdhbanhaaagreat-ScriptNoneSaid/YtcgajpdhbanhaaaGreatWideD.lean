import Derived.Test.YtcgajpdhbanhaaaGreatEvSr
import Derived.Test.YtcgajpdhbanhaaaGreatEvT
import Derived.Test.YtcgajpdhbanhaaaGreatWideA
import Derived.Test.YtcgajpdhbanhaaaGreatWideC
namespace Go.Ev
open Go.Proofs
set_option linter.unusedVariables false
set_option linter.unusedSimpArgs false
set_option maxRecDepth 100000
noncomputable def ch_f_wide_Int : CH := (CH.add 74 h_wide_Of CH.none)
theorem ch_f_wide_Int_ok : CHOk Tryz.prog ch_f_wide_Int := (CH.add_ok h_wide_Of_ok CH.none_ok)
noncomputable def f_wide_Int (a0 : Int) (a1 : Int) (a2 : Int) (a3 : Int) (a4 : Int) (a5 : Int) (a6 : Int) (a7 : Int) : Option (Int × Bool) :=
  (Option.bind (f_wide_Of (IntKind.wrap .i64 a0)) fun r1 => (cond (!(r1.1 == a0 && (r1.2.1 == a1 && (r1.2.2.1 == a2 && (r1.2.2.2.1 == a3 && (r1.2.2.2.2.1 == a4 && (r1.2.2.2.2.2.1 == a5 && (r1.2.2.2.2.2.2.1 == a6 && (r1.2.2.2.2.2.2.2 == a7 && true))))))))) (some (0, false)) (some ((IntKind.wrap .i64 a0), true))))
def f_wide_Int_d : FD where
  X := Int × Bool
  k := 0
  pre := []
  F := fun s => []
  M := .tup [.int .i64, .bool]
  B := []
  toL := fun x => [.I x.1, .B x.2]
  ofL := fun ls => match ls with
    | [.I x0, .B x1] => some (x0, x1)
    | _ => none
  ofL_ok := fun ls x h => by
    split at h
    · cases h; rfl
    · cases h
theorem f_wide_Int_sem (a0 : Int) (a1 : Int) (a2 : Int) (a3 : Int) (a4 : Int) (a5 : Int) (a6 : Int) (a7 : Int) (x : Int × Bool) (h : f_wide_Int a0 a1 a2 a3 a4 a5 a6 a7 = some x) : IsFn Tryz.prog 269 ∧ SemCall Tryz.prog 269 [.agg [.int .u64 a0, .int .u64 a1, .int .u64 a2, .int .u64 a3, .int .u64 a4, .int .u64 a5, .int .u64 a6, .int .u64 a7]] ⟨0, numB 0 []⟩ (.ret (f_wide_Int_d.val x)) ⟨0 + (f_wide_Int_d.blks x).length, numB 0 (f_wide_Int_d.blks x)⟩ :=
  FD.sem (ch := ch_f_wide_Int) (A := noAnns) (fn := Tryz.f269) (c := bodyOf Tryz.f269) (fuel := 60) tab_ok ch_f_wide_Int_ok mixed noNum f_wide_Int_d Tryz.func269 (by kernel_rfl) (loops_ok (l := []) (by kernel_rfl) trivial)
    (by kernel_rfl) (Eq.trans (by kernel_rfl) h)
noncomputable def h_wide_Int : HK where
  call := fun args σ k => match args with
    | [.agg [.int .u64 a0, .int .u64 a1, .int .u64 a2, .int .u64 a3, .int .u64 a4, .int .u64 a5, .int .u64 a6, .int .u64 a7]] => Option.bind (f_wide_Int a0 a1 a2 a3 a4 a5 a6 a7) fun y => retK σ 0 (f_wide_Int_d.val y) (f_wide_Int_d.blks y) k
    | _ => none
  nat := fun args σ k => by
    repeat' split
    all_goals simp only [lendK_nat, Option.bind_assoc, Option.bind_none, retK, Option.bind_some]
  pure := true
  pok := fun _ args σ r σ' h => by
    split at h
    · exact pure_of h (fun y => rfl) (fun y f => rfl)
    · cases h
theorem h_wide_Int_ok : HKOk Tryz.prog 269 h_wide_Int := by
  intro args σ r σ' h
  simp only [h_wide_Int] at h
  split at h
  · rename_i a0 a1 a2 a3 a4 a5 a6 a7
    obtain ⟨y, hy, h⟩ := Option.bind_eq_some_iff.1 h
    exact lifted (xs := []) (ls := []) (cargs := [.agg [.int .u64 a0, .int .u64 a1, .int .u64 a2, .int .u64 a3, .int .u64 a4, .int .u64 a5, .int .u64 a6, .int .u64 a7]]) (Lent.of trivial) rfl (f_wide_Int_sem a0 a1 a2 a3 a4 a5 a6 a7 y hy) rfl rfl rfl rfl h
  · cases h
end Go.Ev

namespace Go.Ev
open Go.Proofs
set_option linter.unusedVariables false
set_option linter.unusedSimpArgs false
set_option maxRecDepth 100000
end Go.Ev

namespace Go.Ev
open Go.Proofs
set_option linter.unusedVariables false
set_option linter.unusedSimpArgs false
set_option maxRecDepth 100000
noncomputable def ch_f_wide_Shr : CH := (CH.inl Tryz.prog tyTab [352] 60 (CH.inl Tryz.prog tyTab [352] 60 CH.none CH.none) CH.none)
theorem ch_f_wide_Shr_ok : CHOk Tryz.prog ch_f_wide_Shr := (CH.inl_ok tab_ok mixed noNum (CH.inl_ok tab_ok mixed noNum CH.none_ok CH.none_ok) CH.none_ok)
noncomputable def f_wide_Shr_L9k {R : Type} (cc : Int × List AVal × Nat × List AVal × Nat × Int × Nat) (v : List AVal × Int) (kn : (List AVal × Int) → Option R) (ke : ((List AVal)) → Option R) : Option R :=
  (cond (decide (v.2 < 8)) (cond (decide ((IntKind.wrap .i64 (v.2 + (IntKind.wrap .i64 (Int.tdiv cc.1 64)))) < 8)) (need (decide (0 ≤ (IntKind.wrap .i64 (v.2 + (IntKind.wrap .i64 (Int.tdiv cc.1 64))))) && decide ((IntKind.wrap .i64 (v.2 + (IntKind.wrap .i64 (Int.tdiv cc.1 64)))) < ((8 : Nat) : Int))) (need (rowOk [.int .u64] cc.2.2.2.1 (0 + (Int.toNat (IntKind.wrap .i64 (v.2 + (IntKind.wrap .i64 (Int.tdiv cc.1 64)))) * 1))) (need (!decide ((Int.tmod cc.1 64) < 0)) (need (decide (0 ≤ v.2) && decide (v.2 < ((8 : Nat) : Int))) (need (decide ((0 + (Int.toNat v.2 * 1)) + 1 ≤ List.length v.1)) (cond (decide ((Int.tmod cc.1 64) > 0)) (need (decide (0 ≤ v.2) && decide (v.2 < ((8 : Nat) : Int))) (need (rowOk [.int .u64] (spliced v.1 (0 + (Int.toNat v.2 * 1)) [.int .u64 (ishr .u64 (geti cc.2.2.2.1 ((0 + (Int.toNat (IntKind.wrap .i64 (v.2 + (IntKind.wrap .i64 (Int.tdiv cc.1 64)))) * 1)) + 0)) (Int.tmod cc.1 64))]) (0 + (Int.toNat v.2 * 1))) (cond (decide ((IntKind.wrap .i64 ((IntKind.wrap .i64 (v.2 + (IntKind.wrap .i64 (Int.tdiv cc.1 64)))) + 1)) < 8)) (need (decide (0 ≤ (IntKind.wrap .i64 ((IntKind.wrap .i64 (v.2 + (IntKind.wrap .i64 (Int.tdiv cc.1 64)))) + 1))) && decide ((IntKind.wrap .i64 ((IntKind.wrap .i64 (v.2 + (IntKind.wrap .i64 (Int.tdiv cc.1 64)))) + 1)) < ((8 : Nat) : Int))) (need (rowOk [.int .u64] cc.2.2.2.1 (0 + (Int.toNat (IntKind.wrap .i64 ((IntKind.wrap .i64 (v.2 + (IntKind.wrap .i64 (Int.tdiv cc.1 64)))) + 1)) * 1))) (need (!decide ((IntKind.wrap .i64 (64 - (Int.tmod cc.1 64))) < 0)) (need (decide (0 ≤ v.2) && decide (v.2 < ((8 : Nat) : Int))) (need (decide ((0 + (Int.toNat v.2 * 1)) + 1 ≤ List.length (spliced v.1 (0 + (Int.toNat v.2 * 1)) [.int .u64 (ishr .u64 (geti cc.2.2.2.1 ((0 + (Int.toNat (IntKind.wrap .i64 (v.2 + (IntKind.wrap .i64 (Int.tdiv cc.1 64)))) * 1)) + 0)) (Int.tmod cc.1 64))]))) (kn ((spliced (spliced v.1 (0 + (Int.toNat v.2 * 1)) [.int .u64 (ishr .u64 (geti cc.2.2.2.1 ((0 + (Int.toNat (IntKind.wrap .i64 (v.2 + (IntKind.wrap .i64 (Int.tdiv cc.1 64)))) * 1)) + 0)) (Int.tmod cc.1 64))]) (0 + (Int.toNat v.2 * 1)) [.int .u64 (ior .u64 (geti (spliced v.1 (0 + (Int.toNat v.2 * 1)) [.int .u64 (ishr .u64 (geti cc.2.2.2.1 ((0 + (Int.toNat (IntKind.wrap .i64 (v.2 + (IntKind.wrap .i64 (Int.tdiv cc.1 64)))) * 1)) + 0)) (Int.tmod cc.1 64))]) ((0 + (Int.toNat v.2 * 1)) + 0)) (ishl .u64 (geti cc.2.2.2.1 ((0 + (Int.toNat (IntKind.wrap .i64 ((IntKind.wrap .i64 (v.2 + (IntKind.wrap .i64 (Int.tdiv cc.1 64)))) + 1)) * 1)) + 0)) (IntKind.wrap .i64 (64 - (Int.tmod cc.1 64)))))]), (IntKind.wrap .i64 (v.2 + 1))))))))) (need (!decide ((IntKind.wrap .i64 (64 - (Int.tmod cc.1 64))) < 0)) (need (decide (0 ≤ v.2) && decide (v.2 < ((8 : Nat) : Int))) (need (decide ((0 + (Int.toNat v.2 * 1)) + 1 ≤ List.length (spliced v.1 (0 + (Int.toNat v.2 * 1)) [.int .u64 (ishr .u64 (geti cc.2.2.2.1 ((0 + (Int.toNat (IntKind.wrap .i64 (v.2 + (IntKind.wrap .i64 (Int.tdiv cc.1 64)))) * 1)) + 0)) (Int.tmod cc.1 64))]))) (kn ((spliced (spliced v.1 (0 + (Int.toNat v.2 * 1)) [.int .u64 (ishr .u64 (geti cc.2.2.2.1 ((0 + (Int.toNat (IntKind.wrap .i64 (v.2 + (IntKind.wrap .i64 (Int.tdiv cc.1 64)))) * 1)) + 0)) (Int.tmod cc.1 64))]) (0 + (Int.toNat v.2 * 1)) [.int .u64 (ior .u64 (geti (spliced v.1 (0 + (Int.toNat v.2 * 1)) [.int .u64 (ishr .u64 (geti cc.2.2.2.1 ((0 + (Int.toNat (IntKind.wrap .i64 (v.2 + (IntKind.wrap .i64 (Int.tdiv cc.1 64)))) * 1)) + 0)) (Int.tmod cc.1 64))]) ((0 + (Int.toNat v.2 * 1)) + 0)) (ishl .u64 cc.2.2.2.2.2.1 (IntKind.wrap .i64 (64 - (Int.tmod cc.1 64)))))]), (IntKind.wrap .i64 (v.2 + 1)))))))))) (kn ((spliced v.1 (0 + (Int.toNat v.2 * 1)) [.int .u64 (ishr .u64 (geti cc.2.2.2.1 ((0 + (Int.toNat (IntKind.wrap .i64 (v.2 + (IntKind.wrap .i64 (Int.tdiv cc.1 64)))) * 1)) + 0)) (Int.tmod cc.1 64))]), (IntKind.wrap .i64 (v.2 + 1)))))))))) (need (!decide ((Int.tmod cc.1 64) < 0)) (need (decide (0 ≤ v.2) && decide (v.2 < ((8 : Nat) : Int))) (need (decide ((0 + (Int.toNat v.2 * 1)) + 1 ≤ List.length v.1)) (cond (decide ((Int.tmod cc.1 64) > 0)) (need (decide (0 ≤ v.2) && decide (v.2 < ((8 : Nat) : Int))) (need (rowOk [.int .u64] (spliced v.1 (0 + (Int.toNat v.2 * 1)) [.int .u64 (ishr .u64 cc.2.2.2.2.2.1 (Int.tmod cc.1 64))]) (0 + (Int.toNat v.2 * 1))) (cond (decide ((IntKind.wrap .i64 ((IntKind.wrap .i64 (v.2 + (IntKind.wrap .i64 (Int.tdiv cc.1 64)))) + 1)) < 8)) (need (decide (0 ≤ (IntKind.wrap .i64 ((IntKind.wrap .i64 (v.2 + (IntKind.wrap .i64 (Int.tdiv cc.1 64)))) + 1))) && decide ((IntKind.wrap .i64 ((IntKind.wrap .i64 (v.2 + (IntKind.wrap .i64 (Int.tdiv cc.1 64)))) + 1)) < ((8 : Nat) : Int))) (need (rowOk [.int .u64] cc.2.2.2.1 (0 + (Int.toNat (IntKind.wrap .i64 ((IntKind.wrap .i64 (v.2 + (IntKind.wrap .i64 (Int.tdiv cc.1 64)))) + 1)) * 1))) (need (!decide ((IntKind.wrap .i64 (64 - (Int.tmod cc.1 64))) < 0)) (need (decide (0 ≤ v.2) && decide (v.2 < ((8 : Nat) : Int))) (need (decide ((0 + (Int.toNat v.2 * 1)) + 1 ≤ List.length (spliced v.1 (0 + (Int.toNat v.2 * 1)) [.int .u64 (ishr .u64 cc.2.2.2.2.2.1 (Int.tmod cc.1 64))]))) (kn ((spliced (spliced v.1 (0 + (Int.toNat v.2 * 1)) [.int .u64 (ishr .u64 cc.2.2.2.2.2.1 (Int.tmod cc.1 64))]) (0 + (Int.toNat v.2 * 1)) [.int .u64 (ior .u64 (geti (spliced v.1 (0 + (Int.toNat v.2 * 1)) [.int .u64 (ishr .u64 cc.2.2.2.2.2.1 (Int.tmod cc.1 64))]) ((0 + (Int.toNat v.2 * 1)) + 0)) (ishl .u64 (geti cc.2.2.2.1 ((0 + (Int.toNat (IntKind.wrap .i64 ((IntKind.wrap .i64 (v.2 + (IntKind.wrap .i64 (Int.tdiv cc.1 64)))) + 1)) * 1)) + 0)) (IntKind.wrap .i64 (64 - (Int.tmod cc.1 64)))))]), (IntKind.wrap .i64 (v.2 + 1))))))))) (need (!decide ((IntKind.wrap .i64 (64 - (Int.tmod cc.1 64))) < 0)) (need (decide (0 ≤ v.2) && decide (v.2 < ((8 : Nat) : Int))) (need (decide ((0 + (Int.toNat v.2 * 1)) + 1 ≤ List.length (spliced v.1 (0 + (Int.toNat v.2 * 1)) [.int .u64 (ishr .u64 cc.2.2.2.2.2.1 (Int.tmod cc.1 64))]))) (kn ((spliced (spliced v.1 (0 + (Int.toNat v.2 * 1)) [.int .u64 (ishr .u64 cc.2.2.2.2.2.1 (Int.tmod cc.1 64))]) (0 + (Int.toNat v.2 * 1)) [.int .u64 (ior .u64 (geti (spliced v.1 (0 + (Int.toNat v.2 * 1)) [.int .u64 (ishr .u64 cc.2.2.2.2.2.1 (Int.tmod cc.1 64))]) ((0 + (Int.toNat v.2 * 1)) + 0)) (ishl .u64 cc.2.2.2.2.2.1 (IntKind.wrap .i64 (64 - (Int.tmod cc.1 64)))))]), (IntKind.wrap .i64 (v.2 + 1)))))))))) (kn ((spliced v.1 (0 + (Int.toNat v.2 * 1)) [.int .u64 (ishr .u64 cc.2.2.2.2.2.1 (Int.tmod cc.1 64))]), (IntKind.wrap .i64 (v.2 + 1))))))))) (ke v.1))
noncomputable def f_wide_Shr_L9s (cc : Int × List AVal × Nat × List AVal × Nat × Int × Nat) (v : List AVal × Int) : Option ((List AVal × Int) ⊕ ((List AVal))) := f_wide_Shr_L9k cc v (fun v => some (Sum.inl v)) fun e => some (Sum.inr e)
noncomputable def f_wide_Shr_L9 (cc : Int × List AVal × Nat × List AVal × Nat × Int × Nat) (v : List AVal × Int) : Option ((List AVal)) := loopF (f_wide_Shr_L9s cc) v
def f_wide_Shr_L9toL (cc : Int × List AVal × Nat × List AVal × Nat × Int × Nat) (v : List AVal × Int) : List Leaf := [.I cc.1, .I v.2, .C cc.2.1, .N cc.2.2.1, .C cc.2.2.2.1, .N cc.2.2.2.2.1, .I cc.2.2.2.2.2.1, .C v.1, .N cc.2.2.2.2.2.2]
def f_wide_Shr_L9ofL (ls : List Leaf) : Option ((Int × List AVal × Nat × List AVal × Nat × Int × Nat) × (List AVal × Int)) := match ls with
  | [.I x0, .I x1, .C x2, .N x3, .C x4, .N x5, .I x6, .C x7, .N x8] => some ((x0, x2, x3, x4, x5, x6, x8), (x7, x1))
  | _ => none
def f_wide_Shr_L9out (e : (List AVal)) : AOut := ((fun e => .exit 0) e)
def f_wide_Shr_L9toE (cc : Int × List AVal × Nat × List AVal × Nat × Int × Nat) (e : (List AVal)) : List Leaf := ((fun e => [.C cc.2.1, .N cc.2.2.1, .C e, .N cc.2.2.2.2.2.2]) e)
def f_wide_Shr_L9conE (cc : Int × List AVal × Nat × List AVal × Nat × Int × Nat) (e : (List AVal)) : List Leaf := ((fun e => [.C cc.2.1, .N cc.2.2.1, .N cc.2.2.2.2.2.2]) e)
def f_wide_Shr_L9ofE (o : AOut) (ls : List Leaf) : Option (((List AVal)) × List Leaf) := match o with
  | .exit 0 => (match ls with
    | [.C x0, .N x1, .C x2, .N x3] => some (x2, [.C x0, .N x1, .N x3])
    | _ => none)
  | _ => none
theorem f_wide_Shr_L9ofE_ok : ∀ o ls e cl cc, f_wide_Shr_L9ofE o ls = some (e, cl) → cl = f_wide_Shr_L9conE cc e → ls = f_wide_Shr_L9toE cc e ∧ f_wide_Shr_L9out e = o ∧ o ≠ .normal ∧ ∀ v, o = .pan v → sc 0 v = true := by
  intro o ls e cl cc h hc
  unfold f_wide_Shr_L9ofE at h
  split at h
  · split at h
    · cases h
      simp only [f_wide_Shr_L9conE, Sum.elim_inl, Sum.elim_inr, List.cons.injEq, Leaf.I.injEq, Leaf.B.injEq, Leaf.S.injEq, Leaf.N.injEq, Leaf.C.injEq, Leaf.E.injEq, and_true] at hc
      obtain ⟨rfl, rfl, rfl⟩ := hc
      exact ⟨rfl, rfl, by simp, by intro v hv; cases hv <;> rfl⟩
    · cases h
  · cases h
def f_wide_Shr_L9sh (o : AOut) : ExS := match o with
  | .exit 0 => ⟨2, [none, none, none, none, some (.ptr 0 0), none, none, some (.ptr 1 0), none, none, none, none, none, none, none, none, none, none, none, none, none, none, none, none, none, none, none, none, none, none, none, none, none, none, none, none, none, none, none, none, none, none, none, none, none, none, none, none, none, none, none, none, none, none, none, none], [(0, .vec 8 true), (1, .vec 8 true)], fun s => [nameAt s 4 [], nameAt s 7 []], [], []⟩
  | _ => ⟨0, [], [], fun _ => [], [], []⟩
theorem f_wide_Shr_L9nat {R : Type} (cc : Int × List AVal × Nat × List AVal × Nat × Int × Nat) (v : List AVal × Int) (kn : (List AVal × Int) → Option R) (ke : ((List AVal)) → Option R) : f_wide_Shr_L9k cc v kn ke = (f_wide_Shr_L9k cc v (fun v => some (Sum.inl v)) fun e => some (Sum.inr e)).bind (Sum.elim kn ke) := by
  simp only [f_wide_Shr_L9k, cond_bind, need_nat, Option.bind_assoc, sum_bind, lookC_bind, Option.bind_some, Option.bind_none, Sum.elim_inl, Sum.elim_inr]
noncomputable def f_wide_Shr_L9d : LD where
  CC := Int × List AVal × Nat × List AVal × Nat × Int × Nat
  V := List AVal × Int
  E := (List AVal)
  n := 0
  K := 4
  M := [none, some (.int .i64), none, none, some (.ptr 0 0), none, some (.func 352 [] [.ptr 1 0, .ptr 2 0]), some (.ptr 3 0), none, none, none, none, none, none, none, none, none, none, none, none, none, none, some (.int .i64), none, none, none, none, none, none, none, none, none, none, none, none, none, none, none, none, none, none, none, none, none, none, none, none, none, none, none, none, none, none, none, none, none]
  B := [(0, .vec 8 true), (1, .vec 8 true), (2, .cells [.int .u64] true none), (3, .vec 8 true)]
  D := []
  pre := []
  F := fun s => [nameAt s 4 [], nameAt s 6 [.k 0], nameAt s 6 [.k 1], nameAt s 7 []]
  toL := f_wide_Shr_L9toL
  ofL := f_wide_Shr_L9ofL
  ofL_ok := fun ls c v h => by
    unfold f_wide_Shr_L9ofL at h
    split at h
    · cases h; rfl
    · cases h
  stepK := f_wide_Shr_L9k
  nat := f_wide_Shr_L9nat
  sh := f_wide_Shr_L9sh
  out := f_wide_Shr_L9out
  toE := f_wide_Shr_L9toE
  conE := f_wide_Shr_L9conE
  ofE := f_wide_Shr_L9ofE
  ofE_ok := f_wide_Shr_L9ofE_ok
  post := fun cc e k => ((fun e => k (.exit 0) (canonSt 2 [none, none, none, none, some (.ptr 0 0), none, none, some (.ptr 1 0), none, none, none, none, none, none, none, none, none, none, none, none, none, none, none, none, none, none, none, none, none, none, none, none, none, none, none, none, none, none, none, none, none, none, none, none, none, none, none, none, none, none, none, none, none, none, none, none] [(0, .vec cc.2.1 cc.2.2.1 8 true), (1, .vec e cc.2.2.2.2.2.2 8 true)] [])) e)
  post_eq := fun cc e k => by rfl
theorem f_wide_Shr_L9_ok : LaOk Tryz.prog 0 f_wide_Shr_L9d.la (loopAt Tryz.f267 0) :=
  LD.ok (ch := ch_f_wide_Shr) (A := noAnns) tab_ok ch_f_wide_Shr_ok mixed (fuel := 60) ⟨by kernel_rfl, fun e => by kernel_rfl, fun cc v => by kernel_rfl, loops_ok (l := []) (by kernel_rfl) trivial⟩
noncomputable def f_wide_Shr (a0 : Int) (a1 : Int) (a2 : Int) (a3 : Int) (a4 : Int) (a5 : Int) (a6 : Int) (a7 : Int) (a8 : Int) : Option (Int × Int × Int × Int × Int × Int × Int × Int) :=
  (cond (decide (a8 < 0)) (some (a0, a1, a2, a3, a4, a5, a6, a7)) (cond (decide (a8 > 511)) (Option.bind (f_wide_Shr_L9 (511, (vv8 0 0 0 0 0 0 0 0), 1, (vv8 a0 a1 a2 a3 a4 a5 a6 a7), 1, (IntKind.wrap .u64 (ishr .i64 (IntKind.wrap .i64 a7) 63)), 1) ((vv8 0 0 0 0 0 0 0 0), 0)) fun e1 => (need (rowOk tk8 e1 0) (need (decide (0 + 8 ≤ List.length (vv8 0 0 0 0 0 0 0 0))) (need (rowOk tk8 (spliced (vv8 0 0 0 0 0 0 0 0) 0 (vv8 (geti e1 0) (geti e1 1) (geti e1 2) (geti e1 3) (geti e1 4) (geti e1 5) (geti e1 6) (geti e1 7))) 0) (some ((geti (spliced (vv8 0 0 0 0 0 0 0 0) 0 (vv8 (geti e1 0) (geti e1 1) (geti e1 2) (geti e1 3) (geti e1 4) (geti e1 5) (geti e1 6) (geti e1 7))) 0), (geti (spliced (vv8 0 0 0 0 0 0 0 0) 0 (vv8 (geti e1 0) (geti e1 1) (geti e1 2) (geti e1 3) (geti e1 4) (geti e1 5) (geti e1 6) (geti e1 7))) 1), (geti (spliced (vv8 0 0 0 0 0 0 0 0) 0 (vv8 (geti e1 0) (geti e1 1) (geti e1 2) (geti e1 3) (geti e1 4) (geti e1 5) (geti e1 6) (geti e1 7))) 2), (geti (spliced (vv8 0 0 0 0 0 0 0 0) 0 (vv8 (geti e1 0) (geti e1 1) (geti e1 2) (geti e1 3) (geti e1 4) (geti e1 5) (geti e1 6) (geti e1 7))) 3), (geti (spliced (vv8 0 0 0 0 0 0 0 0) 0 (vv8 (geti e1 0) (geti e1 1) (geti e1 2) (geti e1 3) (geti e1 4) (geti e1 5) (geti e1 6) (geti e1 7))) 4), (geti (spliced (vv8 0 0 0 0 0 0 0 0) 0 (vv8 (geti e1 0) (geti e1 1) (geti e1 2) (geti e1 3) (geti e1 4) (geti e1 5) (geti e1 6) (geti e1 7))) 5), (geti (spliced (vv8 0 0 0 0 0 0 0 0) 0 (vv8 (geti e1 0) (geti e1 1) (geti e1 2) (geti e1 3) (geti e1 4) (geti e1 5) (geti e1 6) (geti e1 7))) 6), (geti (spliced (vv8 0 0 0 0 0 0 0 0) 0 (vv8 (geti e1 0) (geti e1 1) (geti e1 2) (geti e1 3) (geti e1 4) (geti e1 5) (geti e1 6) (geti e1 7))) 7))))))) (Option.bind (f_wide_Shr_L9 (a8, (vv8 0 0 0 0 0 0 0 0), 1, (vv8 a0 a1 a2 a3 a4 a5 a6 a7), 1, (IntKind.wrap .u64 (ishr .i64 (IntKind.wrap .i64 a7) 63)), 1) ((vv8 0 0 0 0 0 0 0 0), 0)) fun e2 => (need (rowOk tk8 e2 0) (need (decide (0 + 8 ≤ List.length (vv8 0 0 0 0 0 0 0 0))) (need (rowOk tk8 (spliced (vv8 0 0 0 0 0 0 0 0) 0 (vv8 (geti e2 0) (geti e2 1) (geti e2 2) (geti e2 3) (geti e2 4) (geti e2 5) (geti e2 6) (geti e2 7))) 0) (some ((geti (spliced (vv8 0 0 0 0 0 0 0 0) 0 (vv8 (geti e2 0) (geti e2 1) (geti e2 2) (geti e2 3) (geti e2 4) (geti e2 5) (geti e2 6) (geti e2 7))) 0), (geti (spliced (vv8 0 0 0 0 0 0 0 0) 0 (vv8 (geti e2 0) (geti e2 1) (geti e2 2) (geti e2 3) (geti e2 4) (geti e2 5) (geti e2 6) (geti e2 7))) 1), (geti (spliced (vv8 0 0 0 0 0 0 0 0) 0 (vv8 (geti e2 0) (geti e2 1) (geti e2 2) (geti e2 3) (geti e2 4) (geti e2 5) (geti e2 6) (geti e2 7))) 2), (geti (spliced (vv8 0 0 0 0 0 0 0 0) 0 (vv8 (geti e2 0) (geti e2 1) (geti e2 2) (geti e2 3) (geti e2 4) (geti e2 5) (geti e2 6) (geti e2 7))) 3), (geti (spliced (vv8 0 0 0 0 0 0 0 0) 0 (vv8 (geti e2 0) (geti e2 1) (geti e2 2) (geti e2 3) (geti e2 4) (geti e2 5) (geti e2 6) (geti e2 7))) 4), (geti (spliced (vv8 0 0 0 0 0 0 0 0) 0 (vv8 (geti e2 0) (geti e2 1) (geti e2 2) (geti e2 3) (geti e2 4) (geti e2 5) (geti e2 6) (geti e2 7))) 5), (geti (spliced (vv8 0 0 0 0 0 0 0 0) 0 (vv8 (geti e2 0) (geti e2 1) (geti e2 2) (geti e2 3) (geti e2 4) (geti e2 5) (geti e2 6) (geti e2 7))) 6), (geti (spliced (vv8 0 0 0 0 0 0 0 0) 0 (vv8 (geti e2 0) (geti e2 1) (geti e2 2) (geti e2 3) (geti e2 4) (geti e2 5) (geti e2 6) (geti e2 7))) 7)))))))))
def f_wide_Shr_d : FD where
  X := Int × Int × Int × Int × Int × Int × Int × Int
  k := 0
  pre := []
  F := fun s => []
  M := .agg [.int .u64, .int .u64, .int .u64, .int .u64, .int .u64, .int .u64, .int .u64, .int .u64]
  B := []
  toL := fun x => [.I x.1, .I x.2.1, .I x.2.2.1, .I x.2.2.2.1, .I x.2.2.2.2.1, .I x.2.2.2.2.2.1, .I x.2.2.2.2.2.2.1, .I x.2.2.2.2.2.2.2]
  ofL := fun ls => match ls with
    | [.I x0, .I x1, .I x2, .I x3, .I x4, .I x5, .I x6, .I x7] => some (x0, x1, x2, x3, x4, x5, x6, x7)
    | _ => none
  ofL_ok := fun ls x h => by
    split at h
    · cases h; rfl
    · cases h
theorem f_wide_Shr_sem (a0 : Int) (a1 : Int) (a2 : Int) (a3 : Int) (a4 : Int) (a5 : Int) (a6 : Int) (a7 : Int) (a8 : Int) (x : Int × Int × Int × Int × Int × Int × Int × Int) (h : f_wide_Shr a0 a1 a2 a3 a4 a5 a6 a7 a8 = some x) : IsFn Tryz.prog 267 ∧ SemCall Tryz.prog 267 [.agg (vv8 a0 a1 a2 a3 a4 a5 a6 a7), .int .i64 a8] ⟨0, numB 0 []⟩ (.ret (f_wide_Shr_d.val x)) ⟨0 + (f_wide_Shr_d.blks x).length, numB 0 (f_wide_Shr_d.blks x)⟩ :=
  FD.sem (ch := ch_f_wide_Shr) (A := annsOf [(9, f_wide_Shr_L9d.la)]) (fn := Tryz.f267) (c := bodyOf Tryz.f267) (fuel := 60) tab_ok ch_f_wide_Shr_ok mixed noNum f_wide_Shr_d Tryz.func267 (by kernel_rfl) (loops_ok (l := [loopAt Tryz.f267 0]) (by kernel_rfl) ⟨ann_one (by kernel_rfl) f_wide_Shr_L9_ok, trivial⟩)
    (by kernel_rfl) (Eq.trans (by kernel_rfl) h)
noncomputable def h_wide_Shr : HK where
  call := fun args σ k => match args with
    | [.agg [.int .u64 a0, .int .u64 a1, .int .u64 a2, .int .u64 a3, .int .u64 a4, .int .u64 a5, .int .u64 a6, .int .u64 a7], .int .i64 a8] => Option.bind (f_wide_Shr a0 a1 a2 a3 a4 a5 a6 a7 a8) fun y => retK σ 0 (f_wide_Shr_d.val y) (f_wide_Shr_d.blks y) k
    | _ => none
  nat := fun args σ k => by
    repeat' split
    all_goals simp only [lendK_nat, Option.bind_assoc, Option.bind_none, retK, Option.bind_some]
  pure := true
  pok := fun _ args σ r σ' h => by
    split at h
    · exact pure_of h (fun y => rfl) (fun y f => rfl)
    · cases h
theorem h_wide_Shr_ok : HKOk Tryz.prog 267 h_wide_Shr := by
  intro args σ r σ' h
  simp only [h_wide_Shr] at h
  split at h
  · rename_i a0 a1 a2 a3 a4 a5 a6 a7 a8
    obtain ⟨y, hy, h⟩ := Option.bind_eq_some_iff.1 h
    exact lifted (xs := []) (ls := []) (cargs := [.agg (vv8 a0 a1 a2 a3 a4 a5 a6 a7), .int .i64 a8]) (Lent.of trivial) rfl (f_wide_Shr_sem a0 a1 a2 a3 a4 a5 a6 a7 a8 y hy) rfl rfl rfl rfl h
  · cases h
end Go.Ev

namespace Go.Ev
open Go.Proofs
set_option linter.unusedVariables false
set_option linter.unusedSimpArgs false
set_option maxRecDepth 100000
noncomputable def ch_f_wide_Shl : CH := (CH.add 267 h_wide_Shr CH.none)
theorem ch_f_wide_Shl_ok : CHOk Tryz.prog ch_f_wide_Shl := (CH.add_ok h_wide_Shr_ok CH.none_ok)
noncomputable def f_wide_Shl_L9k {R : Type} (cc : Int × List AVal × Nat × List AVal × Nat × Nat) (v : List AVal × Int) (kn : (List AVal × Int) → Option R) (ke : ((List AVal)) → Option R) : Option R :=
  (cond (decide (v.2 ≥ 0)) (cond (decide ((IntKind.wrap .i64 (v.2 - (IntKind.wrap .i64 (Int.tdiv cc.1 64)))) ≥ 0)) (need (decide (0 ≤ (IntKind.wrap .i64 (v.2 - (IntKind.wrap .i64 (Int.tdiv cc.1 64))))) && decide ((IntKind.wrap .i64 (v.2 - (IntKind.wrap .i64 (Int.tdiv cc.1 64)))) < ((8 : Nat) : Int))) (need (rowOk [.int .u64] cc.2.1 (0 + (Int.toNat (IntKind.wrap .i64 (v.2 - (IntKind.wrap .i64 (Int.tdiv cc.1 64)))) * 1))) (need (!decide ((Int.tmod cc.1 64) < 0)) (need (decide (0 ≤ v.2) && decide (v.2 < ((8 : Nat) : Int))) (need (decide ((0 + (Int.toNat v.2 * 1)) + 1 ≤ List.length v.1)) (cond (decide ((Int.tmod cc.1 64) > 0)) (cond (decide ((IntKind.wrap .i64 (v.2 - (IntKind.wrap .i64 (Int.tdiv cc.1 64)))) > 0)) (need (decide (0 ≤ v.2) && decide (v.2 < ((8 : Nat) : Int))) (need (rowOk [.int .u64] (spliced v.1 (0 + (Int.toNat v.2 * 1)) [.int .u64 (ishl .u64 (geti cc.2.1 ((0 + (Int.toNat (IntKind.wrap .i64 (v.2 - (IntKind.wrap .i64 (Int.tdiv cc.1 64)))) * 1)) + 0)) (Int.tmod cc.1 64))]) (0 + (Int.toNat v.2 * 1))) (need (decide (0 ≤ (IntKind.wrap .i64 ((IntKind.wrap .i64 (v.2 - (IntKind.wrap .i64 (Int.tdiv cc.1 64)))) - 1))) && decide ((IntKind.wrap .i64 ((IntKind.wrap .i64 (v.2 - (IntKind.wrap .i64 (Int.tdiv cc.1 64)))) - 1)) < ((8 : Nat) : Int))) (need (rowOk [.int .u64] cc.2.1 (0 + (Int.toNat (IntKind.wrap .i64 ((IntKind.wrap .i64 (v.2 - (IntKind.wrap .i64 (Int.tdiv cc.1 64)))) - 1)) * 1))) (need (!decide ((IntKind.wrap .i64 (64 - (Int.tmod cc.1 64))) < 0)) (need (decide (0 ≤ v.2) && decide (v.2 < ((8 : Nat) : Int))) (need (decide ((0 + (Int.toNat v.2 * 1)) + 1 ≤ List.length (spliced v.1 (0 + (Int.toNat v.2 * 1)) [.int .u64 (ishl .u64 (geti cc.2.1 ((0 + (Int.toNat (IntKind.wrap .i64 (v.2 - (IntKind.wrap .i64 (Int.tdiv cc.1 64)))) * 1)) + 0)) (Int.tmod cc.1 64))]))) (kn ((spliced (spliced v.1 (0 + (Int.toNat v.2 * 1)) [.int .u64 (ishl .u64 (geti cc.2.1 ((0 + (Int.toNat (IntKind.wrap .i64 (v.2 - (IntKind.wrap .i64 (Int.tdiv cc.1 64)))) * 1)) + 0)) (Int.tmod cc.1 64))]) (0 + (Int.toNat v.2 * 1)) [.int .u64 (ior .u64 (geti (spliced v.1 (0 + (Int.toNat v.2 * 1)) [.int .u64 (ishl .u64 (geti cc.2.1 ((0 + (Int.toNat (IntKind.wrap .i64 (v.2 - (IntKind.wrap .i64 (Int.tdiv cc.1 64)))) * 1)) + 0)) (Int.tmod cc.1 64))]) ((0 + (Int.toNat v.2 * 1)) + 0)) (ishr .u64 (geti cc.2.1 ((0 + (Int.toNat (IntKind.wrap .i64 ((IntKind.wrap .i64 (v.2 - (IntKind.wrap .i64 (Int.tdiv cc.1 64)))) - 1)) * 1)) + 0)) (IntKind.wrap .i64 (64 - (Int.tmod cc.1 64)))))]), (IntKind.wrap .i64 (v.2 - 1))))))))))) (kn ((spliced v.1 (0 + (Int.toNat v.2 * 1)) [.int .u64 (ishl .u64 (geti cc.2.1 ((0 + (Int.toNat (IntKind.wrap .i64 (v.2 - (IntKind.wrap .i64 (Int.tdiv cc.1 64)))) * 1)) + 0)) (Int.tmod cc.1 64))]), (IntKind.wrap .i64 (v.2 - 1))))) (kn ((spliced v.1 (0 + (Int.toNat v.2 * 1)) [.int .u64 (ishl .u64 (geti cc.2.1 ((0 + (Int.toNat (IntKind.wrap .i64 (v.2 - (IntKind.wrap .i64 (Int.tdiv cc.1 64)))) * 1)) + 0)) (Int.tmod cc.1 64))]), (IntKind.wrap .i64 (v.2 - 1)))))))))) (kn (v.1, (IntKind.wrap .i64 (v.2 - 1))))) (ke v.1))
noncomputable def f_wide_Shl_L9s (cc : Int × List AVal × Nat × List AVal × Nat × Nat) (v : List AVal × Int) : Option ((List AVal × Int) ⊕ ((List AVal))) := f_wide_Shl_L9k cc v (fun v => some (Sum.inl v)) fun e => some (Sum.inr e)
noncomputable def f_wide_Shl_L9 (cc : Int × List AVal × Nat × List AVal × Nat × Nat) (v : List AVal × Int) : Option ((List AVal)) := loopF (f_wide_Shl_L9s cc) v
def f_wide_Shl_L9toL (cc : Int × List AVal × Nat × List AVal × Nat × Nat) (v : List AVal × Int) : List Leaf := [.I cc.1, .I v.2, .C cc.2.1, .N cc.2.2.1, .C cc.2.2.2.1, .N cc.2.2.2.2.1, .C v.1, .N cc.2.2.2.2.2]
def f_wide_Shl_L9ofL (ls : List Leaf) : Option ((Int × List AVal × Nat × List AVal × Nat × Nat) × (List AVal × Int)) := match ls with
  | [.I x0, .I x1, .C x2, .N x3, .C x4, .N x5, .C x6, .N x7] => some ((x0, x2, x3, x4, x5, x7), (x6, x1))
  | _ => none
def f_wide_Shl_L9out (e : (List AVal)) : AOut := ((fun e => .exit 0) e)
def f_wide_Shl_L9toE (cc : Int × List AVal × Nat × List AVal × Nat × Nat) (e : (List AVal)) : List Leaf := ((fun e => [.I cc.1, .C cc.2.1, .N cc.2.2.1, .C cc.2.2.2.1, .N cc.2.2.2.2.1, .C e, .N cc.2.2.2.2.2]) e)
def f_wide_Shl_L9conE (cc : Int × List AVal × Nat × List AVal × Nat × Nat) (e : (List AVal)) : List Leaf := ((fun e => [.I cc.1, .C cc.2.1, .N cc.2.2.1, .C cc.2.2.2.1, .N cc.2.2.2.2.1, .N cc.2.2.2.2.2]) e)
def f_wide_Shl_L9ofE (o : AOut) (ls : List Leaf) : Option (((List AVal)) × List Leaf) := match o with
  | .exit 0 => (match ls with
    | [.I x0, .C x1, .N x2, .C x3, .N x4, .C x5, .N x6] => some (x5, [.I x0, .C x1, .N x2, .C x3, .N x4, .N x6])
    | _ => none)
  | _ => none
theorem f_wide_Shl_L9ofE_ok : ∀ o ls e cl cc, f_wide_Shl_L9ofE o ls = some (e, cl) → cl = f_wide_Shl_L9conE cc e → ls = f_wide_Shl_L9toE cc e ∧ f_wide_Shl_L9out e = o ∧ o ≠ .normal ∧ ∀ v, o = .pan v → sc 0 v = true := by
  intro o ls e cl cc h hc
  unfold f_wide_Shl_L9ofE at h
  split at h
  · split at h
    · cases h
      simp only [f_wide_Shl_L9conE, Sum.elim_inl, Sum.elim_inr, List.cons.injEq, Leaf.I.injEq, Leaf.B.injEq, Leaf.S.injEq, Leaf.N.injEq, Leaf.C.injEq, Leaf.E.injEq, and_true] at hc
      obtain ⟨rfl, rfl, rfl, rfl, rfl, rfl⟩ := hc
      exact ⟨rfl, rfl, by simp, by intro v hv; cases hv <;> rfl⟩
    · cases h
  · cases h
def f_wide_Shl_L9sh (o : AOut) : ExS := match o with
  | .exit 0 => ⟨3, [none, some (.int .i64), some (.ptr 0 0), none, some (.ptr 1 0), none, some (.ptr 2 0), none, none, none, none, none, none, none, none, none, none, none, none, none, none, none, none, none, none, none, none, none, none, none, none, none, none, none, none, none, none, none, none, none, none, none, none, none, none, none, none, none, none, none, none, none, none, none, none, none, none, none, none, none, none, none, none, none, none, none, none, none, none], [(0, .vec 8 true), (1, .vec 8 true), (2, .vec 8 true)], fun s => [nameAt s 2 [], nameAt s 4 [], nameAt s 6 []], [], []⟩
  | _ => ⟨0, [], [], fun _ => [], [], []⟩
theorem f_wide_Shl_L9nat {R : Type} (cc : Int × List AVal × Nat × List AVal × Nat × Nat) (v : List AVal × Int) (kn : (List AVal × Int) → Option R) (ke : ((List AVal)) → Option R) : f_wide_Shl_L9k cc v kn ke = (f_wide_Shl_L9k cc v (fun v => some (Sum.inl v)) fun e => some (Sum.inr e)).bind (Sum.elim kn ke) := by
  simp only [f_wide_Shl_L9k, cond_bind, need_nat, Option.bind_assoc, sum_bind, lookC_bind, Option.bind_some, Option.bind_none, Sum.elim_inl, Sum.elim_inr]
noncomputable def f_wide_Shl_L9d : LD where
  CC := Int × List AVal × Nat × List AVal × Nat × Nat
  V := List AVal × Int
  E := (List AVal)
  n := 0
  K := 3
  M := [none, some (.int .i64), some (.ptr 0 0), none, some (.ptr 1 0), none, some (.ptr 2 0), some (.int .i64), none, none, none, none, none, none, none, none, none, none, none, none, none, none, none, none, none, none, none, none, none, none, none, none, none, none, none, none, none, none, none, none, none, none, none, none, none, none, none, none, none, none, none, none, none, none, none, none, none, none, none, none, none, none, none, none, none, none, none, none, none]
  B := [(0, .vec 8 true), (1, .vec 8 true), (2, .vec 8 true)]
  D := []
  pre := []
  F := fun s => [nameAt s 2 [], nameAt s 4 [], nameAt s 6 []]
  toL := f_wide_Shl_L9toL
  ofL := f_wide_Shl_L9ofL
  ofL_ok := fun ls c v h => by
    unfold f_wide_Shl_L9ofL at h
    split at h
    · cases h; rfl
    · cases h
  stepK := f_wide_Shl_L9k
  nat := f_wide_Shl_L9nat
  sh := f_wide_Shl_L9sh
  out := f_wide_Shl_L9out
  toE := f_wide_Shl_L9toE
  conE := f_wide_Shl_L9conE
  ofE := f_wide_Shl_L9ofE
  ofE_ok := f_wide_Shl_L9ofE_ok
  post := fun cc e k => ((fun e => k (.exit 0) (canonSt 3 [none, some (.int .i64 cc.1), some (.ptr 0 0), none, some (.ptr 1 0), none, some (.ptr 2 0), none, none, none, none, none, none, none, none, none, none, none, none, none, none, none, none, none, none, none, none, none, none, none, none, none, none, none, none, none, none, none, none, none, none, none, none, none, none, none, none, none, none, none, none, none, none, none, none, none, none, none, none, none, none, none, none, none, none, none, none, none, none] [(0, .vec cc.2.1 cc.2.2.1 8 true), (1, .vec cc.2.2.2.1 cc.2.2.2.2.1 8 true), (2, .vec e cc.2.2.2.2.2 8 true)] [])) e)
  post_eq := fun cc e k => by rfl
theorem f_wide_Shl_L9_ok : LaOk Tryz.prog 0 f_wide_Shl_L9d.la (loopAt Tryz.f142 0) :=
  LD.ok (ch := ch_f_wide_Shl) (A := noAnns) tab_ok ch_f_wide_Shl_ok mixed (fuel := 60) ⟨by kernel_rfl, fun e => by kernel_rfl, fun cc v => by kernel_rfl, loops_ok (l := []) (by kernel_rfl) trivial⟩
noncomputable def f_wide_Shl (a0 : Int) (a1 : Int) (a2 : Int) (a3 : Int) (a4 : Int) (a5 : Int) (a6 : Int) (a7 : Int) (a8 : Int) : Option (Int × Int × Int × Int × Int × Int × Int × Int × Bool) :=
  (cond (decide (a8 < 0)) (some (0, 0, 0, 0, 0, 0, 0, 0, false)) (cond (a0 == 0 && (a1 == 0 && (a2 == 0 && (a3 == 0 && (a4 == 0 && (a5 == 0 && (a6 == 0 && (a7 == 0 && true)))))))) (some (a0, a1, a2, a3, a4, a5, a6, a7, true)) (cond (decide (a8 > 511)) (some (0, 0, 0, 0, 0, 0, 0, 0, false)) (Option.bind (f_wide_Shl_L9 (a8, (vv8 a0 a1 a2 a3 a4 a5 a6 a7), 1, (vv8 0 0 0 0 0 0 0 0), 1, 1) ((vv8 0 0 0 0 0 0 0 0), 7)) fun e1 => (need (rowOk tk8 e1 0) (Option.bind (f_wide_Shr (geti e1 0) (geti e1 1) (geti e1 2) (geti e1 3) (geti e1 4) (geti e1 5) (geti e1 6) (geti e1 7) a8) fun r2 => (need (rowOk tk8 (vv8 a0 a1 a2 a3 a4 a5 a6 a7) 0) (cond (!(r2.1 == (geti (vv8 a0 a1 a2 a3 a4 a5 a6 a7) 0) && (r2.2.1 == (geti (vv8 a0 a1 a2 a3 a4 a5 a6 a7) 1) && (r2.2.2.1 == (geti (vv8 a0 a1 a2 a3 a4 a5 a6 a7) 2) && (r2.2.2.2.1 == (geti (vv8 a0 a1 a2 a3 a4 a5 a6 a7) 3) && (r2.2.2.2.2.1 == (geti (vv8 a0 a1 a2 a3 a4 a5 a6 a7) 4) && (r2.2.2.2.2.2.1 == (geti (vv8 a0 a1 a2 a3 a4 a5 a6 a7) 5) && (r2.2.2.2.2.2.2.1 == (geti (vv8 a0 a1 a2 a3 a4 a5 a6 a7) 6) && (r2.2.2.2.2.2.2.2 == (geti (vv8 a0 a1 a2 a3 a4 a5 a6 a7) 7) && true))))))))) (need (decide (0 + 8 ≤ List.length (vv8 0 0 0 0 0 0 0 0))) (need (rowOk tk8 (spliced (vv8 0 0 0 0 0 0 0 0) 0 (vv8 0 0 0 0 0 0 0 0)) 0) (some ((geti (spliced (vv8 0 0 0 0 0 0 0 0) 0 (vv8 0 0 0 0 0 0 0 0)) 0), (geti (spliced (vv8 0 0 0 0 0 0 0 0) 0 (vv8 0 0 0 0 0 0 0 0)) 1), (geti (spliced (vv8 0 0 0 0 0 0 0 0) 0 (vv8 0 0 0 0 0 0 0 0)) 2), (geti (spliced (vv8 0 0 0 0 0 0 0 0) 0 (vv8 0 0 0 0 0 0 0 0)) 3), (geti (spliced (vv8 0 0 0 0 0 0 0 0) 0 (vv8 0 0 0 0 0 0 0 0)) 4), (geti (spliced (vv8 0 0 0 0 0 0 0 0) 0 (vv8 0 0 0 0 0 0 0 0)) 5), (geti (spliced (vv8 0 0 0 0 0 0 0 0) 0 (vv8 0 0 0 0 0 0 0 0)) 6), (geti (spliced (vv8 0 0 0 0 0 0 0 0) 0 (vv8 0 0 0 0 0 0 0 0)) 7), false)))) (need (decide (0 + 8 ≤ List.length (vv8 0 0 0 0 0 0 0 0))) (need (rowOk tk8 (spliced (vv8 0 0 0 0 0 0 0 0) 0 (vv8 (geti e1 0) (geti e1 1) (geti e1 2) (geti e1 3) (geti e1 4) (geti e1 5) (geti e1 6) (geti e1 7))) 0) (some ((geti (spliced (vv8 0 0 0 0 0 0 0 0) 0 (vv8 (geti e1 0) (geti e1 1) (geti e1 2) (geti e1 3) (geti e1 4) (geti e1 5) (geti e1 6) (geti e1 7))) 0), (geti (spliced (vv8 0 0 0 0 0 0 0 0) 0 (vv8 (geti e1 0) (geti e1 1) (geti e1 2) (geti e1 3) (geti e1 4) (geti e1 5) (geti e1 6) (geti e1 7))) 1), (geti (spliced (vv8 0 0 0 0 0 0 0 0) 0 (vv8 (geti e1 0) (geti e1 1) (geti e1 2) (geti e1 3) (geti e1 4) (geti e1 5) (geti e1 6) (geti e1 7))) 2), (geti (spliced (vv8 0 0 0 0 0 0 0 0) 0 (vv8 (geti e1 0) (geti e1 1) (geti e1 2) (geti e1 3) (geti e1 4) (geti e1 5) (geti e1 6) (geti e1 7))) 3), (geti (spliced (vv8 0 0 0 0 0 0 0 0) 0 (vv8 (geti e1 0) (geti e1 1) (geti e1 2) (geti e1 3) (geti e1 4) (geti e1 5) (geti e1 6) (geti e1 7))) 4), (geti (spliced (vv8 0 0 0 0 0 0 0 0) 0 (vv8 (geti e1 0) (geti e1 1) (geti e1 2) (geti e1 3) (geti e1 4) (geti e1 5) (geti e1 6) (geti e1 7))) 5), (geti (spliced (vv8 0 0 0 0 0 0 0 0) 0 (vv8 (geti e1 0) (geti e1 1) (geti e1 2) (geti e1 3) (geti e1 4) (geti e1 5) (geti e1 6) (geti e1 7))) 6), (geti (spliced (vv8 0 0 0 0 0 0 0 0) 0 (vv8 (geti e1 0) (geti e1 1) (geti e1 2) (geti e1 3) (geti e1 4) (geti e1 5) (geti e1 6) (geti e1 7))) 7), true))))))))))))
def f_wide_Shl_d : FD where
  X := Int × Int × Int × Int × Int × Int × Int × Int × Bool
  k := 0
  pre := []
  F := fun s => []
  M := .tup [.agg [.int .u64, .int .u64, .int .u64, .int .u64, .int .u64, .int .u64, .int .u64, .int .u64], .bool]
  B := []
  toL := fun x => [.I x.1, .I x.2.1, .I x.2.2.1, .I x.2.2.2.1, .I x.2.2.2.2.1, .I x.2.2.2.2.2.1, .I x.2.2.2.2.2.2.1, .I x.2.2.2.2.2.2.2.1, .B x.2.2.2.2.2.2.2.2]
  ofL := fun ls => match ls with
    | [.I x0, .I x1, .I x2, .I x3, .I x4, .I x5, .I x6, .I x7, .B x8] => some (x0, x1, x2, x3, x4, x5, x6, x7, x8)
    | _ => none
  ofL_ok := fun ls x h => by
    split at h
    · cases h; rfl
    · cases h
theorem f_wide_Shl_sem (a0 : Int) (a1 : Int) (a2 : Int) (a3 : Int) (a4 : Int) (a5 : Int) (a6 : Int) (a7 : Int) (a8 : Int) (x : Int × Int × Int × Int × Int × Int × Int × Int × Bool) (h : f_wide_Shl a0 a1 a2 a3 a4 a5 a6 a7 a8 = some x) : IsFn Tryz.prog 142 ∧ SemCall Tryz.prog 142 [.agg (vv8 a0 a1 a2 a3 a4 a5 a6 a7), .int .i64 a8] ⟨0, numB 0 []⟩ (.ret (f_wide_Shl_d.val x)) ⟨0 + (f_wide_Shl_d.blks x).length, numB 0 (f_wide_Shl_d.blks x)⟩ :=
  FD.sem (ch := ch_f_wide_Shl) (A := annsOf [(9, f_wide_Shl_L9d.la)]) (fn := Tryz.f142) (c := bodyOf Tryz.f142) (fuel := 60) tab_ok ch_f_wide_Shl_ok mixed noNum f_wide_Shl_d Tryz.func142 (by kernel_rfl) (loops_ok (l := [loopAt Tryz.f142 0]) (by kernel_rfl) ⟨ann_one (by kernel_rfl) f_wide_Shl_L9_ok, trivial⟩)
    (by kernel_rfl) (Eq.trans (by kernel_rfl) h)
noncomputable def h_wide_Shl : HK where
  call := fun args σ k => match args with
    | [.agg [.int .u64 a0, .int .u64 a1, .int .u64 a2, .int .u64 a3, .int .u64 a4, .int .u64 a5, .int .u64 a6, .int .u64 a7], .int .i64 a8] => Option.bind (f_wide_Shl a0 a1 a2 a3 a4 a5 a6 a7 a8) fun y => retK σ 0 (f_wide_Shl_d.val y) (f_wide_Shl_d.blks y) k
    | _ => none
  nat := fun args σ k => by
    repeat' split
    all_goals simp only [lendK_nat, Option.bind_assoc, Option.bind_none, retK, Option.bind_some]
  pure := true
  pok := fun _ args σ r σ' h => by
    split at h
    · exact pure_of h (fun y => rfl) (fun y f => rfl)
    · cases h
theorem h_wide_Shl_ok : HKOk Tryz.prog 142 h_wide_Shl := by
  intro args σ r σ' h
  simp only [h_wide_Shl] at h
  split at h
  · rename_i a0 a1 a2 a3 a4 a5 a6 a7 a8
    obtain ⟨y, hy, h⟩ := Option.bind_eq_some_iff.1 h
    exact lifted (xs := []) (ls := []) (cargs := [.agg (vv8 a0 a1 a2 a3 a4 a5 a6 a7), .int .i64 a8]) (Lent.of trivial) rfl (f_wide_Shl_sem a0 a1 a2 a3 a4 a5 a6 a7 a8 y hy) rfl rfl rfl rfl h
  · cases h
end Go.Ev

